/-
  Of the document, plain: the entry that it reads is small; its Get answers as the program's. No program in sight.
-/
import Derived.Test.YtiemgmbjhllmbaaYJ
import Derived.Test.YtiemgmbjhllmbaaYK
set_option linter.unusedVariables false
namespace Go.Proofs.Ytiemgmbjhllmbaa
open Go.RowKit
structure Bd (x : EntD) : Prop where
  op : (opB x.op).length ≤ 1000000
  parts : x.op.parts.length ≤ 6
  item : ItemFit x.item
  stamp : x.item.stamp.length ≤ 3
  effs : x.item.effs.length ≤ 16
  frontier : x.frontier.length ≤ 3
theorem bd_zero (k : Nat) : Bd { zeroX with kind := k } := by
  have h : mayItem zeroI = true := rfl
  have h2 : (opB zeroO).length ≤ 1000000 := by unfold zeroO; rw [opB_mk, opsB_nil]; simp [headB_length, be_length]
  exact ⟨h2, Nat.zero_le _, item_fit h, Nat.zero_le _, Nat.zero_le _, Nat.zero_le _⟩
def vBd : PartV → Prop
  | .op o => (opB o).length ≤ 1000000 ∧ o.parts.length ≤ 6
  | .item x => ItemFit x ∧ x.stamp.length ≤ 3 ∧ x.effs.length ≤ 16
  | .stamp v => v.length ≤ 3
  | .client _ _ => True
  | .owner _ _ => True
  | .site _ => True
  | .wher _ => True
  | .epoch _ => True
theorem bd_put (y : EntD) (v : PartV) (h : Bd y) (hv : vBd v) : Bd (putVal y v) := by
  obtain ⟨h1, h2, h3, h4, h5, h6⟩ := h
  obtain ⟨kd, cl, rq, os, on, op, it, si, re, ep, fr⟩ := y
  cases v with
  | client c r => exact ⟨h1, h2, h3, h4, h5, h6⟩
  | owner s n => exact ⟨h1, h2, h3, h4, h5, h6⟩
  | op o => obtain ⟨k1, k2⟩ := hv; exact ⟨k1, k2, h3, h4, h5, h6⟩
  | item x => obtain ⟨k1, k2, k3⟩ := hv; exact ⟨h1, h2, k1, k2, k3, h6⟩
  | site s => exact ⟨h1, h2, h3, h4, h5, h6⟩
  | wher q => exact ⟨h1, h2, h3, h4, h5, h6⟩
  | epoch e => exact ⟨h1, h2, h3, h4, h5, h6⟩
  | stamp t => exact ⟨h1, h2, h3, h4, h5, hv⟩
theorem vBd_op (o : OpD) (h : (opB o).length ≤ 1000000 ∧ o.parts.length ≤ 6) : vBd (.op o) := h
theorem vBd_item (x : ItemD) (h : ItemFit x ∧ x.stamp.length ≤ 3 ∧ x.effs.length ≤ 16) : vBd (.item x) := h
theorem vBd_stamp (v : List Nat) (h : v.length ≤ 3) : vBd (.stamp v) := h
theorem stamp_bd (s : RS) : (dStamp s).1.length ≤ 3 := by
  unfold dStamp
  exact (dList_rng (f := rUint) (d := fun _ => True) 3 (fun _ => trivial) s).2
theorem dVal_bd (p : PartK) (s : RS) (hs : s.1.length ≤ 10000) : vBd (dVal p s).1 := by
  cases p with
  | op => exact vBd_op _ (op_bd s hs)
  | item => exact vBd_item _ (item_bd s hs)
  | stamp => exact vBd_stamp _ (stamp_bd s)
  | client => trivial
  | owner => trivial
  | site => trivial
  | wher => trivial
  | epoch => trivial
theorem bd_part (p : PartK) (y : EntD × RS) (h : Bd y.1) (hs : y.2.1.length ≤ 10000) : Bd (dPart y p).1 ∧ (dPart y p).2.1.length ≤ 10000 := ⟨bd_put _ _ h (dVal_bd p y.2 hs), Nat.le_trans (lf_val p y.2) hs⟩
theorem bd_parts : ∀ (ps : List PartK) (y : EntD × RS), Bd y.1 → y.2.1.length ≤ 10000 → Bd (ps.foldl dPart y).1
  | [], y, h, _ => h
  | p :: ps, y, h, hs => bd_parts ps _ (bd_part p y h hs).1 (bd_part p y h hs).2
theorem dEnt_bd (l : List UInt8) (hl : l.length ≤ 10000) : Bd (dEnt l).1 := bd_parts _ _ (bd_zero _) (Nat.le_trans (lf_byte (l, false)) hl)
theorem Bd.big {x : EntD} (h : Bd x) : EntBig x := ⟨by have := h.op; omega, h.item, by have := h.frontier; omega⟩
theorem Bd.short {x : EntD} (h : Bd x) : EntShort x := ⟨by have := h.parts; omega, by have := h.stamp; omega, by have := h.effs; omega, by have := h.frontier; omega⟩
/-- The document's Get answers as the program's. -/
theorem dGetV_get (l : List UInt8) (hl : l.length ≤ 10000) : dGetV l = getV l := dGetV_eq l 100000000 (by decide) (dEnt_bd l hl).big.fit
end Go.Proofs.Ytiemgmbjhllmbaa
