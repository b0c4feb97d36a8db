/-
  Of the document, plain: what it reads of bytes; what is put is read so. No program in sight.
  Of the document, plain: operations, items, entries that are put are read so. No program in sight.
  Of the document, plain: ranges of what it reads. No program in sight.
-/
import Derived.Test.YtiemgmbjhllmbaaYF
section
set_option linter.unusedVariables false
namespace Go.Proofs.Ytiemgmbjhllmbaa
open Go.RowKit
def dPlace (s : RS) : Int × RS := (((rByte s).1 : Int), (rByte s).2)
def dFlag (s : RS) : Bool × RS := ((rByte s).1 == 1, (rByte s).2)
def dMany {α : Type} (f : RS → α × RS) : Nat → RS → List α × RS
  | 0, s => ([], s)
  | n + 1, s => if s.2 then ([], s) else ((f s).1 :: (dMany f n (f s).2).1, (dMany f n (f s).2).2)
def dList {α : Type} (most : Nat) (f : RS → α × RS) (s : RS) : List α × RS := dMany f (rCount most s).1 (rCount most s).2
def dStamp (s : RS) : List Nat × RS := dList 3 rUint s
def dSess (s : RS) : (Int × Nat) × RS := (((dPlace s).1, (rSmall (dPlace s).2).1), (rSmall (dPlace s).2).2)
def dHead (s : RS) : OpH × RS :=
  let k := rByte s
  let p := rText k.2
  let d := rText p.2
  let v := rUint d.2
  let q := dFlag v.2
  let e := dFlag q.2
  (⟨k.1, p.1, d.1, i64 v.1, q.1, e.1⟩, e.2)
def dOp0 (s : RS) : OpD × RS := (.mk (dHead s).1 [], (rCount 0 (dHead s).2).2)
def dOp (s : RS) : OpD × RS := (.mk (dHead s).1 (dList 6 dOp0 (dHead s).2).1, (dList 6 dOp0 (dHead s).2).2)
def dNode (s : RS) : NodeD × RS :=
  let d := rText s
  let v := rSmall d.2
  let k := rSmall v.2
  let n := rSmall k.2
  let o := dSess n.2
  let m := rUint o.2
  let c := rUint m.2
  let t := rUint c.2
  (⟨d.1, v.1, k.1, n.1, o.1.1, o.1.2, m.1, c.1, t.1⟩, t.2)
def dEff (s : RS) : EffD × RS :=
  let p := rText s
  let g := dFlag p.2
  if g.1 then (⟨p.1, true, zeroN⟩, g.2) else (⟨p.1, false, (dNode g.2).1⟩, (dNode g.2).2)
def dItem (s : RS) : ItemD × RS :=
  let o := dPlace s
  let q := rUint o.2
  let r := rI64 q.2
  let e := rUint r.2
  let t := dStamp e.2
  let f := dList 16 dEff t.2
  let c := rSmall f.2
  (⟨o.1, q.1, r.1, e.1, t.1, f.1, c.1⟩, c.2)
def dVal : PartK → RS → PartV × RS
  | .client, s => (.client (rSmall s).1 (rSmall (rSmall s).2).1, (rSmall (rSmall s).2).2)
  | .owner, s => (.owner (dSess s).1.1 (dSess s).1.2, (dSess s).2)
  | .op, s => (.op (dOp s).1, (dOp s).2)
  | .item, s => (.item (dItem s).1, (dItem s).2)
  | .site, s => (.site (dPlace s).1, (dPlace s).2)
  | .wher, s => (.wher (rI64 s).1, (rI64 s).2)
  | .epoch, s => (.epoch (rUint s).1, (rUint s).2)
  | .stamp, s => (.stamp (dStamp s).1, (dStamp s).2)
def dPart (y : EntD × RS) (p : PartK) : EntD × RS := (putVal y.1 (dVal p y.2).1, (dVal p y.2).2)
def dParts (n : Nat) : List PartK := if n ≤ 9 then kindP n else [.wher]
def dEnt (l : List UInt8) : EntD × RS := (dParts (rByte (l, false)).1).foldl dPart (rKind l)
/-- What is put is read. -/
def Takes {α : Type} (f : RS → α × RS) (e : α → List UInt8) (d : α → Prop) : Prop := ∀ x r, d x → f (e x ++ r, false) = (x, (r, false))
theorem tk_place : Takes dPlace (fun z => be 1 (byteOf z)) (fun z => 0 ≤ z ∧ z < 3) := fun z r h => by
  unfold dPlace
  rw [rByte_be _ _ (byteOf_lt z)]
  have := byteOf_cast z
  exact Prod.ext (by show ((byteOf z : Nat) : Int) = z; omega) rfl
theorem tk_flag : Takes dFlag flagB (fun _ => True) := fun b r _ => by
  unfold dFlag flagB
  cases b <;> rw [rByte_be _ _ (by decide)] <;> rfl
theorem tk_uint : Takes rUint (be 8) (· < 2 ^ 64) := fun x r h => rUint_be x r h
theorem tk_i64 : Takes rI64 (fun z => be 8 (u64 z)) I64 := fun z r h => pair_i64.put z r h
theorem tk_small : Takes rSmall (be 8) (· < 2 ^ 32) := fun z r h => pair_small.put z r h
theorem tk_text : Takes rText textB (fun t => t.length < 2 ^ 32) := fun t r h => pair_text.put t r h
theorem tk_many {α : Type} {f : RS → α × RS} {e : α → List UInt8} {d : α → Prop} (h : Takes f e d) (r : List UInt8) : ∀ (l : List α), (∀ x ∈ l, d x) → dMany f l.length (l.flatMap e ++ r, false) = (l, (r, false))
  | [], _ => rfl
  | x :: l, hl => by
    rw [List.flatMap_cons, List.append_assoc, List.length_cons]
    have h1 := h x (l.flatMap e ++ r) (hl x (by simp))
    have h2 := tk_many h r l (fun y hy => hl y (by simp [hy]))
    unfold dMany
    rw [if_neg (by simp), h1]
    simp only [h2]
theorem tk_count (most : Nat) (hm : most < 2 ^ 63) (n : Nat) (hn : n ≤ most) (r : List UInt8) : rCount most (be 8 n ++ r, false) = (n, (r, false)) := (pair_count most hm).put n r hn
theorem tk_list {α : Type} {f : RS → α × RS} {e : α → List UInt8} {d : α → Prop} (h : Takes f e d) (most : Nat) (hm : most < 2 ^ 63) : Takes (dList most f) (fun l => be 8 l.length ++ l.flatMap e) (fun l => l.length ≤ most ∧ ∀ x ∈ l, d x) := fun l r hl => by
  unfold dList
  rw [List.append_assoc, tk_count most hm l.length hl.1]
  exact tk_many h r l hl.2
theorem tk_stamp : Takes dStamp stampB (fun l => l.length ≤ 3 ∧ ∀ x ∈ l, x < 2 ^ 64) := fun l r h => tk_list tk_uint 3 (by decide) l r h
theorem tk_sess : Takes dSess (fun p => sessB p.1 p.2) (fun p => (0 ≤ p.1 ∧ p.1 < 3) ∧ p.2 < 2 ^ 32) := fun p r h => by
  unfold dSess sessB
  rw [List.append_assoc, tk_place p.1 _ h.1, tk_small p.2 _ h.2]
theorem tk_head : Takes dHead headB (fun h => h.kind < 256 ∧ h.path.length ≤ 64 ∧ h.data.length ≤ 64 ∧ I64 h.version) := fun h r hh => by
  obtain ⟨h1, h2, h3, h4⟩ := hh
  unfold dHead headB
  simp only [List.append_assoc]
  rw [rByte_be _ _ h1]
  simp only
  rw [tk_text _ _ (show h.path.length < 2 ^ 32 by omega)]
  simp only
  rw [tk_text _ _ (show h.data.length < 2 ^ 32 by omega)]
  simp only
  rw [tk_uint _ _ (u64_lt _)]
  simp only
  rw [tk_flag _ _ trivial]
  simp only
  rw [tk_flag _ _ trivial]
  simp only [i64_u64 _ h4]
end Go.Proofs.Ytiemgmbjhllmbaa
end
section
set_option linter.unusedVariables false
namespace Go.Proofs.Ytiemgmbjhllmbaa
open Go.RowKit
theorem tk_op0 : Takes dOp0 opB (fun o => HeadOk o.h ∧ mayOp0 o = true) := fun o r h => by
  obtain ⟨hd, ps⟩ := o
  obtain ⟨h1, h2⟩ := h
  rw [mayOp0_iff] at h2
  obtain ⟨h3, h4⟩ := h2
  replace h4 : ps = [] := h4
  subst h4
  unfold dOp0
  rw [opB_mk, opsB_nil, List.append_nil, List.append_assoc, tk_head hd _ ⟨h1.kind, h3.1, h3.2, h1.version⟩]
  have e : rCount 0 (be 8 0 ++ r, false) = (0, (r, false)) := by simpa using tk_count 0 (by decide) 0 (Nat.le_refl _) r
  simp only [List.length_nil]
  rw [e]
theorem tk_op : Takes dOp opB (fun o => HeadOk o.h ∧ (∀ p ∈ o.parts, HeadOk p.h) ∧ mayOp o = true) := fun o r h => by
  obtain ⟨hd, ps⟩ := o
  obtain ⟨h1, h2, h3⟩ := h
  rw [mayOp_iff] at h3
  obtain ⟨h4, h5, h6⟩ := h3
  unfold dOp
  rw [opB_mk, opsB_flat, List.append_assoc, List.append_assoc, tk_head hd _ ⟨h1.kind, h4.1, h4.2, h1.version⟩]
  simp only
  rw [← List.append_assoc, tk_list tk_op0 6 (by decide) ps r ⟨h5, fun p hp => ⟨h2 p hp, h6 p hp⟩⟩]
theorem tk_node : Takes dNode nodeB nodeDom := fun x r h => by
  obtain ⟨ok, h1, h2, h3⟩ := h
  unfold dNode nodeB
  simp only [List.append_assoc]
  rw [tk_text _ _ (show x.data.length < 2 ^ 32 by omega)]
  simp only
  rw [tk_small _ _ ok.version]
  simp only
  rw [tk_small _ _ ok.kin]
  simp only
  rw [tk_small _ _ ok.next]
  simp only
  rw [tk_sess (x.site, x.n) _ ⟨⟨h2, h3⟩, ok.n⟩]
  simp only
  rw [tk_uint _ _ ok.made]
  simp only
  rw [tk_uint _ _ ok.changed]
  simp only
  rw [tk_uint _ _ ok.touched]
theorem tk_eff : Takes dEff effB effDom := fun e r h => by
  obtain ⟨ok, hm⟩ := h
  rw [mayEff_iff] at hm
  obtain ⟨h1, h2, h3, h4⟩ := hm
  obtain ⟨pa, gn, nd⟩ := e
  unfold dEff effB
  simp only [List.append_assoc]
  rw [tk_text _ _ (show pa.length < 2 ^ 32 by have : pa.length ≤ 64 := h1; omega)]
  simp only
  rw [tk_flag _ _ trivial]
  cases gn with
  | true =>
    have : nd = zeroN := h4 rfl
    subst this
    simp
  | false =>
    simp only [Bool.false_eq_true, if_false]
    rw [tk_node nd r ⟨ok, h2, h3.1, h3.2⟩]
theorem tk_item : Takes dItem itemB itemDom := fun x r h => by
  obtain ⟨ok, hm⟩ := h
  rw [mayItem_iff] at hm
  obtain ⟨h1, h2, h3, h4, h5⟩ := hm
  unfold dItem itemB
  simp only [List.append_assoc]
  rw [tk_place _ _ h1]
  simp only
  rw [tk_uint _ _ ok.seq]
  simp only
  rw [tk_i64 _ _ ok.region]
  simp only
  rw [tk_uint _ _ ok.epoch]
  simp only
  rw [tk_stamp _ _ ⟨h3, ok.stamp⟩]
  simp only
  rw [← List.append_assoc, tk_list tk_eff 16 (by decide) x.effs _ ⟨h4, fun e he => ⟨ok.effs e he, h5 e he⟩⟩]
  simp only
  rw [tk_small _ _ ok.closed]
theorem tk_via {α : Type} {f : RS → α × RS} {e : α → List UInt8} {d : α → Prop} (h : Takes f e d) (c : α → PartV) (x : α) (r : List UInt8) (hx : d x) (g : RS → PartV × RS) (hg : ∀ s, g s = (c (f s).1, (f s).2)) : g (e x ++ r, false) = (c x, (r, false)) := by rw [hg, h x r hx]
theorem tk_client : Takes (rSeq rSmall rSmall) (fun p => be 8 p.1 ++ be 8 p.2) (fun p => p.1 < 2 ^ 32 ∧ p.2 < 2 ^ 32) := fun x r h => pair_client.put x r h
theorem dVal_put (v : PartV) (r : List UInt8) (h : valOk v) (hp : valMay v = true) : dVal v.k (valB v ++ r, false) = (v, (r, false)) := by
  cases v with
  | client c q => exact tk_via tk_client (fun p => .client p.1 p.2) (c, q) r h (dVal .client) (fun s => rfl)
  | owner s n => exact tk_via tk_sess (fun p => .owner p.1 p.2) (s, n) r ⟨(maySess_iff _).1 hp, h.2⟩ (dVal .owner) (fun s => rfl)
  | op o => exact tk_via tk_op .op o r ⟨h.heads.1, h.heads.2, hp⟩ (dVal .op) (fun s => rfl)
  | item x => exact tk_via tk_item .item x r ⟨h, hp⟩ (dVal .item) (fun s => rfl)
  | site s => exact tk_via tk_place .site s r (by simpa [valMay] using hp) (dVal .site) (fun s => rfl)
  | wher q => exact tk_via tk_i64 .wher q r h (dVal .wher) (fun s => rfl)
  | epoch e => exact tk_via tk_uint .epoch e r h (dVal .epoch) (fun s => rfl)
  | stamp t => exact tk_via tk_stamp .stamp t r ⟨by simpa [valMay] using hp, h⟩ (dVal .stamp) (fun s => rfl)
theorem dPart_put (y x : EntD) (p : PartK) (r : List UInt8) (h : EntOk x) (hp : mayPart x p = true) : dPart (y, (partB x p ++ r, false)) p = (setP y x p, (r, false)) := by
  have := dVal_put (valOf x p) r (valOf_ok h p) hp
  rw [valOf_k] at this
  unfold dPart setP partB
  simp only [this]
theorem dParts_put (x : EntD) (h : EntOk x) (r : List UInt8) : ∀ (ps : List PartK) (y : EntD), ps.all (mayPart x) = true → ps.foldl dPart (y, (ps.flatMap (partB x) ++ r, false)) = (ps.foldl (fun y p => setP y x p) y, (r, false))
  | [], y, _ => rfl
  | p :: ps, y, hm => by
    rw [List.all_cons, Bool.and_eq_true] at hm
    rw [List.flatMap_cons, List.foldl_cons, List.append_assoc, dPart_put y x p _ h hm.1]
    exact dParts_put x h r ps _ hm.2
theorem dEnt_put (x : EntD) (h : EntOk x) (hm : mayX x) : dEnt (tellB x) = (x, ([], false)) := by
  obtain ⟨h1, h2, h3⟩ := hm
  have hk : dParts x.kind = kindP x.kind := by
    unfold dParts
    unfold kindK at h1
    simp only [Bool.and_eq_true, decide_eq_true_eq] at h1
    rw [if_pos h1.2]
  have e := rKind_put x ((kindP x.kind).flatMap (partB x)) h.kind
  unfold dEnt rKind
  rw [show tellB x = be 1 x.kind ++ (kindP x.kind).flatMap (partB x) from rfl, e, hk]
  have := dParts_put x h [] (kindP x.kind) { zeroX with kind := x.kind } h2
  rw [List.append_nil] at this
  simp only
  rw [this]
  exact Prod.ext h3 rfl
end Go.Proofs.Ytiemgmbjhllmbaa
end
section
set_option linter.unusedVariables false
namespace Go.Proofs.Ytiemgmbjhllmbaa
open Go.RowKit
theorem dMany_all {α : Type} {f : RS → α × RS} {d : α → Prop} (h : ∀ s, d (f s).1) : ∀ (n : Nat) (s : RS), ∀ x ∈ (dMany f n s).1, d x := by
  intro n
  induction n with
  | zero => intro s x hx; cases hx
  | succ n ih =>
    intro s x hx
    unfold dMany at hx
    split at hx
    · cases hx
    · rcases List.mem_cons.1 hx with rfl | hx
      · exact h _
      · exact ih _ x hx
theorem dMany_len {α : Type} (f : RS → α × RS) : ∀ (n : Nat) (s : RS), (dMany f n s).1.length ≤ n := by
  intro n
  induction n with
  | zero => intro s; exact Nat.le_refl _
  | succ n ih =>
    intro s
    unfold dMany
    split
    · exact Nat.zero_le _
    · rw [List.length_cons]; have := ih (f s).2; omega
theorem dList_rng {α : Type} {f : RS → α × RS} {d : α → Prop} (most : Nat) (h : ∀ s, d (f s).1) (s : RS) : (∀ x ∈ (dList most f s).1, d x) ∧ (dList most f s).1.length ≤ most := by
  unfold dList
  exact ⟨dMany_all h _ _, Nat.le_trans (dMany_len f _ _) (rCount_most most s)⟩
theorem dPlace_rng (s : RS) : I64 (dPlace s).1 := nat_i64 (rByte_lt _)
theorem dHead_rng (s : RS) : HeadOk (dHead s).1 := ⟨rByte_lt _, i64_range _⟩
theorem dOp0_rng (s : RS) : OpOk (dOp0 s).1 := by
  unfold dOp0
  simp only [OpOk, OpsOk, and_true]
  exact dHead_rng s
theorem dOp_rng (s : RS) : OpOk (dOp s).1 := by
  unfold dOp
  rw [OpOk_mk]
  exact ⟨dHead_rng s, OpsOk.of (dList_rng 6 dOp0_rng _).1⟩
theorem dNode_rng (s : RS) : NodeOk (dNode s).1 := ⟨rSmall_lt _, rSmall_lt _, rSmall_lt _, dPlace_rng _, rSmall_lt _, rUint_lt _, rUint_lt _, rUint_lt _⟩
theorem dEff_rng (s : RS) : EffOk (dEff s).1 := by
  unfold dEff EffOk
  simp only
  split
  · exact zeroN_ok
  · exact dNode_rng _
theorem dStamp_rng (s : RS) : ∀ k ∈ (dStamp s).1, k < 2 ^ 64 := (dList_rng 3 rUint_lt s).1
theorem dItem_rng (s : RS) : ItemOk (dItem s).1 := ⟨dPlace_rng _, rUint_lt _, i64_range _, rUint_lt _, dStamp_rng _, (dList_rng 16 dEff_rng _).1, rSmall_lt _⟩
theorem dVal_ok (p : PartK) (s : RS) : valOk (dVal p s).1 := by
  cases p with
  | client => exact ⟨rSmall_lt _, rSmall_lt _⟩
  | owner => exact ⟨dPlace_rng _, rSmall_lt _⟩
  | op => exact dOp_rng s
  | item => exact dItem_rng s
  | site => exact dPlace_rng _
  | wher => exact i64_range _
  | epoch => exact rUint_lt _
  | stamp => exact dStamp_rng _
theorem dParts_ok : ∀ (ps : List PartK) (y : EntD × RS), EntOk y.1 → EntOk (ps.foldl dPart y).1
  | [], y, h => h
  | p :: ps, y, h => dParts_ok ps _ (putVal_ok h (dVal_ok p y.2))
theorem dEnt_ok (l : List UInt8) : EntOk (dEnt l).1 := dParts_ok _ _ (zeroX_ok _ (rByte_lt _))
/-- What the document's Get answers. -/
def dGetV (l : List UInt8) : EntD × Int := if (putV (dEnt l).1).2 = 0 ∧ rDone (dEnt l).2 = 0 ∧ (putV (dEnt l).1).1 = l then ((dEnt l).1, 0) else (zeroX, 2)
/-- It answers as the program's. -/
theorem dGetV_eq (l : List UInt8) (n : Nat) (hn : n < 2 ^ 32) (hf : EntFit (dEnt l).1 n) : dGetV l = getV l := by
  have ok := dEnt_ok l
  unfold dGetV
  split
  · rename_i h
    obtain ⟨h1, h2, h3⟩ := h
    have hp := (putV_zero ok hf hn).1 h1
    have hv := putV_may ok hf hn hp.1
    rw [if_neg (by omega)] at hv
    rw [hv] at h3
    replace h3 : tellB (dEnt l).1 = l := h3
    have := getV_tell ok hp.1 hp.2
    rw [h3] at this
    exact this.symm
  · rename_i h
    by_cases h0 : (getV l).2 = 0
    · exfalso
      obtain ⟨h1, h2, h3, h4⟩ := getV_good h0
      have e := dEnt_put _ h1 h2
      rw [h3] at e
      refine h ?_
      have hfx : EntFit (getV l).1 n := by rw [e] at hf; exact hf
      have hv := putV_may h1 hfx hn h2
      rw [h3, if_neg (by omega)] at hv
      rw [e, hv]
      exact ⟨rfl, rfl, rfl⟩
    · exact (getV_bad h0).symm
end Go.Proofs.Ytiemgmbjhllmbaa
end
