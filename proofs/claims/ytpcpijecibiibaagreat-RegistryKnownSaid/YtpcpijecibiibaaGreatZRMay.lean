/-
  Of the document: which sessions, operations, items may be told.
-/
import Derived.Test.YtpcpijecibiibaaGreatZK
import Derived.Test.YtpcpijecibiibaaGreatZRPP
set_option linter.unusedVariables false
set_option linter.unusedSimpArgs false
set_option maxRecDepth 100000
namespace Go.Proofs.YtpcpijecibiibaaGreat
open Go.RowKit
theorem mayOp_path {h : OpH} {ps : List OpD} (k : 64 < h.path.length) : mayOp (.mk h ps) = false := by show (mayHead h && _) = false; unfold mayHead; rw [decide_eq_false (by omega)]; rfl
theorem mayOp_data {h : OpH} {ps : List OpD} (k : 64 < h.data.length) : mayOp (.mk h ps) = false := by show (mayHead h && _) = false; unfold mayHead; rw [decide_eq_false (show ¬ h.data.length ≤ 64 by omega), Bool.and_false]; rfl
theorem mayOp_parts {h : OpH} {ps : List OpD} (k : 6 < ps.length) : mayOp (.mk h ps) = false := by show (mayHead h && (decide (ps.length ≤ 6) && _)) = false; rw [decide_eq_false (show ¬ ps.length ≤ 6 by omega)]; simp
theorem mayOp_bad {h : OpH} {ps : List OpD} (p : OpD) (hp : p ∈ ps) (k : mayOp0 p = false) : mayOp (.mk h ps) = false := by
  show (mayHead h && (decide (ps.length ≤ 6) && ps.all mayOp0)) = false
  have : ps.all mayOp0 = false := List.all_eq_false.2 ⟨p, hp, by rw [k]; decide⟩
  rw [this]; simp
theorem mayOp_good {h : OpH} {ps : List OpD} (h1 : h.path.length ≤ 64) (h2 : h.data.length ≤ 64) (h3 : ps.length ≤ 6) (h4 : ps.all mayOp0 = true) : mayOp (.mk h ps) = true := by
  show (mayHead h && (decide (ps.length ≤ 6) && ps.all mayOp0)) = true
  unfold mayHead
  simp [h1, h2, h3, h4]
theorem mayOp0_path {o : OpD} (k : 64 < o.h.path.length) : mayOp0 o = false := by unfold mayOp0 mayHead; rw [decide_eq_false (by omega)]; rfl
theorem mayOp0_data {o : OpD} (k : 64 < o.h.data.length) : mayOp0 o = false := by unfold mayOp0 mayHead; rw [decide_eq_false (show ¬ o.h.data.length ≤ 64 by omega), Bool.and_false]; rfl
theorem mayOp0_parts {o : OpD} (k : 0 < o.parts.length) : mayOp0 o = false := by unfold mayOp0; rw [decide_eq_false (show ¬ o.parts.length ≤ 0 by omega), Bool.and_false]
theorem mayOp0_good {o : OpD} (h1 : o.h.path.length ≤ 64) (h2 : o.h.data.length ≤ 64) (h3 : o.parts.length ≤ 0) : mayOp0 o = true := by unfold mayOp0 mayHead; simp only [h1, h2, h3, decide_true, Bool.and_true]
theorem all_next {α : Type} (f : α → Bool) (l : List α) (k : Nat) (hk : k < l.length) (h : (l.take k).all f = true) (h2 : f l[k] = true) : (l.take (k + 1)).all f = true := by
  rw [List.take_add_one, List.getElem?_eq_getElem hk, List.all_append, h]; simp [h2]
theorem effs_one {P : Nat → Prop} (W : World) (b : Nat) (e : EffD) (dv : Value) (hc : CellsAt W b (effCells e dv) 147) (hd : SlP P W dv (bytes e.node.data)) (hb : P b) : EffsP P W (.slice (some ⟨b, 0, none⟩) 1 1) [e] := by
  refine ⟨_, ⟨row_one W b _ _ hc 11 (effCells_len e dv), .inr fun k hk => ?_⟩, fun i hi => ?_⟩
  · have : some b = some k := hk
    injection this with this
    rw [← this]; exact hb
  · obtain rfl : i = 0 := by simp at hi; omega
    exact ⟨dv, hd, fun j u hu => by
      show (effCells e dv).getD j (.bool false) = u
      have hu' : (effCells e dv)[j]? = some u := hu
      rw [List.getD_eq_getElem?_getD, hu']; rfl⟩
theorem mayEff_path {e : EffD} (k : 64 < e.path.length) : mayEff e = false := by unfold mayEff; rw [decide_eq_false (by omega)]; rfl
theorem mayEff_data {e : EffD} (k : 64 < e.node.data.length) : mayEff e = false := by unfold mayEff; rw [decide_eq_false (show ¬ e.node.data.length ≤ 64 by omega), Bool.and_false]; rfl
theorem mayEff_site {e : EffD} (k : maySess e.node.site = false) : mayEff e = false := by unfold mayEff; rw [k, Bool.and_false]; rfl
theorem mayEff_zero {e : EffD} (k : e.gone = true) (k2 : zeroNode e.node = false) : mayEff e = false := by unfold mayEff; rw [k, k2]; simp
theorem mayEff_good {e : EffD} (h1 : e.path.length ≤ 64) (h2 : e.node.data.length ≤ 64) (h3 : maySess e.node.site = true) (h4 : e.gone = true → zeroNode e.node = true) : mayEff e = true := by
  unfold mayEff
  rw [h3]
  simp only [h1, h2, decide_true, Bool.true_and]
  cases h : e.gone with
  | true => rw [h4 h]; rfl
  | false => rfl
theorem mayItem_bad {x : ItemD} (e : EffD) (he : e ∈ x.effs) (k : mayEff e = false) : mayItem x = false := by
  have : x.effs.all mayEff = false := List.all_eq_false.2 ⟨e, he, by rw [k]; decide⟩
  unfold mayItem
  rw [this]; simp
theorem mayItem_eq (x : ItemD) : mayItem x = (decide (0 ≤ x.origin) && decide (x.origin < 3) && decide (-1 ≤ x.region) && decide (x.region < 4) && decide (x.stamp.length ≤ 3) && (decide (x.effs.length ≤ 16) && x.effs.all mayEff)) := rfl
end Go.Proofs.YtpcpijecibiibaaGreat
