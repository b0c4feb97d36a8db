/-
  Package entry, plain: an entry that may be told is small.
-/
import Derived.Test.YtiemgmbjhllmbaaYEnParts
set_option linter.unusedVariables false
namespace Go.Proofs.Ytiemgmbjhllmbaa
open Go.RowKit
theorem setP_other (x y : EntD) (p q : PartK) (h : p ≠ q) : valOf (setP y x q) p = valOf y p := valOf_other y (valOf x q) p (by rw [valOf_k]; exact h)
theorem plain_out (x : EntD) (p : PartK) : ∀ (ps : List PartK) (y : EntD), p ∉ ps → valOf (ps.foldl (fun y p => setP y x p) y) p = valOf y p
  | [], y, _ => rfl
  | q :: ps, y, h => by
    rw [List.mem_cons, not_or] at h
    rw [List.foldl_cons, plain_out x p ps _ h.2, setP_other x y p q h.1]
theorem zero_may (k : Nat) (p : PartK) : valMay (valOf { zeroX with kind := k } p) = true := by cases p <;> rfl
theorem mayX_all {x : EntD} (h : mayX x) (p : PartK) : mayPart x p = true := by
  obtain ⟨h1, h2, h3⟩ := h
  by_cases hp : p ∈ kindP x.kind
  · exact List.all_eq_true.1 h2 p hp
  · have := plain_out x p (kindP x.kind) { zeroX with kind := x.kind } hp
    unfold mayPart
    rw [← h3]
    unfold plainX
    rw [this]
    exact zero_may _ _
theorem head_le {h : OpH} (hm : mayHead h = true) : (headB h).length ≤ 147 := by
  unfold mayHead at hm
  simp only [Bool.and_eq_true, decide_eq_true_eq] at hm
  rw [headB_length]; omega
theorem op0_le {o : OpD} (hm : mayOp0 o = true) : (opB o).length ≤ 155 := by
  obtain ⟨h, ps⟩ := o
  replace hm : (mayHead h && decide (ps.length ≤ 0)) = true := hm
  simp only [Bool.and_eq_true, decide_eq_true_eq] at hm
  have := head_le hm.1
  obtain rfl : ps = [] := List.eq_nil_of_length_eq_zero (by omega)
  rw [opB_mk, opsB_nil]
  simp only [List.length_append, be_length, List.length_nil]; omega
theorem ops0_le : ∀ (l : List OpD), l.all mayOp0 = true → (opsB l).length ≤ l.length * 155
  | [], _ => by rw [opsB_nil]; simp
  | o :: l, h => by
    rw [List.all_cons, Bool.and_eq_true] at h
    have h1 := op0_le h.1
    have h2 := ops0_le l h.2
    rw [opsB_cons, List.length_append, List.length_cons]; omega
theorem op_le {o : OpD} (hm : mayOp o = true) : (opB o).length ≤ 2000 := by
  obtain ⟨h, ps⟩ := o
  replace hm : (mayHead h && (decide (ps.length ≤ 6) && ps.all mayOp0)) = true := hm
  simp only [Bool.and_eq_true, decide_eq_true_eq] at hm
  have h1 := head_le hm.1
  have h2 := ops0_le ps hm.2.2
  have h3 := hm.2.1
  rw [opB_mk]
  simp only [List.length_append, be_length]; omega
theorem eff_le {e : EffD} (hm : mayEff e = true) : (effB e).length ≤ 200 ∧ effW e ≤ 100000000 := by
  unfold mayEff at hm
  simp only [Bool.and_eq_true, decide_eq_true_eq] at hm
  obtain ⟨⟨⟨h1, h2⟩, _⟩, _⟩ := hm
  refine ⟨?_, ?_⟩
  · rw [effB_length]; split <;> omega
  · unfold effW; omega
theorem effs_le : ∀ (l : List EffD), l.all mayEff = true → (l.flatMap effB).length ≤ l.length * 200
  | [], _ => by simp
  | e :: l, h => by
    rw [List.all_cons, Bool.and_eq_true] at h
    have h1 := (eff_le h.1).1
    have h2 := effs_le l h.2
    rw [List.flatMap_cons, List.length_append, List.length_cons]; omega
theorem item_fit {x : ItemD} (hm : mayItem x = true) : ItemFit x := by
  unfold mayItem at hm
  simp only [Bool.and_eq_true, decide_eq_true_eq] at hm
  obtain ⟨⟨_, h1⟩, h2, h3⟩ := hm
  have := effs_le x.effs h3
  refine ⟨?_, fun e he => (eff_le (List.all_eq_true.1 h3 e he)).2⟩
  rw [itemB_length]; omega
theorem mayX_big {x : EntD} (h : mayX x) : EntBig x := by
  have h1 := mayX_all h .op
  have h2 := mayX_all h .item
  have h3 := mayX_all h .stamp
  refine ⟨?_, item_fit h2, ?_⟩
  · have := op_le (o := x.op) h1; omega
  · have : x.frontier.length ≤ 3 := by simpa [mayPart, valOf, valMay] using h3
    omega
end Go.Proofs.Ytiemgmbjhllmbaa
