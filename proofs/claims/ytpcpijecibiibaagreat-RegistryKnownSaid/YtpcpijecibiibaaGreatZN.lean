/-
  Of the document: May, Put.
  Of the document: Put answers as the program's.
-/
import Derived.Test.YtpcpijecibiibaaGreatZRPL
import Derived.Test.YtpcpijecibiibaaGreatZRPP
import Derived.Test.YtpcpijecibiibaaGreatZEnPutX
section
set_option linter.unusedVariables false
set_option linter.unusedSimpArgs false
set_option maxRecDepth 100000
namespace Go.Proofs.YtpcpijecibiibaaGreat
open Go.RowKit
theorem mayOp_flat {o : OpD} (h : mayOp o = true) : Flat o := by
  obtain ⟨a, ps⟩ := o
  replace h : (mayHead a && (decide (ps.length ≤ 6) && ps.all mayOp0)) = true := h
  simp only [Bool.and_eq_true, decide_eq_true_eq] at h
  intro p hp
  have h2 := List.all_eq_true.1 h.2.2 p hp
  unfold mayOp0 at h2
  simp only [Bool.and_eq_true, decide_eq_true_eq] at h2
  exact List.eq_nil_of_length_eq_zero (by omega)
theorem mayX_flat {x : EntD} (h : mayX x) : Flat x.op := mayOp_flat (mayX_all h .op)
theorem mayX_short {x : EntD} (h : mayX x) : EntShort x := by
  have h1 : mayOp x.op = true := mayX_all h .op
  have h2 : mayItem x.item = true := mayX_all h .item
  have h3 : decide (x.frontier.length ≤ 3) = true := mayX_all h .stamp
  have p1 : x.op.parts.length ≤ 6 := by
    unfold mayOp at h1
    simp only [Bool.and_eq_true, decide_eq_true_eq] at h1
    exact h1.2.1
  unfold mayItem at h2
  simp only [Bool.and_eq_true, decide_eq_true_eq] at h2 h3
  exact ⟨by omega, by omega, by omega, by omega⟩
theorem condX_of {x : EntD} (h : ∀ p, mayPart x p = true) : condX x = true := by
  have h1 : maySess x.osite = true := h .owner
  have h2 : mayOp x.op = true := h .op
  have h3 : mayItem x.item = true := h .item
  unfold condX
  split
  · rw [h1, h2]; rfl
  · exact h1
  · exact h3
  · rfl
theorem refMay_iff (x : EntD) : ((refPlain x).2 = true ∧ 0 ≤ x.site ∧ x.site < 3 ∧ 0 ≤ x.region ∧ x.region < 4 ∧ x.frontier.length ≤ 3 ∧ (refPlain x).1 = x ∧ Flat (refPlain x).1.op) ↔ mayX x := by
  constructor
  · rintro ⟨h1, h2, h3, h4, h5, h6, h7, h8⟩
    unfold refPlain at h1 h7
    cases hk : kindK x.kind with
    | false => rw [hk] at h1; cases h1
    | true =>
      rw [hk, if_pos rfl] at h1 h7
      replace h1 : condX x = true := h1
      replace h7 : plainX x = x := h7
      refine ⟨hk, ?_, h7⟩
      have q1 : mayPart x .site = true := by show (decide (0 ≤ x.site) && decide (x.site < 3)) = true; simp [h2, h3]
      have q2 : mayPart x .wher = true := by show (decide (0 ≤ x.region) && decide (x.region < 4)) = true; simp [h4, h5]
      have q3 : mayPart x .stamp = true := by show decide (x.frontier.length ≤ 3) = true; simp [h6]
      have q4 : mayPart x .client = true := rfl
      have q5 : mayPart x .epoch = true := rfl
      unfold kindK at hk
      simp only [Bool.and_eq_true, decide_eq_true_eq] at hk
      unfold condX at h1
      rcases (by omega : x.kind = 1 ∨ x.kind = 2 ∨ x.kind = 3 ∨ x.kind = 4 ∨ x.kind = 5 ∨ x.kind = 6 ∨ x.kind = 7 ∨ x.kind = 8 ∨ x.kind = 9) with h | h | h | h | h | h | h | h | h
      · simp only [h, Bool.and_eq_true] at h1
        have p1 : mayPart x .owner = true := h1.1
        have p2 : mayPart x .op = true := h1.2
        rw [h]; simp [kindP, q4, p1, p2]
      · rw [h]; simp [kindP, q4]
      · simp only [h] at h1
        have p1 : mayPart x .owner = true := h1
        rw [h]; simp [kindP, q4, p1]
      · simp only [h] at h1
        have p1 : mayPart x .item = true := h1
        rw [h]; simp [kindP, p1]
      · rw [h]; simp [kindP, q2, q3, q5]
      · rw [h]; simp [kindP, q2, q5]
      · rw [h]; simp [kindP, q2]
      · rw [h]; simp [kindP, q1, q2]
      · rw [h]; simp [kindP, q1, q2, q3, q5]
  · intro h
    have ha := mayX_all h
    have q1 : (decide (0 ≤ x.site) && decide (x.site < 3)) = true := ha .site
    have q2 : (decide (0 ≤ x.region) && decide (x.region < 4)) = true := ha .wher
    have q3 : decide (x.frontier.length ≤ 3) = true := ha .stamp
    simp only [Bool.and_eq_true, decide_eq_true_eq] at q1 q2 q3
    have e : refPlain x = (x, true) := by unfold refPlain; rw [h.1, if_pos rfl, h.2.2, condX_of ha]
    rw [e]
    exact ⟨rfl, q1.1, q1.2, q2.1, q2.2, q3, rfl, mayX_flat h⟩
end Go.Proofs.YtpcpijecibiibaaGreat
end
section
set_option linter.unusedVariables false
set_option linter.unusedSimpArgs false
set_option maxRecDepth 100000
namespace Go.Proofs.YtpcpijecibiibaaGreat
open Go.RowKit
end Go.Proofs.YtpcpijecibiibaaGreat
end
