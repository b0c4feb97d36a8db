/-
  Package vector and the document's answer to it: plain contracts.
-/
import Derived.Test.YtomhiodabnpfoaaVecMax
set_option linter.unusedVariables false
namespace Go.Proofs.Ytomhiodabnpfoaa
open Go.RowKit

theorem nums_length (l : List Nat) : (nums l).length = l.length := by simp [nums]
theorem Sl.nums {w : World} {v : Value} {xs : List Nat} (h : Sl w v (nums xs)) : ∃ a cap, v = .slice a xs.length cap ∧ xs.length ≤ cap ∧ Nums (fun k => k < w.heap.size) w v xs := by
  obtain ⟨a, cap, rfl, hcap, hc⟩ := h
  rw [nums_length] at hcap ⊢
  refine ⟨a, cap, rfl, hcap, a, cap, rfl, ?_⟩
  rcases hc with hc | ⟨b, off, rfl, hb, hc⟩
  · left; simpa [Ytomhiodabnpfoaa.nums] using hc
  · right
    refine ⟨b, off, rfl, hb, fun j hj => ?_⟩
    rw [hc j (by rw [nums_length]; exact hj)]
    simp [Ytomhiodabnpfoaa.nums, num64, List.getElem?_eq_getElem hj]

theorem leq_any (w : World) (va vb : Value) (xs ys : List Nat) (ha : Sl w va (nums xs)) (hb : Sl w vb (nums ys)) (hx : xs.length ≤ 1000000) (hy : ys.length ≤ 1000000) :
    Calls Try.prog 8 #[va, vb] w fun e W' => e = .returned (.bool (leqV xs ys)) ∧ Below w.heap.size w W' := by
  obtain ⟨a, ca, rfl, _, na⟩ := ha.nums
  obtain ⟨b, cb, rfl, _, nb⟩ := hb.nums
  exact callsIn_wide.1 (leq_in Fence.wide 3 trivial trivial trivial rfl (Nat.le_refl _) a b ca cb xs ys hx hy w na nb)

theorem max_any (w : World) (va vb : Value) (xs ys : List Nat) (ha : Sl w va (nums xs)) (hb : Sl w vb (nums ys)) (hx : xs.length ≤ 1000000) (hy : ys.length ≤ 1000000) :
    Calls Try.prog 11 #[va, vb] w fun e W' => ∃ v, e = .returned v ∧ Own W' w.heap.size 23 v (nums (maxV xs ys)) ∧ Below w.heap.size w W' := by
  obtain ⟨a, ca, rfl, _, na⟩ := ha.nums
  obtain ⟨b, cb, rfl, _, nb⟩ := hb.nums
  refine (callsIn_wide.1 (max_in Fence.wide 3 trivial trivial trivial rfl (Nat.le_refl _) a b ca cb xs ys hx hy w na nb)).mono ?_
  rintro e W' ⟨v, he, ho, hb⟩
  exact ⟨v, he, by rw [← nums_length] at ho; exact ho, hb⟩
end Go.Proofs.Ytomhiodabnpfoaa
