/-
  Package vector and the document's answer to it: plain contracts.
-/
import Derived.Test.YtpdninnnpoiblaaVecLeq
set_option linter.unusedVariables false
namespace Go.Proofs.Ytpdninnnpoiblaa
open Go.RowKit

def num64 (n : Nat) : Value := .int .u64 (n : Int)
def nums (l : List Nat) : List Value := l.map num64
theorem info_u64 : (Try.prog.info? 23).map (fun i => (i.zero, i.size, i.bytes)) = some (some (.int .u64 0), 1, 8) := by kernel_rfl
theorem nums_length (l : List Nat) : (nums l).length = l.length := by simp [nums]
theorem Sl.nums {w : World} {v : Value} {xs : List Nat} (h : Sl w v (nums xs)) : ∃ a cap, v = .slice a xs.length cap ∧ xs.length ≤ cap ∧ Nums (fun k => k < w.heap.size) w v xs := by
  obtain ⟨a, cap, rfl, hcap, hc⟩ := h
  rw [nums_length] at hcap ⊢
  refine ⟨a, cap, rfl, hcap, a, cap, rfl, ?_⟩
  rcases hc with hc | ⟨b, off, rfl, hb, hc⟩
  · left; simpa [Ytpdninnnpoiblaa.nums] using hc
  · right
    refine ⟨b, off, rfl, hb, fun j hj => ?_⟩
    rw [hc j (by rw [nums_length]; exact hj)]
    simp [Ytpdninnnpoiblaa.nums, num64, List.getElem?_eq_getElem hj]

theorem leq_any (w : World) (va vb : Value) (xs ys : List Nat) (ha : Sl w va (nums xs)) (hb : Sl w vb (nums ys)) (hx : xs.length ≤ 1000000) (hy : ys.length ≤ 1000000) :
    Calls Try.prog 18 #[va, vb] w fun e W' => e = .returned (.bool (leqV xs ys)) ∧ Below w.heap.size w W' := by
  obtain ⟨a, ca, rfl, _, na⟩ := ha.nums
  obtain ⟨b, cb, rfl, _, nb⟩ := hb.nums
  exact callsIn_wide.1 (leq_in Fence.wide 3 trivial trivial trivial rfl (Nat.le_refl _) a b ca cb xs ys hx hy w na nb)

end Go.Proofs.Ytpdninnnpoiblaa
