/-
  Slices of numbers: what they read as; of the call's own: append, make, cells, Clone; two stamps side by side.
-/
import Derived.Test.YtiemgmbjhllmbaaGreatYB
import Derived.Test.YtiemgmbjhllmbaaGreatYA
set_option linter.unusedVariables false
namespace Go.Proofs.YtiemgmbjhllmbaaGreat
open Go.RowKit
def pairAt (xs ys : List Nat) (j : Nat) : Nat × Nat := (xs[j]?.getD 0, ys[j]?.getD 0)
set_option maxRecDepth 100000 in
set_option maxHeartbeats 4000000 in
/-- The slice sv holds the numbers zs, in a block of S (or there are none). -/
def Nums (S : Nat → Prop) (W : World) (sv : Value) (zs : List Nat) : Prop :=
  ∃ a cap, sv = .slice a zs.length cap ∧ (zs = [] ∨ ∃ b off, a = some ⟨b, off, none⟩ ∧ S b ∧ ∀ j, j < zs.length → W.cell? ⟨b, off + j, none⟩ = some (.int .u64 ((zs[j]?.getD 0 : Nat) : Int)))
/-- Is one stamp no more than another one? -/
def leqV (xs ys : List Nat) : Bool := (List.range (min xs.length ys.length)).all (fun j => decide ((pairAt xs ys j).1 ≤ (pairAt xs ys j).2)) && decide (xs.length = ys.length)
def num64 (n : Nat) : Value := .int .u64 (n : Int)
def nums (l : List Nat) : List Value := l.map num64
theorem info_u64 : (Tryz.prog.info? 29).map (fun i => (i.zero, i.size, i.bytes)) = some (some (.int .u64 0), 1, 8) := by kernel_rfl
theorem nums_length (l : List Nat) : (nums l).length = l.length := by simp [nums]
theorem Sl.nums {w : World} {v : Value} {xs : List Nat} (h : Sl w v (nums xs)) : ∃ a cap, v = .slice a xs.length cap ∧ xs.length ≤ cap ∧ Nums (fun k => k < w.heap.size) w v xs := by
  obtain ⟨a, cap, rfl, hcap, hc⟩ := h
  rw [nums_length] at hcap ⊢
  refine ⟨a, cap, rfl, hcap, a, cap, rfl, ?_⟩
  rcases hc with hc | ⟨b, off, rfl, hb, hc⟩
  · left; simpa [YtiemgmbjhllmbaaGreat.nums] using hc
  · right
    refine ⟨b, off, rfl, hb, fun j hj => ?_⟩
    rw [hc j (by rw [nums_length]; exact hj)]
    simp [YtiemgmbjhllmbaaGreat.nums, num64, List.getElem?_eq_getElem hj]
theorem one_nums (l : List Nat) : ∀ u ∈ nums l, u.oneCell' = true := by
  intro u hu
  obtain ⟨c, _, rfl⟩ := List.mem_map.1 hu
  rfl
theorem nums_append (a b : List Nat) : nums (a ++ b) = nums a ++ nums b := by simp [nums]
/-- append(s, x...) of numbers. -/
theorem run_append_n (w : World) (base : Nat) (v y : Value) (l m : List Nat) (hown : Own w base 29 v (nums l)) (hy : Sl w y (nums m))
    (h63 : l.length + m.length ≤ 10000000) (hbase : base ≤ w.heap.size) :
    ∃ v' w', (Builtin.append_ #[30, 30] 30 #[v, y]).run Tryz.prog w = .ok v' w' ∧ Own w' base 29 v' (nums (l ++ m)) ∧ w.grownBy w' v.ownBlock := by
  obtain ⟨i0, hi0, hz0, hz1, hz2⟩ := info_parts info_u64
  rw [nums_append]
  exact run_append_sl w base 30 30 29 i0 _ 8 Tryz.underlying30 hi0 hz0 hz1 hz2 rfl v y (nums l) (nums m) hown hy (one_nums m) (by rw [nums_length, nums_length]; unfold maxLen; omega) (by rw [nums_length, nums_length]; omega) hbase
end Go.Proofs.YtiemgmbjhllmbaaGreat
