/-
  Slices of numbers: what they read as; of the call's own: append, make, cells, Clone; two stamps side by side.
-/
import Derived.Test.YtiemgmbjhllmbaaYB
import Derived.Test.YtiemgmbjhllmbaaYA
set_option linter.unusedVariables false
namespace Go.Proofs.Ytiemgmbjhllmbaa
open Go.RowKit
def pairAt (xs ys : List Nat) (j : Nat) : Nat × Nat := (xs[j]?.getD 0, ys[j]?.getD 0)
set_option maxRecDepth 100000 in
set_option maxHeartbeats 4000000 in
/-- The slice sv holds the numbers zs, in a block of S (or there are none). -/
def Nums (S : Nat → Prop) (W : World) (sv : Value) (zs : List Nat) : Prop :=
  ∃ a cap, sv = .slice a zs.length cap ∧ (zs = [] ∨ ∃ b off, a = some ⟨b, off, none⟩ ∧ S b ∧ ∀ j, j < zs.length → W.cell? ⟨b, off + j, none⟩ = some (.int .u64 ((zs[j]?.getD 0 : Nat) : Int)))
/-- Is one stamp no more than another one? -/
def leqV (xs ys : List Nat) : Bool := (List.range (min xs.length ys.length)).all (fun j => decide ((pairAt xs ys j).1 ≤ (pairAt xs ys j).2)) && decide (xs.length = ys.length)
def num64 (n : Nat) : Value := .int .u64 (n : Int)
def nums (l : List Nat) : List Value := l.map num64
theorem info_u64 : (Try.prog.info? 26).map (fun i => (i.zero, i.size, i.bytes)) = some (some (.int .u64 0), 1, 8) := by kernel_rfl
theorem nums_length (l : List Nat) : (nums l).length = l.length := by simp [nums]
theorem Sl.nums {w : World} {v : Value} {xs : List Nat} (h : Sl w v (nums xs)) : ∃ a cap, v = .slice a xs.length cap ∧ xs.length ≤ cap ∧ Nums (fun k => k < w.heap.size) w v xs := by
  obtain ⟨a, cap, rfl, hcap, hc⟩ := h
  rw [nums_length] at hcap ⊢
  refine ⟨a, cap, rfl, hcap, a, cap, rfl, ?_⟩
  rcases hc with hc | ⟨b, off, rfl, hb, hc⟩
  · left; simpa [Ytiemgmbjhllmbaa.nums] using hc
  · right
    refine ⟨b, off, rfl, hb, fun j hj => ?_⟩
    rw [hc j (by rw [nums_length]; exact hj)]
    simp [Ytiemgmbjhllmbaa.nums, num64, List.getElem?_eq_getElem hj]
theorem one_nums (l : List Nat) : ∀ u ∈ nums l, u.oneCell' = true := by
  intro u hu
  obtain ⟨c, _, rfl⟩ := List.mem_map.1 hu
  rfl
theorem nums_append (a b : List Nat) : nums (a ++ b) = nums a ++ nums b := by simp [nums]
theorem nums_set (l : List Nat) (k x : Nat) : (nums l).set k (.int .u64 (x : Int)) = nums (l.set k x) := by
  unfold nums; rw [List.map_set]; rfl
theorem nums_take (l : List Nat) (k : Nat) : (nums l).take k = nums (l.take k) := by simp [nums, List.map_take]
/-- append(s, x...) of numbers. -/
theorem run_append_n (w : World) (base : Nat) (v y : Value) (l m : List Nat) (hown : Own w base 26 v (nums l)) (hy : Sl w y (nums m))
    (h63 : l.length + m.length ≤ 10000000) (hbase : base ≤ w.heap.size) :
    ∃ v' w', (Builtin.append_ #[29, 29] 29 #[v, y]).run Try.prog w = .ok v' w' ∧ Own w' base 26 v' (nums (l ++ m)) ∧ w.grownBy w' v.ownBlock := by
  obtain ⟨i0, hi0, hz0, hz1, hz2⟩ := info_parts info_u64
  rw [nums_append]
  exact run_append_sl w base 29 29 26 i0 _ 8 Try.underlying29 hi0 hz0 hz1 hz2 rfl v y (nums l) (nums m) hown hy (one_nums m) (by rw [nums_length, nums_length]; unfold maxLen; omega) (by rw [nums_length, nums_length]; omega) hbase
/-- make([]uint64, n) -/
theorem run_make_n (w : World) (n : Nat) (hn : n ≤ 1000000) :
    ∃ w', (Instr.makeSlice 29 (.int .i64 (n : Int)) (.int .i64 (n : Int))).run Try.prog w = .ok (.slice (some ⟨w.heap.size, 0, none⟩) n n) w' ∧
      Own w' w.heap.size 26 (.slice (some ⟨w.heap.size, 0, none⟩) n n) (nums (List.replicate n 0)) ∧ Below w.heap.size w w' := by
  obtain ⟨i0, hi0, hz0, hz1, hz2⟩ := info_parts info_u64
  obtain ⟨w', h1, h2, h3⟩ := run_make_full (P := Try.prog) w w.heap.size 29 26 i0 _ 1 Try.underlying29 hi0 hz0 hz1 .i64 .i64 n (by rw [hz2]; omega) (by unfold maxLen; omega) (Nat.le_refl _)
  refine ⟨w', h1, ?_, grownBy_below h3 (Nat.le_refl _) (by intro k hk; cases hk)⟩
  have e : (madeCells (Value.int .u64 0).cells (n * 1)).toList = nums (List.replicate n 0) := by
    have := toList_madeCells_one (.int .u64 0) (n * 1)
    rw [Nat.mul_one] at this ⊢
    have e2 : (Value.int .u64 0).cells = #[.int .u64 0] := rfl
    rw [e2, this]
    simp [nums, num64]
  rw [e] at h2
  unfold Own
  rw [nums_length, List.length_replicate]
  exact h2
theorem Own.cellN {w : World} {base g cap : Nat} {e : TypeId} {l : List Nat} (h : Own w base e (.slice (some ⟨g, 0, none⟩) l.length cap) (nums l)) (j c : Nat) (hj : l[j]? = some c) : w.cell? ⟨g, j, none⟩ = some (.int .u64 (c : Int)) := by
  unfold Own at h
  rw [nums_length] at h
  have hlt : j < l.length := (List.getElem?_eq_some_iff.1 hj).1
  rw [World.ownsRow.cellAt h j (by omega)]
  simp [nums, hj, num64]
theorem Own.frozenN {w : World} {base g cap : Nat} {e : TypeId} {l : List Nat} (h : Own w base e (.slice (some ⟨g, 0, none⟩) l.length cap) (nums l)) (j : Nat) : w.frozen? ⟨g, j, none⟩ = false := by
  unfold Own at h
  rw [nums_length] at h
  exact World.ownsRow.frozenAt h j
theorem Own.storeN {w : World} {base g cap : Nat} {e : TypeId} {l : List Nat} (h : Own w base e (.slice (some ⟨g, 0, none⟩) l.length cap) (nums l)) (j c : Nat) :
    Own (w.setCell ⟨g, j, none⟩ (.int .u64 (c : Int))) base e (.slice (some ⟨g, 0, none⟩) l.length cap) (nums (l.set j c)) := by
  have h' : Own w base e (.slice (some ⟨g, 0, none⟩) (nums l).length cap) (nums l) := by rw [nums_length]; exact h
  have := (h'.store j (.int .u64 (c : Int))).1
  rw [nums_set, nums_length, List.length_set] at this
  exact this
theorem Own.formN {w : World} {base : Nat} {e : TypeId} {v : Value} {l : List Nat} (h : Own w base e v (nums l)) (hn : 0 < l.length) : ∃ g cap, v = .slice (some ⟨g, 0, none⟩) l.length cap ∧ base ≤ g ∧ g < w.heap.size ∧ l.length ≤ cap := by
  have := Own.form h (by intro e; have h2 := congrArg List.length e; rw [nums_length] at h2; have h3 : l.length = 0 := h2; omega)
  rw [nums_length] at this
  exact this
/-- The call hands back numbers of its own. -/
def RetNums (w : World) (l : List Nat) (en : Ending) (w' : World) : Prop := ∃ v, en = .returned v ∧ Own w' w.heap.size 26 v (nums l) ∧ Below w.heap.size w w'
end Go.Proofs.Ytiemgmbjhllmbaa
