/-
  Blocks of one-cell elements, made by make, written by index: a function of the place.
-/
import Derived.Test.YtpcpijecibiibaaGreatRows
import Derived.Test.YtpcpijecibiibaaGreatZA
import Derived.Laws.OwnMore
set_option linter.unusedVariables false
namespace Go.Proofs.YtpcpijecibiibaaGreat
open Go.RowKit
def Arr (w : World) (g n : Nat) (t : TypeId) (f : Nat → Value) : Prop := ∃ c : Array Value, w.heap[g]? = some (.cells c t (0, 0)) ∧ c.size = n ∧ ∀ i, i < n → c[i]? = some (f i)
section
variable {w w' : World} {g n : Nat} {t : TypeId} {f : Nat → Value}
theorem Arr.lt (h : Arr w g n t f) : g < w.heap.size := by obtain ⟨c, h1, _⟩ := h; exact (Array.getElem?_eq_some_iff.1 h1).1
theorem Arr.cell (h : Arr w g n t f) (i : Nat) (hi : i < n) : w.cell? ⟨g, i, none⟩ = some (f i) := by
  obtain ⟨c, h1, h2, h3⟩ := h
  rw [cell_of_row w g i c t (0, 0) h1]
  exact h3 i hi
theorem Arr.frozen (h : Arr w g n t f) (i : Nat) : w.frozen? ⟨g, i, none⟩ = false := by
  obtain ⟨c, h1, h2, h3⟩ := h
  exact frozen_of_row w g i c t h1
theorem Arr.block (h : Arr w g n t f) (hb : w'.heap[g]? = w.heap[g]?) : Arr w' g n t f := by
  obtain ⟨c, h1, h2⟩ := h; exact ⟨c, hb.trans h1, h2⟩
theorem Arr.below (h : Arr w g n t f) (hg : Below w.heap.size w w') : Arr w' g n t f := h.block (hg.block g h.lt)
theorem Arr.ch {ρ : Nat → Prop} (h : Arr w g n t f) (hc : Ch ρ w w') (hn : ¬ ρ g) : Arr w' g n t f := h.block (hc.block g h.lt hn)
theorem Arr.set_ne (h : Arr w g n t f) {g' : Nat} (hne : g ≠ g') (i : Nat) (v : Value) : Arr (w.setCell ⟨g', i, none⟩ v) g n t f := h.block (Below.heap_setCell w ⟨g', i, none⟩ v g hne)
theorem Arr.set (h : Arr w g n t f) (i : Nat) (v : Value) (hi : i < n) : Arr (w.setCell ⟨g, i, none⟩ v) g n t (fun j => if j = i then v else f j) := by
  obtain ⟨c, h1, h2, h3⟩ := h
  refine ⟨c.setIfInBounds i v, ?_, by simpa using h2, fun j hj => ?_⟩
  · simp [World.setCell, Array.getElem?_modify, h1]
  · by_cases hji : j = i
    · subst hji
      rw [Array.getElem?_setIfInBounds_self_of_lt (by omega)]
      simp
    · rw [Array.getElem?_setIfInBounds_ne (fun e => hji e.symm)]
      simpa [hji] using h3 j hj
theorem Arr.congr (h : Arr w g n t f) {f' : Nat → Value} (hf : ∀ i, i < n → f i = f' i) : Arr w g n t f' := by
  obtain ⟨c, h1, h2, h3⟩ := h; exact ⟨c, h1, h2, fun i hi => by rw [h3 i hi, hf i hi]⟩
end
theorem run_make_arr (w : World) (t e : TypeId) (i : TypeInfo) (z : Value) (by_ : Nat) (ht : Tryz.prog.underlying t = some (.slice e)) (hi : Tryz.prog.info? e = some i) (hz : i.zero = some z)
    (hsize : i.size = 1) (hby : i.bytes = by_) (hzc : z.cells = #[z]) (n : Nat) (hb : by_ * n ≤ 281474976710656) (hn : n ≤ maxLen) :
    ∃ w', (Instr.makeSlice t (.int .i64 (n : Int)) (.int .i64 (n : Int))).run Tryz.prog w = .ok (.slice (some ⟨w.heap.size, 0, none⟩) n n) w' ∧ Arr w' w.heap.size n e (fun _ => z) ∧ Below w.heap.size w w' := by
  obtain ⟨w', h1, h2, h3⟩ := run_make_full (P := Tryz.prog) w w.heap.size t e i z 1 ht hi hz hsize .i64 .i64 n (by rw [hby]; exact hb) hn (Nat.le_refl _)
  refine ⟨w', h1, ?_, grownBy_below h3 (Nat.le_refl _) (by intro k hk; cases hk)⟩
  obtain ⟨hl, h2⟩ := h2
  rcases h2 with ⟨h2, _⟩ | ⟨g, cap, cur, he, _, hh, _, _, hcs, hcur⟩
  · cases h2
  · injection he with e1 e2 e3
    injection e1 with e1
    injection e1 with e4 _
    subst e3 e4
    refine ⟨cur, hh, by omega, fun j hj => ?_⟩
    rw [hzc, toList_madeCells_one] at hcur
    have h4 := congrArg (fun l : List Value => l[j]?) hcur
    simp only [List.getElem?_take, List.getElem?_replicate] at h4
    rw [if_pos (by omega), if_pos (by omega)] at h4
    simpa using h4
end Go.Proofs.YtpcpijecibiibaaGreat
