/-
  Slices of messages of package wan; slices of items that are made.
-/
import Derived.Test.YtgilijkmmcpfjaaZU
import Derived.Test.YtgilijkmmcpfjaaZD
import Derived.Test.YtgilijkmmcpfjaaZRMay
set_option linter.unusedVariables false
set_option linter.unusedSimpArgs false
set_option maxRecDepth 100000
namespace Go.Proofs.Ytgilijkmmcpfjaa
open Go.RowKit
def wRows (ps : List (WanD × W3)) : List (List Value) := ps.map fun p => wC p.1 p.2
/-- A slice of messages that fills its block. -/
def WansP (w : World) (v : Value) (xs : List WanD) : Prop := ∃ b ps, xs = ps.map Prod.fst ∧ v = .slice (some ⟨b, 0, none⟩) xs.length xs.length ∧ CellsAt w b (wRows ps).flatten 26 ∧ ∀ p ∈ ps, wP Any w p.1 p.2
theorem WansP.gr {w w' : World} {v : Value} {xs : List WanD} (h : WansP w v xs) (g : Gr w w') : WansP w' v xs := by
  obtain ⟨b, ps, h1, h2, h3, h4⟩ := h
  exact ⟨b, ps, h1, h2, h3.gr g, fun p hp => (h4 p hp).gr g⟩
theorem WansP.shape {w : World} {v : Value} {xs : List WanD} (h : WansP w v xs) : ∃ b, v = .slice (some ⟨b, 0, none⟩) xs.length xs.length := by
  obtain ⟨b, ps, h1, h2, _⟩ := h; exact ⟨b, h2⟩
theorem WansP.new (w : World) (ps : List (WanD × W3)) (hp : ∀ p ∈ ps, wP Any w p.1 p.2) : WansP (w.alloc (.cells (wRows ps).flatten.toArray 26)) (.slice (some ⟨w.heap.size, 0, none⟩) ps.length ps.length) (ps.map Prod.fst) :=
  ⟨w.heap.size, ps, rfl, by rw [List.length_map], CellsAt.new _ _ _, fun p h => (hp p h).gr ((Gr.refl w).alloc _)⟩
theorem WansP.row {w : World} {b : Nat} {xs : List WanD} (h : WansP w (.slice (some ⟨b, 0, none⟩) xs.length xs.length) xs) (k : Nat) (hk : k < xs.length) :
    ∃ q : W3, wP Any w xs[k] q ∧ b < w.heap.size ∧ ∀ j u, (wC xs[k] q)[j]? = some u → w.cell? ⟨b, k * 7 + j, none⟩ = some u := by
  obtain ⟨b', ps, rfl, h2, h3, h4⟩ := h
  injection h2 with h2
  injection h2 with h2
  injection h2 with h2
  subst h2
  have hk' : k < ps.length := by simpa using hk
  have e : (ps.map Prod.fst)[k] = ps[k].1 := by simp
  refine ⟨ps[k].2, by rw [e]; exact h4 _ (List.getElem_mem hk'), h3.lt, fun j u hu => ?_⟩
  rw [e] at hu
  have hr : ∀ r ∈ wRows ps, r.length = 7 := fun r hr => by
    obtain ⟨p, _, rfl⟩ := List.mem_map.1 hr; rfl
  have hk2 : k < (wRows ps).length := by simpa [wRows] using hk'
  have e2 : (wRows ps)[k] = wC ps[k].1 ps[k].2 := by simp [wRows]
  have hj : j < (wRows ps)[k].length := by
    rw [e2]
    exact (List.getElem?_eq_some_iff.1 hu).1
  rw [h3.cell, flatten_get hr k hk2 j hj]
  rw [List.getElem?_eq_getElem (by rw [e2] at hj; exact hj)] at hu
  simpa [wRows] using hu
theorem info_itemz : (Try.prog.info? 46).map (fun i => (i.zero, i.size, i.bytes)) = some (some (.agg #[.int .i64 0, .int .u64 0, .int .i64 0, .int .u64 0, .slice none 0 0, .slice none 0 0, .int .u32 0]), 7, 88) := by kernel_rfl
theorem run_make_items (w : World) (n : Nat) (hn : n ≤ 100) :
    ∃ w', (Instr.makeSlice 23 (.int .i64 (n : Int)) (.int .i64 (n : Int))).run Try.prog w = .ok (.slice (some ⟨w.heap.size, 0, none⟩) n n) w' ∧ ItemsP Any w' (.slice (some ⟨w.heap.size, 0, none⟩) n n) (List.replicate n zeroI) ∧ Gr w w' := by
  obtain ⟨i0, hi0, hz0, hz1, hz2⟩ := info_parts info_itemz
  obtain ⟨w', h1, h2, h3⟩ := run_make_full (P := Try.prog) w w.heap.size 23 46 i0 _ 7 Try.underlying23 hi0 hz0 hz1 .i64 .i64 n (by rw [hz2]; omega) (by unfold maxLen; omega) (Nat.le_refl _)
  refine ⟨w', h1, ?_, grownBy_below h3 (Nat.le_refl _) (by intro k hk; cases hk)⟩
  obtain ⟨hl, h2⟩ := h2
  rcases h2 with ⟨h2, _⟩ | ⟨g, cap, cur, he, hg1, hh, _, _, hcs, hcur⟩
  · cases h2
  · injection he with e1 e2 e3
    injection e1 with e1
    injection e1 with e4 _
    subst e3 e4
    have hget : ∀ i, i < n * 7 → cur[i]? = (madeCells (Value.agg #[.int .i64 0, .int .u64 0, .int .i64 0, .int .u64 0, .slice none 0 0, .slice none 0 0, .int .u32 0]).cells (n * 7))[i]? := by
      intro i hi
      have h4 : cur.toList[i]? = (cur.toList.take (n * 7))[i]? := by rw [List.getElem?_take_of_lt hi]
      rw [← Array.getElem?_toList, h4, hcur, Array.getElem?_toList]
    refine ⟨fun _ j => (itemCells zeroI (.slice none 0 0) (.slice none 0 0)).getD j (.bool false), ⟨⟨_, _, by rw [List.length_replicate], by rw [List.length_replicate]; exact Nat.le_refl _, .inr ⟨w.heap.size, 0, rfl, ?_, fun i hi j hj => ?_⟩⟩, .inr fun _ _ => trivial⟩, fun i hi => ⟨.slice none 0 0, .slice none 0 0, by rw [List.getElem_replicate]; exact ItemP.zero _ _, fun j u hu => ?_⟩⟩
    · exact block_lt hh
    · rw [List.length_replicate] at hi
      rw [cell_of_block hh]
      show cur[0 + i * 7 + j]? = _
      rw [hget _ (by omega)]
      simp only [madeCells, Value.cells, Array.getElem?_map, Array.getElem?_range]
      rw [if_pos (by omega)]
      have hm : (0 + i * 7 + j) % 7 = j := by omega
      have hj7 : j = 0 ∨ j = 1 ∨ j = 2 ∨ j = 3 ∨ j = 4 ∨ j = 5 ∨ j = 6 := by omega
      simp only [List.size_toArray, List.length_cons, List.length_nil, Option.map_some, Nat.zero_add, Nat.reduceAdd] at hm ⊢
      rw [hm]
      rcases hj7 with rfl | rfl | rfl | rfl | rfl | rfl | rfl <;> rfl
    · rw [List.getElem_replicate] at hu
      dsimp only
      rw [List.getD_eq_getElem?_getD, hu]; rfl
theorem items_new (w : World) (xs : List (ItemD × Value × Value)) (hp : ∀ p ∈ xs, ItemP Any w p.1 p.2.1 p.2.2) :
    ItemsP Any (w.alloc (.cells (xs.map fun p => itemCells p.1 p.2.1 p.2.2).flatten.toArray 46)) (.slice (some ⟨w.heap.size, 0, none⟩) xs.length xs.length) (xs.map (·.1)) := by
  have hr : ∀ r ∈ (xs.map fun p => itemCells p.1 p.2.1 p.2.2), r.length = 7 := fun r hr => by
    obtain ⟨p, _, rfl⟩ := List.mem_map.1 hr; rfl
  have hk := CellsAt.new w (xs.map fun p => itemCells p.1 p.2.1 p.2.2).flatten 46
  refine ⟨fun i j => ((xs.map fun p => itemCells p.1 p.2.1 p.2.2).getD i []).getD j (.bool false), ⟨⟨_, _, by rw [List.length_map], by rw [List.length_map]; exact Nat.le_refl _, .inr ⟨_, 0, rfl, hk.lt, fun i hi j hj => ?_⟩⟩, .inr fun _ _ => trivial⟩, fun i hi => ?_⟩
  · rw [List.length_map] at hi
    have hi2 : i < (xs.map fun p => itemCells p.1 p.2.1 p.2.2).length := by rw [List.length_map]; exact hi
    have hj2 : j < (xs.map fun p => itemCells p.1 p.2.1 p.2.2)[i].length := by rw [hr _ (List.getElem_mem hi2)]; exact hj
    dsimp only
    rw [hk.cell, Nat.zero_add, flatten_get hr i hi2 j hj2, List.getD_eq_getElem?_getD, List.getD_eq_getElem?_getD, List.getElem?_eq_getElem hi2, Option.getD_some, List.getElem?_eq_getElem hj2, Option.getD_some]
  · rw [List.length_map] at hi
    refine ⟨xs[i].2.1, xs[i].2.2, ?_, fun j u hu => ?_⟩
    · rw [List.getElem_map]; exact (hp _ (List.getElem_mem hi)).gr ((Gr.refl w).alloc _)
    · rw [List.getElem_map] at hu
      dsimp only
      rw [List.getD_eq_getElem?_getD, List.getD_eq_getElem?_getD, List.getElem?_map, List.getElem?_eq_getElem hi]
      simp [hu]
end Go.Proofs.Ytgilijkmmcpfjaa
