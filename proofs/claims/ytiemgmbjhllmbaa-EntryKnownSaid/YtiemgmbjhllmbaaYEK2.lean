/-
  Slices of effects and of operations that are written out or made.
-/
import Derived.Test.YtiemgmbjhllmbaaYEnRows
import Derived.Test.YtiemgmbjhllmbaaYG
set_option linter.unusedVariables false
set_option linter.unusedSimpArgs false
set_option maxRecDepth 100000
namespace Go.Proofs.Ytiemgmbjhllmbaa
open Go.RowKit
theorem rows_new (P : Nat → Prop) (w : World) (hP : P w.heap.size) (rs : List (List Value)) (k : Nat) (T : TypeId) (hr : ∀ r ∈ rs, r.length = k) : RowsP P (w.alloc (.cells rs.flatten.toArray T)) (.slice (some ⟨w.heap.size, 0, none⟩) rs.length rs.length) rs.length k (fun i j => (rs.getD i []).getD j (.bool false)) := by
  have hk := CellsAt.new w rs.flatten T
  refine ⟨⟨_, _, rfl, Nat.le_refl _, .inr ⟨_, 0, rfl, hk.lt, fun i hi j hj => ?_⟩⟩, .inr fun k hk => by injection hk with hk; exact hk ▸ hP⟩
  have hj2 : j < rs[i].length := by rw [hr _ (List.getElem_mem hi)]; exact hj
  dsimp only
  rw [hk.cell, Nat.zero_add, flatten_get hr i hi j hj2, List.getD_eq_getElem?_getD, List.getD_eq_getElem?_getD, List.getElem?_eq_getElem hi, Option.getD_some, List.getElem?_eq_getElem hj2, Option.getD_some]
theorem effs_new (P : Nat → Prop) (w : World) (hP : P w.heap.size) (es : List (EffD × Value)) (hp : ∀ p ∈ es, SlP P w p.2 (bytes p.1.node.data)) :
    EffsP P (w.alloc (.cells (es.map fun p => effCells p.1 p.2).flatten.toArray 31)) (.slice (some ⟨w.heap.size, 0, none⟩) es.length es.length) (es.map (·.1)) := by
  have hr := rows_new P w hP (es.map fun p => effCells p.1 p.2) 11 31 (fun r hr => by obtain ⟨p, _, rfl⟩ := List.mem_map.1 hr; rfl)
  rw [List.length_map] at hr
  refine ⟨_, by rw [List.length_map]; exact hr, fun i hi => ?_⟩
  rw [List.length_map] at hi
  refine ⟨es[i].2, ?_, fun j u hu => ?_⟩
  · rw [List.getElem_map]; exact (hp _ (List.getElem_mem hi)).gr ((Gr.refl w).alloc _)
  · rw [List.getElem_map] at hu
    (try dsimp only)
    rw [List.getD_eq_getElem?_getD, List.getD_eq_getElem?_getD, List.getElem?_map, List.getElem?_eq_getElem hi]
    simp [hu]
theorem ops_new (w : World) (os : List (OpD × Value × Value)) (hp : ∀ p ∈ os, OpP Any w p.1 p.2.1 p.2.2) :
    OpsP Any (w.alloc (.cells (os.map fun p => opCells p.1.h p.2.1 p.2.2).flatten.toArray 37)) (.slice (some ⟨w.heap.size, 0, none⟩) os.length os.length) (os.map (·.1)) := by
  have hr := rows_new Any w trivial (os.map fun p => opCells p.1.h p.2.1 p.2.2) 7 37 (fun r hr => by obtain ⟨p, _, rfl⟩ := List.mem_map.1 hr; rfl)
  rw [List.length_map] at hr
  refine ⟨_, fun i => (os.getD i (zeroO, .bool false, .bool false)).2.1, fun i => (os.getD i (zeroO, .bool false, .bool false)).2.2, by rw [List.length_map]; exact hr, fun i hi => ?_, fun i hi j u hu => ?_⟩
  · rw [List.length_map] at hi
    rw [List.getElem_map]
    have e : os.getD i (zeroO, .bool false, .bool false) = os[i] := by rw [List.getD_eq_getElem?_getD, List.getElem?_eq_getElem hi]; rfl
    dsimp only
    rw [e]
    exact (hp _ (List.getElem_mem hi)).gr ((Gr.refl w).alloc _)
  · rw [List.length_map] at hi
    rw [List.getElem_map] at hu
    have e : os.getD i (zeroO, .bool false, .bool false) = os[i] := by rw [List.getD_eq_getElem?_getD, List.getElem?_eq_getElem hi]; rfl
    dsimp only at hu
    rw [e] at hu
    (try dsimp only)
    rw [List.getD_eq_getElem?_getD, List.getD_eq_getElem?_getD, List.getElem?_map, List.getElem?_eq_getElem hi]
    simp [hu]
theorem run_make_rows (w : World) (t e : TypeId) (i0 : TypeInfo) (z : Value) (zc : List Value) (k bt : Nat) (ht : Try.prog.underlying t = some (.slice e)) (hi : Try.prog.info? e = some i0) (hz : i0.zero = some z) (hsz : i0.size = k) (hbt : i0.bytes = bt) (hzc : z.cells = zc.toArray) (hk : zc.length = k) (hk0 : 0 < k) (n : Nat) (hn : n ≤ 100) (hb : bt ≤ 1000) :
    ∃ w', (Instr.makeSlice t (.int .i64 (n : Int)) (.int .i64 (n : Int))).run Try.prog w = .ok (.slice (some ⟨w.heap.size, 0, none⟩) n n) w' ∧ RowsP (From w.heap.size) w' (.slice (some ⟨w.heap.size, 0, none⟩) n n) n k (fun _ j => zc.getD j (.bool false)) ∧ Gr w w' := by
  have hbn : bt * n ≤ 1000 * 100 := Nat.mul_le_mul hb hn
  obtain ⟨w', h1, h2, h3⟩ := run_make_full (P := Try.prog) w w.heap.size t e i0 z k ht hi hz hsz .i64 .i64 n (by rw [hbt]; omega) (by unfold maxLen; omega) (Nat.le_refl _)
  refine ⟨w', h1, ?_, grownBy_below h3 (Nat.le_refl _) (by intro k hk; cases hk)⟩
  obtain ⟨hl, h2⟩ := h2
  rcases h2 with ⟨h2, _⟩ | ⟨g, cap, cur, he, hg1, hh, _, _, hcs, hcur⟩
  · cases h2
  · injection he with e1 e2 e3
    injection e1 with e1
    injection e1 with e4 _
    subst e3 e4
    have hget : ∀ i, i < n * k → cur[i]? = (madeCells z.cells (n * k))[i]? := by
      intro i hi
      have h4 : cur.toList[i]? = (cur.toList.take (n * k))[i]? := by rw [List.getElem?_take_of_lt hi]
      rw [← Array.getElem?_toList, h4, hcur, Array.getElem?_toList]
    refine ⟨⟨_, _, rfl, Nat.le_refl _, .inr ⟨w.heap.size, 0, rfl, block_lt hh, fun i hi j hj => ?_⟩⟩, .inr fun k hk => by injection hk with hk; exact hk ▸ Nat.le_refl _⟩
    have hlt : i * k + j < n * k := by
      have : (i + 1) * k ≤ n * k := Nat.mul_le_mul_right k hi
      rw [Nat.add_mul] at this; omega
    rw [cell_of_block hh]
    show cur[0 + i * k + j]? = _
    rw [Nat.zero_add, hget _ hlt]
    simp only [madeCells, Array.getElem?_map, Array.getElem?_range]
    rw [if_pos hlt, hzc]
    have hm : (i * k + j) % zc.toArray.size = j := by
      rw [List.size_toArray, hk, Nat.add_comm, Nat.add_mul_mod_self_right]
      exact Nat.mod_eq_of_lt hj
    rw [Option.map_some, hm, List.getD_eq_getElem?_getD, List.getElem?_eq_getElem (by omega)]
    simp [Array.getElem!_eq_getD, Array.getD, hk, hj]
theorem run_make_effs (w : World) (n : Nat) (hn : n ≤ 100) :
    ∃ w', (Instr.makeSlice 32 (.int .i64 (n : Int)) (.int .i64 (n : Int))).run Try.prog w = .ok (.slice (some ⟨w.heap.size, 0, none⟩) n n) w' ∧ EffsP (From w.heap.size) w' (.slice (some ⟨w.heap.size, 0, none⟩) n n) (List.replicate n zeroE) ∧ Gr w w' := by
  obtain ⟨i0, hi0, hz0, hz1, hz2⟩ := info_parts info_effect
  obtain ⟨w', h1, h2, h3⟩ := run_make_rows w 32 31 i0 _ (effCells zeroE (.slice none 0 0)) 11 _ Try.underlying32 hi0 hz0 hz1 hz2 rfl rfl (by decide) n hn (by decide)
  refine ⟨w', h1, ⟨_, by rw [List.length_replicate]; exact h2, fun i hi => ⟨.slice none 0 0, ?_, fun j u hu => ?_⟩⟩, h3⟩
  · rw [List.getElem_replicate]; exact SlP.nil _ _ _ _
  · rw [List.getElem_replicate] at hu
    (try dsimp only)
    rw [List.getD_eq_getElem?_getD, hu]; rfl
theorem run_make_ops (w : World) (n : Nat) (hn : n ≤ 100) :
    ∃ w', (Instr.makeSlice 35 (.int .i64 (n : Int)) (.int .i64 (n : Int))).run Try.prog w = .ok (.slice (some ⟨w.heap.size, 0, none⟩) n n) w' ∧ OpsP Any w' (.slice (some ⟨w.heap.size, 0, none⟩) n n) (List.replicate n zeroO) ∧ Gr w w' := by
  obtain ⟨i0, hi0, hz0, hz1, hz2⟩ := info_parts info_op
  obtain ⟨w', h1, h2, h3⟩ := run_make_rows w 35 37 i0 _ (opCells zeroO.h (.slice none 0 0) (.slice none 0 0)) 7 _ Try.underlying35 hi0 hz0 hz1 hz2 rfl rfl (by decide) n hn (by decide)
  refine ⟨w', h1, ⟨_, fun _ => .slice none 0 0, fun _ => .slice none 0 0, by rw [List.length_replicate]; exact h2.mono (fun _ _ => trivial), fun i hi => ?_, fun i hi j u hu => ?_⟩, h3⟩
  · rw [List.getElem_replicate]; exact OpP.of (SlP.nil _ _ _ _) (OpsP.nil _ _ _ _)
  · rw [List.getElem_replicate] at hu
    (try dsimp only)
    rw [List.getD_eq_getElem?_getD, hu]; rfl
end Go.Proofs.Ytiemgmbjhllmbaa
