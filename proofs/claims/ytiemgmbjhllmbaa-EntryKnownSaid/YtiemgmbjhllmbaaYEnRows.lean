/-
  Whole rows at an index, slice literals of whole rows, slices of entries.
-/
import Derived.Test.YtiemgmbjhllmbaaYEnRow
import Derived.Test.YtiemgmbjhllmbaaYD
import Derived.Test.YtiemgmbjhllmbaaYA
set_option linter.unusedVariables false
set_option linter.unusedSimpArgs false
set_option maxRecDepth 100000
namespace Go.Proofs.Ytiemgmbjhllmbaa
open Go.RowKit
/-- Cells from a place on. -/
def CellsFrom (W : World) (g o : Nat) (cs : List Value) : Prop := ∀ j u, cs[j]? = some u → W.cell? ⟨g, o + j, none⟩ = some u
theorem CellsFrom.gr {W W' : World} {g o : Nat} {cs : List Value} (h : CellsFrom W g o cs) (hg : Gr W W') (hb : g < W.heap.size) : CellsFrom W' g o cs := fun j u hu => (hg.cell (p := ⟨g, o + j, none⟩) hb).trans (h j u hu)
section
variable {P : Program} {W w' : World} {o : Oper} {a : Act} {ops : Array Oper}
theorem run_load_at {ty : TypeId} {n : Nat} (rt : RowTy P ty n) {g i : Nat} {cs : List Value} (hg : CellsFrom W g i cs) (hn : cs.length = n) : (loadVar ty ⟨g, i, none⟩).run P W = .ok (.agg cs.toArray) W := by
  obtain ⟨fs, hu⟩ := rt.desc
  have hl : (loadCells ⟨g, i, none⟩ cs.length).run P W = .ok cs.toArray W :=
    run_loadCells_list (P := P) W ⟨g, i, none⟩ cs (fun j v hv => by
      have hadd : (⟨g, i, none⟩ : Addr).add j = ⟨g, i + j, none⟩ := by unfold Addr.add; split <;> simp_all
      rw [hadd]; exact hg j v hv)
  have hi := rt.size
  cases hq : P.info? ty with
  | none => simp [hq] at hi
  | some t =>
    have hs : t.size = cs.length := by rw [hn]; simpa [hq] using hi
    have hagg : (isAgg ty).run P W = .ok true W := by
      unfold isAgg
      rw [Sem.run_bind, run_underlying hu W]
      rfl
    simp [loadVar, Sem.run_bind, hagg, sizeOf, typeInfo, hq, hs, hl]
theorem exec_loadAt {ty : TypeId} {n : Nat} (rt : RowTy P ty n) (x : Operand) (ho : o.op = .load ty x) {g i : Nat} {cs : List Value} (hx : a.eval x = .pointer (some ⟨g, i, none⟩)) (hg : CellsFrom W g i cs) (hn : cs.length = n) : (execOp a.eval o).run P W = .ok (.value (.agg cs.toArray)) W := by
  unfold execOp
  simp only [ho, hx, Instr.loadAt, Instr.sureAddr, Sem.run_bind, Sem.run_pure, Result.andThen_ok, run_load_at rt hg hn]
theorem wpList_loadAt {rest : List Oper} {Q : Exit → Act → World → Prop} {ty : TypeId} {n : Nat} (rt : RowTy P ty n) (x : Operand) (ho : o.op = .load ty x) (hgd : o.guard = none) {g i : Nat} {cs : List Value} (hx : a.eval x = .pointer (some ⟨g, i, none⟩)) (hg : CellsFrom W g i cs) (hn : cs.length = n)
    (h : wpList P ops Q rest (a.put o.dst (.agg cs.toArray)) W) : wpList P ops Q (o :: rest) a W :=
  wpList_plain hgd fun _ hK => by
    unfold Oper.wp
    rw [exec_loadAt rt x ho hx hg hn]
    exact hK _ _ h
theorem opG_loadAt {V : Sp} {ty : TypeId} {n : Nat} (rt : RowTy P ty n) (x : Operand) (ho : o.op = .load ty x) (hw : Region.wanted o (yielded ops a.tmps) = true) {g i : Nat} {cs : List Value} (hx : a.eval x = .pointer (some ⟨g, i, none⟩)) (hg : CellsFrom W g i cs) (hn : cs.length = n) (h : V (.agg cs.toArray) W) : opG P ops o a W V := by
  unfold opG
  rw [if_pos hw, exec_loadAt rt x ho hx hg hn]
  exact ⟨Gr.refl _, h⟩
theorem opG_loadE {V : Sp} {ty : TypeId} {n : Nat} (rt : RowTy P ty n) (x : Operand) (ho : o.op = .load ty x) (hw : Region.wanted o (yielded ops a.tmps) = true) {g : Nat} {cs : List Value} {t : TypeId} (hx : a.eval x = .pointer (some ⟨g, 0, none⟩)) (hg : CellsAt W g cs t) (hn : cs.length = n) (h : V (.agg cs.toArray) W) : opG P ops o a W V := by
  unfold opG
  rw [if_pos hw, exec_load rt x ho hx hg hn]
  exact ⟨Gr.refl _, h⟩
theorem opG_build {V : Sp} (t : TypeId) (parts : Array (Nat × Operand)) (ho : o.op = .build t parts) (hgd : o.guard = none) {cells : Array Value} (hf : P.built t (parts.map fun (i, x) => (i, a.eval x)).toList = some cells) (h : V (.agg cells) W) : opG P ops o a W V := by
  unfold opG
  rw [if_pos (by simp [Region.wanted, hgd])]
  unfold execOp
  simp only [ho, Sem.run_bind, run_build W t _ _ hf, Result.andThen_ok]
  exact ⟨Gr.refl _, h⟩
/-- The element type of a slice literal of rows. -/
structure ElemTy (P : Program) (t e : TypeId) (k : Nat) : Prop where
  sl : P.underlying t = some (.slice e)
  info : (P.info? e).map (·.size) = some k
  zero : ((P.info? e).bind (·.zero)).map (·.cells.size) = some k
  pos : 0 < k
theorem fill_rows {t e : TypeId} {k : Nat} (et : ElemTy P t e k) (Es : List (List Value)) (parts : List (Nat × Value)) (hk : ∀ E ∈ Es, E.length = k) (hp : parts = (Es.zipIdx 0).map fun x => (x.2, .agg x.1.toArray)) (ie : TypeInfo) (z : Value) (hie : P.info? e = some ie) (hz : ie.zero = some z) :
    Instr.fill (fun i => some (i * ie.size, ie.size)) ((Array.range (Es.length * ie.size)).map (z.cells[· % z.cells.size]!)) parts = some Es.flatten.toArray := by
  have hs : ie.size = k := by have := et.info; rw [hie] at this; simpa using this
  rw [hs, hp]
  have h := Go.Great.fill_whole (s := k) et.pos (Es.map fun E => Value.agg E.toArray) ((Array.range (Es.length * k)).map (z.cells[· % z.cells.size]!)) (fun v hv => by obtain ⟨E, hE, rfl⟩ := List.mem_map.1 hv; simpa [Value.cells] using hk E hE) (by simp)
  have e1 : (((Es.map fun E => Value.agg E.toArray).zipIdx 0).map fun x => (x.2, x.1)) = (Es.zipIdx 0).map fun x => (x.2, Value.agg x.1.toArray) := by
    rw [List.zipIdx_map, List.map_map]; rfl
  have e2 : ((Es.map fun E => Value.agg E.toArray).flatMap fun v => v.cells.toList) = Es.flatten := by
    rw [List.flatMap_map]
    simp only [Value.cells]
    exact List.flatMap_id'
  rw [e1, e2] at h
  exact h
theorem exec_buildRows {t e : TypeId} {k : Nat} (et : ElemTy P t e k) (len : Nat) (parts : Array (Nat × Operand)) (ho : o.op = .buildSlice t len parts) (Es : List (List Value)) (hlen : len = Es.length) (hk : ∀ E ∈ Es, E.length = k) (hpos : 0 < Es.length) (hsm : Es.length * k ≤ 2 ^ 24)
    (hp : (parts.map fun (i, x) => (i, a.eval x)).toList = (Es.zipIdx 0).map fun x => (x.2, .agg x.1.toArray)) : (execOp a.eval o).run P W = .ok (.value (.slice (some ⟨W.heap.size, 0, none⟩) len len)) (W.alloc (.cells Es.flatten.toArray e)) := by
  subst hlen
  have hi := et.info
  have hzz := et.zero
  cases hie : P.info? e with
  | none => simp [hie] at hi
  | some ie =>
    have hs : ie.size = k := by simpa [hie] using hi
    cases hz : ie.zero with
    | none => simp [hie, hz] at hzz
    | some z =>
      have hf := fill_rows et Es _ hk hp ie z hie hz
      have hr := run_buildSlice (P := P) W t e Es.length (parts.map fun (i, x) => (i, a.eval x)) Es.flatten.toArray ie z et.sl hie hz (by rw [hs]; omega) (by rw [hs]; have := Nat.mul_pos hpos et.pos; omega) hf
      unfold execOp
      simp only [ho, Sem.run_bind, hr, Result.andThen_ok]
      rfl
theorem wpList_buildRows {rest : List Oper} {Q : Exit → Act → World → Prop} {t e : TypeId} {k : Nat} (et : ElemTy P t e k) (len : Nat) (parts : Array (Nat × Operand)) (ho : o.op = .buildSlice t len parts) (hgd : o.guard = none) (d : Option Tmp) (hd : o.dst = d) (Es : List (List Value)) (hlen : len = Es.length) (hk : ∀ E ∈ Es, E.length = k) (hpos : 0 < Es.length) (hsm : Es.length * k ≤ 2 ^ 24)
    (hp : (parts.map fun (i, x) => (i, a.eval x)).toList = (Es.zipIdx 0).map fun x => (x.2, .agg x.1.toArray))
    (h : wpList P ops Q rest (a.put d (.slice (some ⟨W.heap.size, 0, none⟩) len len)) (W.alloc (.cells Es.flatten.toArray e))) : wpList P ops Q (o :: rest) a W := by
  subst hd
  exact wpList_plain hgd fun _ hK => by
    unfold Oper.wp
    rw [exec_buildRows et len parts ho Es hlen hk hpos hsm hp]
    exact hK _ _ h
theorem opG_buildRows {V : Sp} {t e : TypeId} {k : Nat} (et : ElemTy P t e k) (len : Nat) (parts : Array (Nat × Operand)) (ho : o.op = .buildSlice t len parts) (hgd : o.guard = none) (Es : List (List Value)) (hlen : len = Es.length) (hk : ∀ E ∈ Es, E.length = k) (hpos : 0 < Es.length) (hsm : Es.length * k ≤ 2 ^ 24)
    (hp : (parts.map fun (i, x) => (i, a.eval x)).toList = (Es.zipIdx 0).map fun x => (x.2, .agg x.1.toArray))
    (h : V (.slice (some ⟨W.heap.size, 0, none⟩) len len) (W.alloc (.cells Es.flatten.toArray e))) : opG P ops o a W V := by
  unfold opG
  rw [if_pos (by simp [Region.wanted, hgd]), exec_buildRows et len parts ho Es hlen hk hpos hsm hp]
  exact ⟨(Gr.refl W).alloc _, h⟩
end
/-- A slice of entries. -/
def EntsP (P : Nat → Prop) (w : World) (v : Value) (xs : List EntD) : Prop :=
  ∃ R, RowsP P w v xs.length 23 R ∧ ∀ i (h : i < xs.length), ∃ q, EntP P w xs[i] q ∧ ∀ j u, (entCells xs[i] q)[j]? = some u → R i j = u
theorem EntsP.keep {P : Nat → Prop} {w w' : World} {v : Value} {es : List EntD} (h : EntsP P w v es) (k : Keep P w w') : EntsP P w' v es := by
  obtain ⟨R, h1, h2⟩ := h
  exact ⟨R, h1.keep k, fun i hi => by obtain ⟨q, h3, h4⟩ := h2 i hi; exact ⟨q, h3.keep k, h4⟩⟩
theorem EntsP.gr {P : Nat → Prop} {w w' : World} {v : Value} {es : List EntD} (h : EntsP P w v es) (k : Gr w w') : EntsP P w' v es := h.keep (Keep.of_gr k)
theorem EntsP.shape {P : Nat → Prop} {w : World} {v : Value} {es : List EntD} (h : EntsP P w v es) : ∃ a cap, v = .slice a es.length cap := by
  obtain ⟨R, h1, _⟩ := h; exact h1.shape
theorem EntsP.at {P : Nat → Prop} {w : World} {v : Value} {es : List EntD} (h : EntsP P w v es) (k : Nat) (hk : k < es.length) :
    ∃ B o c q, v = .slice (some ⟨B, o, none⟩) es.length c ∧ B < w.heap.size ∧ EntP P w es[k] q ∧ CellsFrom w B (o + k * 23) (entCells es[k] q) := by
  obtain ⟨R, ⟨⟨a, cap, rfl, hcap, hr⟩, _⟩, h2⟩ := h
  obtain ⟨B, o, rfl, hB, hc⟩ := hr.resolve_left (by omega)
  obtain ⟨q, h3, h4⟩ := h2 k hk
  refine ⟨B, o, cap, q, rfl, hB, h3, fun j u hu => ?_⟩
  have hj : j < 23 := by
    have := (List.getElem?_eq_some_iff.1 hu).1
    rw [entCells_len] at this; exact this
  rw [hc k hk j hj, h4 j u hu]
theorem ents_new (w : World) (xs : List (EntD × EntV)) (hp : ∀ p ∈ xs, EntP Any w p.1 p.2) :
    EntsP Any (w.alloc (.cells (xs.map fun p => entCells p.1 p.2).flatten.toArray 39)) (.slice (some ⟨w.heap.size, 0, none⟩) xs.length xs.length) (xs.map (·.1)) := by
  have hr : ∀ r ∈ (xs.map fun p => entCells p.1 p.2), r.length = 23 := fun r hr => by
    obtain ⟨p, _, rfl⟩ := List.mem_map.1 hr; rfl
  have hk := CellsAt.new w (xs.map fun p => entCells p.1 p.2).flatten 39
  refine ⟨fun i j => ((xs.map fun p => entCells p.1 p.2).getD i []).getD j (.bool false), ⟨⟨_, _, by rw [List.length_map], by rw [List.length_map]; exact Nat.le_refl _, .inr ⟨_, 0, rfl, hk.lt, fun i hi j hj => ?_⟩⟩, .inr fun _ _ => trivial⟩, fun i hi => ?_⟩
  · rw [List.length_map] at hi
    have hi2 : i < (xs.map fun p => entCells p.1 p.2).length := by rw [List.length_map]; exact hi
    have hj2 : j < (xs.map fun p => entCells p.1 p.2)[i].length := by rw [hr _ (List.getElem_mem hi2)]; exact hj
    dsimp only
    rw [hk.cell, Nat.zero_add, flatten_get hr i hi2 j hj2, List.getD_eq_getElem?_getD, List.getD_eq_getElem?_getD, List.getElem?_eq_getElem hi2, Option.getD_some, List.getElem?_eq_getElem hj2, Option.getD_some]
  · rw [List.length_map] at hi
    refine ⟨xs[i].2, ?_, fun j u hu => ?_⟩
    · rw [List.getElem_map]; exact (hp _ (List.getElem_mem hi)).gr ((Gr.refl w).alloc _)
    · rw [List.getElem_map] at hu
      dsimp only
      rw [List.getD_eq_getElem?_getD, List.getD_eq_getElem?_getD, List.getElem?_map, List.getElem?_eq_getElem hi]
      simp [hu]
end Go.Proofs.Ytiemgmbjhllmbaa
