/-
  Entries as whole rows: loaded, stored and handed back at once, their cells never looked at.
-/
import Derived.Test.YtiemgmbjhllmbaaYEnTell
import Derived.Laws.Rows
import Derived.Great.Ranges
import Derived.Great.BuildSlice
set_option linter.unusedVariables false
namespace Go.Proofs.Ytiemgmbjhllmbaa
open Go.RowKit
theorem CellsAt.lt_of {w : World} {b i : Nat} {v : Value} (h : w.cell? ⟨b, i, none⟩ = some v) : b < w.heap.size := World.block_lt_of_cell? w ⟨b, i, none⟩ h
theorem Ch.drewL {ρ : Nat → Prop} {a b : World} (h : Ch ρ a.drew b) : Ch ρ a b := ⟨h.os, h.tape, h.output, h.size, h.block⟩
theorem Ch.monoR {ρ σ : Nat → Prop} {a b : World} (h : Ch ρ a b) (hs : ∀ k, ρ k → σ k) : Ch σ a b := ⟨h.os, h.tape, h.output, h.size, fun k hk hn => h.block k hk (fun e => hn (hs k e))⟩
theorem CellsAt.ch {w w' : World} {ρ : Nat → Prop} {b : Nat} {cs : List Value} {t : TypeId} (h : CellsAt w b cs t) (g : Ch ρ w w') (hn : ¬ ρ b) : CellsAt w' b cs t := (g.block _ h.lt hn).trans h
theorem setRow_facts {W : World} {X : Nat} {cs0 : List Value} {t : TypeId} (cs : List Value) (h : CellsAt W X cs0 t) : CellsAt (W.setRow X cs.toArray) X cs t ∧ Ch (fun j => j = X) W (W.setRow X cs.toArray) := by
  unfold CellsAt at h
  obtain ⟨hlt, hg⟩ := Array.getElem?_eq_some_iff.1 h
  refine ⟨?_, rfl, rfl, rfl, ?_, fun k hk hn => ?_⟩
  · unfold CellsAt; simp [World.setRow, Array.getElem_modify, hg, hlt]
  · simp [World.setRow]
  · simp only [World.setRow, Array.getElem?_modify]; rw [if_neg (fun e => hn e.symm)]
/-- A type of so many cells, a struct. -/
structure RowTy (P : Program) (ty : TypeId) (n : Nat) : Prop where
  desc : ∃ fs, P.underlying ty = some (.struct fs)
  size : (P.info? ty).map (·.size) = some n
def oneAll (cs : List Value) : Prop := cs.all (·.oneCell') = true
section
variable {P : Program} {W w' : World} {o : Oper} {a : Act} {ops : Array Oper}
theorem run_load_row {ty : TypeId} {n : Nat} (rt : RowTy P ty n) {g : Nat} {cs : List Value} {t : TypeId} (hg : CellsAt W g cs t) (hn : cs.length = n) : (loadVar ty ⟨g, 0, none⟩).run P W = .ok (.agg cs.toArray) W := by
  obtain ⟨fs, hu⟩ := rt.desc
  exact run_loadVar_row W g t ty cs.toArray (0, 0) _ hg hu rfl (by rw [rt.size]; simp [hn])
theorem exec_load {ty : TypeId} {n : Nat} (rt : RowTy P ty n) (x : Operand) (ho : o.op = .load ty x) {g : Nat} {cs : List Value} {t : TypeId} (hx : a.eval x = .pointer (some ⟨g, 0, none⟩)) (hg : CellsAt W g cs t) (hn : cs.length = n) : (execOp a.eval o).run P W = .ok (.value (.agg cs.toArray)) W := by
  unfold execOp
  simp only [ho, hx, Instr.loadAt, Instr.sureAddr, Sem.run_bind, Sem.run_pure, Result.andThen_ok, run_load_row rt hg hn]
theorem exec_store {ty : TypeId} {n : Nat} (rt : RowTy P ty n) (x y : Operand) (ho : o.op = .store ty x y) {g : Nat} {cs old : List Value} {t : TypeId} (hx : a.eval x = .pointer (some ⟨g, 0, none⟩)) (hy : a.eval y = .agg cs.toArray) (hg : CellsAt W g old t) (hn : cs.length = n) (hold : old.length = n) (h1 : oneAll cs) : (execOp a.eval o).run P W = .ok .skip (W.setRow g cs.toArray) := by
  unfold execOp
  simp only [ho, hx, hy, Instr.storeAt, Instr.sureAddr, Sem.run_bind, Sem.run_pure, Result.andThen_ok, run_storeVar_row W g t ty old.toArray cs.toArray hg (by rw [rt.size]; simp [hn]) (by simp [hn, hold]) (by simpa [oneAll] using h1)]
theorem opT_load {R : World → World → Prop} {V : Sp} {ty : TypeId} {n : Nat} (rt : RowTy P ty n) (x : Operand) (ho : o.op = .load ty x) (hgd : o.guard = none) {g : Nat} {cs : List Value} {t : TypeId} (hx : a.eval x = .pointer (some ⟨g, 0, none⟩)) (hg : CellsAt W g cs t) (hn : cs.length = n) (h : R W W ∧ V (.agg cs.toArray) W) : opT P R ops o a W V := by
  unfold opT
  rw [if_pos (by simp [Region.wanted, hgd]), exec_load rt x ho hx hg hn]
  exact h
theorem opG_load {V : Sp} {ty : TypeId} {n : Nat} (rt : RowTy P ty n) (x : Operand) (ho : o.op = .load ty x) (hgd : o.guard = none) {g : Nat} {cs : List Value} {t : TypeId} (hx : a.eval x = .pointer (some ⟨g, 0, none⟩)) (hg : CellsAt W g cs t) (hn : cs.length = n) (h : V (.agg cs.toArray) W) : opG P ops o a W V := by
  unfold opG
  rw [if_pos (by simp [Region.wanted, hgd]), exec_load rt x ho hx hg hn]
  exact ⟨Gr.refl _, h⟩
theorem opT_store {R : World → World → Prop} {V : Sp} {ty : TypeId} {n : Nat} (rt : RowTy P ty n) (x y : Operand) (ho : o.op = .store ty x y) (hgd : o.guard = none) {g : Nat} {cs old : List Value} {t : TypeId} (hx : a.eval x = .pointer (some ⟨g, 0, none⟩)) (hy : a.eval y = .agg cs.toArray) (hg : CellsAt W g old t) (hn : cs.length = n) (hold : old.length = n) (h1 : oneAll cs)
    (h : CellsAt (W.setRow g cs.toArray) g cs t → Ch (fun j => j = g) W (W.setRow g cs.toArray) → R W (W.setRow g cs.toArray) ∧ V undef (W.setRow g cs.toArray)) : opT P R ops o a W V := by
  unfold opT
  rw [if_pos (by simp [Region.wanted, hgd]), exec_store rt x y ho hx hy hg hn hold h1]
  obtain ⟨f1, f2⟩ := setRow_facts cs hg
  exact h f1 f2
theorem wpList_loadE {rest : List Oper} {Q : Exit → Act → World → Prop} {ty : TypeId} {n : Nat} (rt : RowTy P ty n) (x : Operand) (ho : o.op = .load ty x) (hgd : o.guard = none) {g : Nat} {cs : List Value} {t : TypeId} (hx : a.eval x = .pointer (some ⟨g, 0, none⟩)) (hg : CellsAt W g cs t) (hn : cs.length = n)
    (h : wpList P ops Q rest (a.put o.dst (.agg cs.toArray)) W) : wpList P ops Q (o :: rest) a W :=
  wpList_plain hgd fun _ hK => by
    unfold Oper.wp
    rw [exec_load rt x ho hx hg hn]
    exact hK _ _ h
theorem wpList_storeE {rest : List Oper} {Q : Exit → Act → World → Prop} {ty : TypeId} {n : Nat} (rt : RowTy P ty n) (x y : Operand) (ho : o.op = .store ty x y) (hgd : o.guard = none) {g : Nat} {cs old : List Value} {t : TypeId} (hx : a.eval x = .pointer (some ⟨g, 0, none⟩)) (hy : a.eval y = .agg cs.toArray) (hg : CellsAt W g old t) (hn : cs.length = n) (hold : old.length = n) (h1 : oneAll cs)
    (h : ∀ W', CellsAt W' g cs t → Ch (fun j => j = g) W W' → wpList P ops Q rest (a.put o.dst undef) W') : wpList P ops Q (o :: rest) a W :=
  wpList_plain hgd fun _ hK => by
    unfold Oper.wp
    rw [exec_store rt x y ho hx hy hg hn hold h1]
    obtain ⟨f1, f2⟩ := setRow_facts cs hg
    exact hK _ _ (h _ f1 f2)
/-- .. behind a guard that holds. -/
theorem wpList_loadW {rest : List Oper} {Q : Exit → Act → World → Prop} {ty : TypeId} {n : Nat} (rt : RowTy P ty n) (x : Operand) (ho : o.op = .load ty x) (hw : Region.wanted o (yielded ops a.tmps) = true) {g : Nat} {cs : List Value} {t : TypeId} (hx : a.eval x = .pointer (some ⟨g, 0, none⟩)) (hg : CellsAt W g cs t) (hn : cs.length = n)
    (h : wpList P ops Q rest (a.put o.dst (.agg cs.toArray)) W) : wpList P ops Q (o :: rest) a W :=
  BigFrame.wpList_want hw fun _ hK => by
    unfold Oper.wp
    rw [exec_load rt x ho hx hg hn]
    exact hK _ _ h
theorem wpList_boxE {rest : List Oper} {Q : Exit → Act → World → Prop} {ty : TypeId} (x : Operand) (ho : o.op = .box ty x) (hgd : o.guard = none) {cs : List Value} (hx : a.eval x = .agg cs.toArray)
    (h : ∀ W', CellsAt W' W.heap.size cs ty → Gr W W' → W'.heap.size = W.heap.size + 1 → wpList P ops Q rest (a.put o.dst (.pointer (some ⟨W.heap.size, 0, none⟩))) W') : wpList P ops Q (o :: rest) a W :=
  Go.Great.wpList_boxTo hgd ty x ho _ rfl W.heap.size rfl cs.toArray (by rw [hx]; rfl) (h _ (CellsAt.new _ _ _) ((Gr.refl W).alloc _) (by simp))
end
/-- What is handed back of a named result that is a row, and two more; one more. -/
theorem results_row3 {P : Program} {fn : Func} {p q r : Tmp} {ty : TypeId} {n : Nat} (rt : RowTy P ty n) (h : fn.results = #[.cell p ty, .tmp q, .tmp r]) (tmps : Array Value) (w : World) {g : Nat} {cs : List Value} {t : TypeId}
    (hp : tmps.getD p undef = .pointer (some ⟨g, 0, none⟩)) (hg : CellsAt w g cs t) (hn : cs.length = n) : (results fn tmps).run P w = .ok (.tuple #[.agg cs.toArray, tmps.getD q undef, tmps.getD r undef]) w := by
  have hp' : tmps[p]?.getD undef = .pointer (some ⟨g, 0, none⟩) := by simpa using hp
  simp [results, h, hp', asAddr, run_load_row rt hg hn]
theorem results_row2 {P : Program} {fn : Func} {p q : Tmp} {ty : TypeId} {n : Nat} (rt : RowTy P ty n) (h : fn.results = #[.cell p ty, .tmp q]) (tmps : Array Value) (w : World) {g : Nat} {cs : List Value} {t : TypeId}
    (hp : tmps.getD p undef = .pointer (some ⟨g, 0, none⟩)) (hg : CellsAt w g cs t) (hn : cs.length = n) : (results fn tmps).run P w = .ok (.tuple #[.agg cs.toArray, tmps.getD q undef]) w := by
  have hp' : tmps[p]?.getD undef = .pointer (some ⟨g, 0, none⟩) := by simpa using hp
  simp [results, h, hp', asAddr, run_load_row rt hg hn]
theorem entTy : RowTy Try.prog 39 23 := ⟨⟨_, Try.underlying39⟩, by kernel_rfl⟩
theorem entCells_len (x : EntD) (q : EntV) : (entCells x q).length = 23 := rfl
theorem rows_one {P : Nat → Prop} {w : World} {v : Value} {len n : Nat} {R : Nat → Nat → Value} (h : RowsP P w v len n R) : v.oneCell' = true := by obtain ⟨a, c, rfl⟩ := h.shape; rfl
theorem EntP.shapes {P : Nat → Prop} {w : World} {x : EntD} {q : EntV} (h : EntP P w x q) : ∃ da dc pa pc sa sc ea ec fa fc, q = ⟨.slice da (bytes x.op.h.data).length dc, .slice pa x.op.parts.length pc, .slice sa (nums x.item.stamp).length sc, .slice ea x.item.effs.length ec, .slice fa (nums x.frontier).length fc⟩ := by
  obtain ⟨h1, ⟨h2, h3⟩, h4⟩ := h
  obtain ⟨p1, p2⟩ := h1.parts
  obtain ⟨da, dc, e1⟩ := p1.1.oneCells
  obtain ⟨pa, pc, e2⟩ := p2.shape
  obtain ⟨sa, sc, e3⟩ := h2.1.oneCells
  obtain ⟨ea, ec, e4⟩ := h3.shape
  obtain ⟨fa, fc, e5⟩ := h4.1.oneCells
  obtain ⟨dv, pv, sv, ev, fv⟩ := q
  dsimp only at e1 e2 e3 e4 e5
  subst e1 e2 e3 e4 e5
  exact ⟨_, _, _, _, _, _, _, _, _, _, rfl⟩
theorem EntP.one {P : Nat → Prop} {w : World} {x : EntD} {q : EntV} (h : EntP P w x q) : oneAll (entCells x q) := by
  obtain ⟨h1, ⟨h2, h3⟩, h4⟩ := h
  obtain ⟨p1, p2⟩ := h1.parts
  have o1 := sl_one p1
  have o3 := sl_one h2
  have o5 := sl_one h4
  have o2 : q.pv.oneCell' = true := by obtain ⟨a, c, e⟩ := p2.shape; rw [e]; rfl
  have o4 : q.ev.oneCell' = true := by obtain ⟨a, c, e⟩ := h3.shape; rw [e]; rfl
  unfold oneAll entCells
  simp only [List.all_cons, List.all_nil, o1, o2, o3, o4, o5, Bool.and_true]
  rfl
def zeroL : List Value := [.int .u8 0, .int .u32 0, .int .u32 0, .int .i64 0, .int .u32 0, .int .u8 0, .string ⟨#[]⟩, .slice none 0 0, .int .i64 0, .bool false, .bool false, .slice none 0 0, .int .i64 0, .int .u64 0, .int .i64 0, .int .u64 0, .slice none 0 0, .slice none 0 0, .int .u32 0, .int .i64 0, .int .i64 0, .int .u64 0, .slice none 0 0]
theorem zeroL_len : zeroL.length = 23 := rfl
theorem zeroL_one : oneAll zeroL := rfl
theorem zeroL_cells : zeroL = entCells zeroX zeroQ := rfl
theorem built_ent (z : Int) : Try.prog.built 39 [(0, .int .u8 z)] = some #[.int .u8 z, .int .u32 0, .int .u32 0, .int .i64 0, .int .u32 0, .int .u8 0, .string ⟨#[]⟩, .slice none 0 0, .int .i64 0, .bool false, .bool false, .slice none 0 0, .int .i64 0, .int .u64 0, .int .i64 0, .int .u64 0, .slice none 0 0, .slice none 0 0, .int .u32 0, .int .i64 0, .int .i64 0, .int .u64 0, .slice none 0 0] := by kernel_rfl
theorem built_ent0 : Try.prog.built 39 [] = some zeroL.toArray := by kernel_rfl
def zeroCells : List Value := entCells zeroX zeroQ
theorem zeroCells_one : oneAll zeroCells := rfl
end Go.Proofs.Ytiemgmbjhllmbaa
