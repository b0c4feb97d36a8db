/-
  Blocks of cells that are stored into whole; operations of drawn regions whose run is known.
-/
import Derived.Test.YtcpkbngoecpnkaaRows
import Derived.Test.YtcpkbngoecpnkaaRowsOwn
import Derived.Test.YtcpkbngoecpnkaaTurnTail
import Derived.Laws.Tables
set_option linter.unusedVariables false
namespace Go.Proofs.Ytcpkbngoecpnkaa
open Go.RowKit

def CellsAt (w : World) (b : Nat) (cs : Array Value) (t : TypeId) : Prop := w.heap[b]? = some (.cells cs t (0, 0))
theorem CellsAt.new (w : World) (cs : Array Value) (t : TypeId) : CellsAt (w.alloc (.cells cs t)) w.heap.size cs t := heap_alloc_new w _
theorem CellsAt.newAt (w : World) (cs : Array Value) (t : TypeId) {B : Nat} (hB : B = w.heap.size) : CellsAt (w.alloc (.cells cs t)) B cs t := by rw [hB]; exact CellsAt.new w cs t
theorem CellsAt.lt {w : World} {b : Nat} {cs : Array Value} {t : TypeId} (h : CellsAt w b cs t) : b < w.heap.size := (Array.getElem?_eq_some_iff.1 h).1
theorem CellsAt.gr {w w' : World} {b : Nat} {cs : Array Value} {t : TypeId} (h : CellsAt w b cs t) (g : Gr w w') : CellsAt w' b cs t := (g.block _ h.lt).trans h
theorem CellsAt.block {w w' : World} {b : Nat} {cs : Array Value} {t : TypeId} (h : CellsAt w b cs t) (e : w'.heap[b]? = w.heap[b]?) : CellsAt w' b cs t := e.trans h
theorem CellsAt.ch {w w' : World} {ρ : Nat → Prop} {b : Nat} {cs : Array Value} {t : TypeId} (h : CellsAt w b cs t) (g : Ch ρ w w') (hn : ¬ ρ b) : CellsAt w' b cs t := (g.block _ h.lt hn).trans h
theorem CellsAt.cell {w : World} {b : Nat} {cs : Array Value} {t : TypeId} (h : CellsAt w b cs t) (j : Nat) : w.cell? ⟨b, j, none⟩ = cs[j]? := by
  unfold CellsAt at h
  simp [World.cell?, h]
theorem CellsAt.frozen {w : World} {b : Nat} {cs : Array Value} {t : TypeId} (h : CellsAt w b cs t) (j : Nat) : w.frozen? ⟨b, j, none⟩ = false := frozen_of_row w b j cs t h
theorem CellsAt.set {w : World} {b : Nat} {cs : Array Value} {t : TypeId} (h : CellsAt w b cs t) (i : Nat) (v : Value) : CellsAt (w.setCell ⟨b, i, none⟩ v) b (cs.setIfInBounds i v) t := by
  obtain ⟨hlt, hg⟩ := Array.getElem?_eq_some_iff.1 h
  unfold CellsAt World.setCell
  simp [Array.getElem_modify, hg, hlt]
theorem cells_type {w : World} {b : Nat} {c c' : Array Value} {t t' : TypeId} {f f' : Nat × Nat} (h : w.heap[b]? = some (.cells c t f)) (h' : w.heap[b]? = some (.cells c' t' f')) : t = t' := by
  rw [h] at h'
  injection h' with h'
  injection h'
theorem cell_lt {W : World} {b i : Nat} {v : Value} (h : W.cell? ⟨b, i, Option.none⟩ = some v) : b < W.heap.size := by
  rcases Nat.lt_or_ge b W.heap.size with h1 | h1
  · exact h1
  · simp [World.cell?, Array.getElem?_eq_none h1] at h
theorem Gr.cell' {W W' : World} (g : Gr W W') {b i : Nat} {v : Value} (h : W.cell? ⟨b, i, Option.none⟩ = some v) : W'.cell? ⟨b, i, Option.none⟩ = W.cell? ⟨b, i, Option.none⟩ := g.cell (p := ⟨b, i, Option.none⟩) (cell_lt h)
theorem Gr.cellT {W W' : World} (g : Gr W W') {b i : Nat} {v : Value} (h : W.cell? ⟨b, i, Option.none⟩ = some v) : W'.cell? ⟨b, i, Option.none⟩ = some v := (g.cell' h).trans h
theorem Gr.drew0 {W W' : World} (g : Gr W.drew W') {b i : Nat} {v : Value} (h : W.cell? ⟨b, i, Option.none⟩ = some v) : W'.cell? ⟨b, i, Option.none⟩ = some v := by
  have g2 : Gr W W' := Gr.trans ((Gr.refl W).drew) g
  rw [g2.cell' h]; exact h
theorem Ch.drew0 {ρ : Nat → Prop} {W W' : World} (g : Ch ρ W.drew W') {b i : Nat} {v : Value} (h : W.cell? ⟨b, i, Option.none⟩ = some v) (hn : ¬ ρ b) : W'.cell? ⟨b, i, Option.none⟩ = some v :=
  (g.cell (p := ⟨b, i, Option.none⟩) (cell_lt h) hn).trans h
theorem Ch.cellT {ρ : Nat → Prop} {W W' : World} (g : Ch ρ W W') {b i : Nat} {v : Value} (h : W.cell? ⟨b, i, Option.none⟩ = some v) (hn : ¬ ρ b) : W'.cell? ⟨b, i, Option.none⟩ = some v :=
  (g.cell (p := ⟨b, i, Option.none⟩) (cell_lt h) hn).trans h
theorem Ch.mono {ρ σ : Nat → Prop} {a b : World} (h : Ch ρ a b) (hs : ∀ k, ρ k → σ k) : Ch σ a b := ⟨h.os, h.tape, h.output, h.size, fun k hk hn => h.block k hk (fun e => hn (hs k e))⟩
theorem Ch.drewL {ρ : Nat → Prop} {a b : World} (h : Ch ρ a.drew b) : Ch ρ a b := ⟨h.os, h.tape, h.output, h.size, h.block⟩
/-- Only what ρ names, or what is new, may be changed. -/
theorem Ch.transN {ρ : Nat → Prop} {a b c : World} {σ : Nat → Prop} (h : Ch ρ a b) (k : Ch σ b c) (hs : ∀ j, σ j → j < a.heap.size → ρ j) : Ch ρ a c :=
  ⟨k.os.trans h.os, k.tape.trans h.tape, k.output.trans h.output, Nat.le_trans h.size k.size, fun j hj hn => (k.block j (Nat.lt_of_lt_of_le hj h.size) (fun e => hn (hs j e hj))).trans (h.block j hj hn)⟩
theorem ch_setCell (w : World) (b i : Nat) (v : Value) : Ch (fun j => j = b) w (w.setCell ⟨b, i, none⟩ v) :=
  ⟨rfl, rfl, rfl, by simp [World.setCell], fun k hk hn => Below.heap_setCell w ⟨b, i, none⟩ v k hn⟩
/-! ### Stores of whole blocks -/
theorem setRow_facts {W : World} {X : Nat} {cs0 : Array Value} {t : TypeId} (cs : Array Value) (h : CellsAt W X cs0 t) : CellsAt (W.setRow X cs) X cs t ∧ Ch (fun j => j = X) W (W.setRow X cs) := by
  obtain ⟨hlt, hg⟩ := Array.getElem?_eq_some_iff.1 h
  refine ⟨?_, rfl, rfl, rfl, ?_, fun k hk hn => ?_⟩
  · unfold CellsAt; simp [World.setRow, Array.getElem_modify, hg, hlt]
  · simp [World.setRow]
  · simp only [World.setRow, Array.getElem?_modify]; rw [if_neg (fun e => hn e.symm)]
section
variable {P : Program} {W w' : World} {o : Oper} {a : Act} {ops : Array Oper}
theorem exec_append {t : TypeId} {v y v' : Value} (hr : (Builtin.append_ #[t, t] o.type #[v, y]).run P W = .ok v' w') (s x : Operand)
    (ho : o.op = .call { callee := .builtin .append, args := #[s, x], argTypes := #[t, t] }) (hs : a.eval s = v) (hx : a.eval x = y) : (execOp a.eval o).run P W = .ok (.value v') w' := by
  unfold execOp
  simp only [ho, resolve, invoke, builtin, Sem.run_bind, Sem.run_pure, Result.andThen_ok, List.map_toArray, List.map_cons, List.map_nil, hs, hx, hr]
theorem opG_run_append {V : Sp} {t : TypeId} {v y v' : Value} (hr : (Builtin.append_ #[t, t] o.type #[v, y]).run P W = .ok v' w') (hgd : o.guard = none) (s x : Operand)
    (ho : o.op = .call { callee := .builtin .append, args := #[s, x], argTypes := #[t, t] }) (hs : a.eval s = v) (hx : a.eval x = y) (h1 : Gr W w') (h2 : V v' w') : opG P ops o a W V := by
  unfold opG
  rw [if_pos (by simp [Region.wanted, hgd]), exec_append hr s x ho hs hx]
  exact ⟨h1, h2⟩
theorem opT_run_append {R : World → World → Prop} {V : Sp} {t : TypeId} {v y v' : Value} (hr : (Builtin.append_ #[t, t] o.type #[v, y]).run P W = .ok v' w') (hgd : o.guard = none) (s x : Operand)
    (ho : o.op = .call { callee := .builtin .append, args := #[s, x], argTypes := #[t, t] }) (hs : a.eval s = v) (hx : a.eval x = y) (h1 : R W w') (h2 : V v' w') : opT P R ops o a W V := by
  unfold opT
  rw [if_pos (by simp [Region.wanted, hgd]), exec_append hr s x ho hs hx]
  exact ⟨h1, h2⟩
theorem exec_store (ty : TypeId) (x y : Operand) (ho : o.op = .store ty x y) {g : Nat} {cells old : Array Value} {t : TypeId} (hx : a.eval x = .pointer (some ⟨g, 0, none⟩)) (hy : a.eval y = .agg cells)
    (hg : CellsAt W g old t) (hi : (P.info? ty).map (·.size) = some cells.size) (hold : old.size = cells.size) (h1 : cells.all (·.oneCell') = true) : (execOp a.eval o).run P W = .ok .skip (W.setRow g cells) := by
  unfold execOp
  simp only [ho, hx, hy, Instr.storeAt, Instr.sureAddr, Sem.run_bind, Sem.run_pure, Result.andThen_ok, run_storeVar_row W g t ty old cells hg hi hold h1]
theorem opT_run_store {R : World → World → Prop} {V : Sp} (ty : TypeId) (x y : Operand) (ho : o.op = .store ty x y) (hgd : o.guard = none) {g : Nat} {cells old : Array Value} {t : TypeId} (hx : a.eval x = .pointer (some ⟨g, 0, none⟩)) (hy : a.eval y = .agg cells)
    (hg : CellsAt W g old t) (hi : (P.info? ty).map (·.size) = some cells.size) (hold : old.size = cells.size) (h1 : cells.all (·.oneCell') = true)
    (h : CellsAt (W.setRow g cells) g cells t → Ch (fun j => j = g) W (W.setRow g cells) → R W (W.setRow g cells) ∧ V undef (W.setRow g cells)) : opT P R ops o a W V := by
  unfold opT
  rw [if_pos (by simp [Region.wanted, hgd]), exec_store ty x y ho hx hy hg hi hold h1]
  obtain ⟨f1, f2⟩ := setRow_facts cells hg
  exact h f1 f2
/-- A store of a whole block. -/
theorem wpList_store_all {rest : List Oper} {Q : Exit → Act → World → Prop} (ty : TypeId) (x y : Operand) (ho : o.op = .store ty x y) (hgd : o.guard = none) {g : Nat} {cells old : Array Value} {t : TypeId} (hx : a.eval x = .pointer (some ⟨g, 0, none⟩)) (hy : a.eval y = .agg cells)
    (hg : CellsAt W g old t) (hi : (P.info? ty).map (·.size) = some cells.size) (hold : old.size = cells.size) (h1 : cells.all (·.oneCell') = true)
    (h : ∀ W', CellsAt W' g cells t → Ch (fun j => j = g) W W' → wpList P ops Q rest (a.put o.dst undef) W') : wpList P ops Q (o :: rest) a W :=
  wpList_plain hgd fun _ hK => by
    unfold Oper.wp
    rw [exec_store ty x y ho hx hy hg hi hold h1]
    obtain ⟨f1, f2⟩ := setRow_facts cells hg
    exact hK _ _ (h _ f1 f2)
end
end Go.Proofs.Ytcpkbngoecpnkaa
