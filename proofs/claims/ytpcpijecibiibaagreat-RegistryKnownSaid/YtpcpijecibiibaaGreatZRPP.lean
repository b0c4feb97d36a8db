/-
  Of the document: what puts numbers, texts, flags behind bytes that may have room: what is handed back lies where the bytes lay, or is new.
  Of the document: what puts sessions, stamps, operations behind bytes.
  Of the document: what puts operations, items behind bytes.
  Of the document: what puts items behind bytes.
  Of the document: the bytes of an entry.
-/
import Derived.Test.YtpcpijecibiibaaGreatZF
import Derived.Test.YtpcpijecibiibaaGreatZE
import Derived.Test.YtpcpijecibiibaaGreatZB
import Derived.Test.YtpcpijecibiibaaGreatZC
import Derived.Maps.AppendAt
import Derived.Test.YtpcpijecibiibaaGreatZEnPut
import Derived.Test.YtpcpijecibiibaaGreatZEnPutI
import Derived.Test.YtpcpijecibiibaaGreatZEnRow
section
set_option linter.unusedVariables false
set_option maxRecDepth 100000
namespace Go.Proofs.YtpcpijecibiibaaGreat
open Go.RowKit
/-- What is put behind bytes v: it lies in their block, or in a new one. -/
structure App (w : World) (B : Nat) (v : Value) (L : List UInt8) (v' : Value) (w' : World) : Prop where
  own : Own w' B 5 v' (bytes L)
  grown : w.grownBy w' v.ownBlock
  blk : ∀ k, v'.ownBlock = some k → v.ownBlock = some k ∨ w.heap.size ≤ k
theorem App.refl {w : World} {B : Nat} {v : Value} {L : List UInt8} (h : Own w B 5 v (bytes L)) : App w B v L v w := ⟨h, ⟨rfl, rfl, rfl, Nat.le_refl _, fun _ _ _ => rfl⟩, fun _ hk => .inl hk⟩
theorem App.trans {w w1 w2 : World} {B : Nat} {v v1 v2 : Value} {L1 L2 : List UInt8} (h : App w B v L1 v1 w1) (k : App w1 B v1 L2 v2 w2) : App w B v L2 v2 w2 := by
  refine ⟨k.own, ⟨k.grown.os.trans h.grown.os, k.grown.tape.trans h.grown.tape, k.grown.output.trans h.grown.output, Nat.le_trans h.grown.size k.grown.size, fun j hj hn => ?_⟩, fun j hj => ?_⟩
  · rw [k.grown.block j (Nat.lt_of_lt_of_le hj h.grown.size) (fun e => ?_), h.grown.block j hj hn]
    rcases h.blk j e.symm with h1 | h1
    · exact hn h1.symm
    · omega
  · rcases k.blk j hj with h1 | h1
    · exact h.blk j h1
    · exact .inr (Nat.le_trans h.grown.size h1)
theorem App.grL {w w1 w2 : World} {B : Nat} {v v2 : Value} {L : List UInt8} (g : Gr w w1) (k : App w1 B v L v2 w2) : App w B v L v2 w2 :=
  ⟨k.own, ⟨k.grown.os.trans g.os, k.grown.tape.trans g.tape, k.grown.output.trans g.output, Nat.le_trans g.size k.grown.size, fun j hj hn => (k.grown.block j (Nat.lt_of_lt_of_le hj g.size) hn).trans (g.block j hj)⟩, fun j hj => (k.blk j hj).imp id (Nat.le_trans g.size)⟩
theorem App.grR {w w1 w2 : World} {B : Nat} {v v1 : Value} {L : List UInt8} (h : App w B v L v1 w1) (g : Gr w1 w2) : App w B v L v1 w2 :=
  ⟨h.own.gr g, ⟨g.os.trans h.grown.os, g.tape.trans h.grown.tape, g.output.trans h.grown.output, Nat.le_trans h.grown.size g.size, fun j hj hn => (g.block j (Nat.lt_of_lt_of_le hj h.grown.size)).trans (h.grown.block j hj hn)⟩, h.blk⟩
/-- What lies below B stays. -/
theorem App.keep {w w1 : World} {B : Nat} {v v1 : Value} {L : List UInt8} (h : App w B v L v1 w1) (hv : ∀ k, v.ownBlock = some k → B ≤ k) : Keep (fun k => k < B) w w1 := ⟨h.grown.size, fun b hb hlt => h.grown.block b hlt (fun e => by have := hv b e.symm; omega)⟩
theorem App.ge {w w1 : World} {B : Nat} {v v1 : Value} {L : List UInt8} (h : App w B v L v1 w1) : ∀ k, v1.ownBlock = some k → B ≤ k := h.own.ownBlock_ge
theorem App.lt {w w1 : World} {B : Nat} {v v1 : Value} {L : List UInt8} (h : App w B v L v1 w1) : ∀ k, v1.ownBlock = some k → k < w1.heap.size := fun k hk => (World.ownsRow.lt h.own k hk).2
def RetApp (w : World) (B : Nat) (v : Value) (L : List UInt8) (e : Ending) (w' : World) : Prop := ∃ v', e = .returned v' ∧ App w B v L v' w'
theorem run_append_c (w : World) (B : Nat) (v y : Value) (l m : List UInt8) (hown : Own w B 5 v (bytes l)) (hy : Sl w y (bytes m)) (h63 : l.length + m.length ≤ 140737488355328) (hB : B ≤ w.heap.size) :
    ∃ v' w', (Builtin.append_ #[31, 31] 31 #[v, y]).run Tryz.prog w = .ok v' w' ∧ App w B v (l ++ m) v' w' := by
  obtain ⟨i0, hi0, hz0, hz1, hz2⟩ := info_parts info_u8
  obtain ⟨a, cap, hy', _, hc⟩ := hy
  cases a with
  | none =>
    have hm : m = [] := by
      rcases hc with h | ⟨b, off, h, _⟩
      · have : (bytes m).length = 0 := by rw [h]; rfl
        rw [bytes_length] at this
        exact List.eq_nil_of_length_eq_zero this
      · cases h
    subst hm hy'
    have hb0 : (bytes ([] : List UInt8)).length = 0 := rfl
    refine ⟨v, w, ?_, by rw [List.append_nil]; exact App.refl hown⟩
    rcases hown.2 with ⟨rfl, h0⟩ | ⟨g, cap', cur, rfl, _, _, hnc, _⟩
    · simp [Builtin.append_, run_underlying Tryz.underlying31, sizeOf, typeInfo, hi0, Builtin.lenOf, Builtin.firstCells, hb0]
    · simp [Builtin.append_, run_underlying Tryz.underlying31, sizeOf, typeInfo, hi0, Builtin.lenOf, Builtin.firstCells, hb0, hnc, storeCells]
  | some ad =>
    subst hy'
    have hcells : ∀ j u, (bytes m)[j]? = some u → w.cell? (ad.add j) = some u := by
      intro j u hu
      rcases hc with h | ⟨b, off, h, _, hcell⟩
      · rw [h] at hu; simp at hu
      · injection h with h
        subst h
        have hj : j < (bytes m).length := (List.getElem?_eq_some_iff.1 hu).1
        have hadd : (⟨b, off, none⟩ : Addr).add j = ⟨b, off + j, none⟩ := by unfold Addr.add; split <;> simp_all
        rw [hadd, hcell j hj, ← hu, List.getElem?_eq_getElem hj]
    obtain ⟨v', w', hr, h2, h3, _, h5⟩ := run_append_own_at (P := Tryz.prog) (ty := 31) w B 31 5 i0 _ 1 1 Tryz.underlying31 hi0 hz0 hz1 hz2 rfl (by decide) v (bytes l).length (bytes l) hown ad (bytes m).length cap (bytes m) (by simp) hcells (one_bytes m) (by rw [bytes_length, bytes_length]; unfold maxLen; omega) (by rw [bytes_length, bytes_length]; omega) hB
    refine ⟨v', w', hr, ?_, h3, fun k hk => ?_⟩
    · unfold Own
      rw [bytes_append, List.length_append]
      exact h2
    · rcases h5 with h5 | h5
      · exact .inl (h5 ▸ hk)
      · rw [h5] at hk; injection hk with hk; exact .inr (by omega)
/-! ### Regions that draw: the state of the bytes handed on -/
def rhoOf (v0 : Value) : Nat → Prop := fun k => v0.ownBlock = some k
def StU (B : Nat) (v0 : Value) (L : Nat → List UInt8) (us : List Value) (U : Nat → Prop) (W : World) : Prop := Own W B 5 (us.getLastD v0) (bytes (L us.length)) ∧ ∀ k, (us.getLastD v0).ownBlock = some k → v0.ownBlock = some k ∨ U k
theorem StU.gr {B : Nat} {v0 : Value} {L : Nat → List UInt8} : ∀ us U W W', Gr W W' → StU B v0 L us U W → StU B v0 L us U W' := fun us U W W' g h => ⟨h.1.gr g, h.2⟩
theorem last_snoc (us : List Value) (v v0 : Value) : (us ++ [v]).getLastD v0 = v := by simp [List.getLastD_eq_getLast?]
theorem StU.user {B : Nat} {v0 : Value} {L : Nat → List UInt8} {us : List Value} {U : Nat → Prop} {W W' : World} {v' : Value} (h : StU B v0 L us U W) (k : App W B (us.getLastD v0) (L (us.length + 1)) v' W') : ChU (rhoOf v0) U W W' ∧ StU B v0 L (us ++ [v']) (newU U W W') W' := by
  refine ⟨⟨k.grown.os, k.grown.tape, k.grown.output, k.grown.size, fun j hj hn => k.grown.block j hj (fun e => hn ?_)⟩, ?_, ?_⟩
  · rcases h.2 j e.symm with h1 | h1
    · exact .inl h1
    · exact .inr h1
  · rw [last_snoc, List.length_append]
    exact k.own
  · rw [last_snoc]
    intro j hj
    rcases k.blk j hj with h1 | h1
    · rcases h.2 j h1 with h2 | h2
      · exact .inl h2
      · exact .inr (.inl h2)
    · exact .inr (.inr ⟨h1, k.lt j hj⟩)
theorem StU.fin {B : Nat} {v0 : Value} {L : Nat → List UInt8} {us : List Value} {U : Nat → Prop} {w W : World} (h : StU B v0 L us U W) (hW : Ch (rhoOf v0) w W) (hU : InU w U W) : App w B v0 (L us.length) (us.getLastD v0) W :=
  ⟨h.1, ⟨hW.os, hW.tape, hW.output, hW.size, fun k hk hn => hW.block k hk (fun e => hn (Eq.symm e))⟩, fun k hk => (h.2 k hk).imp id (fun hu => (hU k hu).1)⟩
/-- A word: a slice that reads as bytes and that no user has made. -/
def SlU (v0 : Value) (l : List UInt8) : Su := fun v U W => Sl W v (bytes l) ∧ ∀ k, v.ownBlock = some k → k < W.heap.size ∧ v0.ownBlock ≠ some k ∧ ¬ U k
theorem SlU.mono (v0 : Value) (l : List UInt8) : MonoU (rhoOf v0) (SlU v0 l) := by
  refine ⟨fun v U W W' g h => ⟨h.1.below g, fun k hk => ⟨Nat.lt_of_lt_of_le (h.2 k hk).1 g.size, (h.2 k hk).2⟩⟩, fun v U W W' hU g h => ⟨h.1.ch g (fun k hk e => ?_), fun k hk => ⟨Nat.lt_of_lt_of_le (h.2 k hk).1 g.size, (h.2 k hk).2.1, fun e => ?_⟩⟩⟩
  · rcases e with e | e
    · exact (h.2 k hk).2.1 e
    · exact (h.2 k hk).2.2 e
  · rcases e with e | e
    · exact (h.2 k hk).2.2 e
    · have := (h.2 k hk).1; omega
abbrev TU : Su := fun _ _ _ => True
theorem TU.mono (ρ : Nat → Prop) : MonoU ρ TU := ⟨fun _ _ _ _ _ _ => trivial, fun _ _ _ _ _ _ _ => trivial⟩
section
variable {P : Program} {W w' : World} {o : Oper} {a : Act} {ops : Array Oper}
theorem exec_append {t : TypeId} {v y v' : Value} (hr : (Builtin.append_ #[t, t] o.type #[v, y]).run P W = .ok v' w') (s x : Operand)
    (ho : o.op = .call { callee := .builtin .append, args := #[s, x], argTypes := #[t, t] }) (hs : a.eval s = v) (hx : a.eval x = y) : (execOp a.eval o).run P W = .ok (.value v') w' := by
  unfold execOp
  simp only [ho, resolve, invoke, builtin, Sem.run_bind, Sem.run_pure, Result.andThen_ok, List.map_toArray, List.map_cons, List.map_nil, hs, hx, hr]
theorem opT_append {R : World → World → Prop} {V : Sp} {t : TypeId} {v y v' : Value} (hr : (Builtin.append_ #[t, t] o.type #[v, y]).run P W = .ok v' w') (hgd : o.guard = none) (s x : Operand)
    (ho : o.op = .call { callee := .builtin .append, args := #[s, x], argTypes := #[t, t] }) (hs : a.eval s = v) (hx : a.eval x = y) (h : R W w' ∧ V v' w') : opT P R ops o a W V := by
  unfold opT
  rw [if_pos (by simp [Region.wanted, hgd]), exec_append hr s x ho hs hx]
  exact h
end
theorem opT_hide {P : Program} {R : World → World → Prop} {ops : Array Oper} {o : Oper} {a : Act} {W : World} {V : Sp} (h : ∀ VV : Sp, (∀ v W', V v W' → VV v W') → opT P R ops o a W VV) : opT P R ops o a W V := h V (fun _ _ h => h)
/-- A literal slice of one byte. -/
theorem be1_byte (x : Nat) (hx : x < 256) : bytes (be 1 x) = [.int .u8 (x : Int)] := by
  have h := val_be1 x hx
  have hl := be_length 1 x
  obtain ⟨c, hc⟩ := List.length_eq_one_iff.1 hl
  rw [hc] at h ⊢
  have : c.toNat = x := by simpa [val] using h
  simp [bytes, byte, this]
theorem sl_byte (w : World) (x : Nat) (hx : x < 256) : Sl (w.alloc (.cells #[.int .u8 (x : Int)] 5)) (.slice (some ⟨w.heap.size, 0, none⟩) 1 1) (bytes (be 1 x)) := by
  rw [be1_byte x hx]
  have h : Own (w.alloc (.cells #[.int .u8 (x : Int)] 5)) w.heap.size 5 (.slice (some ⟨w.heap.size, 0, none⟩) 1 1) [.int .u8 (x : Int)] := World.ownsRow_lit w #[.int .u8 (x : Int)] 1 (Nat.le_refl _) (by decide) rfl
  exact h.sl
/-! ### Numbers, texts, flags -/
end Go.Proofs.YtpcpijecibiibaaGreat
end
section
set_option linter.unusedVariables false
set_option linter.unusedSimpArgs false
set_option maxRecDepth 100000
namespace Go.Proofs.YtpcpijecibiibaaGreat
open Go.RowKit
theorem run_bytes_new {P : Program} (w : World) (src dst e : TypeId) (l : List UInt8) (hs : P.underlying src = some .string) (hd : P.underlying dst = some (.slice e)) (he : P.underlying e = some (.int .u8)) :
    ∃ v w', (convert src dst (.string ⟨l.toArray⟩)).run P w = .ok v w' ∧ Sl w' v (bytes l) ∧ Below w.heap.size w w' ∧ ∀ k, v.ownBlock = some k → k = w.heap.size ∧ w.heap.size < w'.heap.size := by
  refine ⟨_, _, Lib.run_convert_string_bytes (P := P) w src dst e ⟨l.toArray⟩ hs hd he, ?_, ?_, ?_⟩
  · have hsz : (⟨l.toArray⟩ : ByteArray).size = l.length := rfl
    refine ⟨some ⟨w.heap.size, 0, none⟩, grownCap w (⟨l.toArray⟩ : ByteArray).size 0 e, by rw [bytes_length, hsz], by rw [bytes_length, ← hsz]; exact grownCap_ge _ _ _ _, .inr ⟨w.heap.size, 0, rfl, ?_, fun k hk => ?_⟩⟩
    · rw [Lib.bytesWorld_size]; omega
    · rw [bytes_length] at hk
      rw [Nat.zero_add, Lib.bytesWorld_cell w e ⟨l.toArray⟩ k hk]
      simp [bytes, byte, List.getD, List.getElem?_eq_getElem hk]
  · exact ⟨rfl, rfl, rfl, by rw [Lib.bytesWorld_size]; omega, fun k hk => Lib.bytesWorld_at_old w e _ k hk⟩
  · intro k hk
    have : some w.heap.size = some k := hk
    injection this with this
    exact ⟨this.symm, by rw [Lib.bytesWorld_size]; omega⟩
theorem SlU.new {v0 : Value} {l : List UInt8} {w : World} {U : Nat → Prop} {W W' : World} {v : Value} (h : Sl W' v (bytes l)) (hk : ∀ k, v.ownBlock = some k → k = W.heap.size ∧ W.heap.size < W'.heap.size) (hv : ∀ k, v0.ownBlock = some k → k < w.heap.size) (hw : w.heap.size ≤ W.heap.size) (hU : InU w U W) : SlU v0 l v U W' :=
  ⟨h, fun k e => by
    obtain ⟨rfl, h2⟩ := hk k e
    refine ⟨h2, fun e2 => ?_, fun e2 => ?_⟩
    · have := hv _ e2; omega
    · have := (hU _ e2).2; omega⟩
theorem SlU.byte {v0 : Value} {w : World} {U : Nat → Prop} {W : World} (x : Nat) (hx : x < 256) (hv : ∀ k, v0.ownBlock = some k → k < w.heap.size) (hw : w.heap.size ≤ W.heap.size) (hU : InU w U W) : SlU v0 (be 1 x) (.slice (some ⟨W.heap.size, 0, none⟩) 1 1) U (W.alloc (.cells #[.int .u8 (x : Int)] 5)) :=
  SlU.new (sl_byte W x hx) (fun k e => by
    have : some W.heap.size = some k := e
    injection this with this
    exact ⟨this.symm, by simp⟩) hv hw hU
theorem Sl.numsAt' {w : World} {v : Value} {xs : List Nat} (h : Sl w v (YtpcpijecibiibaaGreat.nums xs)) : ∃ a cap, v = .slice a xs.length cap ∧ xs.length ≤ cap ∧ True := by
  obtain ⟨a, cap, e, hc, _⟩ := h
  rw [nums_length] at e hc
  exact ⟨a, cap, e, hc, trivial⟩
theorem Sl.numAt {w : World} {a : Option Addr} {n cap : Nat} {xs : List Nat} (h : Sl w (.slice a n cap) (YtpcpijecibiibaaGreat.nums xs)) (k : Nat) (hk : k < xs.length) : ∃ b off, a = some ⟨b, off, none⟩ ∧ w.cell? ⟨b, off + k, none⟩ = some (.int .u64 (xs[k] : Int)) := by
  obtain ⟨a', cap', e, hc, h⟩ := h
  injection e with e1 e2 e3
  subst e1
  rcases h with h | ⟨b, off, rfl, _, hcell⟩
  · have h0 : (YtpcpijecibiibaaGreat.nums xs).length = 0 := by rw [h]; rfl
    rw [nums_length] at h0; omega
  · refine ⟨b, off, rfl, ?_⟩
    have := hcell k (by rw [nums_length]; exact hk)
    rw [this]
    simp [YtpcpijecibiibaaGreat.nums, num64]
/-- Slices that lie below B stay. -/
theorem SlP.at {B : Nat} {w W : World} {v : Value} {xs : List Value} (h : SlP (fun k => k < B) w v xs) (k : Keep (fun k => k < B) w W) : Sl W v xs := (h.keep k).1
theorem keep_rho {B : Nat} {v0 : Value} {w W : World} (h : Ch (rhoOf v0) w W) (hv : ∀ k, v0.ownBlock = some k → B ≤ k) : Keep (fun k => k < B) w W := Keep.of_ch h (fun b h1 h2 => by have := hv b h2; omega)
theorem rho_ne {v0 : Value} {b B : Nat} (hb : B ≤ b) (hv : ∀ k, v0.ownBlock = some k → k < B) : ¬ rhoOf v0 b := fun e => by have := hv b e; omega
theorem CellsAt.chR {w W : World} {v0 : Value} {b B : Nat} {cs : List Value} {t : TypeId} (h : CellsAt w b cs t) (g : Ch (rhoOf v0) w W) (hb : B ≤ b) (hv : ∀ k, v0.ownBlock = some k → k < B) : CellsAt W b cs t := (g.block _ h.lt (rho_ne hb hv)).trans h
end Go.Proofs.YtpcpijecibiibaaGreat
end
section
set_option linter.unusedVariables false
set_option linter.unusedSimpArgs false
set_option maxRecDepth 100000
namespace Go.Proofs.YtpcpijecibiibaaGreat
open Go.RowKit
theorem opB_flat (h : OpH) : opB (.mk h []) = headB h ++ be 8 0 := by rw [opB_mk, opsB_nil, List.append_nil]; rfl
theorem flat_one {o : OpD} (h : o.parts = []) : opB o = headB o.h ++ be 8 0 := by
  obtain ⟨h0, ps⟩ := o
  replace h : ps = [] := h
  subst h
  exact opB_flat h0
theorem headB_ge (h : OpH) : h.path.length + h.data.length ≤ (headB h).length := by rw [headB_length]; omega
theorem opsB_mem {ps : List OpD} (k : Nat) (hk : k < ps.length) : (opsB (ps.take k)).length + (opB ps[k]).length ≤ (opsB ps).length := by
  have h1 := congrArg List.length (opsB_append (ps.take k) (ps.drop k))
  rw [List.take_append_drop, List.drop_eq_getElem_cons hk, opsB_cons, List.length_append, List.length_append] at h1
  omega
theorem opsB_next (ps : List OpD) (k : Nat) (hk : k < ps.length) : opsB (ps.take (k + 1)) = opsB (ps.take k) ++ opB ps[k] := by
  rw [List.take_add_one, List.getElem?_eq_getElem hk, opsB_append]; simp [opsB_cons, opsB_nil]
end Go.Proofs.YtpcpijecibiibaaGreat
end
section
set_option linter.unusedVariables false
set_option linter.unusedSimpArgs false
set_option maxRecDepth 100000
namespace Go.Proofs.YtpcpijecibiibaaGreat
open Go.RowKit
theorem effTy : RowTy Tryz.prog 147 11 := ⟨⟨_, Tryz.underlying147⟩, by kernel_rfl⟩
theorem nodeTy : RowTy Tryz.prog 145 9 := ⟨⟨_, Tryz.underlying145⟩, by kernel_rfl⟩
/-- The bytes that are handed on, in a world. -/
structure Cur (B : Nat) (w : World) (u : Value) (L : List UInt8) : Prop where
  own : Own w B 5 u (bytes L)
  base : B ≤ w.heap.size
theorem Cur.lt {B : Nat} {w : World} {u : Value} {L : List UInt8} (h : Cur B w u L) : ∀ k, u.ownBlock = some k → k < w.heap.size := fun k hk => (World.ownsRow.lt h.own k hk).2
theorem Cur.ge {B : Nat} {w : World} {u : Value} {L : List UInt8} (h : Cur B w u L) : ∀ k, u.ownBlock = some k → B ≤ k := h.own.ownBlock_ge
theorem Cur.gr {B : Nat} {w w' : World} {u : Value} {L : List UInt8} (h : Cur B w u L) (g : Gr w w') : Cur B w' u L := ⟨h.own.gr g, Nat.le_trans h.base g.size⟩
theorem App.cur {w w' : World} {B : Nat} {v v' : Value} {L : List UInt8} (h : App w B v L v' w') (hB : B ≤ w.heap.size) : Cur B w' v' L := ⟨h.own, Nat.le_trans hB h.grown.size⟩
theorem App.cells {w w' : World} {B : Nat} {v v' : Value} {L : List UInt8} (h : App w B v L v' w') {b : Nat} {cs : List Value} {t : TypeId} (k : CellsAt w b cs t) (hn : v.ownBlock ≠ some b) : CellsAt w' b cs t ∧ v'.ownBlock ≠ some b :=
  ⟨(h.grown.block b k.lt (fun e => hn e.symm)).trans k, fun e => by
    rcases h.blk b e with h1 | h1
    · exact hn h1
    · have := k.lt; omega⟩
theorem CellsAt.rho {w W : World} {v : Value} {b : Nat} {cs : List Value} {t : TypeId} (h : CellsAt w b cs t) (hn : v.ownBlock ≠ some b) (g : Ch (rhoOf v) w.drew W) : CellsAt W b cs t := ((h.gr (Gr.refl w).drew).ch g hn)
theorem flatEff_le (es : List EffD) (k : Nat) (hk : k < es.length) : ((es.take k).flatMap effB).length + (effB es[k]).length ≤ (es.flatMap effB).length := effsFlat_le es k hk
theorem flatEff_next (es : List EffD) (k : Nat) (hk : k < es.length) : (es.take (k + 1)).flatMap effB = (es.take k).flatMap effB ++ effB es[k] := by
  rw [List.take_add_one, List.getElem?_eq_getElem hk, List.flatMap_append]; simp
theorem flatEff_ge (es : List EffD) : es.length ≤ (es.flatMap effB).length := effsFlat_ge es
end Go.Proofs.YtpcpijecibiibaaGreat
end
section
set_option linter.unusedVariables false
set_option linter.unusedSimpArgs false
set_option maxRecDepth 100000
namespace Go.Proofs.YtpcpijecibiibaaGreat
open Go.RowKit
theorem App.ret {w w2 W : World} {B : Nat} {v0 v : Value} {L : List UInt8} (h : App w2 B v0 L v W) (hv : ∀ k, v0.ownBlock = some k → w.heap.size ≤ k) (g : Gr w w2) : RetSl w L (.returned v) W :=
  ⟨v, rfl, h.own.sl, ⟨h.grown.os.trans g.os, h.grown.tape.trans g.tape, h.grown.output.trans g.output, Nat.le_trans g.size h.grown.size, fun k hk => (h.grown.block k (Nat.lt_of_lt_of_le hk g.size) (fun e => by have := hv k e.symm; omega)).trans (g.block k hk)⟩⟩
theorem EntP.below {w : World} {x : EntD} {q : EntV} {B : Nat} (h : EntP Any w x q) (hB : w.heap.size ≤ B) : EntP (fun k => k < B) w x q := h.monoLt fun k _ hk => Nat.lt_of_lt_of_le hk hB
theorem tellB_eq (x : EntD) (n : Nat) (h : x.kind = n) : tellB x = be 1 n ++ (kindP n).flatMap (partB x) := by subst h; rfl
end Go.Proofs.YtpcpijecibiibaaGreat
end
