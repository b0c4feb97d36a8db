/-
  Of the document: what puts numbers, texts, flags behind bytes that may have room: what is handed back lies where the bytes lay, or is new.
-/
import Derived.Test.YtgilijkmmcpfjaaZF
import Derived.Test.YtgilijkmmcpfjaaZE
import Derived.Test.YtgilijkmmcpfjaaZB
import Derived.Test.YtgilijkmmcpfjaaZC
import Derived.Maps.AppendAt
set_option linter.unusedVariables false
set_option maxRecDepth 100000
namespace Go.Proofs.Ytgilijkmmcpfjaa
open Go.RowKit
/-- What is put behind bytes v: it lies in their block, or in a new one. -/
structure App (w : World) (B : Nat) (v : Value) (L : List UInt8) (v' : Value) (w' : World) : Prop where
  own : Own w' B 5 v' (bytes L)
  grown : w.grownBy w' v.ownBlock
  blk : ∀ k, v'.ownBlock = some k → v.ownBlock = some k ∨ w.heap.size ≤ k
theorem App.refl {w : World} {B : Nat} {v : Value} {L : List UInt8} (h : Own w B 5 v (bytes L)) : App w B v L v w := ⟨h, ⟨rfl, rfl, rfl, Nat.le_refl _, fun _ _ _ => rfl⟩, fun _ hk => .inl hk⟩
theorem App.trans {w w1 w2 : World} {B : Nat} {v v1 v2 : Value} {L1 L2 : List UInt8} (h : App w B v L1 v1 w1) (k : App w1 B v1 L2 v2 w2) : App w B v L2 v2 w2 := by
  refine ⟨k.own, ⟨k.grown.os.trans h.grown.os, k.grown.tape.trans h.grown.tape, k.grown.output.trans h.grown.output, Nat.le_trans h.grown.size k.grown.size, fun j hj hn => ?_⟩, fun j hj => ?_⟩
  · rw [k.grown.block j (Nat.lt_of_lt_of_le hj h.grown.size) (fun e => ?_), h.grown.block j hj hn]
    rcases h.blk j e.symm with h1 | h1
    · exact hn h1.symm
    · omega
  · rcases k.blk j hj with h1 | h1
    · exact h.blk j h1
    · exact .inr (Nat.le_trans h.grown.size h1)
theorem App.grL {w w1 w2 : World} {B : Nat} {v v2 : Value} {L : List UInt8} (g : Gr w w1) (k : App w1 B v L v2 w2) : App w B v L v2 w2 :=
  ⟨k.own, ⟨k.grown.os.trans g.os, k.grown.tape.trans g.tape, k.grown.output.trans g.output, Nat.le_trans g.size k.grown.size, fun j hj hn => (k.grown.block j (Nat.lt_of_lt_of_le hj g.size) hn).trans (g.block j hj)⟩, fun j hj => (k.blk j hj).imp id (Nat.le_trans g.size)⟩
theorem App.grR {w w1 w2 : World} {B : Nat} {v v1 : Value} {L : List UInt8} (h : App w B v L v1 w1) (g : Gr w1 w2) : App w B v L v1 w2 :=
  ⟨h.own.gr g, ⟨g.os.trans h.grown.os, g.tape.trans h.grown.tape, g.output.trans h.grown.output, Nat.le_trans h.grown.size g.size, fun j hj hn => (g.block j (Nat.lt_of_lt_of_le hj h.grown.size)).trans (h.grown.block j hj hn)⟩, h.blk⟩
/-- What lies below B stays. -/
theorem App.keep {w w1 : World} {B : Nat} {v v1 : Value} {L : List UInt8} (h : App w B v L v1 w1) (hv : ∀ k, v.ownBlock = some k → B ≤ k) : Keep (fun k => k < B) w w1 := ⟨h.grown.size, fun b hb hlt => h.grown.block b hlt (fun e => by have := hv b e.symm; omega)⟩
theorem App.ge {w w1 : World} {B : Nat} {v v1 : Value} {L : List UInt8} (h : App w B v L v1 w1) : ∀ k, v1.ownBlock = some k → B ≤ k := h.own.ownBlock_ge
theorem App.lt {w w1 : World} {B : Nat} {v v1 : Value} {L : List UInt8} (h : App w B v L v1 w1) : ∀ k, v1.ownBlock = some k → k < w1.heap.size := fun k hk => (World.ownsRow.lt h.own k hk).2
def RetApp (w : World) (B : Nat) (v : Value) (L : List UInt8) (e : Ending) (w' : World) : Prop := ∃ v', e = .returned v' ∧ App w B v L v' w'
theorem run_append_c (w : World) (B : Nat) (v y : Value) (l m : List UInt8) (hown : Own w B 5 v (bytes l)) (hy : Sl w y (bytes m)) (h63 : l.length + m.length ≤ 140737488355328) (hB : B ≤ w.heap.size) :
    ∃ v' w', (Builtin.append_ #[28, 28] 28 #[v, y]).run Try.prog w = .ok v' w' ∧ App w B v (l ++ m) v' w' := by
  obtain ⟨i0, hi0, hz0, hz1, hz2⟩ := info_parts info_u8
  obtain ⟨a, cap, hy', _, hc⟩ := hy
  cases a with
  | none =>
    have hm : m = [] := by
      rcases hc with h | ⟨b, off, h, _⟩
      · have : (bytes m).length = 0 := by rw [h]; rfl
        rw [bytes_length] at this
        exact List.eq_nil_of_length_eq_zero this
      · cases h
    subst hm hy'
    have hb0 : (bytes ([] : List UInt8)).length = 0 := rfl
    refine ⟨v, w, ?_, by rw [List.append_nil]; exact App.refl hown⟩
    rcases hown.2 with ⟨rfl, h0⟩ | ⟨g, cap', cur, rfl, _, _, hnc, _⟩
    · simp [Builtin.append_, run_underlying Try.underlying28, sizeOf, typeInfo, hi0, Builtin.lenOf, Builtin.firstCells, hb0]
    · simp [Builtin.append_, run_underlying Try.underlying28, sizeOf, typeInfo, hi0, Builtin.lenOf, Builtin.firstCells, hb0, hnc, storeCells]
  | some ad =>
    subst hy'
    have hcells : ∀ j u, (bytes m)[j]? = some u → w.cell? (ad.add j) = some u := by
      intro j u hu
      rcases hc with h | ⟨b, off, h, _, hcell⟩
      · rw [h] at hu; simp at hu
      · injection h with h
        subst h
        have hj : j < (bytes m).length := (List.getElem?_eq_some_iff.1 hu).1
        have hadd : (⟨b, off, none⟩ : Addr).add j = ⟨b, off + j, none⟩ := by unfold Addr.add; split <;> simp_all
        rw [hadd, hcell j hj, ← hu, List.getElem?_eq_getElem hj]
    obtain ⟨v', w', hr, h2, h3, _, h5⟩ := run_append_own_at (P := Try.prog) (ty := 28) w B 28 5 i0 _ 1 1 Try.underlying28 hi0 hz0 hz1 hz2 rfl (by decide) v (bytes l).length (bytes l) hown ad (bytes m).length cap (bytes m) (by simp) hcells (one_bytes m) (by rw [bytes_length, bytes_length]; unfold maxLen; omega) (by rw [bytes_length, bytes_length]; omega) hB
    refine ⟨v', w', hr, ?_, h3, fun k hk => ?_⟩
    · unfold Own
      rw [bytes_append, List.length_append]
      exact h2
    · rcases h5 with h5 | h5
      · exact .inl (h5 ▸ hk)
      · rw [h5] at hk; injection hk with hk; exact .inr (by omega)
/-! ### Regions that draw: the state of the bytes handed on -/
def rhoOf (v0 : Value) : Nat → Prop := fun k => v0.ownBlock = some k
def StU (B : Nat) (v0 : Value) (L : Nat → List UInt8) (us : List Value) (U : Nat → Prop) (W : World) : Prop := Own W B 5 (us.getLastD v0) (bytes (L us.length)) ∧ ∀ k, (us.getLastD v0).ownBlock = some k → v0.ownBlock = some k ∨ U k
theorem StU.gr {B : Nat} {v0 : Value} {L : Nat → List UInt8} : ∀ us U W W', Gr W W' → StU B v0 L us U W → StU B v0 L us U W' := fun us U W W' g h => ⟨h.1.gr g, h.2⟩
theorem last_snoc (us : List Value) (v v0 : Value) : (us ++ [v]).getLastD v0 = v := by simp [List.getLastD_eq_getLast?]
theorem StU.user {B : Nat} {v0 : Value} {L : Nat → List UInt8} {us : List Value} {U : Nat → Prop} {W W' : World} {v' : Value} (h : StU B v0 L us U W) (k : App W B (us.getLastD v0) (L (us.length + 1)) v' W') : ChU (rhoOf v0) U W W' ∧ StU B v0 L (us ++ [v']) (newU U W W') W' := by
  refine ⟨⟨k.grown.os, k.grown.tape, k.grown.output, k.grown.size, fun j hj hn => k.grown.block j hj (fun e => hn ?_)⟩, ?_, ?_⟩
  · rcases h.2 j e.symm with h1 | h1
    · exact .inl h1
    · exact .inr h1
  · rw [last_snoc, List.length_append]
    exact k.own
  · rw [last_snoc]
    intro j hj
    rcases k.blk j hj with h1 | h1
    · rcases h.2 j h1 with h2 | h2
      · exact .inl h2
      · exact .inr (.inl h2)
    · exact .inr (.inr ⟨h1, k.lt j hj⟩)
theorem StU.fin {B : Nat} {v0 : Value} {L : Nat → List UInt8} {us : List Value} {U : Nat → Prop} {w W : World} (h : StU B v0 L us U W) (hW : Ch (rhoOf v0) w W) (hU : InU w U W) : App w B v0 (L us.length) (us.getLastD v0) W :=
  ⟨h.1, ⟨hW.os, hW.tape, hW.output, hW.size, fun k hk hn => hW.block k hk (fun e => hn (Eq.symm e))⟩, fun k hk => (h.2 k hk).imp id (fun hu => (hU k hu).1)⟩
/-- A word: a slice that reads as bytes and that no user has made. -/
def SlU (v0 : Value) (l : List UInt8) : Su := fun v U W => Sl W v (bytes l) ∧ ∀ k, v.ownBlock = some k → k < W.heap.size ∧ v0.ownBlock ≠ some k ∧ ¬ U k
theorem SlU.mono (v0 : Value) (l : List UInt8) : MonoU (rhoOf v0) (SlU v0 l) := by
  refine ⟨fun v U W W' g h => ⟨h.1.below g, fun k hk => ⟨Nat.lt_of_lt_of_le (h.2 k hk).1 g.size, (h.2 k hk).2⟩⟩, fun v U W W' hU g h => ⟨h.1.ch g (fun k hk e => ?_), fun k hk => ⟨Nat.lt_of_lt_of_le (h.2 k hk).1 g.size, (h.2 k hk).2.1, fun e => ?_⟩⟩⟩
  · rcases e with e | e
    · exact (h.2 k hk).2.1 e
    · exact (h.2 k hk).2.2 e
  · rcases e with e | e
    · exact (h.2 k hk).2.2 e
    · have := (h.2 k hk).1; omega
abbrev TU : Su := fun _ _ _ => True
theorem TU.mono (ρ : Nat → Prop) : MonoU ρ TU := ⟨fun _ _ _ _ _ _ => trivial, fun _ _ _ _ _ _ _ => trivial⟩
section
variable {P : Program} {W w' : World} {o : Oper} {a : Act} {ops : Array Oper}
theorem exec_append {t : TypeId} {v y v' : Value} (hr : (Builtin.append_ #[t, t] o.type #[v, y]).run P W = .ok v' w') (s x : Operand)
    (ho : o.op = .call { callee := .builtin .append, args := #[s, x], argTypes := #[t, t] }) (hs : a.eval s = v) (hx : a.eval x = y) : (execOp a.eval o).run P W = .ok (.value v') w' := by
  unfold execOp
  simp only [ho, resolve, invoke, builtin, Sem.run_bind, Sem.run_pure, Result.andThen_ok, List.map_toArray, List.map_cons, List.map_nil, hs, hx, hr]
theorem opT_append {R : World → World → Prop} {V : Sp} {t : TypeId} {v y v' : Value} (hr : (Builtin.append_ #[t, t] o.type #[v, y]).run P W = .ok v' w') (hgd : o.guard = none) (s x : Operand)
    (ho : o.op = .call { callee := .builtin .append, args := #[s, x], argTypes := #[t, t] }) (hs : a.eval s = v) (hx : a.eval x = y) (h : R W w' ∧ V v' w') : opT P R ops o a W V := by
  unfold opT
  rw [if_pos (by simp [Region.wanted, hgd]), exec_append hr s x ho hs hx]
  exact h
end
theorem opT_hide {P : Program} {R : World → World → Prop} {ops : Array Oper} {o : Oper} {a : Act} {W : World} {V : Sp} (h : ∀ VV : Sp, (∀ v W', V v W' → VV v W') → opT P R ops o a W VV) : opT P R ops o a W V := h V (fun _ _ h => h)
/-- A literal slice of one byte. -/
theorem be1_byte (x : Nat) (hx : x < 256) : bytes (be 1 x) = [.int .u8 (x : Int)] := by
  have h := val_be1 x hx
  have hl := be_length 1 x
  obtain ⟨c, hc⟩ := List.length_eq_one_iff.1 hl
  rw [hc] at h ⊢
  have : c.toNat = x := by simpa [val] using h
  simp [bytes, byte, this]
theorem sl_byte (w : World) (x : Nat) (hx : x < 256) : Sl (w.alloc (.cells #[.int .u8 (x : Int)] 5)) (.slice (some ⟨w.heap.size, 0, none⟩) 1 1) (bytes (be 1 x)) := by
  rw [be1_byte x hx]
  have h : Own (w.alloc (.cells #[.int .u8 (x : Int)] 5)) w.heap.size 5 (.slice (some ⟨w.heap.size, 0, none⟩) 1 1) [.int .u8 (x : Int)] := World.ownsRow_lit w #[.int .u8 (x : Int)] 1 (Nat.le_refl _) (by decide) rfl
  exact h.sl
/-! ### Numbers, texts, flags -/
set_option maxHeartbeats 400000 in
theorem dnum_any (w : World) (B : Nat) (v : Value) (l : List UInt8) (n : Nat) (hn : n < 2 ^ 64) (ho : Own w B 5 v (bytes l)) (hB : B ≤ w.heap.size) (hl : l.length ≤ 1000000000) :
    Calls Try.prog 58 #[v, .int .u64 (n : Int)] w (RetApp w B v (l ++ be 8 n)) := by
  have HO := Lib.hid ho
  have HB := Lib.hid hB
  clear ho hB
  go_enter Try.func58, Try.ntmps58
  go_wp2_with fail
  refine (refnumber_any n 8 _ hn (by decide)).mono ?_
  rintro e w1 ⟨y, rfl, oy, b1⟩
  obtain ⟨v2, w2, hr, ha⟩ := run_append_c w1 B v y l (be 8 n) (HO.out.gr b1) oy.sl (by rw [be_length]; omega) (Nat.le_trans HB.out b1.size)
  have HR := Lib.hid hr
  have HA := Lib.hid (App.grL b1 ha)
  clear hr ha b1 oy
  go_wp2_with (at_builtin; refine wpList_run_append HR.out rfl _ _ rfl rfl rfl ?_; clear HR)
  go_ret
  exact ⟨_, rfl, HA.out⟩
set_option maxHeartbeats 400000 in
theorem dtext_any (w : World) (B : Nat) (v s : Value) (l t : List UInt8) (ht : Sl w s (bytes t)) (htl : t.length ≤ 1000000000) (ho : Own w B 5 v (bytes l)) (hB : B ≤ w.heap.size) (hl : l.length ≤ 1000000000) :
    Calls Try.prog 61 #[v, s] w (RetApp w B v (l ++ textB t)) := by
  have HO := Lib.hid ho
  have HB := Lib.hid hB
  have C := Lib.hid (reftext_any s t w ht htl)
  clear ho hB ht
  go_enter Try.func61, Try.ntmps61
  go_wp2_with fail
  refine C.out.mono ?_
  rintro e w1 ⟨y, rfl, oy, b1⟩
  obtain ⟨v2, w2, hr, ha⟩ := run_append_c w1 B v y l (be 4 t.length ++ t) (HO.out.gr b1) oy.sl (by rw [List.length_append, be_length]; omega) (Nat.le_trans HB.out b1.size)
  have HR := Lib.hid hr
  have HA := Lib.hid (App.grL b1 ha)
  clear hr ha b1 oy
  go_wp2_with (at_builtin; refine wpList_run_append HR.out rfl _ _ rfl rfl rfl ?_; clear HR)
  go_ret
  exact ⟨_, rfl, HA.out⟩
set_option maxHeartbeats 400000 in
theorem dflag_any (w : World) (B : Nat) (v : Value) (l : List UInt8) (b : Bool) (ho : Own w B 5 v (bytes l)) (hB : B ≤ w.heap.size) (hl : l.length ≤ 1000000000) :
    Calls Try.prog 60 #[v, .bool b] w (RetApp w B v (l ++ flagB b)) := by
  have key : ∀ n : Nat, n < 256 → ∃ v' w', (Builtin.append_ #[28, 28] 28 #[v, .slice (some ⟨w.heap.size, 0, none⟩) 1 1]).run Try.prog (w.alloc (.cells #[.int .u8 (n : Int)] 5)) = .ok v' w' ∧ App w B v (l ++ be 1 n) v' w' := fun n hn => by
    obtain ⟨v2, w2, hr, ha⟩ := run_append_c (w.alloc (.cells #[.int .u8 (n : Int)] 5)) B v _ l (be 1 n) (ho.gr ((Gr.refl w).alloc _)) (sl_byte w n hn) (by rw [be_length]; omega) (by simp; omega)
    exact ⟨v2, w2, hr, App.grL ((Gr.refl w).alloc _) ha⟩
  cases b with
  | true =>
    obtain ⟨v2, w2, hr, ha⟩ := key 1 (by decide)
    have HR := Lib.hid hr
    have HA := Lib.hid ha
    clear key hr ha ho
    go_enter Try.func60, Try.ntmps60
    go_wp2_with (at_builtin; refine wpList_run_append HR.out rfl _ _ rfl rfl rfl ?_; clear HR)
    go_ret
    exact ⟨_, rfl, HA.out⟩
  | false =>
    obtain ⟨v2, w2, hr, ha⟩ := key 0 (by decide)
    have HR := Lib.hid hr
    have HA := Lib.hid ha
    clear key hr ha ho
    go_enter Try.func60, Try.ntmps60
    go_wp2_with (at_builtin; refine wpList_run_append HR.out rfl _ _ rfl rfl rfl ?_; clear HR)
    go_ret
    exact ⟨_, rfl, HA.out⟩
end Go.Proofs.Ytgilijkmmcpfjaa
