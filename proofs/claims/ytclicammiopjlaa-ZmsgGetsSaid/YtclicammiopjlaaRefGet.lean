/-
  Of the document: number, Get.
-/
import Derived.Test.YtclicammiopjlaaRefB
import Derived.Test.YtclicammiopjlaaGet
import Derived.Test.YtclicammiopjlaaRefState
set_option linter.unusedVariables false
namespace Go.Proofs.Ytclicammiopjlaa
open Go.RowKit

/-- append([]byte{}, b...): only new memory. -/
theorem append_fresh (w : World) (base b : Nat) (y : Value) (l : List UInt8) (hown : Own w base 5 (.slice (some ⟨b, 0, none⟩) 0 0) []) (hy : Sl w y (bytes l)) (hl : l.length ≤ 1000000000) (hbase : base ≤ w.heap.size) :
    ∃ v' w', (Builtin.append_ #[27, 27] 27 #[.slice (some ⟨b, 0, none⟩) 0 0, y]).run Try.prog w = .ok v' w' ∧ Own w' base 5 v' (bytes l) ∧ Gr w w' := by
  obtain ⟨v', w', hr, ho, _⟩ := run_append_u8 w base (.slice (some ⟨b, 0, none⟩) 0 0) y [] l hown hy (by simp; omega) hbase
  rw [List.nil_append] at ho
  refine ⟨v', w', hr, ho, ?_⟩
  obtain ⟨i0, hi0, hz0, hz1, hz2⟩ := info_parts info_u8
  obtain ⟨a, cap, rfl, _, hc⟩ := hy.bytes
  have empty : ∀ a' : Option Addr, (Builtin.append_ #[27, 27] 27 #[.slice (some ⟨b, 0, none⟩) 0 0, .slice a' 0 cap]).run Try.prog w = .ok (.slice (some ⟨b, 0, none⟩) 0 0) w := by
    intro a'
    cases a' <;> simp [Builtin.append_, run_underlying Try.underlying27, sizeOf, typeInfo, hi0, Builtin.lenOf, Builtin.firstCells, storeCells, loadCells, loadCellsFrom]
  rcases hc with rfl | ⟨b1, o1, rfl, hb1, hcell⟩
  · rw [List.length_nil, empty a] at hr
    injection hr with _ hr
    rw [← hr]
    exact Gr.refl w
  · by_cases hn : l.length = 0
    · rw [hn, empty _] at hr
      injection hr with _ hr
      rw [← hr]
      exact Gr.refl w
    · have hr2 := run_append_grow (P := Try.prog) w 27 27 5 i0 _ Try.underlying27 hi0 hz0 ⟨b, 0, none⟩ 0 0 [] (by simp) (by simp) ⟨b1, o1, none⟩ l.length cap (bytes l) (by rw [bytes_length, hz1]; simp)
        (fun j u hu => by
          have hj : j < l.length := by have := (List.getElem?_eq_some_iff.1 hu).1; rwa [bytes_length] at this
          have hadd : (⟨b1, o1, none⟩ : Addr).add j = ⟨b1, o1 + j, none⟩ := by unfold Addr.add; split <;> simp_all
          rw [hadd, hcell j hj, ← hu]
          simp [bytes, byte, hj]) (by omega) (by omega) (growslice_fits (by omega) (by rw [hz2]; omega))
      rw [hr2] at hr
      injection hr with _ hr
      rw [← hr]
      exact ((Gr.refl w).drew).alloc _

/-- number(s, 256). -/
theorem refnum_any (w : World) (q : Nat) (ab : Option Addr) (cb : Nat) (L : List UInt8) (s : RS) (hs : St w q ab cb L s) (hb : Sl w (.slice ab L.length cb) (bytes L)) (hne : bytes L = [] ∨ ∀ k, (Value.slice ab L.length cb).ownBlock = some k → k ≠ q) (hl : L.length ≤ 1000000000) :
    Calls Try.prog 33 #[.pointer (some ⟨q, 0, none⟩), .int .i64 256] w (StL w q ab cb L (.int .i64 ((rCount 256 s).1 : Int)) (rCount 256 s).2) := by
  have hlt := rUint_lt s
  by_cases hk : 256 < (rUint s).1
  · have hc : rCount 256 s = (0, rBad (rUint s).2) := by unfold rCount; rw [if_pos (.inr (by omega))]
    rw [hc]
    go_enter Try.func33, Try.ntmps33
    go_wp2_with fail
    refine (ref_uint _ q ab cb L s hs hb hne hl).mono ?_
    rintro e w1 ⟨rfl, hst, hg⟩
    have hst2 := ref_bad _ _ _ _ _ _ hst
    obtain ⟨at_, hh, _, _⟩ := hst
    have e2 : w1.cell? ⟨q, 2, none⟩ = some (.bool (rUint s).2.2) := by rw [cell_of_block hh]; rfl
    have f2 := unfrozen_of_block hh 2
    clear hh
    go_wp2
    all_goals (go_ret; exact ⟨rfl, hst2, grownBy_trans hg (grownBy_setCell _ _ _ _)⟩)
  · have hc : rCount 256 s = rUint s := by unfold rCount; rw [if_neg (by omega)]
    rw [hc]
    have hsm : (rUint s).1 ≤ 256 := by omega
    have hwr : IntKind.i64.wrap ((rUint s).1 : Int) = ((rUint s).1 : Int) := by rw [IntKind.wrap_i64]; omega
    go_enter Try.func33, Try.ntmps33
    go_wp2_with fail
    refine (ref_uint _ q ab cb L s hs hb hne hl).mono ?_
    rintro e w1 ⟨rfl, hst, hg⟩
    go_wp2
    all_goals (go_ret; exact ⟨rfl, hst, hg⟩)

def RetGetR (w : World) (s : RS) (e : Ending) (w' : World) : Prop :=
  Gr w w' ∧ if getV s then ∃ lv, e = .returned (.tuple #[.agg (msgCells (gotM s) lv), .int .i64 0]) ∧ Lines w' lv (gotM s).ls else e = .returned (.tuple #[.agg zeroM, .int .i64 2])
/-- What stands while the document reads: its state q, its message bm, the result rb. -/
structure RG (w W : World) (q bm rb : Nat) (ab : Option Addr) (cb : Nat) (L : List UInt8) (s : RS) (cs : Array Value) : Prop where
  st : St W q ab cb L s
  msg : W.heap[bm]? = some (.cells cs 25 (0, 0))
  res : W.heap[rb]? = some (.cells zeroM 25 (0, 0))
  gr : Gr w W
section
variable {w W W' : World} {q bm rb : Nat} {ab : Option Addr} {cb : Nat} {L : List UInt8} {s s' : RS} {cs : Array Value}
theorem RG.call (h : RG w W q bm rb ab cb L s cs) (hst : St W' q ab cb L s') (hg : W.grownBy W' (some q)) (hq : w.heap.size ≤ q) (h1 : bm ≠ q) (h2 : rb ≠ q) : RG w W' q bm rb ab cb L s' cs :=
  ⟨hst, (hg.block bm (block_lt h.msg) (by simpa using h1)).trans h.msg, (hg.block rb (block_lt h.res) (by simpa using h2)).trans h.res, Below.trans (show Below w.heap.size w W from h.gr) (grownBy_below hg h.gr.size (fun k hk => by cases hk; exact hq))⟩
theorem RG.below (h : RG w W q bm rb ab cb L s cs) (g : Gr W W') : RG w W' q bm rb ab cb L s cs :=
  ⟨h.st.ch (Ch.of_gr (ρ := fun _ => False) g) (by simp), (g.block bm (block_lt h.msg)).trans h.msg, (g.block rb (block_lt h.res)).trans h.res, h.gr.trans g⟩
theorem RG.store (h : RG w W q bm rb ab cb L s cs) (j : Nat) (v : Value) (hb : w.heap.size ≤ bm) (h1 : bm ≠ q) (h2 : bm ≠ rb) : RG w (W.setCell ⟨bm, j, none⟩ v) q bm rb ab cb L s (cs.setIfInBounds j v) :=
  ⟨h.st.ch (Ch.of_grownBy (ρ := fun k => k = bm) (grownBy_setCell W bm j v) (fun k hk => by cases hk; rfl)) (fun e => h1 e.symm), block_setCell h.msg v,
    ((grownBy_setCell W bm j v).block rb (block_lt h.res) (fun e => h2 (by injection e with e; exact e.symm))).trans h.res, Below.trans (show Below w.heap.size w W from h.gr) (setCell_below W v j hb)⟩
theorem St.block {w : World} {h : Nat} {ab : Option Addr} {cb : Nat} {L : List UInt8} {s : RS} (hs : St w h ab cb L s) : ∃ o, w.heap[h]? = some o := by obtain ⟨_, e, _⟩ := hs; exact ⟨_, e⟩
theorem RG.cell (h : RG w W q bm rb ab cb L s cs) (j : Nat) : W.cell? ⟨bm, j, none⟩ = cs[j]? := cell_of_block h.msg j
theorem RG.frozen (h : RG w W q bm rb ab cb L s cs) (j : Nat) : W.frozen? ⟨bm, j, none⟩ = false := unfrozen_of_block h.msg j
end
theorem rDone_bad' (s : RS) (h : s.2 = true) : rDone s = 2 := by obtain ⟨l, b⟩ := s; simp only at h; subst h; rfl
theorem gotS_bad (s : RS) (k : Nat) (hk : k ≤ gotN s) (h : (rLines k (r6 s)).2.2 = true) : getV s = false := by
  have e : gotS s = (rLines (gotN s - k) (rLines k (r6 s)).2).2 := by
    unfold gotS
    rw [← rLines_more, Nat.add_sub_cancel' hk]
  have e2 : (rLines k (r6 s)).2 = ((rLines k (r6 s)).2.1, true) := Prod.ext rfl h
  rw [e2, rLines_bad] at e
  unfold getV
  rw [e]
  rfl

theorem opT_append {P : Program} {R : World → World → Prop} {W W' : World} {ops : Array Oper} {o : Oper} {a : Act} {V : Sp} {t : TypeId} {v y v' : Value} (hr : (Builtin.append_ #[t, t] o.type #[v, y]).run P W = .ok v' W') (hgd : o.guard = none) (s x : Operand)
    (ho : o.op = .call { callee := .builtin .append, args := #[s, x], argTypes := #[t, t] }) (hs : a.eval s = v) (hx : a.eval x = y) (hR : R W W') (hV : V v' W') : opT P R ops o a W V := by
  have he : (execOp a.eval o).run P W = .ok (.value v') W' := by
    unfold execOp
    simp only [ho, resolve, invoke, builtin, Sem.run_bind, Sem.run_pure, Result.andThen_ok, List.map_toArray, List.map_cons, List.map_nil, hs, hx, hr]
  unfold opT
  rw [if_pos (by simp [Region.wanted, hgd]), he]
  exact ⟨hR, hV⟩
theorem text_len {w : World} {q : Nat} {ab : Option Addr} {cb : Nat} {L : List UInt8} {s : RS} (h : St w q ab cb L s) : (rText s).1.length ≤ L.length := by
  obtain ⟨a, _, _, hd⟩ := h
  have h1 : s.1.length ≤ L.length := by rw [← hd, List.length_drop]; omega
  exact Nat.le_trans (Nat.le_trans (rTake_le _ _) (rTake_left _ _)) h1
theorem text_own {w : World} {q rb : Nat} {ab : Option Addr} {cb : Nat} {L : List UInt8} {s : RS} {v : Value} (h : St w q ab cb L s) (h2 : bytes (rText s).1 = [] ∨ ∀ k, v.ownBlock = some k → (Value.slice ab L.length cb).ownBlock = some k)
    (ho : bytes L = [] ∨ ∀ k, (Value.slice ab L.length cb).ownBlock = some k → k < rb) : bytes (rText s).1 = [] ∨ ∀ k, v.ownBlock = some k → k < rb := by
  rcases h2 with h2 | h2
  · exact .inl h2
  rcases ho with ho | ho
  · left
    have := text_len h
    rw [bytes_nil] at ho ⊢
    rw [ho] at this
    exact List.eq_nil_of_length_eq_zero (Nat.le_zero.1 this)
  · exact .inr fun k hk => ho k (h2 k hk)

set_option maxHeartbeats 8000000 in
theorem refget_any (w : World) (v : Value) (l : List UInt8) (hs : Sl w v (bytes l)) (hl : l.length ≤ 1000000000) :
    Calls Try.prog 15 #[v] w (RetGetR w (l, false)) := by
  obtain ⟨ab, cb, rfl, hcb, hcase⟩ := hs.bytes
  have hne : bytes l = [] ∨ ∀ k, (Value.slice ab l.length cb).ownBlock = some k → k ≠ w.heap.size + 1 + 1 := by
    rcases hcase with rfl | ⟨b, o, rfl, hb, _⟩
    · exact .inl rfl
    · right; intro k hk e; obtain rfl : b = k := by simpa [Value.ownBlock] using hk
      omega
  have hown : bytes l = [] ∨ ∀ k, (Value.slice ab l.length cb).ownBlock = some k → k < w.heap.size := by
    rcases hcase with rfl | ⟨b, o, rfl, hb, _⟩
    · exact .inl rfl
    · right; intro k hk; obtain rfl : b = k := by simpa [Value.ownBlock] using hk
      exact hb
  obtain ⟨s0, hs0⟩ : ∃ s0 : RS, s0 = (l, false) := ⟨_, rfl⟩
  have HS0 := Lib.hid hs0
  obtain ⟨w1, hw1⟩ : ∃ w1, w1 = w.alloc (.cells zeroM 25) := ⟨_, rfl⟩
  have e1 : w1.heap.size = w.heap.size + 1 := by rw [hw1]; simp
  obtain ⟨w2, hw2⟩ : ∃ w2, w2 = w1.alloc (.cells zeroM 25) := ⟨_, rfl⟩
  have e2 : w2.heap.size = w.heap.size + 1 + 1 := by rw [hw2]; simp [e1]
  obtain ⟨w3, hw3⟩ : ∃ w3, w3 = w2.alloc (.cells #[.slice ab l.length cb, .int .i64 0, .bool false] 55) := ⟨_, rfl⟩
  have g1 : Gr w w1 := by rw [hw1]; exact (Gr.refl w).alloc _
  have g2 : Gr w1 w2 := by rw [hw2]; exact (Gr.refl w1).alloc _
  have g3 : Gr w2 w3 := by rw [hw3]; exact (Gr.refl w2).alloc _
  have rg3 : RG w w3 (w.heap.size + 1 + 1) (w.heap.size + 1) w.heap.size ab cb l s0 zeroM := by
    refine ⟨⟨0, ?_, Nat.zero_le _, by rw [hs0]; rfl⟩, ?_, ?_, Gr.trans (Gr.trans g1 g2) g3⟩
    · rw [hw3, ← e2, hs0]; exact heap_alloc_new w2 _
    · rw [g3.block _ (by omega), hw2, ← e1]; exact heap_alloc_new w1 _
    · rw [g3.block _ (by omega), g2.block _ (by omega), hw1]; exact heap_alloc_new w _
  have HSL := Lib.hid hs
  have HNE := Lib.hid hne
  have HOWN := Lib.hid hown
  have HW1 := Lib.hid hw1
  have HW2 := Lib.hid hw2
  have HW3 := Lib.hid hw3
  have SLW : Hid (∀ W, Gr w W → Sl W (.slice ab l.length cb) (bytes l)) := Lib.hid fun W hW => hs.below hW
  clear hcase hcb hne hown hs hs0 hw1 hw2 hw3 g1 g2 g3 e1 e2
  generalize hq : w.heap.size + 1 + 1 = q at *
  generalize hbm : w.heap.size + 1 = bm at *
  generalize hrb : w.heap.size = rb at *
  unfold zeroM at HW1 HW2
  go_enter Try.func15, Try.ntmps15
  go_wp2_with fail
  rw [← HW1.out, ← HW2.out, ← HW3.out]
  have nq : bm ≠ q := by omega
  have nr : rb ≠ q := by omega
  have nb : bm ≠ rb := by omega
  have hqw : w.heap.size ≤ q := by omega
  have hbw : w.heap.size ≤ bm := by omega
  refine (ref_take w3 q 1 ab cb l s0 rg3.st (SLW.out _ rg3.gr) HNE.out (by decide) hl).mono ?_
  rintro e w4 ⟨v4, rfl, s4, _, st4, k4⟩
  have rg4 : RG w w4 q bm rb ab cb l (r1 s0) #[.int .u8 0, .int .u64 0, .int .u64 0, .int .i64 0, .int .i64 0, .slice none 0 0] := rg3.call st4 k4 hqw nq nr
  clear rg3 st4 k4 HW1 HW2 HW3
  go_wp2_with fail
  refine (refvalue_any _ _ _ s4 (Nat.le_trans (rTake_length 1 s0) (by decide))).mono ?_
  rintro e w5 ⟨rfl, rfl⟩
  rw [show val (rTake 1 s0).1 = (rByte s0).1 from rfl]
  have hby := rByte_lt s0
  have hlt2 : ((rByte s0).1 : Int) % 256 = ((rByte s0).1 : Int) := by omega
  clear s4
  have c0' : w4.cell? ⟨bm, 0, none⟩ = some (.int .u8 0) := rg4.cell 0
  have f0' := rg4.frozen 0
  obtain ⟨w5, hw5⟩ : ∃ w5, w5 = w4.setCell ⟨bm, 0, none⟩ (.int .u8 ((rByte s0).1 : Int)) := ⟨_, rfl⟩
  have rg5 : RG w w5 q bm rb ab cb l (r1 s0) #[.int .u8 ((rByte s0).1 : Int), .int .u64 0, .int .u64 0, .int .i64 0, .int .i64 0, .slice none 0 0] := by rw [hw5]; exact rg4.store 0 (.int .u8 ((rByte s0).1 : Int)) hbw nq nb
  have HWX := Lib.hid hw5
  clear hw5 rg4
  go_wp2_with fail
  rw [← HWX.out]
  clear hlt2 c0' f0' HWX
  refine (ref_uint _ q ab cb l (r1 s0) rg5.st (SLW.out _ rg5.gr) HNE.out hl).mono ?_
  rintro e w6x ⟨rfl, stx, kx⟩
  have rg6x : RG w w6x q bm rb ab cb l (r2 s0) #[.int .u8 ((rByte s0).1 : Int), .int .u64 0, .int .u64 0, .int .i64 0, .int .i64 0, .slice none 0 0] := rg5.call stx kx hqw nq nr
  clear rg5 stx kx
  have c1' : w6x.cell? ⟨bm, 1, none⟩ = some (.int .u64 0) := rg6x.cell 1
  have f1' := rg6x.frozen 1
  obtain ⟨w6, hw6⟩ : ∃ w6, w6 = w6x.setCell ⟨bm, 1, none⟩ (.int .u64 ((rUint (r1 s0)).1 : Int)) := ⟨_, rfl⟩
  have rg6 : RG w w6 q bm rb ab cb l (r2 s0) #[.int .u8 ((rByte s0).1 : Int), .int .u64 ((rUint (r1 s0)).1 : Int), .int .u64 0, .int .i64 0, .int .i64 0, .slice none 0 0] := by rw [hw6]; exact rg6x.store 1 (.int .u64 ((rUint (r1 s0)).1 : Int)) hbw nq nb
  have HWX := Lib.hid hw6
  clear hw6 rg6x
  go_wp2_with fail
  rw [← HWX.out]
  clear c1' f1' HWX
  refine (ref_uint _ q ab cb l (r2 s0) rg6.st (SLW.out _ rg6.gr) HNE.out hl).mono ?_
  rintro e w7x ⟨rfl, stx, kx⟩
  have rg7x : RG w w7x q bm rb ab cb l (r3 s0) #[.int .u8 ((rByte s0).1 : Int), .int .u64 ((rUint (r1 s0)).1 : Int), .int .u64 0, .int .i64 0, .int .i64 0, .slice none 0 0] := rg6.call stx kx hqw nq nr
  clear rg6 stx kx
  have c2' : w7x.cell? ⟨bm, 2, none⟩ = some (.int .u64 0) := rg7x.cell 2
  have f2' := rg7x.frozen 2
  obtain ⟨w7, hw7⟩ : ∃ w7, w7 = w7x.setCell ⟨bm, 2, none⟩ (.int .u64 ((rUint (r2 s0)).1 : Int)) := ⟨_, rfl⟩
  have rg7 : RG w w7 q bm rb ab cb l (r3 s0) #[.int .u8 ((rByte s0).1 : Int), .int .u64 ((rUint (r1 s0)).1 : Int), .int .u64 ((rUint (r2 s0)).1 : Int), .int .i64 0, .int .i64 0, .slice none 0 0] := by rw [hw7]; exact rg7x.store 2 (.int .u64 ((rUint (r2 s0)).1 : Int)) hbw nq nb
  have HWX := Lib.hid hw7
  clear hw7 rg7x
  go_wp2_with fail
  rw [← HWX.out]
  clear c2' f2' HWX
  refine (refnum_any _ q ab cb l (r3 s0) rg7.st (SLW.out _ rg7.gr) HNE.out hl).mono ?_
  rintro e w8x ⟨rfl, stx, kx⟩
  have rg8x : RG w w8x q bm rb ab cb l (r4 s0) #[.int .u8 ((rByte s0).1 : Int), .int .u64 ((rUint (r1 s0)).1 : Int), .int .u64 ((rUint (r2 s0)).1 : Int), .int .i64 0, .int .i64 0, .slice none 0 0] := rg7.call stx kx hqw nq nr
  clear rg7 stx kx
  have c3' : w8x.cell? ⟨bm, 3, none⟩ = some (.int .i64 0) := rg8x.cell 3
  have f3' := rg8x.frozen 3
  obtain ⟨w8, hw8⟩ : ∃ w8, w8 = w8x.setCell ⟨bm, 3, none⟩ (.int .i64 ((rCount 256 (r3 s0)).1 : Int)) := ⟨_, rfl⟩
  have rg8 : RG w w8 q bm rb ab cb l (r4 s0) #[.int .u8 ((rByte s0).1 : Int), .int .u64 ((rUint (r1 s0)).1 : Int), .int .u64 ((rUint (r2 s0)).1 : Int), .int .i64 ((rCount 256 (r3 s0)).1 : Int), .int .i64 0, .slice none 0 0] := by rw [hw8]; exact rg8x.store 3 (.int .i64 ((rCount 256 (r3 s0)).1 : Int)) hbw nq nb
  have HWX := Lib.hid hw8
  clear hw8 rg8x
  go_wp2_with fail
  rw [← HWX.out]
  clear c3' f3' HWX
  refine (refnum_any _ q ab cb l (r4 s0) rg8.st (SLW.out _ rg8.gr) HNE.out hl).mono ?_
  rintro e w9x ⟨rfl, stx, kx⟩
  have rg9x : RG w w9x q bm rb ab cb l (r5 s0) #[.int .u8 ((rByte s0).1 : Int), .int .u64 ((rUint (r1 s0)).1 : Int), .int .u64 ((rUint (r2 s0)).1 : Int), .int .i64 ((rCount 256 (r3 s0)).1 : Int), .int .i64 0, .slice none 0 0] := rg8.call stx kx hqw nq nr
  clear rg8 stx kx
  have c4' : w9x.cell? ⟨bm, 4, none⟩ = some (.int .i64 0) := rg9x.cell 4
  have f4' := rg9x.frozen 4
  obtain ⟨w9, hw9⟩ : ∃ w9, w9 = w9x.setCell ⟨bm, 4, none⟩ (.int .i64 ((rCount 256 (r4 s0)).1 : Int)) := ⟨_, rfl⟩
  have rg9 : RG w w9 q bm rb ab cb l (r5 s0) #[.int .u8 ((rByte s0).1 : Int), .int .u64 ((rUint (r1 s0)).1 : Int), .int .u64 ((rUint (r2 s0)).1 : Int), .int .i64 ((rCount 256 (r3 s0)).1 : Int), .int .i64 ((rCount 256 (r4 s0)).1 : Int), .slice none 0 0] := by rw [hw9]; exact rg9x.store 4 (.int .i64 ((rCount 256 (r4 s0)).1 : Int)) hbw nq nb
  have HWX := Lib.hid hw9
  clear hw9 rg9x
  go_wp2_with fail
  rw [← HWX.out]
  clear c4' f4' HWX
  refine (refnum_any _ q ab cb l (r5 s0) rg9.st (SLW.out _ rg9.gr) HNE.out hl).mono ?_
  rintro e w9x ⟨rfl, stx, kx⟩
  have rg9x : RG w w9x q bm rb ab cb l (r6 s0) #[.int .u8 ((rByte s0).1 : Int), .int .u64 ((rUint (r1 s0)).1 : Int), .int .u64 ((rUint (r2 s0)).1 : Int), .int .i64 ((rCount 256 (r3 s0)).1 : Int), .int .i64 ((rCount 256 (r4 s0)).1 : Int), .slice none 0 0] := rg9.call stx kx hqw nq nr
  clear rg9 stx kx
  have hn : (rCount 256 (r5 s0)).1 = gotN s0 := rfl
  have hn256 := gotN_le s0
  rw [hn]
  clear hn
  obtain ⟨m0, hm0⟩ : ∃ m0 : MsgD, m0 = ⟨(rByte s0).1, (rUint (r1 s0)).1, (rUint (r2 s0)).1, ((rCount 256 (r3 s0)).1 : Int), ((rCount 256 (r4 s0)).1 : Int), []⟩ := ⟨_, rfl⟩
  have rg9' : RG w w9x q bm rb ab cb l (r6 s0) (msgCells m0 (.slice none 0 0)) := by rw [hm0]; exact rg9x
  have HM0 := Lib.hid hm0
  have RG9 := Lib.hid rg9'
  clear hm0 rg9x rg9'
  go_wp2_with fail
  go_loopw [7, 8] (fun i e wr => ∃ k : Nat, k ≤ gotN s0 ∧ i = .int .i64 k ∧ ∃ lv, RG w wr q bm rb ab cb l (rLines k (r6 s0)).2 (msgCells m0 lv) ∧ LinesR wr (q + 1) lv (rLines k (r6 s0)).1) (fun i _ _ => gotN s0 - (intOf i).toNat)
  case atStart => exact ⟨0, Nat.zero_le _, rfl, _, RG9.out, LinesR.nil _ _⟩
  case round =>
    clear RG9
    obtain ⟨k, hk, rfl, lv, rg, hlv⟩ := hrel
    obtain ⟨wo, rfl⟩ : ∃ wo : World, wo = wr := ⟨_, rfl⟩
    obtain ⟨sk, hsk⟩ : ∃ sk, sk = (rLines k (r6 s0)).2 := ⟨_, rfl⟩
    obtain ⟨at9, hh9, hat9, hd9⟩ := rg.st
    rw [← hsk] at hh9 hd9 rg
    have x2 : wo.cell? ⟨q, 2, none⟩ = some (.bool sk.2) := by rw [cell_of_block hh9]; rfl
    have HSK := Lib.hid hsk
    clear hsk hh9 hat9 hd9
    cases hbad : sk.2 with
    | true =>
      have hgv : getV (l, false) = false := by
        rw [← HS0.out]
        exact gotS_bad s0 k hk (by rw [← HSK.out]; exact hbad)
      have hdn := rDone_bad' sk hbad
      rw [hbad] at x2
      have HGV := Lib.hid hgv
      have HDN := Lib.hid hdn
      clear hgv hdn hbad hlv
      have rgl := rg
      have RGL := Lib.hid rgl
      clear rgl
      by_cases hlt : k < gotN s0
      · have i2 : (k : Int) < (gotN s0 : Int) := by omega
        go_wp2_with fail
        refine (ref_done _ q ab cb l sk rg.st hl).mono ?_
        rintro e wn ⟨rfl, bd⟩
        rw [HDN.out]
        have rgd := rg.below bd
        have hzz := rgd.res
        have z0 : wn.cell? ⟨rb, 0, none⟩ = some (.int .u8 0) := by rw [cell_of_block hzz]; rfl
        have y0 := unfrozen_of_block hzz 0
        have z1 : wn.cell? ⟨rb, 1, none⟩ = some (.int .u64 0) := by rw [cell_of_block hzz]; rfl
        have y1 := unfrozen_of_block hzz 1
        have z2 : wn.cell? ⟨rb, 2, none⟩ = some (.int .u64 0) := by rw [cell_of_block hzz]; rfl
        have y2 := unfrozen_of_block hzz 2
        have z3 : wn.cell? ⟨rb, 3, none⟩ = some (.int .i64 0) := by rw [cell_of_block hzz]; rfl
        have y3 := unfrozen_of_block hzz 3
        have z4 : wn.cell? ⟨rb, 4, none⟩ = some (.int .i64 0) := by rw [cell_of_block hzz]; rfl
        have y4 := unfrozen_of_block hzz 4
        have z5 : wn.cell? ⟨rb, 5, none⟩ = some (.slice none 0 0) := by rw [cell_of_block hzz]; rfl
        have y5 := unfrozen_of_block hzz 5
        have HZN := Lib.hid hzz
        have HGN := Lib.hid rgd.gr
        clear hzz
        clear rgd bd rg
        go_wp2_with fail
        have hblk := put6_block HZN.out (.int .u8 0) (.int .u64 0) (.int .u64 0) (.int .i64 0) (.int .i64 0) (.slice none 0 0)
        have hgr := put6_grown wn rb (.int .u8 0) (.int .u64 0) (.int .u64 0) (.int .i64 0) (.int .i64 0) (.slice none 0 0)
        unfold put6 at hblk hgr
        generalize (((((wn.setCell ⟨rb, 0, none⟩ (.int .u8 0)).setCell ⟨rb, 1, none⟩ (.int .u64 0)).setCell ⟨rb, 2, none⟩ (.int .u64 0)).setCell ⟨rb, 3, none⟩ (.int .i64 0)).setCell ⟨rb, 4, none⟩ (.int .i64 0)).setCell ⟨rb, 5, none⟩ (.slice none 0 0) = wf at *
        obtain ⟨s0', s1', s2', s3', s4', s5'⟩ := six_of_block hblk
        refine bodyPost_ret (v := .tuple #[.agg zeroM, .int .i64 2]) ?_ rfl ⟨Below.trans (show Below w.heap.size w wn from HGN.out) (grownBy_below hgr HGN.out.size (fun k hk => by cases hk; omega)), ?_⟩
        · unfold zeroM
          simp [results, Try.f15, go_sem, s0', s1', s2', s3', s4', s5']
        · rw [HGV.out]; rfl
      · have i2 : ¬ (k : Int) < (gotN s0 : Int) := by omega
        go_wp2_with fail
        refine (ref_done _ q ab cb l sk rg.st hl).mono ?_
        rintro e wn ⟨rfl, bd⟩
        rw [HDN.out]
        have rgd := rg.below bd
        have hzz := rgd.res
        have z0 : wn.cell? ⟨rb, 0, none⟩ = some (.int .u8 0) := by rw [cell_of_block hzz]; rfl
        have y0 := unfrozen_of_block hzz 0
        have z1 : wn.cell? ⟨rb, 1, none⟩ = some (.int .u64 0) := by rw [cell_of_block hzz]; rfl
        have y1 := unfrozen_of_block hzz 1
        have z2 : wn.cell? ⟨rb, 2, none⟩ = some (.int .u64 0) := by rw [cell_of_block hzz]; rfl
        have y2 := unfrozen_of_block hzz 2
        have z3 : wn.cell? ⟨rb, 3, none⟩ = some (.int .i64 0) := by rw [cell_of_block hzz]; rfl
        have y3 := unfrozen_of_block hzz 3
        have z4 : wn.cell? ⟨rb, 4, none⟩ = some (.int .i64 0) := by rw [cell_of_block hzz]; rfl
        have y4 := unfrozen_of_block hzz 4
        have z5 : wn.cell? ⟨rb, 5, none⟩ = some (.slice none 0 0) := by rw [cell_of_block hzz]; rfl
        have y5 := unfrozen_of_block hzz 5
        have HZN := Lib.hid hzz
        have HGN := Lib.hid rgd.gr
        clear hzz
        clear rgd bd rg
        go_wp2_with fail
        have hblk := put6_block HZN.out (.int .u8 0) (.int .u64 0) (.int .u64 0) (.int .i64 0) (.int .i64 0) (.slice none 0 0)
        have hgr := put6_grown wn rb (.int .u8 0) (.int .u64 0) (.int .u64 0) (.int .i64 0) (.int .i64 0) (.slice none 0 0)
        unfold put6 at hblk hgr
        generalize (((((wn.setCell ⟨rb, 0, none⟩ (.int .u8 0)).setCell ⟨rb, 1, none⟩ (.int .u64 0)).setCell ⟨rb, 2, none⟩ (.int .u64 0)).setCell ⟨rb, 3, none⟩ (.int .i64 0)).setCell ⟨rb, 4, none⟩ (.int .i64 0)).setCell ⟨rb, 5, none⟩ (.slice none 0 0) = wf at *
        obtain ⟨s0', s1', s2', s3', s4', s5'⟩ := six_of_block hblk
        refine bodyPost_ret (v := .tuple #[.agg zeroM, .int .i64 2]) ?_ rfl ⟨Below.trans (show Below w.heap.size w wn from HGN.out) (grownBy_below hgr HGN.out.size (fun k hk => by cases hk; omega)), ?_⟩
        · unfold zeroM
          simp [results, Try.f15, go_sem, s0', s1', s2', s3', s4', s5']
        · rw [HGV.out]; rfl
    | false =>
      rw [hbad] at x2
      by_cases hlt : k < gotN s0
      · obtain ⟨a5, c5, rfl⟩ := hlv.shape
        have i1 : (0 : Int) ≤ (k : Int) := by omega
        have i2 : (k : Int) < (gotN s0 : Int) := by omega
        obtain ⟨ls, hls⟩ : ∃ ls, ls = (rLines k (r6 s0)).1 := ⟨_, rfl⟩
        have elen : ls.length = k := by rw [hls]; exact rLines_length _ _
        have e1 : (rLines (k + 1) (r6 s0)).1 = ls ++ [(rLine sk).1] := by rw [hls, HSK.out]; rfl
        have e2 : (rLines (k + 1) (r6 s0)).2 = (rLine sk).2 := by rw [HSK.out]; rfl
        rw [← hls] at hlv rg
        have E1 := Lib.hid e1
        have E2 := Lib.hid e2
        have EL := Lib.hid elen
        clear e1 e2 hls elen hbad HSK
        go_wp2_with fail
        refine (ref_uint _ q ab cb l sk rg.st (SLW.out _ rg.gr) HNE.out hl).mono ?_
        rintro e wp ⟨rfl, stp, kp⟩
        have rgp : RG w wp q bm rb ab cb l (rUint sk).2 (msgCells m0 (.slice a5 ls.length c5)) := rg.call stp kp hqw nq nr
        have hlp : LinesR wp (q + 1) (.slice a5 ls.length c5) ls := hlv.ch (Ch.of_grownBy (ρ := fun j => j = q) kp (fun j hj => by cases hj; rfl)) (fun j hj => by cases hj; omega)
        have c5v : wp.cell? ⟨bm, 5, none⟩ = some (.slice a5 ls.length c5) := rgp.cell 5
        have hbl := block_lt rgp.msg
        have hql := rgp.st.lt
        clear rg stp kp hlv x2
        go_wp2_with fail
        apply wp_region_draw_turnTail 9 (fun j => j = q) (fun j W => St W q ab cb l (if j = 0 then (rUint sk).2 else (rText (rUint sk).2).2)) (.eq _ :: .eq _ :: .eq _ :: .ok (fun v W => ∃ b, v = .slice (some ⟨b, 0, none⟩) 0 0 ∧ Own W wp.heap.size 5 v []) :: .eq _ :: .use (fun v W => Sl W v (bytes (rText (rUint sk).2).1) ∧ (bytes (rText (rUint sk).2).1 = [] ∨ ∀ k, v.ownBlock = some k → k < rb)) :: .ok (fun v W => Own W wp.heap.size 5 v (bytes (rText (rUint sk).2).1)) :: .ok (fun u W => ∃ v, u = .agg #[.int .u64 ((rUint sk).1 : Int), v] ∧ Own W wp.heap.size 5 v (bytes (rText (rUint sk).2).1)) :: .ok (fun u W => ∃ v, OneLine W wp.heap.size u (rUint sk).1 v ∧ Own W wp.heap.size 5 v (bytes (rText (rUint sk).2).1)) :: []) (by kernel_rfl) (by kernel_rfl) ⟨fun u w w' hg h => by obtain ⟨b, e, h⟩ := h; exact ⟨b, e, h.block fun j hj => hg.block j (h.lt' j hj).2 (fun e => by have := (h.lt' j hj).1; omega)⟩, fun u w w' hg h => ⟨sl_chN h.1 hg (h.2.imp id fun h k hk e => by have := h k hk; omega), h.2⟩, fun u w w' hg h => h.block fun j hj => hg.block j (h.lt' j hj).2 (fun e => by have := (h.lt' j hj).1; omega), fun u w w' hg h => by obtain ⟨b, e, h⟩ := h; exact ⟨b, e, h.block fun j hj => hg.block j (h.lt' j hj).2 (fun e => by have := (h.lt' j hj).1; omega)⟩, fun u w w' hg h => by obtain ⟨v, h1, h⟩ := h; exact ⟨v, h1.block hg.size (fun j h1 h2 => hg.block j h2 (fun e => by omega)), h.block fun j hj => hg.block j (h.lt' j hj).2 (fun e => by have := (h.lt' j hj).1; omega)⟩, trivial⟩ (fun j W W' hg h => h.ch (Ch.of_gr (ρ := fun _ => False) hg) (by simp)) (rgp.st.ch (Ch.of_gr (ρ := fun _ => False) (Gr.refl wp).drew) (by simp))
        apply wpT_eq
        · intro W hW _
          unfold opT
          go_simp
          exact resT_eq_mk _ _ _
        simp only [Act.put, List.setIfInBounds_toArray, List.set_cons_zero, List.set_cons_succ]
        apply wpT_eq
        · intro W hW _
          have h1 := (hW.cell (p := ⟨bm, 5, none⟩) (by simpa using hbl) (by show ¬ bm = q; omega)).trans ((by simpa using c5v) : wp.drew.cell? ⟨bm, 5, none⟩ = _)
          unfold opT
          go_simp
          exact resT_eq_mk _ _ _
        simp only [Act.put, List.setIfInBounds_toArray, List.set_cons_zero, List.set_cons_succ]
        apply wpT_eq
        · intro W hW _
          unfold opT
          go_simp
          exact resT_eq_mk _ _ _
        simp only [Act.put, List.setIfInBounds_toArray, List.set_cons_zero, List.set_cons_succ]
        apply wpT_ok
        · intro W hW hs
          have hlW : wp.heap.size ≤ W.heap.size := hW.size
          unfold opT
          go_simp
          exact resT_mk ((Gr.refl _).alloc _) ⟨⟨_, rfl⟩, Own.nil_lit _ 5 hlW⟩
        intro vb
        simp only [Act.put, List.setIfInBounds_toArray, List.set_cons_zero, List.set_cons_succ]
        apply wpT_eq
        · intro W hW _
          unfold opT
          go_simp
          exact resT_eq_mk _ _ _
        simp only [Act.put, List.setIfInBounds_toArray, List.set_cons_zero, List.set_cons_succ]
        apply wpT_use
        · intro W hW hS hs
          have hgw : Gr w W := Below.trans (show Below w.heap.size w wp.drew from rgp.gr.drew) (hW.below rgp.gr.size (fun k hk => by rw [hk]; exact hqw))
          have hS : St W q ab cb l (rUint sk).2 := hS
          unfold opT
          go_simp
          refine resT_call ((ref_text _ q ab cb l _ hS (SLW.out _ hgw) HNE.out hl).mono ?_)
          rintro e W2 ⟨v, rfl, h1, h2, h3, h4⟩
          exact ⟨_, rfl, ⟨Ch.of_grownBy h4 (fun j hj => by cases hj; rfl), h3⟩, h1, text_own hS h2 HOWN.out⟩
        intro vt
        simp only [Act.put, List.setIfInBounds_toArray, List.set_cons_zero, List.set_cons_succ]
        apply wpT_ok
        · intro W hW hs
          obtain ⟨h1, h2⟩ := hs _ (.head _) (by rfl)
          obtain ⟨b, rfl, hb⟩ := hs _ (.tail _ (.head _)) (by rfl)
          have hlW : wp.heap.size ≤ W.heap.size := hW.size
          have htl := text_len rgp.st
          obtain ⟨v', w', hr, ho, hg⟩ := append_fresh W wp.heap.size b vt _ hb h1 (Nat.le_trans htl hl) hlW
          exact opT_append hr rfl _ _ rfl rfl rfl hg ho
        intro vo
        simp only [Act.put, List.setIfInBounds_toArray, List.set_cons_zero, List.set_cons_succ]
        apply wpT_ok
        · intro W hW hs
          have hvt := hs _ (.head _) (by rfl)
          obtain ⟨at', ct', rfl⟩ := Own.shape hvt
          unfold opT
          go_simp
          exact resT_mk (Gr.refl _) ⟨_, rfl, hvt⟩
        intro vp
        simp only [Act.put, List.setIfInBounds_toArray, List.set_cons_zero, List.set_cons_succ]
        apply wpT_ok
        · intro W hW hs
          obtain ⟨vt', rfl, hvt⟩ := hs _ (.head _) (by rfl)
          obtain ⟨at', ct', rfl⟩ := hvt.shape
          have hlW : wp.heap.size ≤ W.heap.size := hW.size
          unfold opT
          go_simp
          refine resT_mk ((Gr.refl _).alloc _) ⟨_, ⟨_, 1, rfl, Nat.le_refl _, hlW, by simp, ?_, ?_⟩, hvt.block fun j hj => ((Gr.refl W).alloc _).block j (hvt.lt' j hj).2⟩
          · rw [cell_of_block (heap_alloc_new W _)]; rfl
          · rw [cell_of_block (heap_alloc_new W _)]; rfl
        intro vr
        simp only [Act.put, List.setIfInBounds_toArray, List.set_cons_zero, List.set_cons_succ]
        apply wpT_nil
        intro W hW hSW hsAll
        obtain ⟨vx, hrow, hvx⟩ := hsAll _ (.head _)
        have hgw : Gr w W := Below.trans (show Below w.heap.size w wp.drew from rgp.gr.drew) (hW.below rgp.gr.size (fun k hk => by rw [hk]; exact hqw))
        have rgW : RG w W q bm rb ab cb l (rLine sk).2 (msgCells m0 (.slice a5 ls.length c5)) :=
          ⟨hSW, (hW.block bm (by simpa using hbl) (by show ¬ bm = q; omega)).trans rgp.msg, (hW.block rb (by simpa using block_lt rgp.res) (by show ¬ rb = q; omega)).trans rgp.res, hgw⟩
        have hlW : LinesR W (q + 1) (.slice a5 ls.length c5) ls := (hlp.below (Gr.refl wp).drew).ch hW (fun j hj => by cases hj; omega)
        have hszW : wp.heap.size ≤ W.heap.size := hW.size
        obtain ⟨v', w', hrun, p1, p2, _⟩ := run_append_line W (q + 1) (.slice a5 ls.length c5) vr vx ls (rLine sk).1 hlW _ hrow.rows rfl rfl (hvx.mono hql) (fun j hj e => by
          have h1 := (hvx.lt' j hj).1
          have h2 := (hlp.lt j e).2
          omega) (rUint_lt sk) (by rw [EL.out]; omega) (by omega)
        obtain ⟨a6, c6, rfl⟩ := p1.shape
        have hown : ∀ j, (Value.slice a5 ls.length c5).ownBlock = some j → q + 1 ≤ j := fun j hj => (hlp.lt j hj).1
        have rgw : RG w w' q bm rb ab cb l (rLine sk).2 (msgCells m0 (.slice a5 ls.length c5)) :=
          ⟨rgW.st.ch (Ch.of_grownBy (ρ := fun j => q + 1 ≤ j) p2 (fun j hj => hown j hj)) (by omega), (p2.block bm (block_lt rgW.msg) (fun e => by have := hown bm e.symm; omega)).trans rgW.msg,
            (p2.block rb (block_lt rgW.res) (fun e => by have := hown rb e.symm; omega)).trans rgW.res, Below.trans (show Below w.heap.size w W from hgw) (grownBy_below p2 hgw.size (fun j hj => by have := hown j hj; omega))⟩
        have c5' : w'.cell? ⟨bm, 5, none⟩ = some (.slice a5 ls.length c5) := rgw.cell 5
        have f5' := rgw.frozen 5
        have q1 : RG w (w'.setCell ⟨bm, 5, none⟩ (.slice a6 (ls ++ [(rLine sk).1]).length c6)) q bm rb ab cb l (rLine sk).2 (msgCells m0 (.slice a6 (ls ++ [(rLine sk).1]).length c6)) := rgw.store 5 _ hbw nq nb
        have q3 := p1.ch (Ch.of_grownBy (ρ := fun j => j = bm) (grownBy_setCell w' bm 5 (.slice a6 (ls ++ [(rLine sk).1]).length c6)) (fun j hj => by cases hj; rfl)) (fun j hj => by cases hj; omega)
        have hl1 : (ls ++ [(rLine sk).1]).length = ls.length + 1 := by simp
        rw [hl1] at q1 q3
        rw [← E1.out] at q3
        rw [← E2.out] at q1
        have Q1 := Lib.hid q1
        have Q3 := Lib.hid q3
        have HRUN := Lib.hid hrun
        clear q1 q3 hrun rgw rgW p1 p2 hown hlW hrow hvx hsAll hSW rgp hlp hgw c5v
        simp only [List.drop_succ_cons, List.drop_zero]
        refine wpList_run_append HRUN.out rfl _ _ rfl rfl rfl ?_
        clear HRUN
        simp only [Act.put, List.setIfInBounds_toArray, List.set_cons_zero, List.set_cons_succ]
        go_wp2_with fail
        go_roundw
        case rel => exact ⟨k + 1, by omega, by go_num, _, Q1.out, Q3.out⟩
        case measure => simp [intOf]; omega
      · obtain rfl : k = gotN s0 := by omega
        have hfin : sk = gotS s0 := HSK.out
        have hls : (rLines (gotN s0) (r6 s0)).1 = (gotM s0).ls := rfl
        rw [hls] at hlv
        have hlen := hlv.shape
        rw [gotM_len] at hlen
        obtain ⟨a5, c5, rfl⟩ := hlen
        have hcells : msgCells m0 (.slice a5 (gotN s0) c5) = msgCells (gotM s0) (.slice a5 (gotN s0) c5) := by rw [HM0.out]; rfl
        rw [hcells] at rg
        have i2 : ¬ (gotN s0 : Int) < (gotN s0 : Int) := by omega
        have hdor : rDone sk = 0 ∨ rDone sk = 2 := by unfold rDone; split <;> simp
        have hok := gotM_ok s0
        have hml : (gotM s0).ls.length ≤ maxLen := by rw [gotM_len]; unfold maxLen; omega
        have HOK := Lib.hid hok
        have HLE := Lib.hid hml
        have HMS : Hid ((.agg #[.int .u8 ((gotM s0).kind : Int), .int .u64 ((gotM s0).epoch : Int), .int .u64 ((gotM s0).current : Int), .int .i64 (gotM s0).at_, .int .i64 (gotM s0).commit, .slice a5 (gotN s0) c5] : Value) = .agg (msgCells (gotM s0) (.slice a5 (gotN s0) c5))) := Lib.hid rfl
        have HFIN := Lib.hid hfin
        clear hcells hls hfin hok hml hbad HSK hlt
        rcases hdor with hd | hd
        · have HDN := Lib.hid hd
          clear hd
          cases hmay : mayV (gotM s0) with
          | false =>
            have hgv : getV (l, false) = false := by rw [← HS0.out]; simp [getV, hmay]
            have HGV := Lib.hid hgv
            have HMAY := Lib.hid hmay
            clear hgv hmay
            go_wp2_with fail
            refine (ref_done _ q ab cb l sk rg.st hl).mono ?_
            rintro e wm ⟨rfl, bd⟩
            rw [HDN.out]
            have rgm := rg.below bd
            have hlm := hlv.below bd
            have c0 : wm.cell? ⟨bm, 0, none⟩ = some (.int .u8 ((gotM s0).kind : Int)) := rgm.cell 0
            have c1 : wm.cell? ⟨bm, 1, none⟩ = some (.int .u64 ((gotM s0).epoch : Int)) := rgm.cell 1
            have c2 : wm.cell? ⟨bm, 2, none⟩ = some (.int .u64 ((gotM s0).current : Int)) := rgm.cell 2
            have c3 : wm.cell? ⟨bm, 3, none⟩ = some (.int .i64 (gotM s0).at_) := rgm.cell 3
            have c4 : wm.cell? ⟨bm, 4, none⟩ = some (.int .i64 (gotM s0).commit) := rgm.cell 4
            have c5' : wm.cell? ⟨bm, 5, none⟩ = some (.slice a5 (gotN s0) c5) := rgm.cell 5
            have RGM := Lib.hid rgm
            have HLM := Lib.hid hlm
            clear rgm hlm bd rg hlv
            go_wp2_with fail
            rw [HMS.out]
            refine (refmay_any _ _ _ HLM.out.lines HOK.out HLE.out).mono ?_
            rintro e wn ⟨rfl, gn⟩
            rw [HMAY.out]
            have rgd := RGM.out.below gn
            have hzz := rgd.res
            have z0 : wn.cell? ⟨rb, 0, none⟩ = some (.int .u8 0) := by rw [cell_of_block hzz]; rfl
            have y0 := unfrozen_of_block hzz 0
            have z1 : wn.cell? ⟨rb, 1, none⟩ = some (.int .u64 0) := by rw [cell_of_block hzz]; rfl
            have y1 := unfrozen_of_block hzz 1
            have z2 : wn.cell? ⟨rb, 2, none⟩ = some (.int .u64 0) := by rw [cell_of_block hzz]; rfl
            have y2 := unfrozen_of_block hzz 2
            have z3 : wn.cell? ⟨rb, 3, none⟩ = some (.int .i64 0) := by rw [cell_of_block hzz]; rfl
            have y3 := unfrozen_of_block hzz 3
            have z4 : wn.cell? ⟨rb, 4, none⟩ = some (.int .i64 0) := by rw [cell_of_block hzz]; rfl
            have y4 := unfrozen_of_block hzz 4
            have z5 : wn.cell? ⟨rb, 5, none⟩ = some (.slice none 0 0) := by rw [cell_of_block hzz]; rfl
            have y5 := unfrozen_of_block hzz 5
            have HZN := Lib.hid hzz
            have HGN := Lib.hid rgd.gr
            clear hzz
            clear rgd gn c0 c1 c2 c3 c4 c5'
            go_wp2_with fail
            have hblk := put6_block HZN.out (.int .u8 0) (.int .u64 0) (.int .u64 0) (.int .i64 0) (.int .i64 0) (.slice none 0 0)
            have hgr := put6_grown wn rb (.int .u8 0) (.int .u64 0) (.int .u64 0) (.int .i64 0) (.int .i64 0) (.slice none 0 0)
            unfold put6 at hblk hgr
            generalize (((((wn.setCell ⟨rb, 0, none⟩ (.int .u8 0)).setCell ⟨rb, 1, none⟩ (.int .u64 0)).setCell ⟨rb, 2, none⟩ (.int .u64 0)).setCell ⟨rb, 3, none⟩ (.int .i64 0)).setCell ⟨rb, 4, none⟩ (.int .i64 0)).setCell ⟨rb, 5, none⟩ (.slice none 0 0) = wf at *
            obtain ⟨s0', s1', s2', s3', s4', s5'⟩ := six_of_block hblk
            refine bodyPost_ret (v := .tuple #[.agg zeroM, .int .i64 2]) ?_ rfl ⟨Below.trans (show Below w.heap.size w wn from HGN.out) (grownBy_below hgr HGN.out.size (fun k hk => by cases hk; omega)), ?_⟩
            · unfold zeroM
              simp [results, Try.f15, go_sem, s0', s1', s2', s3', s4', s5']
            · rw [HGV.out]; rfl
          | true =>
            have hgv : getV (l, false) = true := by rw [← HS0.out]; unfold getV; rw [← HFIN.out, HDN.out, hmay]; rfl
            have HGV := Lib.hid hgv
            have HMAY := Lib.hid hmay
            clear hgv hmay
            go_wp2_with fail
            refine (ref_done _ q ab cb l sk rg.st hl).mono ?_
            rintro e wm ⟨rfl, bd⟩
            rw [HDN.out]
            have rgm := rg.below bd
            have hlm := hlv.below bd
            have c0 : wm.cell? ⟨bm, 0, none⟩ = some (.int .u8 ((gotM s0).kind : Int)) := rgm.cell 0
            have c1 : wm.cell? ⟨bm, 1, none⟩ = some (.int .u64 ((gotM s0).epoch : Int)) := rgm.cell 1
            have c2 : wm.cell? ⟨bm, 2, none⟩ = some (.int .u64 ((gotM s0).current : Int)) := rgm.cell 2
            have c3 : wm.cell? ⟨bm, 3, none⟩ = some (.int .i64 (gotM s0).at_) := rgm.cell 3
            have c4 : wm.cell? ⟨bm, 4, none⟩ = some (.int .i64 (gotM s0).commit) := rgm.cell 4
            have c5' : wm.cell? ⟨bm, 5, none⟩ = some (.slice a5 (gotN s0) c5) := rgm.cell 5
            have RGM := Lib.hid rgm
            have HLM := Lib.hid hlm
            clear rgm hlm bd rg hlv
            go_wp2_with fail
            rw [HMS.out]
            refine (refmay_any _ _ _ HLM.out.lines HOK.out HLE.out).mono ?_
            rintro e wn ⟨rfl, gn⟩
            rw [HMAY.out]
            have rgd := RGM.out.below gn
            have hzz := rgd.res
            have z0 : wn.cell? ⟨rb, 0, none⟩ = some (.int .u8 0) := by rw [cell_of_block hzz]; rfl
            have y0 := unfrozen_of_block hzz 0
            have z1 : wn.cell? ⟨rb, 1, none⟩ = some (.int .u64 0) := by rw [cell_of_block hzz]; rfl
            have y1 := unfrozen_of_block hzz 1
            have z2 : wn.cell? ⟨rb, 2, none⟩ = some (.int .u64 0) := by rw [cell_of_block hzz]; rfl
            have y2 := unfrozen_of_block hzz 2
            have z3 : wn.cell? ⟨rb, 3, none⟩ = some (.int .i64 0) := by rw [cell_of_block hzz]; rfl
            have y3 := unfrozen_of_block hzz 3
            have z4 : wn.cell? ⟨rb, 4, none⟩ = some (.int .i64 0) := by rw [cell_of_block hzz]; rfl
            have y4 := unfrozen_of_block hzz 4
            have z5 : wn.cell? ⟨rb, 5, none⟩ = some (.slice none 0 0) := by rw [cell_of_block hzz]; rfl
            have y5 := unfrozen_of_block hzz 5
            have HZN := Lib.hid hzz
            have HGN := Lib.hid rgd.gr
            clear hzz
            clear c0 c1 c2 c3 c4 c5'
            have c0n : wn.cell? ⟨bm, 0, none⟩ = some (.int .u8 ((gotM s0).kind : Int)) := rgd.cell 0
            have c1n : wn.cell? ⟨bm, 1, none⟩ = some (.int .u64 ((gotM s0).epoch : Int)) := rgd.cell 1
            have c2n : wn.cell? ⟨bm, 2, none⟩ = some (.int .u64 ((gotM s0).current : Int)) := rgd.cell 2
            have c3n : wn.cell? ⟨bm, 3, none⟩ = some (.int .i64 (gotM s0).at_) := rgd.cell 3
            have c4n : wn.cell? ⟨bm, 4, none⟩ = some (.int .i64 (gotM s0).commit) := rgd.cell 4
            have c5'n : wn.cell? ⟨bm, 5, none⟩ = some (.slice a5 (gotN s0) c5) := rgd.cell 5
            have hln := HLM.out.below gn
            have HLN := Lib.hid hln
            clear rgd gn hln
            go_wp2_with fail
            have hblk := put6_block HZN.out (.int .u8 ((gotM s0).kind : Int)) (.int .u64 ((gotM s0).epoch : Int)) (.int .u64 ((gotM s0).current : Int)) (.int .i64 (gotM s0).at_) (.int .i64 (gotM s0).commit) (.slice a5 (gotN s0) c5)
            have hgr := put6_grown wn rb (.int .u8 ((gotM s0).kind : Int)) (.int .u64 ((gotM s0).epoch : Int)) (.int .u64 ((gotM s0).current : Int)) (.int .i64 (gotM s0).at_) (.int .i64 (gotM s0).commit) (.slice a5 (gotN s0) c5)
            unfold put6 at hblk hgr
            generalize (((((wn.setCell ⟨rb, 0, none⟩ (.int .u8 ((gotM s0).kind : Int))).setCell ⟨rb, 1, none⟩ (.int .u64 ((gotM s0).epoch : Int))).setCell ⟨rb, 2, none⟩ (.int .u64 ((gotM s0).current : Int))).setCell ⟨rb, 3, none⟩ (.int .i64 (gotM s0).at_)).setCell ⟨rb, 4, none⟩ (.int .i64 (gotM s0).commit)).setCell ⟨rb, 5, none⟩ (.slice a5 (gotN s0) c5) = wf at *
            obtain ⟨s0', s1', s2', s3', s4', s5'⟩ := six_of_block hblk
            refine bodyPost_ret (v := .tuple #[.agg (msgCells (gotM s0) (.slice a5 (gotN s0) c5)), .int .i64 0]) ?_ rfl ⟨Below.trans (show Below w.heap.size w wn from HGN.out) (grownBy_below hgr HGN.out.size (fun k hk => by cases hk; omega)), ?_⟩
            · unfold msgCells
              simp [results, Try.f15, go_sem, s0', s1', s2', s3', s4', s5']
            · rw [HGV.out, if_pos rfl, ← HS0.out]
              exact ⟨_, rfl, (HLN.out.ch (Ch.of_grownBy (ρ := fun j => j = rb) hgr (fun k hk => by cases hk; rfl)) (fun j hj => by cases hj; omega)).lines⟩
        · have hgv : getV (l, false) = false := by rw [← HS0.out]; unfold getV; rw [← HFIN.out, hd]; rfl
          have HGV := Lib.hid hgv
          have HDN := Lib.hid hd
          clear hgv hd hlv
          go_wp2_with fail
          refine (ref_done _ q ab cb l sk rg.st hl).mono ?_
          rintro e wn ⟨rfl, bd⟩
          rw [HDN.out]
          have rgd := rg.below bd
          have hzz := rgd.res
          have z0 : wn.cell? ⟨rb, 0, none⟩ = some (.int .u8 0) := by rw [cell_of_block hzz]; rfl
          have y0 := unfrozen_of_block hzz 0
          have z1 : wn.cell? ⟨rb, 1, none⟩ = some (.int .u64 0) := by rw [cell_of_block hzz]; rfl
          have y1 := unfrozen_of_block hzz 1
          have z2 : wn.cell? ⟨rb, 2, none⟩ = some (.int .u64 0) := by rw [cell_of_block hzz]; rfl
          have y2 := unfrozen_of_block hzz 2
          have z3 : wn.cell? ⟨rb, 3, none⟩ = some (.int .i64 0) := by rw [cell_of_block hzz]; rfl
          have y3 := unfrozen_of_block hzz 3
          have z4 : wn.cell? ⟨rb, 4, none⟩ = some (.int .i64 0) := by rw [cell_of_block hzz]; rfl
          have y4 := unfrozen_of_block hzz 4
          have z5 : wn.cell? ⟨rb, 5, none⟩ = some (.slice none 0 0) := by rw [cell_of_block hzz]; rfl
          have y5 := unfrozen_of_block hzz 5
          have HZN := Lib.hid hzz
          have HGN := Lib.hid rgd.gr
          clear hzz
          clear rgd bd rg
          go_wp2_with fail
          have hblk := put6_block HZN.out (.int .u8 0) (.int .u64 0) (.int .u64 0) (.int .i64 0) (.int .i64 0) (.slice none 0 0)
          have hgr := put6_grown wn rb (.int .u8 0) (.int .u64 0) (.int .u64 0) (.int .i64 0) (.int .i64 0) (.slice none 0 0)
          unfold put6 at hblk hgr
          generalize (((((wn.setCell ⟨rb, 0, none⟩ (.int .u8 0)).setCell ⟨rb, 1, none⟩ (.int .u64 0)).setCell ⟨rb, 2, none⟩ (.int .u64 0)).setCell ⟨rb, 3, none⟩ (.int .i64 0)).setCell ⟨rb, 4, none⟩ (.int .i64 0)).setCell ⟨rb, 5, none⟩ (.slice none 0 0) = wf at *
          obtain ⟨s0', s1', s2', s3', s4', s5'⟩ := six_of_block hblk
          refine bodyPost_ret (v := .tuple #[.agg zeroM, .int .i64 2]) ?_ rfl ⟨Below.trans (show Below w.heap.size w wn from HGN.out) (grownBy_below hgr HGN.out.size (fun k hk => by cases hk; omega)), ?_⟩
          · unfold zeroM
            simp [results, Try.f15, go_sem, s0', s1', s2', s3', s4', s5']
          · rw [HGV.out]; rfl
end Go.Proofs.Ytclicammiopjlaa
