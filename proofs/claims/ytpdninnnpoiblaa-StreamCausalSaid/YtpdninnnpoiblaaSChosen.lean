/-
  stream.chosen: the items that are wanted, one by one: an iterator's contract.
-/
import Derived.Test.YtpdninnnpoiblaaVecBoth
import Derived.Test.YtpdninnnpoiblaaSOwn
set_option linter.unusedVariables false
namespace Go.Proofs.Ytpdninnnpoiblaa
open Go.RowKit Go.Shelf
attribute [local go_sem] Oper.semAt_some

/-- The slice sv holds n items, the i-th of the cells C i, in a block of S (or there are none). -/
def RowsS (S : Nat → Prop) (W : World) (sv : Value) (n : Nat) (C : Nat → Array Value) : Prop :=
  ∃ a cap, sv = .slice a n cap ∧ (n = 0 ∨ ∃ b off, a = some ⟨b, off, none⟩ ∧ S b ∧ ∀ i, i < n → ∀ j, j < 7 → W.cell? ⟨b, off + i * 7 + j, none⟩ = (C i)[j]?)
theorem RowsS.stay {S : Nat → Prop} {A B : World} (h : Stay S A B) {sv : Value} {n : Nat} {C : Nat → Array Value} : RowsS S A sv n C → RowsS S B sv n C
  | ⟨a, cap, e, .inl h0⟩ => ⟨a, cap, e, .inl h0⟩
  | ⟨a, cap, e, .inr ⟨b, off, e2, hb, hc⟩⟩ => ⟨a, cap, e, .inr ⟨b, off, e2, hb, fun i hi j hj => (h.cell (p := ⟨b, off + i * 7 + j, none⟩) hb).trans (hc i hi j hj)⟩⟩
/-- The blocks of S are as they were; no block is gone. -/
def StayZ (S : Nat → Prop) (A B : World) : Prop := Stay S A B ∧ A.heap.size ≤ B.heap.size
theorem StayZ.refl (S : Nat → Prop) (A : World) : StayZ S A A := ⟨Stay.refl S A, Nat.le_refl _⟩
theorem StayZ.trans {S : Nat → Prop} {A B C : World} (h : StayZ S A B) (k : StayZ S B C) : StayZ S A C := ⟨h.1.trans k.1, Nat.le_trans h.2 k.2⟩
theorem stayZ_b {S : Nat → Prop} {w : World} (hS : ∀ k, S k → k < w.heap.size) (W : World) (l : Nat) (o o' : Obj) (hl : w.heap.size ≤ l) (h : W.heap[l]? = some o) (h1 : o.isCells = false) (h2 : o.isWalk = false) : StayZ S W (W.putObj l o') :=
  ⟨stay_b hS W l o o' hl h h1 h2, (belowK_b (n₀ := w.heap.size) (w := w) (Nat.le_refl _) W l o o' hl h h1 h2).size⟩
/-- The first k that are wanted. -/
def pick (p : Nat → Bool) (k : Nat) : List Nat := (List.range k).filter p
theorem pick_succ (p : Nat → Bool) (k : Nat) : pick p (k + 1) = if p k then pick p k ++ [k] else pick p k := by
  unfold pick
  rw [List.range_succ, List.filter_append]
  cases h : p k <;> simp [h]
theorem pick_length (p : Nat → Bool) (k : Nat) : (pick p k).length ≤ k := by
  unfold pick
  have := List.length_filter_le p (List.range k)
  simpa using this

/-- The test that Next hands over: is the item's number above 'have'? -/
theorem want_in (F : Fence) (n : Nat) (h22 : F.fn 22) (hro : F.round = none) (Bh hv : Nat) (x : ItemD) (sv ev : Value) (w : World) (ss : ∃ a n c, sv = .slice a n c) (se : ∃ a n c, ev = .slice a n c) (hh : w.cell? ⟨Bh, 0, none⟩ = some (.int .u64 (hv : Int))) :
    CallsIn F n Try.prog 22 #[.agg (itemCells x sv ev), .pointer (some ⟨Bh, 0, none⟩)] w fun e w' => e = .returned (.bool (decide (hv < x.seq))) ∧ w' = w.alloc (.cells (itemCells x sv ev) 33) := by
  obtain ⟨a1, n1, c1, rfl⟩ := ss
  obtain ⟨a2, n2, c2, rfl⟩ := se
  refine callsIn_of_wp Try.func22 rfl h22 ?_ hro
  simp only [Try.ntmps22, List.size_toArray, List.length_cons, List.length_nil, Nat.reduceAdd, Nat.reduceSub, Array.replicate_succ, Array.replicate_zero, List.push_toArray, List.append_toArray, List.nil_append, List.cons_append]
  have hlt : Bh < w.heap.size := by
    rcases Nat.lt_or_ge Bh w.heap.size with h | h
    · exact h
    · simp [World.cell?, Array.getElem?_eq_none h] at hh
  have hh2 : (w.alloc (.cells (itemCells x (.slice a1 n1 c1) (.slice a2 n2 c2)) 33)).cell? ⟨Bh, 0, none⟩ = some (.int .u64 (hv : Int)) := by rw [((Gr.refl w).alloc _).cell (p := ⟨Bh, 0, none⟩) hlt]; exact hh
  unfold itemCells at hh2 ⊢
  gi_wp2
  go_ret
  exact ⟨by simp, rfl⟩

/-- chosen(l, want): both are boxed; the function value captures the boxes. -/
theorem chosen_in (F : Fence) (n : Nat) (h21 : F.fn 21) (hro : F.round = none) (a : Option Addr) (la ca : Nat) (fv : Value) (hfv : ∃ f t c, fv = .func f t c) (w : World) :
    CallsIn F n Try.prog 21 #[.slice a la ca, fv] w fun e w' => e = .returned (.func (.func 29) #[] #[.pointer (some ⟨w.heap.size, 0, none⟩), .pointer (some ⟨w.heap.size + 1, 0, none⟩)]) ∧
      w' = (w.alloc (.cells #[.slice a la ca] 22)).alloc (.cells #[fv] 60) := by
  obtain ⟨f, t, c, rfl⟩ := hfv
  refine callsIn_of_wp Try.func21 rfl h21 ?_ hro
  simp only [Try.ntmps21, List.size_toArray, List.length_cons, List.length_nil, Nat.reduceAdd, Nat.reduceSub, Array.replicate_succ, Array.replicate_zero, List.push_toArray, List.append_toArray, List.nil_append, List.cons_append]
  gi_wp2
  go_ret
  exact ⟨rfl, rfl⟩

set_option maxRecDepth 100000 in
set_option maxHeartbeats 4000000 in
theorem chosen1_in (F : Fence) (n : Nat) (h29 : F.fn 29) (h22 : F.fn 22) (hro : F.round = none) (hn : 1 ≤ n) (l Bl Bw Bh hv : Nat) (S : Nat → Prop) (va : Value) (m : Nat) (D : Nat → ItemD) (sv ev : Nat → Value) (hm : m ≤ 1000000)
    (hsv : ∀ i, ∃ a n c, sv i = .slice a n c) (hev : ∀ i, ∃ a n c, ev i = .slice a n c) (J Jx : List Nat → World → Prop)
    (hY : ∀ pre x W, J pre W → pre.length < m → YieldAt F (n - 1) Try.prog l #[.agg (itemCells (D x) (sv x) (ev x))] W fun e W' =>
      (e = .returned (.bool true) ∧ J (pre ++ [x]) W' ∧ StayZ S W W') ∨ (e = .returned (.bool false) ∧ Jx (pre ++ [x]) W'))
    (W : World) (hBl : W.cell? ⟨Bl, 0, none⟩ = some va) (hBw : W.cell? ⟨Bw, 0, none⟩ = some (.func (.func 22) #[] #[.pointer (some ⟨Bh, 0, none⟩)])) (hBh : W.cell? ⟨Bh, 0, none⟩ = some (.int .u64 (hv : Int)))
    (hbl : S Bl) (hbw : S Bw) (hbh : S Bh) (ha : RowsS S W va m (fun i => itemCells (D i) (sv i) (ev i))) (hJa : ∀ pre A o, J pre A → J pre (A.alloc o)) (hSa : ∀ k, S k → k < W.heap.size) (h0 : J [] W) :
    CallsIn F n Try.prog 29 #[.func (.yield l) #[] #[], .pointer (some ⟨Bl, 0, none⟩), .pointer (some ⟨Bw, 0, none⟩)] W fun e W' => (∃ v, e = .returned v) ∧
      ((∃ zs, zs = pick (fun i => decide (hv < (D i).seq)) m ∧ J zs W') ∨ (∃ pre, (∃ k, k ≤ m ∧ pre = pick (fun i => decide (hv < (D i).seq)) k) ∧ Jx pre W')) := by
  obtain ⟨a, ca, rfl, ha⟩ := ha
  refine callsIn_of_wp Try.func29 rfl h29 ?_ hro
  simp only [Try.ntmps29, List.size_toArray, List.length_cons, List.length_nil, Nat.reduceAdd, Nat.reduceSub, Array.replicate_succ, Array.replicate_zero, List.push_toArray, List.append_toArray, List.nil_append, List.cons_append]
  gi_wp2
  gi_loopw [8] (fun i wr => ∃ k : Nat, k ≤ m ∧ i = .int .i64 k ∧ J (pick (fun i => decide (hv < (D i).seq)) k) wr ∧ Stay S W wr ∧ W.heap.size ≤ wr.heap.size) (fun i _ => m - (intOf i).toNat)
  case atStart => exact ⟨0, Nat.zero_le _, rfl, h0, Stay.refl _ _, Nat.le_refl _⟩
  case round =>
    obtain ⟨k, hk, rfl, hJs, hnx, hsz⟩ := hrel
    by_cases hlt : k < m
    · obtain ⟨b, o, rfl, hb, hc⟩ := ha.resolve_left (by omega)
      obtain ⟨x, hx⟩ : ∃ x, x = D k := ⟨_, rfl⟩
      obtain ⟨a1, n1, c1, hs1⟩ := hsv k
      obtain ⟨a2, n2, c2, hs2⟩ := hev k
      have cc : ∀ j, j < 7 → wr.cell? ⟨b, o + k * 7 + j, none⟩ = (itemCells x (.slice a1 n1 c1) (.slice a2 n2 c2))[j]? := fun j hj => by
        rw [hnx.cell (p := ⟨b, o + k * 7 + j, none⟩) hb, hc k hlt j hj, ← hx, hs1, hs2]
      have d0 : wr.cell? ⟨b, o + k * 7, none⟩ = some (.int .i64 x.origin) := cc 0 (by decide)
      have d1 : wr.cell? ⟨b, o + k * 7 + 1, none⟩ = some (.int .u64 (x.seq : Int)) := cc 1 (by decide)
      have d2 : wr.cell? ⟨b, o + k * 7 + 2, none⟩ = some (.int .i64 x.region) := cc 2 (by decide)
      have d3 : wr.cell? ⟨b, o + k * 7 + 3, none⟩ = some (.int .u64 (x.epoch : Int)) := cc 3 (by decide)
      have d4 : wr.cell? ⟨b, o + k * 7 + 4, none⟩ = some (.slice a1 n1 c1) := cc 4 (by decide)
      have d5 : wr.cell? ⟨b, o + k * 7 + 5, none⟩ = some (.slice a2 n2 c2) := cc 5 (by decide)
      have d6 : wr.cell? ⟨b, o + k * 7 + 6, none⟩ = some (.int .u32 (x.closed : Int)) := cc 6 (by decide)
      have i1 : (0 : Int) ≤ (k : Int) := by omega
      have i2 : (k : Int) < (m : Int) := by omega
      have HX := Lib.hid hx
      have HC := Lib.hid hc
      clear cc hc hx
      obtain ⟨w1, hw1⟩ : ∃ w1, w1 = wr.alloc (.cells (itemCells x (.slice a1 n1 c1) (.slice a2 n2 c2)) 33) := ⟨_, rfl⟩
      have g1 : Gr wr w1 := by rw [hw1]; exact (Gr.refl wr).alloc _
      have b1 : ItemAt w1 wr.heap.size (itemCells x (.slice a1 n1 c1) (.slice a2 n2 c2)) := by unfold ItemAt; rw [hw1]; exact heap_alloc_new wr _
      have st1 : Stay S W w1 := hnx.trans (Stay.below g1 (fun j hj => Nat.lt_of_lt_of_le (hSa j hj) hsz))
      have eW : w1.cell? ⟨Bw, 0, none⟩ = some (.func (.func 22) #[] #[.pointer (some ⟨Bh, 0, none⟩)]) := (st1.cell (p := ⟨Bw, 0, none⟩) hbw).trans hBw
      have eH : w1.cell? ⟨Bh, 0, none⟩ = some (.int .u64 (hv : Int)) := (st1.cell (p := ⟨Bh, 0, none⟩) hbh).trans hBh
      obtain ⟨w2, hw2⟩ : ∃ w2, w2 = w1.alloc (.cells (itemCells x (.slice a1 n1 c1) (.slice a2 n2 c2)) 33) := ⟨_, rfl⟩
      have g2 : Gr w1 w2 := by rw [hw2]; exact (Gr.refl w1).alloc _
      have b2 : ItemAt w2 wr.heap.size (itemCells x (.slice a1 n1 c1) (.slice a2 n2 c2)) := b1.block (g2.block _ b1.lt)
      have st2 : Stay S W w2 := st1.trans (Stay.below g2 (fun j hj => Nat.lt_of_lt_of_le (hSa j hj) (Nat.le_trans hsz g1.size)))
      have hJ2 : J (pick (fun i => decide (hv < (D i).seq)) k) w2 := by rw [hw2, hw1]; exact hJa _ _ _ (hJa _ _ _ hJs)
      have sz2 : W.heap.size ≤ w2.heap.size := Nat.le_trans hsz (Nat.le_trans g1.size g2.size)
      have want := want_in F (n - 1) h22 hro Bh hv x (.slice a1 n1 c1) (.slice a2 n2 c2) w1 ⟨_, _, _, rfl⟩ ⟨_, _, _, rfl⟩ eH
      rw [← hw2] at want
      have WANT := Lib.hid want
      have p0 := b1.cell 0
      have p1 := b1.cell 1
      have p2 := b1.cell 2
      have p3 := b1.cell 3
      have p4 := b1.cell 4
      have p5 := b1.cell 5
      have p6 := b1.cell 6
      have q0 := b2.cell 0
      have q1 := b2.cell 1
      have q2 := b2.cell 2
      have q3 := b2.cell 3
      have q4 := b2.cell 4
      have q5 := b2.cell 5
      have q6 := b2.cell 6
      simp only [itemCells, List.getElem?_toArray, List.getElem?_cons_zero, List.getElem?_cons_succ] at p0 p1 p2 p3 p4 p5 p6 q0 q1 q2 q3 q4 q5 q6
      rw [hw1] at p0 p1 p2 p3 p4 p5 p6 eW
      unfold itemCells at p0 p1 p2 p3 p4 p5 p6 eW
      have HW1 := Lib.hid hw1
      have HST := Lib.hid st2
      have HJ2 := Lib.hid hJ2
      clear hw1 hw2 b1 b2 g1 g2 st1 st2 want eH hJ2 hJs
      unfold itemCells at HW1
      cases hwant : decide (hv < x.seq) with
      | false =>
        have hp : pick (fun i => decide (hv < (D i).seq)) (k + 1) = pick (fun i => decide (hv < (D i).seq)) k := by rw [pick_succ, if_neg]; rw [← HX.out]; simpa using hwant
        have HP := Lib.hid hp
        have HWN := Lib.hid hwant
        clear hp hwant
        gi_wp2_with (gi_at_call 22; rw [← HW1.out]; refine WANT.out.mono ?_; rintro e w' ⟨rfl, rfl⟩; rw [HWN.out])
        refine ⟨(fun f hf => by cases hf), ?_⟩
        gi_wp2
        go_roundw
        case rel => exact ⟨k + 1, by omega, by go_num, by rw [HP.out]; exact HJ2.out, HST.out, sz2⟩
        case measure => simp [intOf]; omega
      | true =>
        have hp : pick (fun i => decide (hv < (D i).seq)) (k + 1) = pick (fun i => decide (hv < (D i).seq)) k ++ [k] := by rw [pick_succ, if_pos]; rw [← HX.out]; exact hwant
        obtain ⟨fn, tmps, assign, body, hy, hR⟩ := hY _ k w2 HJ2.out (Nat.lt_of_le_of_lt (pick_length _ k) hlt)
        rw [← HX.out, hs1, hs2] at hy
        unfold itemCells at hy
        have HP := Lib.hid hp
        have HWN := Lib.hid hwant
        have HR := Lib.hid hR
        clear hp hwant hR
        gi_wp2_with (gi_at_call 22; rw [← HW1.out]; refine WANT.out.mono ?_; rintro e w' ⟨rfl, rfl⟩; rw [HWN.out])
        have hst2 := HST.out
        refine HR.out.mono ?_
        clear hy HR WANT
        rintro e W3 (⟨rfl, hJ3, hk3⟩ | ⟨rfl, hJx3⟩)
        · have H3 := Lib.hid hJ3
          have K3 := Lib.hid (hst2.trans hk3.1)
          have Z3 : Hid (W.heap.size ≤ W3.heap.size) := Lib.hid (Nat.le_trans sz2 hk3.2)
          clear hJ3 hk3
          gi_wp2
          go_roundw
          case rel => exact ⟨k + 1, by omega, by go_num, by rw [HP.out]; exact H3.out, K3.out, Z3.out⟩
          case measure => simp [intOf]; omega
        · have H3 := Lib.hid hJx3
          clear hJx3
          gi_wp2
          refine bodyPost_ret (results_none rfl _ _ _) rfl ?_
          exact ⟨⟨_, rfl⟩, .inr ⟨_, ⟨k + 1, by omega, HP.out.symm⟩, H3.out⟩⟩
    · obtain rfl : k = m := by omega
      gi_wp2
      go_end0
      exact ⟨⟨_, rfl⟩, .inl ⟨_, rfl, hJs⟩⟩

theorem chosen_stops (F : Fence) (n : Nat) (h29 : F.fn 29) (h22 : F.fn 22) (hro : F.round = none) (hn : 1 ≤ n) (Bl Bw Bh hv : Nat) (S : Nat → Prop) (va : Value) (m : Nat) (D : Nat → ItemD) (sv ev : Nat → Value) (hm : m ≤ 1000000)
    (hsv : ∀ i, ∃ a n c, sv i = .slice a n c) (hev : ∀ i, ∃ a n c, ev i = .slice a n c) (w : World) (hS : ∀ k, S k → k < w.heap.size)
    (hBl : w.cell? ⟨Bl, 0, none⟩ = some va) (hBw : w.cell? ⟨Bw, 0, none⟩ = some (.func (.func 22) #[] #[.pointer (some ⟨Bh, 0, none⟩)])) (hBh : w.cell? ⟨Bh, 0, none⟩ = some (.int .u64 (hv : Int)))
    (hbl : S Bl) (hbw : S Bw) (hbh : S Bh) (ha : RowsS S w va m (fun i => itemCells (D i) (sv i) (ev i))) :
    SeqStopsK F n Try.prog 29 #[.pointer (some ⟨Bl, 0, none⟩), .pointer (some ⟨Bw, 0, none⟩)] (fun x : Nat => #[Value.agg (itemCells (D x) (sv x) (ev x))]) (StayZ S)
      (fun zs => zs = pick (fun i => decide (hv < (D i).seq)) m) (fun pre => ∃ k, k ≤ m ∧ pre = pick (fun i => decide (hv < (D i).seq)) k) m w := fun l J Jx W hW hJ _ hY h0 => by
  have hst : Stay S w W := Stay.below hW hS
  exact chosen1_in F n h29 h22 hro hn l Bl Bw Bh hv S va m D sv ev hm hsv hev J Jx hY W ((hst.cell (p := ⟨Bl, 0, none⟩) hbl).trans hBl) ((hst.cell (p := ⟨Bw, 0, none⟩) hbw).trans hBw) ((hst.cell (p := ⟨Bh, 0, none⟩) hbh).trans hBh) hbl hbw hbh (ha.stay hst)
    (fun pre A o hA => hJ pre A (A.alloc o) none hA (below_grownBy ((Below.refl _ A).alloc (Nat.le_refl _) _) none) (by simp)) (fun k hk => Nat.lt_of_lt_of_le (hS k hk) hW.size) h0
end Go.Proofs.Ytpdninnnpoiblaa
