/-
  Of the document: the same items, operations, entries.
  Of the document: the same operations, entries.
-/
import Derived.Test.YtgilijkmmcpfjaaZRSame
section
set_option linter.unusedVariables false
set_option linter.unusedSimpArgs false
set_option maxRecDepth 100000
namespace Go.Proofs.Ytgilijkmmcpfjaa
open Go.RowKit
theorem pairAt_fst (xs ys : List Nat) (j : Nat) (h1 : j < xs.length) : (pairAt xs ys j).1 = xs[j] := by simp [pairAt, h1]
theorem pairAt_snd (xs ys : List Nat) (j : Nat) (h1 : j < ys.length) : (pairAt xs ys j).2 = ys[j] := by simp [pairAt, h1]
theorem sameV_iff (xs ys : List Nat) : sameV xs ys = true ↔ xs = ys := by
  constructor
  · intro h
    unfold sameV at h
    rw [Bool.and_eq_true] at h
    by_cases hl : xs.length = ys.length
    · rw [leqV_iff _ _ hl, leqV_iff _ _ hl.symm] at h
      refine List.ext_getElem hl fun j h1 h2 => ?_
      have a := h.1 j h1
      have b := h.2 j h2
      rw [pairAt_fst _ _ _ h1, pairAt_snd _ _ _ h2] at a
      rw [pairAt_fst _ _ _ h2, pairAt_snd _ _ _ h1] at b
      omega
    · rw [leqV_ne _ _ hl] at h; cases h.1
  · rintro rfl; exact sameV_self xs
theorem nums_says (w : World) (va vb : Value) (xs ys : List Nat) (ha : Sl w va (nums xs)) (hb : Sl w vb (nums ys)) (hx : xs.length ≤ 1000000) (hy : ys.length ≤ 1000000) :
    Calls Try.prog 42 #[va, vb] w (Says (xs = ys) w) := by
  refine (same_any w va vb xs ys ha hb hx hy).mono ?_
  intro e w' h
  obtain ⟨rfl, g⟩ := h
  exact ⟨_, rfl, sameV_iff xs ys, g⟩
set_option maxHeartbeats 4000000 in
theorem item_says (w : World) (x y : ItemD) (sv ev sv' ev' : Value) (h1 : ItemP Any w x sv ev) (h2 : ItemP Any w y sv' ev') (l1 : x.stamp.length ≤ 1000000 ∧ x.effs.length ≤ 1000000) (l2 : y.stamp.length ≤ 1000000 ∧ y.effs.length ≤ 1000000) :
    Calls Try.prog 79 #[.agg (itemCells x sv ev).toArray, .agg (itemCells y sv' ev').toArray] w (Says (x = y) w) := by
  obtain ⟨or1, sq1, rg1, ep1, st1, es1, cl1⟩ := x
  obtain ⟨or2, sq2, rg2, ep2, st2, es2, cl2⟩ := y
  obtain ⟨p1, p2⟩ := h1
  obtain ⟨p3, p4⟩ := h2
  dsimp only at p1 p2 p3 p4 l1 l2
  obtain ⟨as1, cs1, hv⟩ := p1.1.oneCells
  rw [nums_length] at hv
  subst hv
  obtain ⟨as2, cs2, hv⟩ := p3.1.oneCells
  rw [nums_length] at hv
  subst hv
  obtain ⟨ae1, ce1, rfl⟩ := p2.shape
  obtain ⟨ae2, ce2, rfl⟩ := p4.shape
  show Calls Try.prog 79 #[.agg #[.int .i64 or1, .int .u64 (sq1 : Int), .int .i64 rg1, .int .u64 (ep1 : Int), .slice as1 st1.length cs1, .slice ae1 es1.length ce1, .int .u32 (cl1 : Int)], .agg #[.int .i64 or2, .int .u64 (sq2 : Int), .int .i64 rg2, .int .u64 (ep2 : Int), .slice as2 st2.length cs2, .slice ae2 es2.length ce2, .int .u32 (cl2 : Int)]] w _
  have no0 : ¬ or1 = or2 → ¬ (⟨or1, sq1, rg1, ep1, st1, es1, cl1⟩ : ItemD) = ⟨or2, sq2, rg2, ep2, st2, es2, cl2⟩ := fun h e => h (by injection e)
  have no1 : ¬ sq1 = sq2 → ¬ (⟨or1, sq1, rg1, ep1, st1, es1, cl1⟩ : ItemD) = ⟨or2, sq2, rg2, ep2, st2, es2, cl2⟩ := fun h e => h (by injection e)
  have no2 : ¬ rg1 = rg2 → ¬ (⟨or1, sq1, rg1, ep1, st1, es1, cl1⟩ : ItemD) = ⟨or2, sq2, rg2, ep2, st2, es2, cl2⟩ := fun h e => h (by injection e)
  have no3 : ¬ ep1 = ep2 → ¬ (⟨or1, sq1, rg1, ep1, st1, es1, cl1⟩ : ItemD) = ⟨or2, sq2, rg2, ep2, st2, es2, cl2⟩ := fun h e => h (by injection e)
  have no4 : ¬ cl1 = cl2 → ¬ (⟨or1, sq1, rg1, ep1, st1, es1, cl1⟩ : ItemD) = ⟨or2, sq2, rg2, ep2, st2, es2, cl2⟩ := fun h e => h (by injection e)
  have no5 : ¬ st1 = st2 → ¬ (⟨or1, sq1, rg1, ep1, st1, es1, cl1⟩ : ItemD) = ⟨or2, sq2, rg2, ep2, st2, es2, cl2⟩ := fun h e => h (by injection e)
  have no6 : ¬ es1 = es2 → ¬ (⟨or1, sq1, rg1, ep1, st1, es1, cl1⟩ : ItemD) = ⟨or2, sq2, rg2, ep2, st2, es2, cl2⟩ := fun h e => h (by injection e)
  go_enter Try.func79, Try.ntmps79
  go_wp2_with (first | (refine wpList_boxE (cs := [.int .i64 or1, .int .u64 (sq1 : Int), .int .i64 rg1, .int .u64 (ep1 : Int), .slice as1 st1.length cs1, .slice ae1 es1.length ce1, .int .u32 (cl1 : Int)]) _ rfl rfl rfl ?_) | fail)
  intro w1 k1 g1 n1
  have K1 := Lib.hid k1
  have G1 := Lib.hid g1
  clear k1 g1 n1
  go_wp2_with (first | (refine wpList_boxE (cs := [.int .i64 or2, .int .u64 (sq2 : Int), .int .i64 rg2, .int .u64 (ep2 : Int), .slice as2 st2.length cs2, .slice ae2 es2.length ce2, .int .u32 (cl2 : Int)]) _ rfl rfl rfl ?_) | fail)
  intro w2 k2 g2 n2
  obtain ⟨b1, hb1⟩ : ∃ b1, b1 = w.heap.size := ⟨_, rfl⟩
  obtain ⟨b2, hb2⟩ : ∃ b2, b2 = w1.heap.size := ⟨_, rfl⟩
  rw [← hb1, ← hb2]
  have kk := K1.out.gr g2
  rw [← hb1] at kk
  rw [← hb2] at k2
  have T : Hid (∀ W, Gr w2 W → (W.cell? ⟨b1, 5, none⟩ = some (.slice ae1 es1.length ce1) ∧ W.cell? ⟨b2, 5, none⟩ = some (.slice ae2 es2.length ce2))) := Lib.hid fun W hW => ⟨(kk.gr hW).cell 5, (k2.gr hW).cell 5⟩
  have x0 := kk.cell 0
  have x1 := kk.cell 1
  have x2 := kk.cell 2
  have x3 := kk.cell 3
  have x4 := kk.cell 4
  have x6 := kk.cell 6
  have y0 := k2.cell 0
  have y1 := k2.cell 1
  have y2 := k2.cell 2
  have y3 := k2.cell 3
  have y4 := k2.cell 4
  have y6 := k2.cell 6
  simp only [List.getElem?_cons_zero, List.getElem?_cons_succ] at x0 y0 x1 y1 x2 y2 x3 y3 x4 y4 x6 y6
  have GG := Lib.hid (G1.out.trans g2)
  have P1 := Lib.hid (p1.gr GG.out)
  have P2 := Lib.hid (p2.gr GG.out)
  have P3 := Lib.hid (p3.gr GG.out)
  have P4 := Lib.hid (p4.gr GG.out)
  obtain ⟨q1, q2⟩ := l1
  obtain ⟨q3, q4⟩ := l2
  clear kk k2 g2 n2 K1 G1 hb1 hb2 p1 p2 p3 p4
  by_cases h0 : or1 = or2
  rotate_left
  · have HN := Lib.hid (no0 h0)
    have hq : ¬ or1 = or2 := h0
    clear h0
    clear no0 no1 no2 no3 no4 no5 no6
    go_wp2
    go_ret
    exact says_by _ false (by simp [hq]) (by simp [HN.out]) GG.out
  subst h0
  by_cases h1 : sq1 = sq2
  rotate_left
  · have HN := Lib.hid (no1 h1)
    have hq : ¬ ((sq1 : Nat) : Int) = ((sq2 : Nat) : Int) := fun e => h1 (by omega)
    clear h1
    clear no0 no1 no2 no3 no4 no5 no6
    go_wp2
    go_ret
    exact says_by _ false (by simp [hq]) (by simp [HN.out]) GG.out
  subst h1
  by_cases h2 : rg1 = rg2
  rotate_left
  · have HN := Lib.hid (no2 h2)
    have hq : ¬ rg1 = rg2 := h2
    clear h2
    clear no0 no1 no2 no3 no4 no5 no6
    go_wp2
    go_ret
    exact says_by _ false (by simp [hq]) (by simp [HN.out]) GG.out
  subst h2
  by_cases h3 : ep1 = ep2
  rotate_left
  · have HN := Lib.hid (no3 h3)
    have hq : ¬ ((ep1 : Nat) : Int) = ((ep2 : Nat) : Int) := fun e => h3 (by omega)
    clear h3
    clear no0 no1 no2 no3 no4 no5 no6
    go_wp2
    go_ret
    exact says_by _ false (by simp [hq]) (by simp [HN.out]) GG.out
  subst h3
  by_cases h4 : cl1 = cl2
  rotate_left
  · have HN := Lib.hid (no4 h4)
    have hq : ¬ ((cl1 : Nat) : Int) = ((cl2 : Nat) : Int) := fun e => h4 (by omega)
    clear h4
    clear no0 no1 no2 no3 no4 no5 no6
    go_wp2
    go_ret
    exact says_by _ false (by simp [hq]) (by simp [HN.out]) GG.out
  subst h4
  have N5 := Lib.hid no5
  have N6 := Lib.hid no6
  clear no0 no1 no2 no3 no4 no5 no6
  go_wp2_with fail
  refine (nums_says w2 _ _ st1 st2 P1.out.1 P3.out.1 q1 q3).mono ?_
  rintro e w3 ⟨z, rfl, hz, g3⟩
  cases z with
  | false =>
    have HN := Lib.hid (N5.out (fun e => by have := hz.2 e; cases this))
    have G3 := Lib.hid (GG.out.trans g3)
    clear hz g3
    go_wp2
    go_ret
    exact says_by _ false (by simp) (by simp [HN.out]) G3.out
  | true =>
    obtain rfl : st1 = st2 := hz.1 rfl
    obtain ⟨t1, t2⟩ := T.out w3 g3
    have P2' := Lib.hid (P2.out.gr g3)
    have P4' := Lib.hid (P4.out.gr g3)
    have G3 := Lib.hid (GG.out.trans g3)
    clear hz g3
    go_wp2_with fail
    refine (effs_says w3 _ _ es1 es2 P2'.out P4'.out q2 q4).mono ?_
    rintro e w4 ⟨z, rfl, hz, g4⟩
    have HZ := Lib.hid hz
    have G4 := Lib.hid (G3.out.trans g4)
    clear hz g4
    go_wp2
    go_ret
    exact says_by _ z (by simp) (by rw [HZ.out]; exact ⟨fun e => by rw [e], fun e => by injection e⟩) G4.out
end Go.Proofs.Ytgilijkmmcpfjaa
end
section
set_option linter.unusedVariables false
set_option linter.unusedSimpArgs false
set_option maxRecDepth 100000
namespace Go.Proofs.Ytgilijkmmcpfjaa
open Go.RowKit
/-- No part of an operation has parts. -/
def Flat (o : OpD) : Prop := ∀ p ∈ o.parts, p.parts = []
theorem word_of {h : OpH} {la lb : List OpD} {F : Prop} (n : ¬ (la = lb ∧ F)) : ¬ (OpD.mk h la = OpD.mk h lb ∧ F) := fun e => n ⟨by have := e.1; injection this, e.2⟩
theorem op_eq {o o' : OpD} : o = o' ↔ o.h = o'.h ∧ o.parts = o'.parts := by
  obtain ⟨h, ps⟩ := o
  obtain ⟨h', ps'⟩ := o'
  exact ⟨fun e => ⟨by rw [e], by rw [e]⟩, fun ⟨a, b⟩ => by
    replace a : h = h' := a
    replace b : ps = ps' := b
    rw [a, b]⟩
end Go.Proofs.Ytgilijkmmcpfjaa
end
