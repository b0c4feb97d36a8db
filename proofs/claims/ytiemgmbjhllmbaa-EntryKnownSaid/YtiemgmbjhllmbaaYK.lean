/-
  Of the document: the same items, operations, entries.
  Of the document: the same operations, entries.
  Of the document: the same entries.
-/
import Derived.Test.YtiemgmbjhllmbaaYRSame
section
set_option linter.unusedVariables false
set_option linter.unusedSimpArgs false
set_option maxRecDepth 100000
namespace Go.Proofs.Ytiemgmbjhllmbaa
open Go.RowKit
theorem pairAt_fst (xs ys : List Nat) (j : Nat) (h1 : j < xs.length) : (pairAt xs ys j).1 = xs[j] := by simp [pairAt, h1]
theorem pairAt_snd (xs ys : List Nat) (j : Nat) (h1 : j < ys.length) : (pairAt xs ys j).2 = ys[j] := by simp [pairAt, h1]
theorem sameV_iff (xs ys : List Nat) : sameV xs ys = true ↔ xs = ys := by
  constructor
  · intro h
    unfold sameV at h
    rw [Bool.and_eq_true] at h
    by_cases hl : xs.length = ys.length
    · rw [leqV_iff _ _ hl, leqV_iff _ _ hl.symm] at h
      refine List.ext_getElem hl fun j h1 h2 => ?_
      have a := h.1 j h1
      have b := h.2 j h2
      rw [pairAt_fst _ _ _ h1, pairAt_snd _ _ _ h2] at a
      rw [pairAt_fst _ _ _ h2, pairAt_snd _ _ _ h1] at b
      omega
    · rw [leqV_ne _ _ hl] at h; cases h.1
  · rintro rfl; exact sameV_self xs
theorem nums_says (w : World) (va vb : Value) (xs ys : List Nat) (ha : Sl w va (nums xs)) (hb : Sl w vb (nums ys)) (hx : xs.length ≤ 1000000) (hy : ys.length ≤ 1000000) :
    Calls Try.prog 16 #[va, vb] w (Says (xs = ys) w) := by
  refine (same_any w va vb xs ys ha hb hx hy).mono ?_
  intro e w' h
  obtain ⟨rfl, g⟩ := h
  exact ⟨_, rfl, sameV_iff xs ys, g⟩
set_option maxHeartbeats 4000000 in
theorem item_says (w : World) (x y : ItemD) (sv ev sv' ev' : Value) (h1 : ItemP Any w x sv ev) (h2 : ItemP Any w y sv' ev') (l1 : x.stamp.length ≤ 1000000 ∧ x.effs.length ≤ 1000000) (l2 : y.stamp.length ≤ 1000000 ∧ y.effs.length ≤ 1000000) :
    Calls Try.prog 15 #[.agg (itemCells x sv ev).toArray, .agg (itemCells y sv' ev').toArray] w (Says (x = y) w) := by
  obtain ⟨or1, sq1, rg1, ep1, st1, es1, cl1⟩ := x
  obtain ⟨or2, sq2, rg2, ep2, st2, es2, cl2⟩ := y
  obtain ⟨p1, p2⟩ := h1
  obtain ⟨p3, p4⟩ := h2
  dsimp only at p1 p2 p3 p4 l1 l2
  obtain ⟨as1, cs1, hv⟩ := p1.1.oneCells
  rw [nums_length] at hv
  subst hv
  obtain ⟨as2, cs2, hv⟩ := p3.1.oneCells
  rw [nums_length] at hv
  subst hv
  obtain ⟨ae1, ce1, rfl⟩ := p2.shape
  obtain ⟨ae2, ce2, rfl⟩ := p4.shape
  show Calls Try.prog 15 #[.agg #[.int .i64 or1, .int .u64 (sq1 : Int), .int .i64 rg1, .int .u64 (ep1 : Int), .slice as1 st1.length cs1, .slice ae1 es1.length ce1, .int .u32 (cl1 : Int)], .agg #[.int .i64 or2, .int .u64 (sq2 : Int), .int .i64 rg2, .int .u64 (ep2 : Int), .slice as2 st2.length cs2, .slice ae2 es2.length ce2, .int .u32 (cl2 : Int)]] w _
  have no0 : ¬ or1 = or2 → ¬ (⟨or1, sq1, rg1, ep1, st1, es1, cl1⟩ : ItemD) = ⟨or2, sq2, rg2, ep2, st2, es2, cl2⟩ := fun h e => h (by injection e)
  have no1 : ¬ sq1 = sq2 → ¬ (⟨or1, sq1, rg1, ep1, st1, es1, cl1⟩ : ItemD) = ⟨or2, sq2, rg2, ep2, st2, es2, cl2⟩ := fun h e => h (by injection e)
  have no2 : ¬ rg1 = rg2 → ¬ (⟨or1, sq1, rg1, ep1, st1, es1, cl1⟩ : ItemD) = ⟨or2, sq2, rg2, ep2, st2, es2, cl2⟩ := fun h e => h (by injection e)
  have no3 : ¬ ep1 = ep2 → ¬ (⟨or1, sq1, rg1, ep1, st1, es1, cl1⟩ : ItemD) = ⟨or2, sq2, rg2, ep2, st2, es2, cl2⟩ := fun h e => h (by injection e)
  have no4 : ¬ cl1 = cl2 → ¬ (⟨or1, sq1, rg1, ep1, st1, es1, cl1⟩ : ItemD) = ⟨or2, sq2, rg2, ep2, st2, es2, cl2⟩ := fun h e => h (by injection e)
  have no5 : ¬ st1 = st2 → ¬ (⟨or1, sq1, rg1, ep1, st1, es1, cl1⟩ : ItemD) = ⟨or2, sq2, rg2, ep2, st2, es2, cl2⟩ := fun h e => h (by injection e)
  have no6 : ¬ es1 = es2 → ¬ (⟨or1, sq1, rg1, ep1, st1, es1, cl1⟩ : ItemD) = ⟨or2, sq2, rg2, ep2, st2, es2, cl2⟩ := fun h e => h (by injection e)
  go_enter Try.func15, Try.ntmps15
  go_wp2_with (first | (refine wpList_boxE (cs := [.int .i64 or1, .int .u64 (sq1 : Int), .int .i64 rg1, .int .u64 (ep1 : Int), .slice as1 st1.length cs1, .slice ae1 es1.length ce1, .int .u32 (cl1 : Int)]) _ rfl rfl rfl ?_) | fail)
  intro w1 k1 g1 n1
  have K1 := Lib.hid k1
  have G1 := Lib.hid g1
  clear k1 g1 n1
  go_wp2_with (first | (refine wpList_boxE (cs := [.int .i64 or2, .int .u64 (sq2 : Int), .int .i64 rg2, .int .u64 (ep2 : Int), .slice as2 st2.length cs2, .slice ae2 es2.length ce2, .int .u32 (cl2 : Int)]) _ rfl rfl rfl ?_) | fail)
  intro w2 k2 g2 n2
  obtain ⟨b1, hb1⟩ : ∃ b1, b1 = w.heap.size := ⟨_, rfl⟩
  obtain ⟨b2, hb2⟩ : ∃ b2, b2 = w1.heap.size := ⟨_, rfl⟩
  rw [← hb1, ← hb2]
  have kk := K1.out.gr g2
  rw [← hb1] at kk
  rw [← hb2] at k2
  have T : Hid (∀ W, Gr w2 W → (W.cell? ⟨b1, 5, none⟩ = some (.slice ae1 es1.length ce1) ∧ W.cell? ⟨b2, 5, none⟩ = some (.slice ae2 es2.length ce2))) := Lib.hid fun W hW => ⟨(kk.gr hW).cell 5, (k2.gr hW).cell 5⟩
  have x0 := kk.cell 0
  have x1 := kk.cell 1
  have x2 := kk.cell 2
  have x3 := kk.cell 3
  have x4 := kk.cell 4
  have x6 := kk.cell 6
  have y0 := k2.cell 0
  have y1 := k2.cell 1
  have y2 := k2.cell 2
  have y3 := k2.cell 3
  have y4 := k2.cell 4
  have y6 := k2.cell 6
  simp only [List.getElem?_cons_zero, List.getElem?_cons_succ] at x0 y0 x1 y1 x2 y2 x3 y3 x4 y4 x6 y6
  have GG := Lib.hid (G1.out.trans g2)
  have P1 := Lib.hid (p1.gr GG.out)
  have P2 := Lib.hid (p2.gr GG.out)
  have P3 := Lib.hid (p3.gr GG.out)
  have P4 := Lib.hid (p4.gr GG.out)
  obtain ⟨q1, q2⟩ := l1
  obtain ⟨q3, q4⟩ := l2
  clear kk k2 g2 n2 K1 G1 hb1 hb2 p1 p2 p3 p4
  by_cases h0 : or1 = or2
  rotate_left
  · have HN := Lib.hid (no0 h0)
    have hq : ¬ or1 = or2 := h0
    clear h0
    clear no0 no1 no2 no3 no4 no5 no6
    go_wp2
    go_ret
    exact says_by _ false (by simp [hq]) (by simp [HN.out]) GG.out
  subst h0
  by_cases h1 : sq1 = sq2
  rotate_left
  · have HN := Lib.hid (no1 h1)
    have hq : ¬ ((sq1 : Nat) : Int) = ((sq2 : Nat) : Int) := fun e => h1 (by omega)
    clear h1
    clear no0 no1 no2 no3 no4 no5 no6
    go_wp2
    go_ret
    exact says_by _ false (by simp [hq]) (by simp [HN.out]) GG.out
  subst h1
  by_cases h2 : rg1 = rg2
  rotate_left
  · have HN := Lib.hid (no2 h2)
    have hq : ¬ rg1 = rg2 := h2
    clear h2
    clear no0 no1 no2 no3 no4 no5 no6
    go_wp2
    go_ret
    exact says_by _ false (by simp [hq]) (by simp [HN.out]) GG.out
  subst h2
  by_cases h3 : ep1 = ep2
  rotate_left
  · have HN := Lib.hid (no3 h3)
    have hq : ¬ ((ep1 : Nat) : Int) = ((ep2 : Nat) : Int) := fun e => h3 (by omega)
    clear h3
    clear no0 no1 no2 no3 no4 no5 no6
    go_wp2
    go_ret
    exact says_by _ false (by simp [hq]) (by simp [HN.out]) GG.out
  subst h3
  by_cases h4 : cl1 = cl2
  rotate_left
  · have HN := Lib.hid (no4 h4)
    have hq : ¬ ((cl1 : Nat) : Int) = ((cl2 : Nat) : Int) := fun e => h4 (by omega)
    clear h4
    clear no0 no1 no2 no3 no4 no5 no6
    go_wp2
    go_ret
    exact says_by _ false (by simp [hq]) (by simp [HN.out]) GG.out
  subst h4
  have N5 := Lib.hid no5
  have N6 := Lib.hid no6
  clear no0 no1 no2 no3 no4 no5 no6
  go_wp2_with fail
  refine (nums_says w2 _ _ st1 st2 P1.out.1 P3.out.1 q1 q3).mono ?_
  rintro e w3 ⟨z, rfl, hz, g3⟩
  cases z with
  | false =>
    have HN := Lib.hid (N5.out (fun e => by have := hz.2 e; cases this))
    have G3 := Lib.hid (GG.out.trans g3)
    clear hz g3
    go_wp2
    go_ret
    exact says_by _ false (by simp) (by simp [HN.out]) G3.out
  | true =>
    obtain rfl : st1 = st2 := hz.1 rfl
    obtain ⟨t1, t2⟩ := T.out w3 g3
    have P2' := Lib.hid (P2.out.gr g3)
    have P4' := Lib.hid (P4.out.gr g3)
    have G3 := Lib.hid (GG.out.trans g3)
    clear hz g3
    go_wp2_with fail
    refine (effs_says w3 _ _ es1 es2 P2'.out P4'.out q2 q4).mono ?_
    rintro e w4 ⟨z, rfl, hz, g4⟩
    have HZ := Lib.hid hz
    have G4 := Lib.hid (G3.out.trans g4)
    clear hz g4
    go_wp2
    go_ret
    exact says_by _ z (by simp) (by rw [HZ.out]; exact ⟨fun e => by rw [e], fun e => by injection e⟩) G4.out
end Go.Proofs.Ytiemgmbjhllmbaa
end
section
set_option linter.unusedVariables false
set_option linter.unusedSimpArgs false
set_option maxRecDepth 100000
namespace Go.Proofs.Ytiemgmbjhllmbaa
open Go.RowKit
/-- No part of an operation has parts. -/
def Flat (o : OpD) : Prop := ∀ p ∈ o.parts, p.parts = []
theorem opTy : RowTy Try.prog 37 7 := ⟨⟨_, Try.underlying37⟩, by kernel_rfl⟩
theorem word_of {h : OpH} {la lb : List OpD} {F : Prop} (n : ¬ (la = lb ∧ F)) : ¬ (OpD.mk h la = OpD.mk h lb ∧ F) := fun e => n ⟨by have := e.1; injection this, e.2⟩
theorem op_eq {o o' : OpD} : o = o' ↔ o.h = o'.h ∧ o.parts = o'.parts := by
  obtain ⟨h, ps⟩ := o
  obtain ⟨h', ps'⟩ := o'
  exact ⟨fun e => ⟨by rw [e], by rw [e]⟩, fun ⟨a, b⟩ => by
    replace a : h = h' := a
    replace b : ps = ps' := b
    rw [a, b]⟩
set_option maxHeartbeats 8000000 in
theorem sop_says (w : World) (a b : OpD) (dv pv dv' pv' : Value) (h1 : OpP Any w a dv pv) (h2 : OpP Any w b dv' pv') (l1 : a.parts.length ≤ 1000000) (l2 : b.parts.length ≤ 1000000) :
    Calls Try.prog 14 #[.agg (opCells a.h dv pv).toArray, .agg (opCells b.h dv' pv').toArray] w (Says (a = b ∧ Flat a) w) := by
  obtain ⟨p1, p2⟩ := h1.parts
  obtain ⟨p3, p4⟩ := h2.parts
  obtain ⟨⟨kd1, pa1, da1, ve1, sq1, ep1⟩, la⟩ := a
  obtain ⟨⟨kd2, pa2, da2, ve2, sq2, ep2⟩, lb⟩ := b
  replace l1 : la.length ≤ 1000000 := l1
  replace l2 : lb.length ≤ 1000000 := l2
  replace p1 : SlP Any w dv (bytes da1) := p1
  replace p3 : SlP Any w dv' (bytes da2) := p3
  replace p2 : OpsP Any w pv la := p2
  replace p4 : OpsP Any w pv' lb := p4
  obtain ⟨ad1, cd1, hv⟩ := p1.1.oneCells
  rw [bytes_length] at hv
  subst hv
  obtain ⟨ad2, cd2, hv⟩ := p3.1.oneCells
  rw [bytes_length] at hv
  subst hv
  obtain ⟨ap1, cp1, rfl⟩ := p2.shape
  obtain ⟨ap2, cp2, rfl⟩ := p4.shape
  show Calls Try.prog 14 #[.agg #[.int .u8 (kd1 : Int), .string ⟨pa1.toArray⟩, .slice ad1 da1.length cd1, .int .i64 ve1, .bool sq1, .bool ep1, .slice ap1 la.length cp1], .agg #[.int .u8 (kd2 : Int), .string ⟨pa2.toArray⟩, .slice ad2 da2.length cd2, .int .i64 ve2, .bool sq2, .bool ep2, .slice ap2 lb.length cp2]] w _
  have no0 : ¬ kd1 = kd2 → ¬ ((OpD.mk ⟨kd1, pa1, da1, ve1, sq1, ep1⟩ la) = (OpD.mk ⟨kd2, pa2, da2, ve2, sq2, ep2⟩ lb) ∧ Flat (OpD.mk ⟨kd1, pa1, da1, ve1, sq1, ep1⟩ la)) := fun h e => h (by have e1 := (op_eq.1 e.1).1; simp only [OpD.h] at e1; injection e1)
  have no1 : ¬ pa1 = pa2 → ¬ ((OpD.mk ⟨kd1, pa1, da1, ve1, sq1, ep1⟩ la) = (OpD.mk ⟨kd2, pa2, da2, ve2, sq2, ep2⟩ lb) ∧ Flat (OpD.mk ⟨kd1, pa1, da1, ve1, sq1, ep1⟩ la)) := fun h e => h (by have e1 := (op_eq.1 e.1).1; simp only [OpD.h] at e1; injection e1)
  have no2 : ¬ da1 = da2 → ¬ ((OpD.mk ⟨kd1, pa1, da1, ve1, sq1, ep1⟩ la) = (OpD.mk ⟨kd2, pa2, da2, ve2, sq2, ep2⟩ lb) ∧ Flat (OpD.mk ⟨kd1, pa1, da1, ve1, sq1, ep1⟩ la)) := fun h e => h (by have e1 := (op_eq.1 e.1).1; simp only [OpD.h] at e1; injection e1)
  have no3 : ¬ ve1 = ve2 → ¬ ((OpD.mk ⟨kd1, pa1, da1, ve1, sq1, ep1⟩ la) = (OpD.mk ⟨kd2, pa2, da2, ve2, sq2, ep2⟩ lb) ∧ Flat (OpD.mk ⟨kd1, pa1, da1, ve1, sq1, ep1⟩ la)) := fun h e => h (by have e1 := (op_eq.1 e.1).1; simp only [OpD.h] at e1; injection e1)
  have no4 : ¬ sq1 = sq2 → ¬ ((OpD.mk ⟨kd1, pa1, da1, ve1, sq1, ep1⟩ la) = (OpD.mk ⟨kd2, pa2, da2, ve2, sq2, ep2⟩ lb) ∧ Flat (OpD.mk ⟨kd1, pa1, da1, ve1, sq1, ep1⟩ la)) := fun h e => h (by have e1 := (op_eq.1 e.1).1; simp only [OpD.h] at e1; injection e1)
  have no5 : ¬ ep1 = ep2 → ¬ ((OpD.mk ⟨kd1, pa1, da1, ve1, sq1, ep1⟩ la) = (OpD.mk ⟨kd2, pa2, da2, ve2, sq2, ep2⟩ lb) ∧ Flat (OpD.mk ⟨kd1, pa1, da1, ve1, sq1, ep1⟩ la)) := fun h e => h (by have e1 := (op_eq.1 e.1).1; simp only [OpD.h] at e1; injection e1)
  have nl : ¬ la.length = lb.length → ¬ ((OpD.mk ⟨kd1, pa1, da1, ve1, sq1, ep1⟩ la) = (OpD.mk ⟨kd2, pa2, da2, ve2, sq2, ep2⟩ lb) ∧ Flat (OpD.mk ⟨kd1, pa1, da1, ve1, sq1, ep1⟩ la)) := fun h e => h (by have e1 := (op_eq.1 e.1).2; simp only [OpD.parts] at e1; rw [e1])
  go_enter Try.func14, Try.ntmps14
  go_wp2_with (first | (refine wpList_boxE (cs := [.int .u8 (kd1 : Int), .string ⟨pa1.toArray⟩, .slice ad1 da1.length cd1, .int .i64 ve1, .bool sq1, .bool ep1, .slice ap1 la.length cp1]) _ rfl rfl rfl ?_) | fail)
  intro w1 k1 g1 n1
  have K1 := Lib.hid k1
  have G1 := Lib.hid g1
  clear k1 g1 n1
  go_wp2_with (first | (refine wpList_boxE (cs := [.int .u8 (kd2 : Int), .string ⟨pa2.toArray⟩, .slice ad2 da2.length cd2, .int .i64 ve2, .bool sq2, .bool ep2, .slice ap2 lb.length cp2]) _ rfl rfl rfl ?_) | fail)
  intro w2 k2 g2 n2
  have s1 := run_string_sl (P := Try.prog) 22 5 9 Try.underlying22 Try.underlying5 Try.underlying9 (p1.1.below (G1.out.trans g2))
  have s2 := run_string_sl (P := Try.prog) 22 5 9 Try.underlying22 Try.underlying5 Try.underlying9 (p3.1.below (G1.out.trans g2))
  obtain ⟨b1, hb1⟩ : ∃ b1, b1 = w.heap.size := ⟨_, rfl⟩
  obtain ⟨b2, hb2⟩ : ∃ b2, b2 = w1.heap.size := ⟨_, rfl⟩
  rw [← hb1, ← hb2]
  have kk := K1.out.gr g2
  rw [← hb1] at kk
  rw [← hb2] at k2
  have T : Hid (∀ W, Gr w2 W → (W.cell? ⟨b1, 6, none⟩ = some (.slice ap1 la.length cp1) ∧ W.cell? ⟨b2, 6, none⟩ = some (.slice ap2 lb.length cp2))) := Lib.hid fun W hW => ⟨(kk.gr hW).cell 6, (k2.gr hW).cell 6⟩
  have x0 := kk.cell 0
  have x1 := kk.cell 1
  have x2 := kk.cell 2
  have x3 := kk.cell 3
  have x4 := kk.cell 4
  have x5 := kk.cell 5
  have x6 := kk.cell 6
  have y0 := k2.cell 0
  have y1 := k2.cell 1
  have y2 := k2.cell 2
  have y3 := k2.cell 3
  have y4 := k2.cell 4
  have y5 := k2.cell 5
  have y6 := k2.cell 6
  simp only [List.getElem?_cons_zero, List.getElem?_cons_succ] at x0 y0 x1 y1 x2 y2 x3 y3 x4 y4 x5 y5 x6 y6
  have GG := Lib.hid (G1.out.trans g2)
  have P2 := Lib.hid (p2.gr GG.out)
  have P4 := Lib.hid (p4.gr GG.out)
  clear kk k2 g2 n2 K1 G1 hb1 hb2 p1 p2 p3 p4 h1 h2
  by_cases h0 : kd1 = kd2
  rotate_left
  · have HN := Lib.hid (no0 h0)
    have hq : ¬ ((kd1 : Nat) : Int) = ((kd2 : Nat) : Int) := fun e => h0 (by omega)
    clear h0
    clear no0 no1 no2 no3 no4 no5 nl
    go_wp2
    go_ret
    exact says_by _ false (by simp) ⟨fun h => (by cases h), fun h => absurd h HN.out⟩ GG.out
  subst h0
  by_cases h1 : pa1 = pa2
  rotate_left
  · have HN := Lib.hid (no1 h1)
    have hq : (pa1 == pa2) = false := by simpa using h1
    clear h1
    clear no0 no1 no2 no3 no4 no5 nl
    go_wp2
    go_ret
    exact says_by _ false (by simp) ⟨fun h => (by cases h), fun h => absurd h HN.out⟩ GG.out
  subst h1
  by_cases h2 : da1 = da2
  rotate_left
  · have HN := Lib.hid (no2 h2)
    have hq : (da1 == da2) = false := by simpa using h2
    clear h2
    clear no0 no1 no2 no3 no4 no5 nl
    go_wp2
    go_ret
    exact says_by _ false (by simp) ⟨fun h => (by cases h), fun h => absurd h HN.out⟩ GG.out
  subst h2
  by_cases h3 : ve1 = ve2
  rotate_left
  · have HN := Lib.hid (no3 h3)
    have hq : ¬ ve1 = ve2 := h3
    clear h3
    clear no0 no1 no2 no3 no4 no5 nl
    go_wp2
    go_ret
    exact says_by _ false (by simp) ⟨fun h => (by cases h), fun h => absurd h HN.out⟩ GG.out
  subst h3
  by_cases h4 : sq1 = sq2
  rotate_left
  · have HN := Lib.hid (no4 h4)
    have hq : (sq1 == sq2) = false := by simpa using h4
    clear h4
    clear no0 no1 no2 no3 no4 no5 nl
    go_wp2
    go_ret
    exact says_by _ false (by simp) ⟨fun h => (by cases h), fun h => absurd h HN.out⟩ GG.out
  subst h4
  by_cases h5 : ep1 = ep2
  rotate_left
  · have HN := Lib.hid (no5 h5)
    have hq : (ep1 == ep2) = false := by simpa using h5
    clear h5
    clear no0 no1 no2 no3 no4 no5 nl
    go_wp2
    go_ret
    exact says_by _ false (by simp) ⟨fun h => (by cases h), fun h => absurd h HN.out⟩ GG.out
  subst h5
  clear no0 no1 no2 no3 no4 no5
  by_cases hl : la.length = lb.length
  rotate_left
  · have HN := Lib.hid (nl hl)
    have hq : ¬ (la.length : Int) = (lb.length : Int) := fun e => hl (by omega)
    clear hl nl
    go_wp2
    go_ret
    exact says_by _ false (by simp) ⟨fun h => (by cases h), fun h => absurd h HN.out⟩ GG.out
  have HL := Lib.hid hl
  rw [← hl] at y6
  have T2 := Lib.hid fun W hW => T.out W hW
  rw [← hl] at T2
  clear nl hl T
  go_wp2_with fail
  go_loopw [5] (fun i wr => ∃ k : Nat, k ≤ la.length ∧ i = .int .i64 k ∧ la.take k = lb.take k ∧ (∀ p ∈ la.take k, p.parts = []) ∧ Gr w2 wr) (fun i _ => la.length - (intOf i).toNat)
  case atStart => exact ⟨0, Nat.zero_le _, rfl, rfl, fun p hp => by simp at hp, Gr.refl _⟩
  case round =>
    clear x0 x1 x2 x3 x4 x5 x6 y0 y1 y2 y3 y4 y5 y6 s1 s2
    obtain ⟨k, hk, rfl, hpre, hfl, hg⟩ := hrel
    obtain ⟨x6, y6⟩ := T2.out wr hg
    have HP := Lib.hid hpre
    have HFL := Lib.hid hfl
    have HG := Lib.hid hg
    clear hpre hfl
    by_cases hlt : k < la.length
    · have hlt2 : k < lb.length := by rw [← HL.out]; exact hlt
      obtain ⟨B3, o3, _, dv3, pv3, e3, hB3, op3, t3⟩ := (P2.out.gr hg).at k hlt
      obtain ⟨B4, o4, _, dv4, pv4, e4, hB4, op4, t4⟩ := (P4.out.gr hg).at k hlt2
      injection e3 with e3 _ q3
      injection e4 with e4 _ q4
      subst e3 e4 q3 q4
      obtain ⟨x, hx⟩ : ∃ x, x = la[k] := ⟨_, rfl⟩
      obtain ⟨y, hy⟩ : ∃ y, y = lb[k] := ⟨_, rfl⟩
      have XY : Hid (la = lb → x = y) := Lib.hid fun e => by subst e; rw [hx, hy]
      have NF3 : Hid (¬ x.parts = [] → ¬ (la = lb ∧ Flat (OpD.mk ⟨kd1, pa1, da1, ve1, sq1, ep1⟩ la))) := Lib.hid fun h e => h (e.2 x (by rw [hx]; exact List.getElem_mem hlt))
      have NF4 : Hid (¬ y.parts = [] → ¬ (la = lb ∧ Flat (OpD.mk ⟨kd1, pa1, da1, ve1, sq1, ep1⟩ la))) := Lib.hid fun h e => h (by rw [← XY.out e.1]; exact e.2 x (by rw [hx]; exact List.getElem_mem hlt))
      have YES0 : Hid (x = y → x.parts = [] → la.take (k + 1) = lb.take (k + 1) ∧ ∀ p ∈ la.take (k + 1), p.parts = []) := Lib.hid fun e h => by
        have e1 : la.take (k + 1) = la.take k ++ [x] := by rw [List.take_add_one, List.getElem?_eq_getElem hlt, ← hx]; rfl
        have e2 : lb.take (k + 1) = lb.take k ++ [y] := by rw [List.take_add_one, List.getElem?_eq_getElem hlt2, ← hy]; rfl
        refine ⟨by rw [e1, e2, HP.out, e], fun p hp => ?_⟩
        rw [e1, List.mem_append, List.mem_singleton] at hp
        rcases hp with hp | rfl
        · exact HFL.out p hp
        · exact h
      rw [← hx] at op3 t3
      rw [← hy] at op4 t4
      clear hx hy HP HFL
      obtain ⟨u1, u2⟩ := op3.parts
      obtain ⟨u3, u4⟩ := op4.parts
      obtain ⟨⟨kd3, pa3, da3, ve3, sq3, ep3⟩, qs3⟩ := x
      obtain ⟨⟨kd4, pa4, da4, ve4, sq4, ep4⟩, qs4⟩ := y
      replace u1 : SlP Any wr dv3 (bytes da3) := u1
      replace u3 : SlP Any wr dv4 (bytes da4) := u3
      replace u2 : OpsP Any wr pv3 qs3 := u2
      replace u4 : OpsP Any wr pv4 qs4 := u4
      have NF3' : Hid (¬ qs3 = [] → ¬ (la = lb ∧ Flat (OpD.mk ⟨kd1, pa1, da1, ve1, sq1, ep1⟩ la))) := NF3
      have NF4' : Hid (¬ qs4 = [] → ¬ (la = lb ∧ Flat (OpD.mk ⟨kd1, pa1, da1, ve1, sq1, ep1⟩ la))) := NF4
      clear NF3 NF4
      have NF3 := NF3'
      have NF4 := NF4'
      clear NF3' NF4'
      obtain ⟨ad3, cd3, hv⟩ := u1.1.oneCells
      rw [bytes_length] at hv
      subst hv
      obtain ⟨ad4, cd4, hv⟩ := u3.1.oneCells
      rw [bytes_length] at hv
      subst hv
      obtain ⟨ap3, cp3, hv3⟩ := u2.shape
      obtain ⟨ap4, cp4, hv4⟩ := u4.shape
      obtain ⟨n3, hn3⟩ : ∃ n3, n3 = qs3.length := ⟨_, rfl⟩
      obtain ⟨n4, hn4⟩ : ∃ n4, n4 = qs4.length := ⟨_, rfl⟩
      rw [← hn3] at hv3
      rw [← hn4] at hv4
      have M3 := Lib.hid hn3
      have M4 := Lib.hid hn4
      subst hv3 hv4
      clear hn3 hn4
      have a0 := t3 0 _ (by decide) rfl
      have a1 := t3 1 _ (by decide) rfl
      have a2 := t3 2 _ (by decide) rfl
      have a3 := t3 3 _ (by decide) rfl
      have a4 := t3 4 _ (by decide) rfl
      have a5 := t3 5 _ (by decide) rfl
      have a6 := t3 6 _ (by decide) rfl
      have TB : Hid (∀ W, Gr wr W → W.cell? ⟨B4, o4 + k * 7 + 0, none⟩ = some (.int .u8 (kd4 : Int)) ∧ W.cell? ⟨B4, o4 + k * 7 + 1, none⟩ = some (.string ⟨pa4.toArray⟩) ∧ W.cell? ⟨B4, o4 + k * 7 + 2, none⟩ = some (.slice ad4 da4.length cd4) ∧ W.cell? ⟨B4, o4 + k * 7 + 3, none⟩ = some (.int .i64 ve4) ∧ W.cell? ⟨B4, o4 + k * 7 + 4, none⟩ = some (.bool sq4) ∧ W.cell? ⟨B4, o4 + k * 7 + 5, none⟩ = some (.bool ep4) ∧ W.cell? ⟨B4, o4 + k * 7 + 6, none⟩ = some (.slice ap4 n4 cp4)) := Lib.hid fun W hW => ⟨(hW.cell (p := ⟨B4, o4 + k * 7 + 0, none⟩) hB4).trans (t4 0 _ (by decide) rfl), (hW.cell (p := ⟨B4, o4 + k * 7 + 1, none⟩) hB4).trans (t4 1 _ (by decide) rfl), (hW.cell (p := ⟨B4, o4 + k * 7 + 2, none⟩) hB4).trans (t4 2 _ (by decide) rfl), (hW.cell (p := ⟨B4, o4 + k * 7 + 3, none⟩) hB4).trans (t4 3 _ (by decide) rfl), (hW.cell (p := ⟨B4, o4 + k * 7 + 4, none⟩) hB4).trans (t4 4 _ (by decide) rfl), (hW.cell (p := ⟨B4, o4 + k * 7 + 5, none⟩) hB4).trans (t4 5 _ (by decide) rfl), (hW.cell (p := ⟨B4, o4 + k * 7 + 6, none⟩) hB4).trans (t4 6 _ (by decide) rfl)⟩
      simp only [opCells, OpD.h, Nat.add_zero] at a0 a1 a2 a3 a4 a5 a6 TB
      have S3 := Lib.hid u1.1
      have S4 := Lib.hid u3.1
      clear t3 t4 op3 op4 u1 u2 u3 u4
      have i1 : (0 : Int) ≤ (k : Int) := by omega
      have i2 : (k : Int) < (la.length : Int) := by omega
      have GW := Lib.hid (GG.out.trans hg)
      have hgw : Hid (Gr w2 wr) := Lib.hid hg
      clear hg HG
      go_wp2_with (first | (refine wpList_storeE opTy _ _ rfl rfl rfl rfl (CellsAt.new _ _ _) rfl rfl rfl ?_) | fail)
      intro W3 K3' C3
      have g3 : Gr wr W3 := Below.trans ((Gr.refl wr).alloc _) (C3.below ((Gr.refl wr).alloc _).size (fun k hk => by have : k = wr.heap.size := hk; omega))
      have G3 := Lib.hid g3
      have K3 := Lib.hid K3'
      obtain ⟨z1, z2⟩ := T2.out W3 ((show Gr w2 wr from hgw.out).trans g3)
      obtain ⟨c0, c1, c2, c3, c4, c5, c6⟩ := TB.out W3 g3
      obtain ⟨b5, hb5⟩ : ∃ b5, b5 = wr.heap.size := ⟨_, rfl⟩
      rw [← hb5] at K3 ⊢
      clear K3' C3 g3 a0 a1 a2 a3 a4 a5 a6 x6 y6 hb5 z1
      go_wp2_with (first | (refine wpList_storeE opTy _ _ rfl rfl rfl rfl (CellsAt.new _ _ _) rfl rfl rfl ?_) | fail)
      intro W4 K4' C4
      have g4 : Gr W3 W4 := Below.trans ((Gr.refl W3).alloc _) (C4.below ((Gr.refl W3).alloc _).size (fun k hk => by have : k = W3.heap.size := hk; omega))
      obtain ⟨b6, hb6⟩ : ∃ b6, b6 = W3.heap.size := ⟨_, rfl⟩
      rw [← hb6] at K4' ⊢
      have kk := K3.out.gr g4
      have s1 := run_string_sl (P := Try.prog) 22 5 9 Try.underlying22 Try.underlying5 Try.underlying9 (S3.out.below (G3.out.trans g4))
      have s2 := run_string_sl (P := Try.prog) 22 5 9 Try.underlying22 Try.underlying5 Try.underlying9 (S4.out.below (G3.out.trans g4))
      have x0 : W4.cell? ⟨b5, 0, none⟩ = some (.int .u8 (kd3 : Int)) := kk.cell 0
      have x1 : W4.cell? ⟨b5, 1, none⟩ = some (.string ⟨pa3.toArray⟩) := kk.cell 1
      have x2 : W4.cell? ⟨b5, 2, none⟩ = some (.slice ad3 da3.length cd3) := kk.cell 2
      have x3 : W4.cell? ⟨b5, 3, none⟩ = some (.int .i64 ve3) := kk.cell 3
      have x4 : W4.cell? ⟨b5, 4, none⟩ = some (.bool sq3) := kk.cell 4
      have x5 : W4.cell? ⟨b5, 5, none⟩ = some (.bool ep3) := kk.cell 5
      have x6 : W4.cell? ⟨b5, 6, none⟩ = some (.slice ap3 n3 cp3) := kk.cell 6
      have y0 : W4.cell? ⟨b6, 0, none⟩ = some (.int .u8 (kd4 : Int)) := K4'.cell 0
      have y1 : W4.cell? ⟨b6, 1, none⟩ = some (.string ⟨pa4.toArray⟩) := K4'.cell 1
      have y2 : W4.cell? ⟨b6, 2, none⟩ = some (.slice ad4 da4.length cd4) := K4'.cell 2
      have y3 : W4.cell? ⟨b6, 3, none⟩ = some (.int .i64 ve4) := K4'.cell 3
      have y4 : W4.cell? ⟨b6, 4, none⟩ = some (.bool sq4) := K4'.cell 4
      have y5 : W4.cell? ⟨b6, 5, none⟩ = some (.bool ep4) := K4'.cell 5
      have y6 : W4.cell? ⟨b6, 6, none⟩ = some (.slice ap4 n4 cp4) := K4'.cell 6
      have GZ := Lib.hid (GW.out.trans (G3.out.trans g4))
      have GZ2 := Lib.hid (hgw.out.trans (G3.out.trans g4))
      clear K4' C4 g4 kk c0 c1 c2 c3 c4 c5 c6 hb6 z2
      have nr0 : ¬ kd3 = kd4 → ¬ (la = lb ∧ Flat (OpD.mk ⟨kd1, pa1, da1, ve1, sq1, ep1⟩ la)) := fun h e => h (by have e1 := (op_eq.1 (XY.out e.1)).1; simp only [OpD.h] at e1; injection e1)
      have nr1 : ¬ pa3 = pa4 → ¬ (la = lb ∧ Flat (OpD.mk ⟨kd1, pa1, da1, ve1, sq1, ep1⟩ la)) := fun h e => h (by have e1 := (op_eq.1 (XY.out e.1)).1; simp only [OpD.h] at e1; injection e1)
      have nr2 : ¬ da3 = da4 → ¬ (la = lb ∧ Flat (OpD.mk ⟨kd1, pa1, da1, ve1, sq1, ep1⟩ la)) := fun h e => h (by have e1 := (op_eq.1 (XY.out e.1)).1; simp only [OpD.h] at e1; injection e1)
      have nr3 : ¬ ve3 = ve4 → ¬ (la = lb ∧ Flat (OpD.mk ⟨kd1, pa1, da1, ve1, sq1, ep1⟩ la)) := fun h e => h (by have e1 := (op_eq.1 (XY.out e.1)).1; simp only [OpD.h] at e1; injection e1)
      have nr4 : ¬ sq3 = sq4 → ¬ (la = lb ∧ Flat (OpD.mk ⟨kd1, pa1, da1, ve1, sq1, ep1⟩ la)) := fun h e => h (by have e1 := (op_eq.1 (XY.out e.1)).1; simp only [OpD.h] at e1; injection e1)
      have nr5 : ¬ ep3 = ep4 → ¬ (la = lb ∧ Flat (OpD.mk ⟨kd1, pa1, da1, ve1, sq1, ep1⟩ la)) := fun h e => h (by have e1 := (op_eq.1 (XY.out e.1)).1; simp only [OpD.h] at e1; injection e1)
      by_cases h0 : kd3 = kd4
      rotate_left
      · have HN := Lib.hid (nr0 h0)
        have hq : ¬ ((kd3 : Nat) : Int) = ((kd4 : Nat) : Int) := fun e => h0 (by omega)
        clear h0
        clear nr0 nr1 nr2 nr3 nr4 nr5
        go_wp2
        go_ret
        exact says_by _ false (by simp) ⟨fun h => (by cases h), fun h => by first | exact absurd h (word_of HN.out) | exact absurd h HN.out⟩ GZ.out
      subst h0
      by_cases h1 : pa3 = pa4
      rotate_left
      · have HN := Lib.hid (nr1 h1)
        have hq : (pa3 == pa4) = false := by simpa using h1
        clear h1
        clear nr0 nr1 nr2 nr3 nr4 nr5
        go_wp2
        go_ret
        exact says_by _ false (by simp) ⟨fun h => (by cases h), fun h => by first | exact absurd h (word_of HN.out) | exact absurd h HN.out⟩ GZ.out
      subst h1
      by_cases h2 : da3 = da4
      rotate_left
      · have HN := Lib.hid (nr2 h2)
        have hq : (da3 == da4) = false := by simpa using h2
        clear h2
        clear nr0 nr1 nr2 nr3 nr4 nr5
        go_wp2
        go_ret
        exact says_by _ false (by simp) ⟨fun h => (by cases h), fun h => by first | exact absurd h (word_of HN.out) | exact absurd h HN.out⟩ GZ.out
      subst h2
      by_cases h3 : ve3 = ve4
      rotate_left
      · have HN := Lib.hid (nr3 h3)
        have hq : ¬ ve3 = ve4 := h3
        clear h3
        clear nr0 nr1 nr2 nr3 nr4 nr5
        go_wp2
        go_ret
        exact says_by _ false (by simp) ⟨fun h => (by cases h), fun h => by first | exact absurd h (word_of HN.out) | exact absurd h HN.out⟩ GZ.out
      subst h3
      by_cases h4 : sq3 = sq4
      rotate_left
      · have HN := Lib.hid (nr4 h4)
        have hq : (sq3 == sq4) = false := by simpa using h4
        clear h4
        clear nr0 nr1 nr2 nr3 nr4 nr5
        go_wp2
        go_ret
        exact says_by _ false (by simp) ⟨fun h => (by cases h), fun h => by first | exact absurd h (word_of HN.out) | exact absurd h HN.out⟩ GZ.out
      subst h4
      by_cases h5 : ep3 = ep4
      rotate_left
      · have HN := Lib.hid (nr5 h5)
        have hq : (ep3 == ep4) = false := by simpa using h5
        clear h5
        clear nr0 nr1 nr2 nr3 nr4 nr5
        go_wp2
        go_ret
        exact says_by _ false (by simp) ⟨fun h => (by cases h), fun h => by first | exact absurd h (word_of HN.out) | exact absurd h HN.out⟩ GZ.out
      subst h5
      clear nr0 nr1 nr2 nr3 nr4 nr5
      by_cases hp3 : qs3 = []
      rotate_left
      · have HN := Lib.hid (NF3.out hp3)
        have hq : (0 : Int) < (n3 : Int) := by have : 0 < qs3.length := List.length_pos_iff.2 hp3; have := M3.out; omega
        clear hp3
        go_wp2
        go_ret
        exact says_by _ false (by simp) ⟨fun h => (by cases h), fun h => by first | exact absurd h (word_of HN.out) | exact absurd h HN.out⟩ GZ.out
      by_cases hp4 : qs4 = []
      rotate_left
      · have HN := Lib.hid (NF4.out hp4)
        have hq3 : ¬ (0 : Int) < (n3 : Int) := by rw [M3.out, hp3]; simp
        have hq : (0 : Int) < (n4 : Int) := by have : 0 < qs4.length := List.length_pos_iff.2 hp4; have := M4.out; omega
        clear hp3 hp4
        go_wp2
        go_ret
        exact says_by _ false (by simp) ⟨fun h => (by cases h), fun h => by first | exact absurd h (word_of HN.out) | exact absurd h HN.out⟩ GZ.out
      have hq3 : ¬ (0 : Int) < (n3 : Int) := by rw [M3.out, hp3]; simp
      have hq4 : ¬ (0 : Int) < (n4 : Int) := by rw [M4.out, hp4]; simp
      have YY := Lib.hid (YES0.out (by rw [hp3, hp4]) (by rw [hp3]; rfl))
      clear hp3 hp4
      go_wp2
      go_roundw
      case rel => first | exact ⟨k + 1, by omega, by go_num, YY.out.1, YY.out.2, GZ2.out⟩ | ((repeat apply Exists.intro); apply And.intro; rotate_left; rfl; exact ⟨k + 1, by omega, by go_num, YY.out.1, YY.out.2, GZ2.out⟩)
      case measure => simp [intOf]; omega
    · obtain rfl : k = la.length := by omega
      have e : (OpD.mk ⟨kd1, pa1, da1, ve1, sq1, ep1⟩ la) = (OpD.mk ⟨kd1, pa1, da1, ve1, sq1, ep1⟩ lb) ∧ Flat (OpD.mk ⟨kd1, pa1, da1, ve1, sq1, ep1⟩ la) := by
        have h := HP.out
        have h2 := HFL.out
        rw [List.take_length] at h h2
        rw [HL.out, List.take_length] at h
        exact ⟨by rw [h], h2⟩
      have E := Lib.hid e
      have GZ := Lib.hid (GG.out.trans hg)
      clear e HP HFL hg
      go_wp2
      go_ret
      exact says_by _ true (by simp) ⟨fun _ => E.out, fun _ => rfl⟩ GZ.out
end Go.Proofs.Ytiemgmbjhllmbaa
end
section
set_option linter.unusedVariables false
set_option linter.unusedSimpArgs false
set_option maxRecDepth 100000
namespace Go.Proofs.Ytiemgmbjhllmbaa
open Go.RowKit
/-- An entry of which no list is long. -/
structure EntShort (x : EntD) : Prop where
  parts : x.op.parts.length ≤ 1000000
  stamp : x.item.stamp.length ≤ 1000000
  effs : x.item.effs.length ≤ 1000000
  frontier : x.frontier.length ≤ 1000000
set_option maxHeartbeats 8000000 in
theorem ent_says (w : World) (x y : EntD) (qx qy : EntV) (hx : EntP Any w x qx) (hy : EntP Any w y qy) (lx : EntShort x) (ly : EntShort y) :
    Calls Try.prog 6 #[.agg (entCells x qx).toArray, .agg (entCells y qy).toArray] w (Says (x = y ∧ Flat x.op) w) := by
  obtain ⟨lx1, lx2, lx3, lx4⟩ := lx
  obtain ⟨ly1, ly2, ly3, ly4⟩ := ly
  obtain ⟨da1, dc1, pa1, pc1, sa1, sc1, ea1, ec1, fa1, fc1, rfl⟩ := hx.shapes
  obtain ⟨da2, dc2, pa2, pc2, sa2, sc2, ea2, ec2, fa2, fc2, rfl⟩ := hy.shapes
  obtain ⟨kd1, cl1, rq1, os1, on1, op1, it1, si1, re1, ep1, fr1⟩ := x
  obtain ⟨kd2, cl2, rq2, os2, on2, op2, it2, si2, re2, ep2, fr2⟩ := y
  dsimp only at hx hy lx1 lx2 lx3 lx4 ly1 ly2 ly3 ly4
  dsimp only
  obtain ⟨E1, hE1⟩ : ∃ E, E = entCells ⟨kd1, cl1, rq1, os1, on1, op1, it1, si1, re1, ep1, fr1⟩ ⟨.slice da1 (bytes op1.h.data).length dc1, .slice pa1 op1.parts.length pc1, .slice sa1 (nums it1.stamp).length sc1, .slice ea1 it1.effs.length ec1, .slice fa1 (nums fr1).length fc1⟩ := ⟨_, rfl⟩
  obtain ⟨E2, hE2⟩ : ∃ E, E = entCells ⟨kd2, cl2, rq2, os2, on2, op2, it2, si2, re2, ep2, fr2⟩ ⟨.slice da2 (bytes op2.h.data).length dc2, .slice pa2 op2.parts.length pc2, .slice sa2 (nums it2.stamp).length sc2, .slice ea2 it2.effs.length ec2, .slice fa2 (nums fr2).length fc2⟩ := ⟨_, rfl⟩
  have CE1 : Hid (∀ W b, CellsAt W b E1 39 → W.cell? ⟨b, 0, none⟩ = some (.int .u8 (kd1 : Int)) ∧ W.cell? ⟨b, 1, none⟩ = some (.int .u32 (cl1 : Int)) ∧ W.cell? ⟨b, 2, none⟩ = some (.int .u32 (rq1 : Int)) ∧ W.cell? ⟨b, 3, none⟩ = some (.int .i64 os1) ∧ W.cell? ⟨b, 4, none⟩ = some (.int .u32 (on1 : Int)) ∧ W.cell? ⟨b, 5, none⟩ = some (.int .u8 (op1.h.kind : Int)) ∧ W.cell? ⟨b, 6, none⟩ = some (.string ⟨op1.h.path.toArray⟩) ∧ W.cell? ⟨b, 7, none⟩ = some (.slice da1 (bytes op1.h.data).length dc1) ∧ W.cell? ⟨b, 8, none⟩ = some (.int .i64 op1.h.version) ∧ W.cell? ⟨b, 9, none⟩ = some (.bool op1.h.seq) ∧ W.cell? ⟨b, 10, none⟩ = some (.bool op1.h.eph) ∧ W.cell? ⟨b, 11, none⟩ = some (.slice pa1 op1.parts.length pc1) ∧ W.cell? ⟨b, 12, none⟩ = some (.int .i64 it1.origin) ∧ W.cell? ⟨b, 13, none⟩ = some (.int .u64 (it1.seq : Int)) ∧ W.cell? ⟨b, 14, none⟩ = some (.int .i64 it1.region) ∧ W.cell? ⟨b, 15, none⟩ = some (.int .u64 (it1.epoch : Int)) ∧ W.cell? ⟨b, 16, none⟩ = some (.slice sa1 (nums it1.stamp).length sc1) ∧ W.cell? ⟨b, 17, none⟩ = some (.slice ea1 it1.effs.length ec1) ∧ W.cell? ⟨b, 18, none⟩ = some (.int .u32 (it1.closed : Int)) ∧ W.cell? ⟨b, 19, none⟩ = some (.int .i64 si1) ∧ W.cell? ⟨b, 20, none⟩ = some (.int .i64 re1) ∧ W.cell? ⟨b, 21, none⟩ = some (.int .u64 (ep1 : Int)) ∧ W.cell? ⟨b, 22, none⟩ = some (.slice fa1 (nums fr1).length fc1)) := Lib.hid fun W b h => by subst hE1; exact ⟨h.cell 0, h.cell 1, h.cell 2, h.cell 3, h.cell 4, h.cell 5, h.cell 6, h.cell 7, h.cell 8, h.cell 9, h.cell 10, h.cell 11, h.cell 12, h.cell 13, h.cell 14, h.cell 15, h.cell 16, h.cell 17, h.cell 18, h.cell 19, h.cell 20, h.cell 21, h.cell 22⟩
  have CE2 : Hid (∀ W b, CellsAt W b E2 39 → W.cell? ⟨b, 0, none⟩ = some (.int .u8 (kd2 : Int)) ∧ W.cell? ⟨b, 1, none⟩ = some (.int .u32 (cl2 : Int)) ∧ W.cell? ⟨b, 2, none⟩ = some (.int .u32 (rq2 : Int)) ∧ W.cell? ⟨b, 3, none⟩ = some (.int .i64 os2) ∧ W.cell? ⟨b, 4, none⟩ = some (.int .u32 (on2 : Int)) ∧ W.cell? ⟨b, 5, none⟩ = some (.int .u8 (op2.h.kind : Int)) ∧ W.cell? ⟨b, 6, none⟩ = some (.string ⟨op2.h.path.toArray⟩) ∧ W.cell? ⟨b, 7, none⟩ = some (.slice da2 (bytes op2.h.data).length dc2) ∧ W.cell? ⟨b, 8, none⟩ = some (.int .i64 op2.h.version) ∧ W.cell? ⟨b, 9, none⟩ = some (.bool op2.h.seq) ∧ W.cell? ⟨b, 10, none⟩ = some (.bool op2.h.eph) ∧ W.cell? ⟨b, 11, none⟩ = some (.slice pa2 op2.parts.length pc2) ∧ W.cell? ⟨b, 12, none⟩ = some (.int .i64 it2.origin) ∧ W.cell? ⟨b, 13, none⟩ = some (.int .u64 (it2.seq : Int)) ∧ W.cell? ⟨b, 14, none⟩ = some (.int .i64 it2.region) ∧ W.cell? ⟨b, 15, none⟩ = some (.int .u64 (it2.epoch : Int)) ∧ W.cell? ⟨b, 16, none⟩ = some (.slice sa2 (nums it2.stamp).length sc2) ∧ W.cell? ⟨b, 17, none⟩ = some (.slice ea2 it2.effs.length ec2) ∧ W.cell? ⟨b, 18, none⟩ = some (.int .u32 (it2.closed : Int)) ∧ W.cell? ⟨b, 19, none⟩ = some (.int .i64 si2) ∧ W.cell? ⟨b, 20, none⟩ = some (.int .i64 re2) ∧ W.cell? ⟨b, 21, none⟩ = some (.int .u64 (ep2 : Int)) ∧ W.cell? ⟨b, 22, none⟩ = some (.slice fa2 (nums fr2).length fc2)) := Lib.hid fun W b h => by subst hE2; exact ⟨h.cell 0, h.cell 1, h.cell 2, h.cell 3, h.cell 4, h.cell 5, h.cell 6, h.cell 7, h.cell 8, h.cell 9, h.cell 10, h.cell 11, h.cell 12, h.cell 13, h.cell 14, h.cell 15, h.cell 16, h.cell 17, h.cell 18, h.cell 19, h.cell 20, h.cell 21, h.cell 22⟩
  rw [← hE1, ← hE2]
  have no0 : ¬ kd1 = kd2 → ¬ ((⟨kd1, cl1, rq1, os1, on1, op1, it1, si1, re1, ep1, fr1⟩ : EntD) = ⟨kd2, cl2, rq2, os2, on2, op2, it2, si2, re2, ep2, fr2⟩ ∧ Flat op1) := fun h e => h (by have := e.1; injection this)
  have no1 : ¬ cl1 = cl2 → ¬ ((⟨kd1, cl1, rq1, os1, on1, op1, it1, si1, re1, ep1, fr1⟩ : EntD) = ⟨kd2, cl2, rq2, os2, on2, op2, it2, si2, re2, ep2, fr2⟩ ∧ Flat op1) := fun h e => h (by have := e.1; injection this)
  have no2 : ¬ rq1 = rq2 → ¬ ((⟨kd1, cl1, rq1, os1, on1, op1, it1, si1, re1, ep1, fr1⟩ : EntD) = ⟨kd2, cl2, rq2, os2, on2, op2, it2, si2, re2, ep2, fr2⟩ ∧ Flat op1) := fun h e => h (by have := e.1; injection this)
  have no3 : ¬ os1 = os2 → ¬ ((⟨kd1, cl1, rq1, os1, on1, op1, it1, si1, re1, ep1, fr1⟩ : EntD) = ⟨kd2, cl2, rq2, os2, on2, op2, it2, si2, re2, ep2, fr2⟩ ∧ Flat op1) := fun h e => h (by have := e.1; injection this)
  have no4 : ¬ on1 = on2 → ¬ ((⟨kd1, cl1, rq1, os1, on1, op1, it1, si1, re1, ep1, fr1⟩ : EntD) = ⟨kd2, cl2, rq2, os2, on2, op2, it2, si2, re2, ep2, fr2⟩ ∧ Flat op1) := fun h e => h (by have := e.1; injection this)
  have no5 : ¬ op1 = op2 → ¬ ((⟨kd1, cl1, rq1, os1, on1, op1, it1, si1, re1, ep1, fr1⟩ : EntD) = ⟨kd2, cl2, rq2, os2, on2, op2, it2, si2, re2, ep2, fr2⟩ ∧ Flat op1) := fun h e => h (by have := e.1; injection this)
  have no6 : ¬ it1 = it2 → ¬ ((⟨kd1, cl1, rq1, os1, on1, op1, it1, si1, re1, ep1, fr1⟩ : EntD) = ⟨kd2, cl2, rq2, os2, on2, op2, it2, si2, re2, ep2, fr2⟩ ∧ Flat op1) := fun h e => h (by have := e.1; injection this)
  have no7 : ¬ si1 = si2 → ¬ ((⟨kd1, cl1, rq1, os1, on1, op1, it1, si1, re1, ep1, fr1⟩ : EntD) = ⟨kd2, cl2, rq2, os2, on2, op2, it2, si2, re2, ep2, fr2⟩ ∧ Flat op1) := fun h e => h (by have := e.1; injection this)
  have no8 : ¬ re1 = re2 → ¬ ((⟨kd1, cl1, rq1, os1, on1, op1, it1, si1, re1, ep1, fr1⟩ : EntD) = ⟨kd2, cl2, rq2, os2, on2, op2, it2, si2, re2, ep2, fr2⟩ ∧ Flat op1) := fun h e => h (by have := e.1; injection this)
  have no9 : ¬ ep1 = ep2 → ¬ ((⟨kd1, cl1, rq1, os1, on1, op1, it1, si1, re1, ep1, fr1⟩ : EntD) = ⟨kd2, cl2, rq2, os2, on2, op2, it2, si2, re2, ep2, fr2⟩ ∧ Flat op1) := fun h e => h (by have := e.1; injection this)
  have no10 : ¬ fr1 = fr2 → ¬ ((⟨kd1, cl1, rq1, os1, on1, op1, it1, si1, re1, ep1, fr1⟩ : EntD) = ⟨kd2, cl2, rq2, os2, on2, op2, it2, si2, re2, ep2, fr2⟩ ∧ Flat op1) := fun h e => h (by have := e.1; injection this)
  have no5' : ¬ (op1 = op2 ∧ Flat op1) → ¬ ((⟨kd1, cl1, rq1, os1, on1, op1, it1, si1, re1, ep1, fr1⟩ : EntD) = ⟨kd2, cl2, rq2, os2, on2, op2, it2, si2, re2, ep2, fr2⟩ ∧ Flat op1) := fun h e => h ⟨by have := e.1; injection this, e.2⟩
  clear hE1 hE2
  go_enter Try.func6, Try.ntmps6
  go_wp2_with (first | (refine wpList_boxE _ rfl rfl rfl ?_) | fail)
  intro w1 k1 g1 n1
  have K1 := Lib.hid k1
  have G1 := Lib.hid g1
  clear k1 g1 n1
  go_wp2_with (first | (refine wpList_boxE _ rfl rfl rfl ?_) | fail)
  intro w2 k2 g2 n2
  obtain ⟨b1, hb1⟩ : ∃ b1, b1 = w.heap.size := ⟨_, rfl⟩
  obtain ⟨b2, hb2⟩ : ∃ b2, b2 = w1.heap.size := ⟨_, rfl⟩
  rw [← hb1, ← hb2]
  have kk := K1.out.gr g2
  rw [← hb1] at kk
  rw [← hb2] at k2
  have T1 := Lib.hid fun W (hW : Gr w2 W) => CE1.out W b1 (kk.gr hW)
  have T2 := Lib.hid fun W (hW : Gr w2 W) => CE2.out W b2 (k2.gr hW)
  have GG := Lib.hid (G1.out.trans g2)
  have PX := Lib.hid (hx.gr GG.out)
  have PY := Lib.hid (hy.gr GG.out)
  clear kk k2 g2 n2 K1 G1 hb1 hb2 hx hy CE1 CE2
  have cc := T1.out w2 (Gr.refl _)
  have x0 := cc.1
  have x1 := cc.2.1
  have x2 := cc.2.2.1
  have x3 := cc.2.2.2.1
  have x4 := cc.2.2.2.2.1
  clear cc
  have cc := T2.out w2 (Gr.refl _)
  have y0 := cc.1
  have y1 := cc.2.1
  have y2 := cc.2.2.1
  have y3 := cc.2.2.2.1
  have y4 := cc.2.2.2.2.1
  clear cc
  by_cases h0 : kd1 = kd2
  rotate_left
  · have HN := Lib.hid (no0 h0)
    have hq : ¬ ((kd1 : Nat) : Int) = ((kd2 : Nat) : Int) := fun e => h0 (by omega)
    clear h0
    clear no0 no1 no2 no3 no4 no5 no6 no7 no8 no9 no10 no5'
    go_wp2
    go_ret
    exact says_by _ false (by simp) ⟨fun h => (by cases h), fun h => absurd h HN.out⟩ GG.out
  subst h0
  by_cases h1 : cl1 = cl2
  rotate_left
  · have HN := Lib.hid (no1 h1)
    have hq : ¬ ((cl1 : Nat) : Int) = ((cl2 : Nat) : Int) := fun e => h1 (by omega)
    clear h1
    clear no0 no1 no2 no3 no4 no5 no6 no7 no8 no9 no10 no5'
    go_wp2
    go_ret
    exact says_by _ false (by simp) ⟨fun h => (by cases h), fun h => absurd h HN.out⟩ GG.out
  subst h1
  by_cases h2 : rq1 = rq2
  rotate_left
  · have HN := Lib.hid (no2 h2)
    have hq : ¬ ((rq1 : Nat) : Int) = ((rq2 : Nat) : Int) := fun e => h2 (by omega)
    clear h2
    clear no0 no1 no2 no3 no4 no5 no6 no7 no8 no9 no10 no5'
    go_wp2
    go_ret
    exact says_by _ false (by simp) ⟨fun h => (by cases h), fun h => absurd h HN.out⟩ GG.out
  subst h2
  by_cases h3 : os1 = os2
  rotate_left
  · have HN := Lib.hid (no3 h3)
    have hq : ¬ os1 = os2 := h3
    clear h3
    clear no0 no1 no2 no3 no4 no5 no6 no7 no8 no9 no10 no5'
    go_wp2
    go_ret
    exact says_by _ false (by simp) ⟨fun h => (by cases h), fun h => absurd h HN.out⟩ GG.out
  subst h3
  by_cases h4 : on1 = on2
  rotate_left
  · have HN := Lib.hid (no4 h4)
    have hq : ¬ ((on1 : Nat) : Int) = ((on2 : Nat) : Int) := fun e => h4 (by omega)
    clear h4
    clear no0 no1 no2 no3 no4 no5 no6 no7 no8 no9 no10 no5'
    go_wp2
    go_ret
    exact says_by _ false (by simp) ⟨fun h => (by cases h), fun h => absurd h HN.out⟩ GG.out
  subst h4
  clear no0 no1 no2 no3 no4
  have cc := T1.out w2 (Gr.refl _)
  have x5 := cc.2.2.2.2.2.1
  have x6 := cc.2.2.2.2.2.2.1
  have x7 := cc.2.2.2.2.2.2.2.1
  have x8 := cc.2.2.2.2.2.2.2.2.1
  have x9 := cc.2.2.2.2.2.2.2.2.2.1
  have x10 := cc.2.2.2.2.2.2.2.2.2.2.1
  have x11 := cc.2.2.2.2.2.2.2.2.2.2.2.1
  clear cc
  have cc := T2.out w2 (Gr.refl _)
  have y5 := cc.2.2.2.2.2.1
  have y6 := cc.2.2.2.2.2.2.1
  have y7 := cc.2.2.2.2.2.2.2.1
  have y8 := cc.2.2.2.2.2.2.2.2.1
  have y9 := cc.2.2.2.2.2.2.2.2.2.1
  have y10 := cc.2.2.2.2.2.2.2.2.2.2.1
  have y11 := cc.2.2.2.2.2.2.2.2.2.2.2.1
  clear cc
  go_wp2_with fail
  refine (sop_says w2 op1 op2 _ _ _ _ PX.out.1 PY.out.1 lx1 ly1).mono ?_
  rintro e w3 ⟨z, rfl, hz, g3⟩
  cases z with
  | false =>
    have HN := Lib.hid (no5' (fun h => by have := hz.2 h; cases this))
    have G3 := Lib.hid (GG.out.trans g3)
    clear hz g3 no5 no6 no7 no8 no9 no10 no5'
    go_wp2
    go_ret
    exact says_by _ false (by simp) ⟨fun h => (by cases h), fun h => absurd h HN.out⟩ G3.out
  | true =>
    obtain ⟨ho, hf⟩ := hz.1 rfl
    subst ho
    have FL := Lib.hid hf
    have G3 := Lib.hid g3
    have cc := T1.out w3 g3
    have x12 := cc.2.2.2.2.2.2.2.2.2.2.2.2.1
    have x13 := cc.2.2.2.2.2.2.2.2.2.2.2.2.2.1
    have x14 := cc.2.2.2.2.2.2.2.2.2.2.2.2.2.2.1
    have x15 := cc.2.2.2.2.2.2.2.2.2.2.2.2.2.2.2.1
    have x16 := cc.2.2.2.2.2.2.2.2.2.2.2.2.2.2.2.2.1
    have x17 := cc.2.2.2.2.2.2.2.2.2.2.2.2.2.2.2.2.2.1
    have x18 := cc.2.2.2.2.2.2.2.2.2.2.2.2.2.2.2.2.2.2.1
    clear cc
    have cc := T2.out w3 g3
    have y12 := cc.2.2.2.2.2.2.2.2.2.2.2.2.1
    have y13 := cc.2.2.2.2.2.2.2.2.2.2.2.2.2.1
    have y14 := cc.2.2.2.2.2.2.2.2.2.2.2.2.2.2.1
    have y15 := cc.2.2.2.2.2.2.2.2.2.2.2.2.2.2.2.1
    have y16 := cc.2.2.2.2.2.2.2.2.2.2.2.2.2.2.2.2.1
    have y17 := cc.2.2.2.2.2.2.2.2.2.2.2.2.2.2.2.2.2.1
    have y18 := cc.2.2.2.2.2.2.2.2.2.2.2.2.2.2.2.2.2.2.1
    clear cc
    clear hz hf no5 no5' x5 x6 x7 x8 x9 x10 x11 y5 y6 y7 y8 y9 y10 y11
    go_wp2_with fail
    refine (item_says w3 it1 it2 _ _ _ _ (PX.out.2.1.gr g3) (PY.out.2.1.gr g3) ⟨lx2, lx3⟩ ⟨ly2, ly3⟩).mono ?_
    rintro e w4 ⟨z, rfl, hz, g4⟩
    cases z with
    | false =>
      have HN := Lib.hid (no6 (fun h => by have := hz.2 h; cases this))
      have G5 := Lib.hid (GG.out.trans (G3.out.trans g4))
      clear hz g4 no6 no7 no8 no9 no10
      go_wp2
      go_ret
      exact says_by _ false (by simp) ⟨fun h => (by cases h), fun h => absurd h HN.out⟩ G5.out
    | true =>
      have hi := hz.1 rfl
      subst hi
      have G4 := Lib.hid (G3.out.trans g4)
      have G4G := Lib.hid (GG.out.trans G4.out)
      have cc := T1.out w4 G4.out
      have x19 := cc.2.2.2.2.2.2.2.2.2.2.2.2.2.2.2.2.2.2.2.1
      have x20 := cc.2.2.2.2.2.2.2.2.2.2.2.2.2.2.2.2.2.2.2.2.1
      have x21 := cc.2.2.2.2.2.2.2.2.2.2.2.2.2.2.2.2.2.2.2.2.2.1
      have x22 := cc.2.2.2.2.2.2.2.2.2.2.2.2.2.2.2.2.2.2.2.2.2.2
      clear cc
      have cc := T2.out w4 G4.out
      have y19 := cc.2.2.2.2.2.2.2.2.2.2.2.2.2.2.2.2.2.2.2.1
      have y20 := cc.2.2.2.2.2.2.2.2.2.2.2.2.2.2.2.2.2.2.2.2.1
      have y21 := cc.2.2.2.2.2.2.2.2.2.2.2.2.2.2.2.2.2.2.2.2.2.1
      have y22 := cc.2.2.2.2.2.2.2.2.2.2.2.2.2.2.2.2.2.2.2.2.2.2
      clear cc
      clear hz no6 x12 x13 x14 x15 x16 x17 x18 y12 y13 y14 y15 y16 y17 y18 g3 g4
      by_cases h7 : si1 = si2
      rotate_left
      · have HN := Lib.hid (no7 h7)
        have hq : ¬ si1 = si2 := h7
        clear h7
        clear no7 no8 no9 no10
        go_wp2
        go_ret
        exact says_by _ false (by simp) ⟨fun h => (by cases h), fun h => absurd h HN.out⟩ G4G.out
      subst h7
      by_cases h8 : re1 = re2
      rotate_left
      · have HN := Lib.hid (no8 h8)
        have hq : ¬ re1 = re2 := h8
        clear h8
        clear no7 no8 no9 no10
        go_wp2
        go_ret
        exact says_by _ false (by simp) ⟨fun h => (by cases h), fun h => absurd h HN.out⟩ G4G.out
      subst h8
      by_cases h9 : ep1 = ep2
      rotate_left
      · have HN := Lib.hid (no9 h9)
        have hq : ¬ ((ep1 : Nat) : Int) = ((ep2 : Nat) : Int) := fun e => h9 (by omega)
        clear h9
        clear no7 no8 no9 no10
        go_wp2
        go_ret
        exact says_by _ false (by simp) ⟨fun h => (by cases h), fun h => absurd h HN.out⟩ G4G.out
      subst h9
      have N10 := Lib.hid no10
      clear no10
      go_wp2_with fail
      refine (nums_says w4 _ _ fr1 fr2 (PX.out.2.2.gr G4.out).1 (PY.out.2.2.gr G4.out).1 lx4 ly4).mono ?_
      rintro e w5 ⟨z, rfl, hz, g5⟩
      have G5 := Lib.hid (GG.out.trans (G4.out.trans g5))
      have HZ : Hid (z = true ↔ (⟨kd1, cl1, rq1, os1, on1, op1, it1, si1, re1, ep1, fr1⟩ : EntD) = ⟨kd1, cl1, rq1, os1, on1, op1, it1, si1, re1, ep1, fr2⟩ ∧ Flat op1) := Lib.hid (by
        rw [hz]
        exact ⟨fun h => ⟨by rw [h], FL.out⟩, fun h => by have := h.1; injection this⟩)
      clear hz g5
      go_wp2
      go_ret
      exact says_by _ z (by simp) HZ.out G5.out
end Go.Proofs.Ytiemgmbjhllmbaa
end
