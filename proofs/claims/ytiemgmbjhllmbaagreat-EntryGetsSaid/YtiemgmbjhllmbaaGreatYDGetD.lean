/-
  Of the document: Get, of kinds 4, 6.
-/
import Derived.Test.YtiemgmbjhllmbaaGreatYDGet
set_option linter.unusedVariables false
set_option linter.unusedSimpArgs false
set_option maxRecDepth 100000
namespace Go.Proofs.YtiemgmbjhllmbaaGreat
open Go.RowKit
set_option maxHeartbeats 8000000 in
theorem dget_4 (w : World) (v : Value) (l : List UInt8) (hs : Sl w v (bytes l)) (hl : l.length ≤ 10000) (hk : (rByte (l, false)).1 = 4) :
    Calls Tryz.prog 13 #[v] w (RetD w l) := by
  have hl9 : l.length ≤ 1000000000 := by omega
  obtain ⟨a, cap, rfl⟩ := hs.oneCells
  rw [bytes_length] at hs ⊢
  obtain ⟨base, hbase⟩ : ∃ base : Nat → Prop, base = fun k => k < w.heap.size ∨ k = w.heap.size + 1 := ⟨_, rfl⟩
  obtain ⟨g, hg⟩ : ∃ g, g = w.heap.size + 1 := ⟨_, rfl⟩
  obtain ⟨b, hb⟩ : ∃ b, b = w.heap.size + 2 := ⟨_, rfl⟩
  have hD : dEnt l = List.foldl dPart (rKind l) [.item] := by
    unfold dEnt
    rw [hk]
    rfl
  have SLW : Hid (∀ W, Gr w W → Sl W (.slice a l.length cap) (bytes l)) := Lib.hid fun W hW => hs.below hW
  obtain ⟨w1, hw1⟩ : ∃ w1, w1 = w.alloc (.cells zeroL.toArray 35) := ⟨_, rfl⟩
  have e1 : w1.heap.size = g := by rw [hw1, hg]; simp
  obtain ⟨w2, hw2⟩ : ∃ w2, w2 = w1.alloc (.cells #[.slice a l.length cap, .int .i64 0, .bool false] 64) := ⟨_, rfl⟩
  have e2 : w2.heap.size = b := by rw [hw2, hb]; simp [e1, hg]
  obtain ⟨w3, hw3⟩ : ∃ w3, w3 = w2.alloc (.cells zeroL.toArray 35) := ⟨_, rfl⟩
  have M3 : Hid (GMid w w3 base g (l, false) b zeroX) := Lib.hid (by rw [hw3, hw2, hw1, hbase, hg, hb]; exact GMid.start w _ l a cap rfl hs hl9)
  have HW1 : Hid (w1 = w.alloc (.cells #[.int .u8 0, .int .u32 0, .int .u32 0, .int .i64 0, .int .u32 0, .int .u8 0, .string ⟨#[]⟩, .slice none 0 0, .int .i64 0, .bool false, .bool false, .slice none 0 0, .int .i64 0, .int .u64 0, .int .i64 0, .int .u64 0, .slice none 0 0, .slice none 0 0, .int .u32 0, .int .i64 0, .int .i64 0, .int .u64 0, .slice none 0 0] 35)) := Lib.hid hw1
  have HW2 := Lib.hid hw2
  have HW3 : Hid (w3 = w2.alloc (.cells #[.int .u8 0, .int .u32 0, .int .u32 0, .int .i64 0, .int .u32 0, .int .u8 0, .string ⟨#[]⟩, .slice none 0 0, .int .i64 0, .bool false, .bool false, .slice none 0 0, .int .i64 0, .int .u64 0, .int .i64 0, .int .u64 0, .slice none 0 0, .slice none 0 0, .int .u32 0, .int .i64 0, .int .i64 0, .int .u64 0, .slice none 0 0] 35)) := Lib.hid hw3
  have E1 : Hid (w.heap.size + 1 = g) := Lib.hid hg.symm
  have E2 : Hid (w.heap.size + 1 + 1 = b) := Lib.hid (by rw [hb])
  have HB := Lib.hid hb
  have C0 := fun W h => one8_any W base g (l, false) h
  obtain ⟨s0, hs0⟩ : ∃ s0, s0 = (rByte (l, false)).2 := ⟨_, rfl⟩
  obtain ⟨x0, hx0⟩ : ∃ x0 : EntD, x0 = { zeroX with kind := 4 } := ⟨_, rfl⟩
  have hk0 : x0.kind = 4 := by rw [hx0]
  have L0 : s0.1.length ≤ 1000000000 := by rw [hs0]; exact Nat.le_trans (lf_byte (l, false)) hl9
  have er : rKind l = (x0, s0) := by rw [hx0, hs0, ← hk]; rfl
  rw [er] at hD
  rw [hk, ← hs0] at C0
  have CC0 := Lib.hid C0
  clear C0 hs0 er hbase hw1 hw2 hw3 e1 e2 hs hb hg
  simp only [List.foldl_cons, List.foldl_nil] at hD
  obtain ⟨o0, ho⟩ : ∃ o0, o0 = (dItem s0).1 := ⟨_, rfl⟩
  obtain ⟨s1, hs1⟩ : ∃ s1, s1 = (dItem s0).2 := ⟨_, rfl⟩
  have ev : dVal .item s0 = (.item o0, s1) := by rw [hs1, ho]; rfl
  have CA := fun W h hb => read_item_any W base g s0 h hb L0
  rw [← ho, ← hs1] at CA
  have CA0 := Lib.hid CA
  clear CA ho hs1
  obtain ⟨x1, hx1⟩ : ∃ x1, x1 = putVal x0 (.item o0) := ⟨_, rfl⟩
  have hk1 : x1.kind = 4 := by rw [hx1]; exact hk0
  have L1 : s1.1.length ≤ 1000000000 := by have h := lf_val .item s0; rw [ev] at h; exact Nat.le_trans h L0
  rw [dPart_mk x0 s0, ev, ← hx1] at hD
  clear ev
  have HD := Lib.hid hD
  have HLL := Lib.hid hl
  have HX0 := Lib.hid hx0
  have HX1 := Lib.hid hx1
  have HK0 := Lib.hid hk0
  have HK1 := Lib.hid hk1
  clear hD hk hx0 hx1 hk0 hk1 L0 L1 hl
  go_enter Tryz.func13, Tryz.ntmps13
  go_wp2_with fail
  rw [← HW1.out, ← HW2.out, ← HW3.out, E2.out, E1.out]
  refine (CC0.out _ M3.out.ds).mono ?_
  rintro en w4 ⟨rfl, hr4, hg4⟩
  have M4 := Lib.hid (M3.out.call hr4 hg4)
  clear hr4 hg4 M3 HW1 HW2 HW3 E1 E2
  obtain ⟨q4, K4, hp4⟩ := M4.out.ent
  have c0 := K4.cell 0
  have f0 := K4.frozen 0
  have kf := K4.set 0 (.int .u8 (4 : Int))
  have gs := grownBy_setCell w4 b 0 (.int .u8 (4 : Int))
  have MM := Lib.hid (M4.out.part (x' := x0) q4 (by rw [HX0.out]; exact kf) (by rw [HX0.out]; exact hp4.keep (Keep.of_grown gs (fun h => Nat.lt_irrefl _ h))) gs)
  clear K4 hp4 kf gs M4
  go_upto_region 4 with fail
  obtain ⟨w5, hw5⟩ : ∃ w5, w5 = w4.setCell ⟨b, 0, none⟩ (.int .u8 (4 : Int)) := ⟨_, rfl⟩
  rw [← hw5] at MM ⊢
  clear hw5 c0 f0
  have c0 := MM.out.kind 4 HK0.out
  go_wp2_with fail
  clear c0
  refine (CA0.out _ MM.out.ds MM.out.blt).mono ?_
  rintro en w6 ⟨_, rfl, ⟨sv, ev, rfl, ip1⟩, hr, hg1⟩
  have M6 := Lib.hid (MM.out.call hr hg1)
  obtain ⟨sv1, ev1⟩ := ip1
  obtain ⟨sa, sc, rfl⟩ := sv1.1.oneCells
  obtain ⟨ea, ec, rfl⟩ := ev1.shape
  have hbl : b < w5.heap.size := by obtain ⟨q, K, hp⟩ := MM.out.ent; exact K.lt
  have NP : ItemP (fun j => b < j) w6 o0 _ _ := ⟨sv1.mono (fun j hj => by have h1 : w5.heap.size ≤ j := hj; omega), ev1.mono (fun j hj => by have h1 : w5.heap.size ≤ j := hj; omega)⟩
  clear sv1 ev1 hbl
  dsimp only [itemCells]
  obtain ⟨q, K, hp⟩ := M6.out.ent
  have y12 := (K.cell 12).trans (show (entCells _ _)[12]? = some _ from rfl)
  have fy12 := K.frozen 12
  have y13 := (K.cell 13).trans (show (entCells _ _)[13]? = some _ from rfl)
  have fy13 := K.frozen 13
  have y14 := (K.cell 14).trans (show (entCells _ _)[14]? = some _ from rfl)
  have fy14 := K.frozen 14
  have y15 := (K.cell 15).trans (show (entCells _ _)[15]? = some _ from rfl)
  have fy15 := K.frozen 15
  have y16 := (K.cell 16).trans (show (entCells _ _)[16]? = some _ from rfl)
  have fy16 := K.frozen 16
  have y17 := (K.cell 17).trans (show (entCells _ _)[17]? = some _ from rfl)
  have fy17 := K.frozen 17
  have y18 := (K.cell 18).trans (show (entCells _ _)[18]? = some _ from rfl)
  have fy18 := K.frozen 18
  have kf := (((((((K.set 12 (.int .i64 o0.origin)).set 13 (.int .u64 (o0.seq : Int))).set 14 (.int .i64 o0.region)).set 15 (.int .u64 (o0.epoch : Int))).set 16 (.slice sa (nums o0.stamp).length sc)).set 17 (.slice ea o0.effs.length ec)).set 18 (.int .u32 (o0.closed : Int)))
  have gs := (grownBy_trans (grownBy_trans (grownBy_trans (grownBy_trans (grownBy_trans (grownBy_trans (grownBy_setCell w6 b 12 (.int .i64 o0.origin)) (grownBy_setCell _ b 13 (.int .u64 (o0.seq : Int)))) (grownBy_setCell _ b 14 (.int .i64 o0.region))) (grownBy_setCell _ b 15 (.int .u64 (o0.epoch : Int)))) (grownBy_setCell _ b 16 (.slice sa (nums o0.stamp).length sc))) (grownBy_setCell _ b 17 (.slice ea o0.effs.length ec))) (grownBy_setCell _ b 18 (.int .u32 (o0.closed : Int))))
  have KP : Keep (fun j => b < j) w6 (((((((w6.setCell ⟨b, 12, none⟩ (.int .i64 o0.origin)).setCell ⟨b, 13, none⟩ (.int .u64 (o0.seq : Int))).setCell ⟨b, 14, none⟩ (.int .i64 o0.region)).setCell ⟨b, 15, none⟩ (.int .u64 (o0.epoch : Int))).setCell ⟨b, 16, none⟩ (.slice sa (nums o0.stamp).length sc)).setCell ⟨b, 17, none⟩ (.slice ea o0.effs.length ec)).setCell ⟨b, 18, none⟩ (.int .u32 (o0.closed : Int))) := Keep.of_grown gs (fun h => Nat.lt_irrefl _ h)
  have N6 : Hid (GMid w (((((((w6.setCell ⟨b, 12, none⟩ (.int .i64 o0.origin)).setCell ⟨b, 13, none⟩ (.int .u64 (o0.seq : Int))).setCell ⟨b, 14, none⟩ (.int .i64 o0.region)).setCell ⟨b, 15, none⟩ (.int .u64 (o0.epoch : Int))).setCell ⟨b, 16, none⟩ (.slice sa (nums o0.stamp).length sc)).setCell ⟨b, 17, none⟩ (.slice ea o0.effs.length ec)).setCell ⟨b, 18, none⟩ (.int .u32 (o0.closed : Int))) base g _ b x1) := Lib.hid (M6.out.part (⟨q.dv, q.pv, .slice sa (nums o0.stamp).length sc, .slice ea o0.effs.length ec, q.fv⟩ : EntV) (by rw [HX1.out]; exact kf) (by rw [HX1.out]; exact ⟨(hp.keep KP).1, NP.keep KP, (hp.keep KP).2.2⟩) gs)
  clear K hp kf gs KP hr hg1 MM M6 NP
  go_upto_region 13 with fail
  obtain ⟨w7, hw7⟩ : ∃ w7, w7 = (((((((w6.setCell ⟨b, 12, none⟩ (.int .i64 o0.origin)).setCell ⟨b, 13, none⟩ (.int .u64 (o0.seq : Int))).setCell ⟨b, 14, none⟩ (.int .i64 o0.region)).setCell ⟨b, 15, none⟩ (.int .u64 (o0.epoch : Int))).setCell ⟨b, 16, none⟩ (.slice sa (nums o0.stamp).length sc)).setCell ⟨b, 17, none⟩ (.slice ea o0.effs.length ec)).setCell ⟨b, 18, none⟩ (.int .u32 (o0.closed : Int))) := ⟨_, rfl⟩
  rw [← hw7] at N6 ⊢
  clear hw7 y12 fy12 y13 fy13 y14 fy14 y15 fy15 y16 fy16 y17 fy17 y18 fy18
  have c0 := N6.out.kind 4 HK1.out
  obtain ⟨q, E, pe, cL, dn, KB, EN, EO, EP, YY, NN, DH, PH⟩ := dget_pack HLL.out HD.out N6.out
  go_wp2_with (first | (refine wpList_loadE entTy _ rfl rfl rfl KB.out EN.out ?_) | fail)
  clear c0
  refine (PH.out).mono ?_
  rintro en wP ⟨vP, rfl, sP, gP⟩
  have MP := Lib.hid (N6.out.gr gP)
  have KP2 := Lib.hid (KB.out.gr gP)
  have EP2 := Lib.hid (EP.out.gr gP)
  have SP := Lib.hid sP
  clear sP gP PH N6 KB EP
  by_cases hz : pe = 0
  · subst hz
    go_wp2_with fail
    refine (DH.out _ MP.out.ds).mono ?_
    rintro en wD ⟨rfl, gD⟩
    have MD := Lib.hid (MP.out.gr gD)
    have GD := Lib.hid gD
    clear gD MP
    cases dn with
    | false =>
      obtain ⟨KZH, FH⟩ := dget_zero MD.out NN.out (by simp)
      go_wp2_with (first | (refine wpList_buildTo rfl 35 _ rfl (some 20) rfl _ built_ent0 ?_) | (refine wpList_storeE entTy _ _ rfl rfl rfl rfl KZH.out zeroL_len zeroL_len zeroL_one ?_) | fail)
      intro w9 k9 ch9
      have K9 := Lib.hid k9
      have F9 := Lib.hid (FH.out w9 ch9)
      clear k9 ch9
      go_wp2
      exact bodyPost_ret (v := .tuple #[.agg zeroL.toArray, .int .i64 2]) (results_row2 (fn := Tryz.f13) entTy rfl _ _ rfl K9.out zeroL_len) rfl F9.out
    | true =>
      have r1 := run_string_sl (P := Tryz.prog) 25 5 9 Tryz.underlying25 Tryz.underlying5 Tryz.underlying9 (SP.out.below GD.out)
      have r2 := run_string_sl (P := Tryz.prog) 25 5 9 Tryz.underlying25 Tryz.underlying5 Tryz.underlying9 (SLW.out wD MD.out.grw)
      by_cases hc : cL = l
      · have KE := Lib.hid (KP2.out.gr GD.out)
        have ZK := Lib.hid MD.out.zero
        have FH := Lib.hid (fun W' ch => dget_last (W' := W') MD.out (EP2.out.gr GD.out) (YY.out (by trivial) (by trivial) hc) ch)
        subst hc
        go_wp2_with (first | (refine wpList_loadE entTy _ rfl rfl rfl KE.out EN.out ?_) | (refine wpList_storeE entTy _ _ rfl rfl rfl rfl ZK.out EN.out zeroL_len EO.out ?_) | fail)
        intro w9 k9 ch9
        have K9 := Lib.hid k9
        have F9 := Lib.hid (FH.out w9 ch9)
        clear k9 ch9
        go_wp2
        exact bodyPost_ret (v := .tuple #[.agg E.toArray, .int .i64 0]) (results_row2 (fn := Tryz.f13) entTy rfl _ _ rfl K9.out EN.out) rfl F9.out
      · have hcs : (cL == l) = false := by rw [Bool.eq_false_iff]; intro h; exact hc (eq_of_beq h)
        obtain ⟨KZH, FH⟩ := dget_zero MD.out NN.out (fun h => hc h.2.2)
        clear hc
        go_wp2_with (first | (refine wpList_buildTo rfl 35 _ rfl (some 20) rfl _ built_ent0 ?_) | (refine wpList_storeE entTy _ _ rfl rfl rfl rfl KZH.out zeroL_len zeroL_len zeroL_one ?_) | fail)
        intro w9 k9 ch9
        have K9 := Lib.hid k9
        have F9 := Lib.hid (FH.out w9 ch9)
        clear k9 ch9
        go_wp2
        exact bodyPost_ret (v := .tuple #[.agg zeroL.toArray, .int .i64 2]) (results_row2 (fn := Tryz.f13) entTy rfl _ _ rfl K9.out zeroL_len) rfl F9.out
  · obtain ⟨KZH, FH⟩ := dget_zero MP.out NN.out (fun h => hz h.1)
    have hzz : (pe == 0) = false := by simp; exact hz
    go_wp2_with (first | (refine wpList_buildTo rfl 35 _ rfl (some 20) rfl _ built_ent0 ?_) | (refine wpList_storeE entTy _ _ rfl rfl rfl rfl KZH.out zeroL_len zeroL_len zeroL_one ?_) | fail)
    intro w9 k9 ch9
    have K9 := Lib.hid k9
    have F9 := Lib.hid (FH.out w9 ch9)
    clear k9 ch9
    go_wp2
    exact bodyPost_ret (v := .tuple #[.agg zeroL.toArray, .int .i64 2]) (results_row2 (fn := Tryz.f13) entTy rfl _ _ rfl K9.out zeroL_len) rfl F9.out
set_option maxHeartbeats 8000000 in
theorem dget_6 (w : World) (v : Value) (l : List UInt8) (hs : Sl w v (bytes l)) (hl : l.length ≤ 10000) (hk : (rByte (l, false)).1 = 6) :
    Calls Tryz.prog 13 #[v] w (RetD w l) := by
  have hl9 : l.length ≤ 1000000000 := by omega
  obtain ⟨a, cap, rfl⟩ := hs.oneCells
  rw [bytes_length] at hs ⊢
  obtain ⟨base, hbase⟩ : ∃ base : Nat → Prop, base = fun k => k < w.heap.size ∨ k = w.heap.size + 1 := ⟨_, rfl⟩
  obtain ⟨g, hg⟩ : ∃ g, g = w.heap.size + 1 := ⟨_, rfl⟩
  obtain ⟨b, hb⟩ : ∃ b, b = w.heap.size + 2 := ⟨_, rfl⟩
  have hD : dEnt l = List.foldl dPart (rKind l) [.wher, .epoch] := by
    unfold dEnt
    rw [hk]
    rfl
  have SLW : Hid (∀ W, Gr w W → Sl W (.slice a l.length cap) (bytes l)) := Lib.hid fun W hW => hs.below hW
  obtain ⟨w1, hw1⟩ : ∃ w1, w1 = w.alloc (.cells zeroL.toArray 35) := ⟨_, rfl⟩
  have e1 : w1.heap.size = g := by rw [hw1, hg]; simp
  obtain ⟨w2, hw2⟩ : ∃ w2, w2 = w1.alloc (.cells #[.slice a l.length cap, .int .i64 0, .bool false] 64) := ⟨_, rfl⟩
  have e2 : w2.heap.size = b := by rw [hw2, hb]; simp [e1, hg]
  obtain ⟨w3, hw3⟩ : ∃ w3, w3 = w2.alloc (.cells zeroL.toArray 35) := ⟨_, rfl⟩
  have M3 : Hid (GMid w w3 base g (l, false) b zeroX) := Lib.hid (by rw [hw3, hw2, hw1, hbase, hg, hb]; exact GMid.start w _ l a cap rfl hs hl9)
  have HW1 : Hid (w1 = w.alloc (.cells #[.int .u8 0, .int .u32 0, .int .u32 0, .int .i64 0, .int .u32 0, .int .u8 0, .string ⟨#[]⟩, .slice none 0 0, .int .i64 0, .bool false, .bool false, .slice none 0 0, .int .i64 0, .int .u64 0, .int .i64 0, .int .u64 0, .slice none 0 0, .slice none 0 0, .int .u32 0, .int .i64 0, .int .i64 0, .int .u64 0, .slice none 0 0] 35)) := Lib.hid hw1
  have HW2 := Lib.hid hw2
  have HW3 : Hid (w3 = w2.alloc (.cells #[.int .u8 0, .int .u32 0, .int .u32 0, .int .i64 0, .int .u32 0, .int .u8 0, .string ⟨#[]⟩, .slice none 0 0, .int .i64 0, .bool false, .bool false, .slice none 0 0, .int .i64 0, .int .u64 0, .int .i64 0, .int .u64 0, .slice none 0 0, .slice none 0 0, .int .u32 0, .int .i64 0, .int .i64 0, .int .u64 0, .slice none 0 0] 35)) := Lib.hid hw3
  have E1 : Hid (w.heap.size + 1 = g) := Lib.hid hg.symm
  have E2 : Hid (w.heap.size + 1 + 1 = b) := Lib.hid (by rw [hb])
  have HB := Lib.hid hb
  have C0 := fun W h => one8_any W base g (l, false) h
  obtain ⟨s0, hs0⟩ : ∃ s0, s0 = (rByte (l, false)).2 := ⟨_, rfl⟩
  obtain ⟨x0, hx0⟩ : ∃ x0 : EntD, x0 = { zeroX with kind := 6 } := ⟨_, rfl⟩
  have hk0 : x0.kind = 6 := by rw [hx0]
  have L0 : s0.1.length ≤ 1000000000 := by rw [hs0]; exact Nat.le_trans (lf_byte (l, false)) hl9
  have er : rKind l = (x0, s0) := by rw [hx0, hs0, ← hk]; rfl
  rw [er] at hD
  rw [hk, ← hs0] at C0
  have CC0 := Lib.hid C0
  clear C0 hs0 er hbase hw1 hw2 hw3 e1 e2 hs hb hg
  simp only [List.foldl_cons, List.foldl_nil] at hD
  obtain ⟨rn0, hrn⟩ : ∃ rn0, rn0 = (rUint s0).1 := ⟨_, rfl⟩
  obtain ⟨wv0, hwv⟩ : ∃ wv0, wv0 = i64 rn0 := ⟨_, rfl⟩
  obtain ⟨s1, hs1⟩ : ∃ s1, s1 = (rUint s0).2 := ⟨_, rfl⟩
  have ev : dVal .wher s0 = (.wher wv0, s1) := by rw [hs1, hwv, hrn]; rfl
  have CA := fun W h => ds_uint W base g s0 h
  rw [← hrn, ← hs1] at CA
  have CA0 := Lib.hid CA
  have HV0 := Lib.hid hwv
  clear CA hrn hwv hs1
  obtain ⟨x1, hx1⟩ : ∃ x1, x1 = putVal x0 (.wher wv0) := ⟨_, rfl⟩
  have hk1 : x1.kind = 6 := by rw [hx1]; exact hk0
  have L1 : s1.1.length ≤ 1000000000 := by have h := lf_val .wher s0; rw [ev] at h; exact Nat.le_trans h L0
  rw [dPart_mk x0 s0, ev, ← hx1] at hD
  clear ev
  obtain ⟨ep1, hep⟩ : ∃ ep1, ep1 = (rUint s1).1 := ⟨_, rfl⟩
  obtain ⟨s2, hs2⟩ : ∃ s2, s2 = (rUint s1).2 := ⟨_, rfl⟩
  have ev : dVal .epoch s1 = (.epoch ep1, s2) := by rw [hs2, hep]; rfl
  have CA := fun W h => ds_uint W base g s1 h
  rw [← hep, ← hs2] at CA
  have CA1 := Lib.hid CA
  clear CA hep hs2
  obtain ⟨x2, hx2⟩ : ∃ x2, x2 = putVal x1 (.epoch ep1) := ⟨_, rfl⟩
  have hk2 : x2.kind = 6 := by rw [hx2]; exact hk1
  have L2 : s2.1.length ≤ 1000000000 := by have h := lf_val .epoch s1; rw [ev] at h; exact Nat.le_trans h L1
  rw [dPart_mk x1 s1, ev, ← hx2] at hD
  clear ev
  have HD := Lib.hid hD
  have HLL := Lib.hid hl
  have HX0 := Lib.hid hx0
  have HX1 := Lib.hid hx1
  have HX2 := Lib.hid hx2
  have HK0 := Lib.hid hk0
  have HK1 := Lib.hid hk1
  have HK2 := Lib.hid hk2
  clear hD hk hx0 hx1 hx2 hk0 hk1 hk2 L0 L1 L2 hl
  go_enter Tryz.func13, Tryz.ntmps13
  go_wp2_with fail
  rw [← HW1.out, ← HW2.out, ← HW3.out, E2.out, E1.out]
  refine (CC0.out _ M3.out.ds).mono ?_
  rintro en w4 ⟨rfl, hr4, hg4⟩
  have M4 := Lib.hid (M3.out.call hr4 hg4)
  clear hr4 hg4 M3 HW1 HW2 HW3 E1 E2
  obtain ⟨q4, K4, hp4⟩ := M4.out.ent
  have c0 := K4.cell 0
  have f0 := K4.frozen 0
  have kf := K4.set 0 (.int .u8 (6 : Int))
  have gs := grownBy_setCell w4 b 0 (.int .u8 (6 : Int))
  have MM := Lib.hid (M4.out.part (x' := x0) q4 (by rw [HX0.out]; exact kf) (by rw [HX0.out]; exact hp4.keep (Keep.of_grown gs (fun h => Nat.lt_irrefl _ h))) gs)
  clear K4 hp4 kf gs M4
  go_upto_region 4 with fail
  obtain ⟨w5, hw5⟩ : ∃ w5, w5 = w4.setCell ⟨b, 0, none⟩ (.int .u8 (6 : Int)) := ⟨_, rfl⟩
  rw [← hw5] at MM ⊢
  clear hw5 c0 f0
  have c0 := MM.out.kind 6 HK0.out
  go_wp2_with fail
  clear c0
  refine (CA0.out _ MM.out.ds).mono ?_
  rintro en w6 ⟨rfl, hr, hg1⟩
  have M6 := Lib.hid (MM.out.call hr hg1)
  obtain ⟨q, K, hp⟩ := M6.out.ent
  have y20 := (K.cell 20).trans (show (entCells _ _)[20]? = some _ from rfl)
  have fy20 := K.frozen 20
  have kf := (K.set 20 (.int .i64 wv0))
  have gs := (grownBy_setCell w6 b 20 (.int .i64 wv0))
  have KP : Keep (fun j => b < j) w6 (w6.setCell ⟨b, 20, none⟩ (.int .i64 wv0)) := Keep.of_grown gs (fun h => Nat.lt_irrefl _ h)
  have N6 : Hid (GMid w (w6.setCell ⟨b, 20, none⟩ (.int .i64 wv0)) base g _ b x1) := Lib.hid (M6.out.part q (by rw [HX1.out]; exact kf) (by rw [HX1.out]; exact hp.keep KP) gs)
  clear K hp kf gs KP hr hg1 MM M6
  have hv : wrap64 ((rn0 : Nat) : Int) = wv0 := HV0.out.symm
  go_upto_region 17 with fail
  clear hv
  obtain ⟨w7, hw7⟩ : ∃ w7, w7 = (w6.setCell ⟨b, 20, none⟩ (.int .i64 wv0)) := ⟨_, rfl⟩
  rw [← hw7] at N6 ⊢
  clear hw7 y20 fy20
  have c0 := N6.out.kind 6 HK1.out
  go_wp2_with fail
  clear c0
  refine (CA1.out _ N6.out.ds).mono ?_
  rintro en w8 ⟨rfl, hr, hg1⟩
  have M8 := Lib.hid (N6.out.call hr hg1)
  obtain ⟨q, K, hp⟩ := M8.out.ent
  have y21 := (K.cell 21).trans (show (entCells _ _)[21]? = some _ from rfl)
  have fy21 := K.frozen 21
  have kf := (K.set 21 (.int .u64 (ep1 : Int)))
  have gs := (grownBy_setCell w8 b 21 (.int .u64 (ep1 : Int)))
  have KP : Keep (fun j => b < j) w8 (w8.setCell ⟨b, 21, none⟩ (.int .u64 (ep1 : Int))) := Keep.of_grown gs (fun h => Nat.lt_irrefl _ h)
  have N8 : Hid (GMid w (w8.setCell ⟨b, 21, none⟩ (.int .u64 (ep1 : Int))) base g _ b x2) := Lib.hid (M8.out.part q (by rw [HX2.out]; exact kf) (by rw [HX2.out]; exact hp.keep KP) gs)
  clear K hp kf gs KP hr hg1 N6 M8
  go_upto_region 19 with fail
  obtain ⟨w9, hw9⟩ : ∃ w9, w9 = (w8.setCell ⟨b, 21, none⟩ (.int .u64 (ep1 : Int))) := ⟨_, rfl⟩
  rw [← hw9] at N8 ⊢
  clear hw9 y21 fy21
  have c0 := N8.out.kind 6 HK2.out
  obtain ⟨q, E, pe, cL, dn, KB, EN, EO, EP, YY, NN, DH, PH⟩ := dget_pack HLL.out HD.out N8.out
  go_wp2_with (first | (refine wpList_loadE entTy _ rfl rfl rfl KB.out EN.out ?_) | fail)
  clear c0
  refine (PH.out).mono ?_
  rintro en wP ⟨vP, rfl, sP, gP⟩
  have MP := Lib.hid (N8.out.gr gP)
  have KP2 := Lib.hid (KB.out.gr gP)
  have EP2 := Lib.hid (EP.out.gr gP)
  have SP := Lib.hid sP
  clear sP gP PH N8 KB EP
  by_cases hz : pe = 0
  · subst hz
    go_wp2_with fail
    refine (DH.out _ MP.out.ds).mono ?_
    rintro en wD ⟨rfl, gD⟩
    have MD := Lib.hid (MP.out.gr gD)
    have GD := Lib.hid gD
    clear gD MP
    cases dn with
    | false =>
      obtain ⟨KZH, FH⟩ := dget_zero MD.out NN.out (by simp)
      go_wp2_with (first | (refine wpList_buildTo rfl 35 _ rfl (some 20) rfl _ built_ent0 ?_) | (refine wpList_storeE entTy _ _ rfl rfl rfl rfl KZH.out zeroL_len zeroL_len zeroL_one ?_) | fail)
      intro w9 k9 ch9
      have K9 := Lib.hid k9
      have F9 := Lib.hid (FH.out w9 ch9)
      clear k9 ch9
      go_wp2
      exact bodyPost_ret (v := .tuple #[.agg zeroL.toArray, .int .i64 2]) (results_row2 (fn := Tryz.f13) entTy rfl _ _ rfl K9.out zeroL_len) rfl F9.out
    | true =>
      have r1 := run_string_sl (P := Tryz.prog) 25 5 9 Tryz.underlying25 Tryz.underlying5 Tryz.underlying9 (SP.out.below GD.out)
      have r2 := run_string_sl (P := Tryz.prog) 25 5 9 Tryz.underlying25 Tryz.underlying5 Tryz.underlying9 (SLW.out wD MD.out.grw)
      by_cases hc : cL = l
      · have KE := Lib.hid (KP2.out.gr GD.out)
        have ZK := Lib.hid MD.out.zero
        have FH := Lib.hid (fun W' ch => dget_last (W' := W') MD.out (EP2.out.gr GD.out) (YY.out (by trivial) (by trivial) hc) ch)
        subst hc
        go_wp2_with (first | (refine wpList_loadE entTy _ rfl rfl rfl KE.out EN.out ?_) | (refine wpList_storeE entTy _ _ rfl rfl rfl rfl ZK.out EN.out zeroL_len EO.out ?_) | fail)
        intro w9 k9 ch9
        have K9 := Lib.hid k9
        have F9 := Lib.hid (FH.out w9 ch9)
        clear k9 ch9
        go_wp2
        exact bodyPost_ret (v := .tuple #[.agg E.toArray, .int .i64 0]) (results_row2 (fn := Tryz.f13) entTy rfl _ _ rfl K9.out EN.out) rfl F9.out
      · have hcs : (cL == l) = false := by rw [Bool.eq_false_iff]; intro h; exact hc (eq_of_beq h)
        obtain ⟨KZH, FH⟩ := dget_zero MD.out NN.out (fun h => hc h.2.2)
        clear hc
        go_wp2_with (first | (refine wpList_buildTo rfl 35 _ rfl (some 20) rfl _ built_ent0 ?_) | (refine wpList_storeE entTy _ _ rfl rfl rfl rfl KZH.out zeroL_len zeroL_len zeroL_one ?_) | fail)
        intro w9 k9 ch9
        have K9 := Lib.hid k9
        have F9 := Lib.hid (FH.out w9 ch9)
        clear k9 ch9
        go_wp2
        exact bodyPost_ret (v := .tuple #[.agg zeroL.toArray, .int .i64 2]) (results_row2 (fn := Tryz.f13) entTy rfl _ _ rfl K9.out zeroL_len) rfl F9.out
  · obtain ⟨KZH, FH⟩ := dget_zero MP.out NN.out (fun h => hz h.1)
    have hzz : (pe == 0) = false := by simp; exact hz
    go_wp2_with (first | (refine wpList_buildTo rfl 35 _ rfl (some 20) rfl _ built_ent0 ?_) | (refine wpList_storeE entTy _ _ rfl rfl rfl rfl KZH.out zeroL_len zeroL_len zeroL_one ?_) | fail)
    intro w9 k9 ch9
    have K9 := Lib.hid k9
    have F9 := Lib.hid (FH.out w9 ch9)
    clear k9 ch9
    go_wp2
    exact bodyPost_ret (v := .tuple #[.agg zeroL.toArray, .int .i64 2]) (results_row2 (fn := Tryz.f13) entTy rfl _ _ rfl K9.out zeroL_len) rfl F9.out
end Go.Proofs.YtiemgmbjhllmbaaGreat
