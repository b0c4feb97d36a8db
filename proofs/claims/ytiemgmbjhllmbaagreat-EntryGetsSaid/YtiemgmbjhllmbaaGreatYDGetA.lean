/-
  Of the document: Get, of kinds 2, 7.
-/
import Derived.Test.YtiemgmbjhllmbaaGreatYDGet
set_option linter.unusedVariables false
set_option linter.unusedSimpArgs false
set_option maxRecDepth 100000
namespace Go.Proofs.YtiemgmbjhllmbaaGreat
open Go.RowKit
set_option maxHeartbeats 8000000 in
theorem dget_2 (w : World) (v : Value) (l : List UInt8) (hs : Sl w v (bytes l)) (hl : l.length ≤ 10000) (hk : (rByte (l, false)).1 = 2) :
    Calls Tryz.prog 13 #[v] w (RetD w l) := by
  have hl9 : l.length ≤ 1000000000 := by omega
  obtain ⟨a, cap, rfl⟩ := hs.oneCells
  rw [bytes_length] at hs ⊢
  obtain ⟨base, hbase⟩ : ∃ base : Nat → Prop, base = fun k => k < w.heap.size ∨ k = w.heap.size + 1 := ⟨_, rfl⟩
  obtain ⟨g, hg⟩ : ∃ g, g = w.heap.size + 1 := ⟨_, rfl⟩
  obtain ⟨b, hb⟩ : ∃ b, b = w.heap.size + 2 := ⟨_, rfl⟩
  have hD : dEnt l = List.foldl dPart (rKind l) [.client] := by
    unfold dEnt
    rw [hk]
    rfl
  have SLW : Hid (∀ W, Gr w W → Sl W (.slice a l.length cap) (bytes l)) := Lib.hid fun W hW => hs.below hW
  obtain ⟨w1, hw1⟩ : ∃ w1, w1 = w.alloc (.cells zeroL.toArray 35) := ⟨_, rfl⟩
  have e1 : w1.heap.size = g := by rw [hw1, hg]; simp
  obtain ⟨w2, hw2⟩ : ∃ w2, w2 = w1.alloc (.cells #[.slice a l.length cap, .int .i64 0, .bool false] 64) := ⟨_, rfl⟩
  have e2 : w2.heap.size = b := by rw [hw2, hb]; simp [e1, hg]
  obtain ⟨w3, hw3⟩ : ∃ w3, w3 = w2.alloc (.cells zeroL.toArray 35) := ⟨_, rfl⟩
  have M3 : Hid (GMid w w3 base g (l, false) b zeroX) := Lib.hid (by rw [hw3, hw2, hw1, hbase, hg, hb]; exact GMid.start w _ l a cap rfl hs hl9)
  have HW1 : Hid (w1 = w.alloc (.cells #[.int .u8 0, .int .u32 0, .int .u32 0, .int .i64 0, .int .u32 0, .int .u8 0, .string ⟨#[]⟩, .slice none 0 0, .int .i64 0, .bool false, .bool false, .slice none 0 0, .int .i64 0, .int .u64 0, .int .i64 0, .int .u64 0, .slice none 0 0, .slice none 0 0, .int .u32 0, .int .i64 0, .int .i64 0, .int .u64 0, .slice none 0 0] 35)) := Lib.hid hw1
  have HW2 := Lib.hid hw2
  have HW3 : Hid (w3 = w2.alloc (.cells #[.int .u8 0, .int .u32 0, .int .u32 0, .int .i64 0, .int .u32 0, .int .u8 0, .string ⟨#[]⟩, .slice none 0 0, .int .i64 0, .bool false, .bool false, .slice none 0 0, .int .i64 0, .int .u64 0, .int .i64 0, .int .u64 0, .slice none 0 0, .slice none 0 0, .int .u32 0, .int .i64 0, .int .i64 0, .int .u64 0, .slice none 0 0] 35)) := Lib.hid hw3
  have E1 : Hid (w.heap.size + 1 = g) := Lib.hid hg.symm
  have E2 : Hid (w.heap.size + 1 + 1 = b) := Lib.hid (by rw [hb])
  have HB := Lib.hid hb
  have C0 := fun W h => one8_any W base g (l, false) h
  obtain ⟨s0, hs0⟩ : ∃ s0, s0 = (rByte (l, false)).2 := ⟨_, rfl⟩
  obtain ⟨x0, hx0⟩ : ∃ x0 : EntD, x0 = { zeroX with kind := 2 } := ⟨_, rfl⟩
  have hk0 : x0.kind = 2 := by rw [hx0]
  have L0 : s0.1.length ≤ 1000000000 := by rw [hs0]; exact Nat.le_trans (lf_byte (l, false)) hl9
  have er : rKind l = (x0, s0) := by rw [hx0, hs0, ← hk]; rfl
  rw [er] at hD
  rw [hk, ← hs0] at C0
  have CC0 := Lib.hid C0
  clear C0 hs0 er hbase hw1 hw2 hw3 e1 e2 hs hb hg
  simp only [List.foldl_cons, List.foldl_nil] at hD
  obtain ⟨cl0, hcl⟩ : ∃ cl0, cl0 = (rSmall s0).1 := ⟨_, rfl⟩
  obtain ⟨t0, ht⟩ : ∃ t0, t0 = (rSmall s0).2 := ⟨_, rfl⟩
  obtain ⟨rq0, hrq⟩ : ∃ rq0, rq0 = (rSmall t0).1 := ⟨_, rfl⟩
  obtain ⟨s1, hs1⟩ : ∃ s1, s1 = (rSmall t0).2 := ⟨_, rfl⟩
  have ev : dVal .client s0 = (.client cl0 rq0, s1) := by rw [hs1, hrq, ht, hcl]; rfl
  have CA := fun W h => dsmall_any W base g s0 h
  have CB := fun W h => dsmall_any W base g t0 h
  rw [← hcl, ← ht] at CA
  rw [← hrq, ← hs1] at CB
  have CA0 := Lib.hid CA
  have CB0 := Lib.hid CB
  clear CA CB hcl ht hrq hs1
  obtain ⟨x1, hx1⟩ : ∃ x1, x1 = putVal x0 (.client cl0 rq0) := ⟨_, rfl⟩
  have hk1 : x1.kind = 2 := by rw [hx1]; exact hk0
  have L1 : s1.1.length ≤ 1000000000 := by have h := lf_val .client s0; rw [ev] at h; exact Nat.le_trans h L0
  rw [dPart_mk x0 s0, ev, ← hx1] at hD
  clear ev
  have HD := Lib.hid hD
  have HLL := Lib.hid hl
  have HX0 := Lib.hid hx0
  have HX1 := Lib.hid hx1
  have HK0 := Lib.hid hk0
  have HK1 := Lib.hid hk1
  clear hD hk hx0 hx1 hk0 hk1 L0 L1 hl
  go_enter Tryz.func13, Tryz.ntmps13
  go_wp2_with fail
  rw [← HW1.out, ← HW2.out, ← HW3.out, E2.out, E1.out]
  refine (CC0.out _ M3.out.ds).mono ?_
  rintro en w4 ⟨rfl, hr4, hg4⟩
  have M4 := Lib.hid (M3.out.call hr4 hg4)
  clear hr4 hg4 M3 HW1 HW2 HW3 E1 E2
  obtain ⟨q4, K4, hp4⟩ := M4.out.ent
  have c0 := K4.cell 0
  have f0 := K4.frozen 0
  have kf := K4.set 0 (.int .u8 (2 : Int))
  have gs := grownBy_setCell w4 b 0 (.int .u8 (2 : Int))
  have MM := Lib.hid (M4.out.part (x' := x0) q4 (by rw [HX0.out]; exact kf) (by rw [HX0.out]; exact hp4.keep (Keep.of_grown gs (fun h => Nat.lt_irrefl _ h))) gs)
  clear K4 hp4 kf gs M4
  go_upto_region 4 with fail
  obtain ⟨w5, hw5⟩ : ∃ w5, w5 = w4.setCell ⟨b, 0, none⟩ (.int .u8 (2 : Int)) := ⟨_, rfl⟩
  rw [← hw5] at MM ⊢
  clear hw5 c0 f0
  have c0 := MM.out.kind 2 HK0.out
  go_wp2_with fail
  clear c0
  refine (CA0.out _ MM.out.ds).mono ?_
  rintro en w6 ⟨rfl, hr, hg1⟩
  have M6 := Lib.hid (MM.out.call hr hg1)
  obtain ⟨q, K, hp⟩ := M6.out.ent
  have y1 := (K.cell 1).trans (show (entCells _ _)[1]? = some _ from rfl)
  have fy1 := K.frozen 1
  have kf := (K.set 1 (.int .u32 (cl0 : Int)))
  have gs := (grownBy_setCell w6 b 1 (.int .u32 (cl0 : Int)))
  have KP : Keep (fun j => b < j) w6 (w6.setCell ⟨b, 1, none⟩ (.int .u32 (cl0 : Int))) := Keep.of_grown gs (fun h => Nat.lt_irrefl _ h)
  have N6 : Hid (GMid w (w6.setCell ⟨b, 1, none⟩ (.int .u32 (cl0 : Int))) base g _ b ({ x0 with client := cl0 })) := Lib.hid (M6.out.part q (by exact kf) (by exact hp.keep KP) gs)
  clear K hp kf gs KP hr hg1 MM M6
  go_upto_region 6 with fail
  obtain ⟨w7, hw7⟩ : ∃ w7, w7 = (w6.setCell ⟨b, 1, none⟩ (.int .u32 (cl0 : Int))) := ⟨_, rfl⟩
  rw [← hw7] at N6 ⊢
  clear hw7 y1 fy1
  go_wp2_with fail
  refine (CB0.out _ N6.out.ds).mono ?_
  rintro en w8 ⟨rfl, hr, hg1⟩
  have M8 := Lib.hid (N6.out.call hr hg1)
  obtain ⟨q, K, hp⟩ := M8.out.ent
  have y2 := (K.cell 2).trans (show (entCells _ _)[2]? = some _ from rfl)
  have fy2 := K.frozen 2
  have kf := (K.set 2 (.int .u32 (rq0 : Int)))
  have gs := (grownBy_setCell w8 b 2 (.int .u32 (rq0 : Int)))
  have KP : Keep (fun j => b < j) w8 (w8.setCell ⟨b, 2, none⟩ (.int .u32 (rq0 : Int))) := Keep.of_grown gs (fun h => Nat.lt_irrefl _ h)
  have N8 : Hid (GMid w (w8.setCell ⟨b, 2, none⟩ (.int .u32 (rq0 : Int))) base g _ b x1) := Lib.hid (M8.out.part q (by rw [HX1.out]; exact kf) (by rw [HX1.out]; exact hp.keep KP) gs)
  clear K hp kf gs KP hr hg1 N6 M8
  go_upto_region 7 with fail
  obtain ⟨w9, hw9⟩ : ∃ w9, w9 = (w8.setCell ⟨b, 2, none⟩ (.int .u32 (rq0 : Int))) := ⟨_, rfl⟩
  rw [← hw9] at N8 ⊢
  clear hw9 y2 fy2
  have c0 := N8.out.kind 2 HK1.out
  obtain ⟨q, E, pe, cL, dn, KB, EN, EO, EP, YY, NN, DH, PH⟩ := dget_pack HLL.out HD.out N8.out
  go_wp2_with (first | (refine wpList_loadE entTy _ rfl rfl rfl KB.out EN.out ?_) | fail)
  clear c0
  refine (PH.out).mono ?_
  rintro en wP ⟨vP, rfl, sP, gP⟩
  have MP := Lib.hid (N8.out.gr gP)
  have KP2 := Lib.hid (KB.out.gr gP)
  have EP2 := Lib.hid (EP.out.gr gP)
  have SP := Lib.hid sP
  clear sP gP PH N8 KB EP
  by_cases hz : pe = 0
  · subst hz
    go_wp2_with fail
    refine (DH.out _ MP.out.ds).mono ?_
    rintro en wD ⟨rfl, gD⟩
    have MD := Lib.hid (MP.out.gr gD)
    have GD := Lib.hid gD
    clear gD MP
    cases dn with
    | false =>
      obtain ⟨KZH, FH⟩ := dget_zero MD.out NN.out (by simp)
      go_wp2_with (first | (refine wpList_buildTo rfl 35 _ rfl (some 20) rfl _ built_ent0 ?_) | (refine wpList_storeE entTy _ _ rfl rfl rfl rfl KZH.out zeroL_len zeroL_len zeroL_one ?_) | fail)
      intro w9 k9 ch9
      have K9 := Lib.hid k9
      have F9 := Lib.hid (FH.out w9 ch9)
      clear k9 ch9
      go_wp2
      exact bodyPost_ret (v := .tuple #[.agg zeroL.toArray, .int .i64 2]) (results_row2 (fn := Tryz.f13) entTy rfl _ _ rfl K9.out zeroL_len) rfl F9.out
    | true =>
      have r1 := run_string_sl (P := Tryz.prog) 25 5 9 Tryz.underlying25 Tryz.underlying5 Tryz.underlying9 (SP.out.below GD.out)
      have r2 := run_string_sl (P := Tryz.prog) 25 5 9 Tryz.underlying25 Tryz.underlying5 Tryz.underlying9 (SLW.out wD MD.out.grw)
      by_cases hc : cL = l
      · have KE := Lib.hid (KP2.out.gr GD.out)
        have ZK := Lib.hid MD.out.zero
        have FH := Lib.hid (fun W' ch => dget_last (W' := W') MD.out (EP2.out.gr GD.out) (YY.out (by trivial) (by trivial) hc) ch)
        subst hc
        go_wp2_with (first | (refine wpList_loadE entTy _ rfl rfl rfl KE.out EN.out ?_) | (refine wpList_storeE entTy _ _ rfl rfl rfl rfl ZK.out EN.out zeroL_len EO.out ?_) | fail)
        intro w9 k9 ch9
        have K9 := Lib.hid k9
        have F9 := Lib.hid (FH.out w9 ch9)
        clear k9 ch9
        go_wp2
        exact bodyPost_ret (v := .tuple #[.agg E.toArray, .int .i64 0]) (results_row2 (fn := Tryz.f13) entTy rfl _ _ rfl K9.out EN.out) rfl F9.out
      · have hcs : (cL == l) = false := by rw [Bool.eq_false_iff]; intro h; exact hc (eq_of_beq h)
        obtain ⟨KZH, FH⟩ := dget_zero MD.out NN.out (fun h => hc h.2.2)
        clear hc
        go_wp2_with (first | (refine wpList_buildTo rfl 35 _ rfl (some 20) rfl _ built_ent0 ?_) | (refine wpList_storeE entTy _ _ rfl rfl rfl rfl KZH.out zeroL_len zeroL_len zeroL_one ?_) | fail)
        intro w9 k9 ch9
        have K9 := Lib.hid k9
        have F9 := Lib.hid (FH.out w9 ch9)
        clear k9 ch9
        go_wp2
        exact bodyPost_ret (v := .tuple #[.agg zeroL.toArray, .int .i64 2]) (results_row2 (fn := Tryz.f13) entTy rfl _ _ rfl K9.out zeroL_len) rfl F9.out
  · obtain ⟨KZH, FH⟩ := dget_zero MP.out NN.out (fun h => hz h.1)
    have hzz : (pe == 0) = false := by simp; exact hz
    go_wp2_with (first | (refine wpList_buildTo rfl 35 _ rfl (some 20) rfl _ built_ent0 ?_) | (refine wpList_storeE entTy _ _ rfl rfl rfl rfl KZH.out zeroL_len zeroL_len zeroL_one ?_) | fail)
    intro w9 k9 ch9
    have K9 := Lib.hid k9
    have F9 := Lib.hid (FH.out w9 ch9)
    clear k9 ch9
    go_wp2
    exact bodyPost_ret (v := .tuple #[.agg zeroL.toArray, .int .i64 2]) (results_row2 (fn := Tryz.f13) entTy rfl _ _ rfl K9.out zeroL_len) rfl F9.out
set_option maxHeartbeats 8000000 in
theorem dget_7 (w : World) (v : Value) (l : List UInt8) (hs : Sl w v (bytes l)) (hl : l.length ≤ 10000) (hk : (rByte (l, false)).1 = 7) :
    Calls Tryz.prog 13 #[v] w (RetD w l) := by
  have hl9 : l.length ≤ 1000000000 := by omega
  obtain ⟨a, cap, rfl⟩ := hs.oneCells
  rw [bytes_length] at hs ⊢
  obtain ⟨base, hbase⟩ : ∃ base : Nat → Prop, base = fun k => k < w.heap.size ∨ k = w.heap.size + 1 := ⟨_, rfl⟩
  obtain ⟨g, hg⟩ : ∃ g, g = w.heap.size + 1 := ⟨_, rfl⟩
  obtain ⟨b, hb⟩ : ∃ b, b = w.heap.size + 2 := ⟨_, rfl⟩
  have hD : dEnt l = List.foldl dPart (rKind l) [.wher] := by
    unfold dEnt
    rw [hk]
    rfl
  have SLW : Hid (∀ W, Gr w W → Sl W (.slice a l.length cap) (bytes l)) := Lib.hid fun W hW => hs.below hW
  obtain ⟨w1, hw1⟩ : ∃ w1, w1 = w.alloc (.cells zeroL.toArray 35) := ⟨_, rfl⟩
  have e1 : w1.heap.size = g := by rw [hw1, hg]; simp
  obtain ⟨w2, hw2⟩ : ∃ w2, w2 = w1.alloc (.cells #[.slice a l.length cap, .int .i64 0, .bool false] 64) := ⟨_, rfl⟩
  have e2 : w2.heap.size = b := by rw [hw2, hb]; simp [e1, hg]
  obtain ⟨w3, hw3⟩ : ∃ w3, w3 = w2.alloc (.cells zeroL.toArray 35) := ⟨_, rfl⟩
  have M3 : Hid (GMid w w3 base g (l, false) b zeroX) := Lib.hid (by rw [hw3, hw2, hw1, hbase, hg, hb]; exact GMid.start w _ l a cap rfl hs hl9)
  have HW1 : Hid (w1 = w.alloc (.cells #[.int .u8 0, .int .u32 0, .int .u32 0, .int .i64 0, .int .u32 0, .int .u8 0, .string ⟨#[]⟩, .slice none 0 0, .int .i64 0, .bool false, .bool false, .slice none 0 0, .int .i64 0, .int .u64 0, .int .i64 0, .int .u64 0, .slice none 0 0, .slice none 0 0, .int .u32 0, .int .i64 0, .int .i64 0, .int .u64 0, .slice none 0 0] 35)) := Lib.hid hw1
  have HW2 := Lib.hid hw2
  have HW3 : Hid (w3 = w2.alloc (.cells #[.int .u8 0, .int .u32 0, .int .u32 0, .int .i64 0, .int .u32 0, .int .u8 0, .string ⟨#[]⟩, .slice none 0 0, .int .i64 0, .bool false, .bool false, .slice none 0 0, .int .i64 0, .int .u64 0, .int .i64 0, .int .u64 0, .slice none 0 0, .slice none 0 0, .int .u32 0, .int .i64 0, .int .i64 0, .int .u64 0, .slice none 0 0] 35)) := Lib.hid hw3
  have E1 : Hid (w.heap.size + 1 = g) := Lib.hid hg.symm
  have E2 : Hid (w.heap.size + 1 + 1 = b) := Lib.hid (by rw [hb])
  have HB := Lib.hid hb
  have C0 := fun W h => one8_any W base g (l, false) h
  obtain ⟨s0, hs0⟩ : ∃ s0, s0 = (rByte (l, false)).2 := ⟨_, rfl⟩
  obtain ⟨x0, hx0⟩ : ∃ x0 : EntD, x0 = { zeroX with kind := 7 } := ⟨_, rfl⟩
  have hk0 : x0.kind = 7 := by rw [hx0]
  have L0 : s0.1.length ≤ 1000000000 := by rw [hs0]; exact Nat.le_trans (lf_byte (l, false)) hl9
  have er : rKind l = (x0, s0) := by rw [hx0, hs0, ← hk]; rfl
  rw [er] at hD
  rw [hk, ← hs0] at C0
  have CC0 := Lib.hid C0
  clear C0 hs0 er hbase hw1 hw2 hw3 e1 e2 hs hb hg
  simp only [List.foldl_cons, List.foldl_nil] at hD
  obtain ⟨rn0, hrn⟩ : ∃ rn0, rn0 = (rUint s0).1 := ⟨_, rfl⟩
  obtain ⟨wv0, hwv⟩ : ∃ wv0, wv0 = i64 rn0 := ⟨_, rfl⟩
  obtain ⟨s1, hs1⟩ : ∃ s1, s1 = (rUint s0).2 := ⟨_, rfl⟩
  have ev : dVal .wher s0 = (.wher wv0, s1) := by rw [hs1, hwv, hrn]; rfl
  have CA := fun W h => ds_uint W base g s0 h
  rw [← hrn, ← hs1] at CA
  have CA0 := Lib.hid CA
  have HV0 := Lib.hid hwv
  clear CA hrn hwv hs1
  obtain ⟨x1, hx1⟩ : ∃ x1, x1 = putVal x0 (.wher wv0) := ⟨_, rfl⟩
  have hk1 : x1.kind = 7 := by rw [hx1]; exact hk0
  have L1 : s1.1.length ≤ 1000000000 := by have h := lf_val .wher s0; rw [ev] at h; exact Nat.le_trans h L0
  rw [dPart_mk x0 s0, ev, ← hx1] at hD
  clear ev
  have HD := Lib.hid hD
  have HLL := Lib.hid hl
  have HX0 := Lib.hid hx0
  have HX1 := Lib.hid hx1
  have HK0 := Lib.hid hk0
  have HK1 := Lib.hid hk1
  clear hD hk hx0 hx1 hk0 hk1 L0 L1 hl
  go_enter Tryz.func13, Tryz.ntmps13
  go_wp2_with fail
  rw [← HW1.out, ← HW2.out, ← HW3.out, E2.out, E1.out]
  refine (CC0.out _ M3.out.ds).mono ?_
  rintro en w4 ⟨rfl, hr4, hg4⟩
  have M4 := Lib.hid (M3.out.call hr4 hg4)
  clear hr4 hg4 M3 HW1 HW2 HW3 E1 E2
  obtain ⟨q4, K4, hp4⟩ := M4.out.ent
  have c0 := K4.cell 0
  have f0 := K4.frozen 0
  have kf := K4.set 0 (.int .u8 (7 : Int))
  have gs := grownBy_setCell w4 b 0 (.int .u8 (7 : Int))
  have MM := Lib.hid (M4.out.part (x' := x0) q4 (by rw [HX0.out]; exact kf) (by rw [HX0.out]; exact hp4.keep (Keep.of_grown gs (fun h => Nat.lt_irrefl _ h))) gs)
  clear K4 hp4 kf gs M4
  go_upto_region 4 with fail
  obtain ⟨w5, hw5⟩ : ∃ w5, w5 = w4.setCell ⟨b, 0, none⟩ (.int .u8 (7 : Int)) := ⟨_, rfl⟩
  rw [← hw5] at MM ⊢
  clear hw5 c0 f0
  have c0 := MM.out.kind 7 HK0.out
  go_wp2_with fail
  clear c0
  refine (CA0.out _ MM.out.ds).mono ?_
  rintro en w6 ⟨rfl, hr, hg1⟩
  have M6 := Lib.hid (MM.out.call hr hg1)
  obtain ⟨q, K, hp⟩ := M6.out.ent
  have y20 := (K.cell 20).trans (show (entCells _ _)[20]? = some _ from rfl)
  have fy20 := K.frozen 20
  have kf := (K.set 20 (.int .i64 wv0))
  have gs := (grownBy_setCell w6 b 20 (.int .i64 wv0))
  have KP : Keep (fun j => b < j) w6 (w6.setCell ⟨b, 20, none⟩ (.int .i64 wv0)) := Keep.of_grown gs (fun h => Nat.lt_irrefl _ h)
  have N6 : Hid (GMid w (w6.setCell ⟨b, 20, none⟩ (.int .i64 wv0)) base g _ b x1) := Lib.hid (M6.out.part q (by rw [HX1.out]; exact kf) (by rw [HX1.out]; exact hp.keep KP) gs)
  clear K hp kf gs KP hr hg1 MM M6
  have hv : wrap64 ((rn0 : Nat) : Int) = wv0 := HV0.out.symm
  go_upto_region 17 with fail
  clear hv
  obtain ⟨w7, hw7⟩ : ∃ w7, w7 = (w6.setCell ⟨b, 20, none⟩ (.int .i64 wv0)) := ⟨_, rfl⟩
  rw [← hw7] at N6 ⊢
  clear hw7 y20 fy20
  have c0 := N6.out.kind 7 HK1.out
  obtain ⟨q, E, pe, cL, dn, KB, EN, EO, EP, YY, NN, DH, PH⟩ := dget_pack HLL.out HD.out N6.out
  go_wp2_with (first | (refine wpList_loadE entTy _ rfl rfl rfl KB.out EN.out ?_) | fail)
  clear c0
  refine (PH.out).mono ?_
  rintro en wP ⟨vP, rfl, sP, gP⟩
  have MP := Lib.hid (N6.out.gr gP)
  have KP2 := Lib.hid (KB.out.gr gP)
  have EP2 := Lib.hid (EP.out.gr gP)
  have SP := Lib.hid sP
  clear sP gP PH N6 KB EP
  by_cases hz : pe = 0
  · subst hz
    go_wp2_with fail
    refine (DH.out _ MP.out.ds).mono ?_
    rintro en wD ⟨rfl, gD⟩
    have MD := Lib.hid (MP.out.gr gD)
    have GD := Lib.hid gD
    clear gD MP
    cases dn with
    | false =>
      obtain ⟨KZH, FH⟩ := dget_zero MD.out NN.out (by simp)
      go_wp2_with (first | (refine wpList_buildTo rfl 35 _ rfl (some 20) rfl _ built_ent0 ?_) | (refine wpList_storeE entTy _ _ rfl rfl rfl rfl KZH.out zeroL_len zeroL_len zeroL_one ?_) | fail)
      intro w9 k9 ch9
      have K9 := Lib.hid k9
      have F9 := Lib.hid (FH.out w9 ch9)
      clear k9 ch9
      go_wp2
      exact bodyPost_ret (v := .tuple #[.agg zeroL.toArray, .int .i64 2]) (results_row2 (fn := Tryz.f13) entTy rfl _ _ rfl K9.out zeroL_len) rfl F9.out
    | true =>
      have r1 := run_string_sl (P := Tryz.prog) 25 5 9 Tryz.underlying25 Tryz.underlying5 Tryz.underlying9 (SP.out.below GD.out)
      have r2 := run_string_sl (P := Tryz.prog) 25 5 9 Tryz.underlying25 Tryz.underlying5 Tryz.underlying9 (SLW.out wD MD.out.grw)
      by_cases hc : cL = l
      · have KE := Lib.hid (KP2.out.gr GD.out)
        have ZK := Lib.hid MD.out.zero
        have FH := Lib.hid (fun W' ch => dget_last (W' := W') MD.out (EP2.out.gr GD.out) (YY.out (by trivial) (by trivial) hc) ch)
        subst hc
        go_wp2_with (first | (refine wpList_loadE entTy _ rfl rfl rfl KE.out EN.out ?_) | (refine wpList_storeE entTy _ _ rfl rfl rfl rfl ZK.out EN.out zeroL_len EO.out ?_) | fail)
        intro w9 k9 ch9
        have K9 := Lib.hid k9
        have F9 := Lib.hid (FH.out w9 ch9)
        clear k9 ch9
        go_wp2
        exact bodyPost_ret (v := .tuple #[.agg E.toArray, .int .i64 0]) (results_row2 (fn := Tryz.f13) entTy rfl _ _ rfl K9.out EN.out) rfl F9.out
      · have hcs : (cL == l) = false := by rw [Bool.eq_false_iff]; intro h; exact hc (eq_of_beq h)
        obtain ⟨KZH, FH⟩ := dget_zero MD.out NN.out (fun h => hc h.2.2)
        clear hc
        go_wp2_with (first | (refine wpList_buildTo rfl 35 _ rfl (some 20) rfl _ built_ent0 ?_) | (refine wpList_storeE entTy _ _ rfl rfl rfl rfl KZH.out zeroL_len zeroL_len zeroL_one ?_) | fail)
        intro w9 k9 ch9
        have K9 := Lib.hid k9
        have F9 := Lib.hid (FH.out w9 ch9)
        clear k9 ch9
        go_wp2
        exact bodyPost_ret (v := .tuple #[.agg zeroL.toArray, .int .i64 2]) (results_row2 (fn := Tryz.f13) entTy rfl _ _ rfl K9.out zeroL_len) rfl F9.out
  · obtain ⟨KZH, FH⟩ := dget_zero MP.out NN.out (fun h => hz h.1)
    have hzz : (pe == 0) = false := by simp; exact hz
    go_wp2_with (first | (refine wpList_buildTo rfl 35 _ rfl (some 20) rfl _ built_ent0 ?_) | (refine wpList_storeE entTy _ _ rfl rfl rfl rfl KZH.out zeroL_len zeroL_len zeroL_one ?_) | fail)
    intro w9 k9 ch9
    have K9 := Lib.hid k9
    have F9 := Lib.hid (FH.out w9 ch9)
    clear k9 ch9
    go_wp2
    exact bodyPost_ret (v := .tuple #[.agg zeroL.toArray, .int .i64 2]) (results_row2 (fn := Tryz.f13) entTy rfl _ _ rfl K9.out zeroL_len) rfl F9.out
end Go.Proofs.YtiemgmbjhllmbaaGreat
