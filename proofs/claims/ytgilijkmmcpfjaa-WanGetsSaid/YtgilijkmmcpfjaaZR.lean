/-
  Of the document: Get of messages of package wan, first bytes 17, 21, 20.
  Of the document: Get of messages of package wan, first bytes 19, 22.
  Of the document: Get of messages of package wan, first bytes 18.
  Of the document: Get of messages of package wan, of bytes that are of no kind; all of it.
-/
import Derived.Test.YtgilijkmmcpfjaaZQ
import Derived.Test.YtgilijkmmcpfjaaZX
section
set_option linter.unusedVariables false
set_option linter.unusedSimpArgs false
set_option maxRecDepth 100000
namespace Go.Proofs.Ytgilijkmmcpfjaa
open Go.RowKit
set_option maxHeartbeats 8000000 in
theorem dwget_17 (w : World) (v : Value) (l : List UInt8) (hs : Sl w v (bytes l)) (hl : l.length ≤ 10000) (hk : (rByte (l, false)).1 = 17) :
    Calls Try.prog 14 #[v] w (RetDW w l) := by
  have hl9 : l.length ≤ 1000000000 := by omega
  obtain ⟨a, cap, rfl⟩ := hs.oneCells
  rw [bytes_length] at hs ⊢
  have hrr : ¬ ((rByte (l, false)).1 < 17 ∨ 22 < (rByte (l, false)).1) := by rw [hk]; decide
  have HRR := Lib.hid hrr
  obtain ⟨base, hbase⟩ : ∃ base : Nat → Prop, base = fun k => k < w.heap.size ∨ k = w.heap.size + 1 := ⟨_, rfl⟩
  obtain ⟨g, hg⟩ : ∃ g, g = w.heap.size + 1 := ⟨_, rfl⟩
  obtain ⟨b, hb⟩ : ∃ b, b = w.heap.size + 2 := ⟨_, rfl⟩
  have SLW : Hid (∀ W, Gr w W → Sl W (.slice a l.length cap) (bytes l)) := Lib.hid fun W hW => hs.below hW
  obtain ⟨w1, hw1⟩ : ∃ w1, w1 = w.alloc (.cells zeroWL.toArray 26) := ⟨_, rfl⟩
  have e1 : w1.heap.size = g := by rw [hw1, hg]; simp
  obtain ⟨w2, hw2⟩ : ∃ w2, w2 = w1.alloc (.cells #[.slice a l.length cap, .int .i64 0, .bool false] 71) := ⟨_, rfl⟩
  have e2 : w2.heap.size = b := by rw [hw2, hb]; simp [e1, hg]
  obtain ⟨w3, hw3⟩ : ∃ w3, w3 = w2.alloc (.cells zeroWL.toArray 26) := ⟨_, rfl⟩
  have M3 : Hid (GRow w w3 base g (l, false) b zeroW zeroWQ) := Lib.hid (by rw [hw3, hw2, hw1, hbase, hg, hb]; exact GRow.start w _ l a cap rfl hs hl9)
  have HW1 : Hid (w1 = w.alloc (.cells #[.int .u8 0, .int .i64 0, .slice none 0 0, .slice none 0 0, .int .i64 0, .int .u64 0, .slice none 0 0] 26)) := Lib.hid hw1
  have HW2 := Lib.hid hw2
  have HW3 : Hid (w3 = w2.alloc (.cells #[.int .u8 0, .int .i64 0, .slice none 0 0, .slice none 0 0, .int .i64 0, .int .u64 0, .slice none 0 0] 26)) := Lib.hid hw3
  have E1 : Hid (w.heap.size + 1 = g) := Lib.hid hg.symm
  have E2 : Hid (w.heap.size + 1 + 1 = b) := Lib.hid (by rw [hb])
  obtain ⟨y1, hy1⟩ : ∃ y, y = (rTake 1 (l, false)).1 := ⟨_, rfl⟩
  obtain ⟨s1, hs1⟩ : ∃ s1, s1 = (rByte (l, false)).2 := ⟨_, rfl⟩
  obtain ⟨y2, hy2⟩ : ∃ y, y = (rTake 1 s1).1 := ⟨_, rfl⟩
  obtain ⟨si, hsi⟩ : ∃ si, si = (rByte s1).1 := ⟨_, rfl⟩
  obtain ⟨s2, hs2⟩ : ∃ s2, s2 = (rByte s1).2 := ⟨_, rfl⟩
  have hsl : si < 256 := by rw [hsi]; exact rByte_lt _
  have T1 : Hid (∀ W, Ds W base g (l, false) → Calls Try.prog 36 #[.pointer (some ⟨g, 0, none⟩), .int .u64 1] W (DGotP W base g (fun v W => Sl W v (bytes y1)) s1)) := Lib.hid fun W h => by rw [hy1, hs1]; exact ds_take W base g 1 (l, false) h (by decide)
  have T2 : Hid (∀ W, Ds W base g s1 → Calls Try.prog 36 #[.pointer (some ⟨g, 0, none⟩), .int .u64 1] W (DGotP W base g (fun v W => Sl W v (bytes y2)) s2)) := Lib.hid fun W h => by rw [hy2, hs2]; exact ds_take W base g 1 s1 h (by decide)
  have V1 : Hid (∀ W v, Sl W v (bytes y1) → Calls Try.prog 35 #[v] W (fun e w' => e = .returned (.int .u64 17) ∧ w' = W)) := Lib.hid fun W v h => (refvalue_any _ _ _ h (by rw [hy1]; exact Nat.le_trans (rTake_length 1 _) (by decide))).mono fun e w' hh => by
    obtain ⟨h1, h2⟩ := hh
    have e9 : val y1 = 17 := by rw [hy1]; exact hk
    rw [e9] at h1
    exact ⟨h1, h2.symm⟩
  have V2 : Hid (∀ W v, Sl W v (bytes y2) → Calls Try.prog 35 #[v] W (fun e w' => e = .returned (.int .u64 (si : Int)) ∧ w' = W)) := Lib.hid fun W v h => (refvalue_any _ _ _ h (by rw [hy2]; exact Nat.le_trans (rTake_length 1 _) (by decide))).mono fun e w' hh => by
    obtain ⟨h1, h2⟩ := hh
    have e9 : val y2 = si := by rw [hy2, hsi]; rfl
    rw [e9] at h1
    exact ⟨h1, h2.symm⟩
  have hv : wrap64 ((si : Nat) : Int) = (si : Int) := by unfold wrap64; omega
  have L1 : s1.1.length ≤ 1000000000 := by rw [hs1]; exact Nat.le_trans (rByte_left (l, false)) hl9
  have L2 : s2.1.length ≤ 1000000000 := by rw [hs2]; exact Nat.le_trans (rByte_left s1) L1
  obtain ⟨z0, hz0⟩ : ∃ z, z = (dStamp s2).1 := ⟨_, rfl⟩
  obtain ⟨s3, hs3⟩ : ∃ s, s = (dStamp s2).2 := ⟨_, rfl⟩
  have C0 : Hid (∀ W, Ds W base g s2 → (∀ k, base k → k < W.heap.size) → Calls Try.prog 37 #[.pointer (some ⟨g, 0, none⟩)] W (DGotN W base g z0 s3)) := Lib.hid fun W h hb => by rw [hz0, hs3]; exact stampedW_any W base g s2 h hb
  have hD : dWan (l, false) = (⟨1, (si : Int), z0, [], 0, 0, []⟩, s3) := by
    unfold dWan
    rw [hk, ← hs1, ← hsi, ← hs2]
    rw [hs3, hz0]; rfl
  have HD := Lib.hid hD
  clear hD hs1 hs2 hsi hy1 hy2 hw1 hw2 hw3 e1 e2 hs hb hg hbase hl hk hrr hl9 hz0 hs3
  go_enter Try.func14, Try.ntmps14
  go_wp2_with fail
  rw [← HW1.out, ← HW2.out, ← HW3.out, E2.out, E1.out]
  refine (T1.out _ M3.out.ds).mono ?_
  rintro en w4 ⟨vt, rfl, st, hr, hg1⟩
  have M4 := Lib.hid (M3.out.call hr hg1)
  have VV := Lib.hid (V1.out w4 vt st)
  clear hr hg1 st M3 HW1 HW2 HW3 E1 E2
  go_wp2_with fail
  refine VV.out.mono ?_
  rintro en w5 ⟨rfl, rfl⟩
  have K := M4.out.cells
  have c0 := (K.cell 0).trans (show (wC _ _)[0]? = some _ from rfl)
  have f0 := K.frozen 0
  have kf := K.set 0 (.int .u8 1)
  have gs := grownBy_setCell w5 b 0 (.int .u8 1)
  have x0w : IntKind.u64.wrap 1 = 1 := rfl
  have x1w : IntKind.u8.wrap 1 = 1 := rfl
  have N5 : Hid (GRow w (w5.setCell ⟨b, 0, none⟩ (.int .u8 1)) base g s1 b ⟨1, 0, [], [], 0, 0, []⟩ zeroWQ) := Lib.hid (M4.out.part (x' := ⟨1, 0, [], [], 0, 0, []⟩) zeroWQ kf gs)
  clear K kf gs M4 VV
  go_upto_region 7 with fail
  obtain ⟨w6, hw6⟩ : ∃ w6, w6 = w5.setCell ⟨b, 0, none⟩ (.int .u8 1) := ⟨_, rfl⟩
  rw [← hw6] at N5 ⊢
  clear hw6 c0 f0 x0w x1w
  go_wp2_with fail
  refine (T2.out _ N5.out.ds).mono ?_
  rintro en w7 ⟨vt2, rfl, st, hr, hg1⟩
  have M7 := Lib.hid (N5.out.call hr hg1)
  have VV := Lib.hid (V2.out w7 vt2 st)
  clear hr hg1 st N5
  go_wp2_with fail
  refine VV.out.mono ?_
  rintro en w8 ⟨rfl, rfl⟩
  have K := M7.out.cells
  have c1 := (K.cell 1).trans (show (wC _ _)[1]? = some _ from rfl)
  have f1 := K.frozen 1
  have kf := K.set 1 (.int .i64 (si : Int))
  have gs := grownBy_setCell w8 b 1 (.int .i64 (si : Int))
  have N8r : Hid (GRow w (w8.setCell ⟨b, 1, none⟩ (.int .i64 (si : Int))) base g s2 b ⟨1, (si : Int), [], [], 0, 0, []⟩ zeroWQ) := Lib.hid (M7.out.part (x' := ⟨1, (si : Int), [], [], 0, 0, []⟩) zeroWQ kf gs)
  clear K kf gs M7 VV
  go_upto_region 8 with fail
  clear hv
  obtain ⟨w9, hw9⟩ : ∃ w9, w9 = w8.setCell ⟨b, 1, none⟩ (.int .i64 (si : Int)) := ⟨_, rfl⟩
  rw [← hw9] at N8r ⊢
  clear hw9 c1 f1
  have N8 : Hid (GWan w w9 base g s2 b ⟨1, (si : Int), [], [], 0, 0, []⟩) := Lib.hid ⟨zeroWQ, N8r.out, SlP.nil _ _ _ _, ItemsP.nil _ _ _ _, SlP.nil _ _ _ _⟩
  have c0 := N8.out.kind 1 rfl
  go_wp2_with fail
  clear c0
  refine (C0.out _ N8.out.ds N8.out.blt).mono ?_
  rintro en w10 ⟨vs, rfl, os, hr, hg1⟩
  obtain ⟨fa, fc, rfl⟩ := os.shape
  have hbl : b < w9.heap.size := by obtain ⟨q, K, hp⟩ := N8.out.ent; exact K.lt
  have NP := os.slP.mono (Q := fun j => b < j) (fun j hj => by have h1 : w9.heap.size ≤ j := hj; omega)
  clear os hbl
  have M10 := Lib.hid (N8.out.call hr hg1)
  obtain ⟨q, K, hp⟩ := M10.out.ent
  have c2 := (K.cell 2).trans (show (wC _ _)[2]? = some _ from rfl)
  have f2 := K.frozen 2
  have kf := K.set 2 (.slice fa (nums z0).length fc)
  have gs := grownBy_setCell w10 b 2 (.slice fa (nums z0).length fc)
  have KP : Keep (fun j => b < j) w10 (w10.setCell ⟨b, 2, none⟩ (.slice fa (nums z0).length fc)) := Keep.of_grown gs (fun h => Nat.lt_irrefl _ h)
  have N10 : Hid (GWan w (w10.setCell ⟨b, 2, none⟩ (.slice fa (nums z0).length fc)) base g s3 b ⟨1, (si : Int), z0, [], 0, 0, []⟩) := Lib.hid (M10.out.part (x' := ⟨1, (si : Int), z0, [], 0, 0, []⟩) ((.slice fa (nums z0).length fc), q.2.1, q.2.2) kf (⟨NP.keep KP, (hp.keep KP).2.1, (hp.keep KP).2.2⟩) gs)
  clear K hp kf gs KP hr hg1 N8 M10 NP
  go_upto_region 18 with fail
  obtain ⟨w11, hw11⟩ : ∃ w9, w9 = w10.setCell ⟨b, 2, none⟩ (.slice fa (nums z0).length fc) := ⟨_, rfl⟩
  rw [← hw11] at N10 ⊢
  clear hw11 c2 f2
  have c0 := N10.out.kind 1 rfl
  obtain ⟨q, E, pe, cL, dn, KB, EN, EO, EP, YY, NN, DH, PH⟩ := dwget_pack HRR.out HD.out N10.out
  go_wp2_with (first | (refine wpList_loadE wanTy _ rfl rfl rfl KB.out EN.out ?_) | fail)
  clear c0
  refine (PH.out).mono ?_
  rintro en wP ⟨vP, rfl, sP, gP⟩
  have MP := Lib.hid (N10.out.gr gP)
  have KP2 := Lib.hid (KB.out.gr gP)
  have EP2 := Lib.hid (EP.out.gr gP)
  obtain ⟨aP, cP, hvP⟩ := sP.oneCells
  rw [bytes_length] at hvP
  subst hvP
  have SP := Lib.hid sP
  clear sP gP PH N10 KB EP
  by_cases hz : pe = 0
  · subst hz
    go_wp2_with fail
    refine (DH.out _ MP.out.ds).mono ?_
    rintro en wD ⟨rfl, gD⟩
    have MD := Lib.hid (MP.out.gr gD)
    have GD := Lib.hid gD
    clear gD MP
    cases dn with
    | false =>
      obtain ⟨KZH, FH⟩ := dwget_zero MD.out NN.out (by simp)
      go_wp2_with (first | (refine wpList_buildTo rfl 26 _ rfl (some 112) rfl _ built_wan0 ?_) | (refine wpList_storeE (cs := zeroWL) wanTy _ _ rfl rfl rfl rfl KZH.out rfl rfl rfl ?_) | fail)
      intro w9 k9 ch9
      have K9 := Lib.hid k9
      have F9 := Lib.hid (FH.out w9 ch9)
      clear k9 ch9
      go_wp2
      exact bodyPost_ret (v := .tuple #[.agg zeroWL.toArray, .int .i64 2]) (results_row2 (fn := Try.f14) wanTy rfl _ _ rfl K9.out rfl) rfl F9.out
    | true =>
      have r1 := run_string_sl (P := Try.prog) 28 5 9 Try.underlying28 Try.underlying5 Try.underlying9 (SP.out.below GD.out)
      have r2 := run_string_sl (P := Try.prog) 28 5 9 Try.underlying28 Try.underlying5 Try.underlying9 (SLW.out wD MD.out.grw)
      by_cases hc : cL = l
      · have KE := Lib.hid (KP2.out.gr GD.out)
        have ZK := Lib.hid MD.out.zero
        have FH := Lib.hid (fun W' ch => dwget_last (W' := W') MD.out (EP2.out.gr GD.out) (YY.out (by trivial) (by trivial) hc) ch)
        subst hc
        go_wp2_with (first | (refine wpList_loadE wanTy _ rfl rfl rfl KE.out EN.out ?_) | (refine wpList_storeE wanTy _ _ rfl rfl rfl rfl ZK.out EN.out rfl EO.out ?_) | fail)
        intro w9 k9 ch9
        have K9 := Lib.hid k9
        have F9 := Lib.hid (FH.out w9 ch9)
        clear k9 ch9
        go_wp2
        exact bodyPost_ret (v := .tuple #[.agg E.toArray, .int .i64 0]) (results_row2 (fn := Try.f14) wanTy rfl _ _ rfl K9.out EN.out) rfl F9.out
      · have hcs : (cL == l) = false := by rw [Bool.eq_false_iff]; intro h; exact hc (eq_of_beq h)
        obtain ⟨KZH, FH⟩ := dwget_zero MD.out NN.out (fun h => hc h.2.2)
        clear hc
        go_wp2_with (first | (refine wpList_buildTo rfl 26 _ rfl (some 112) rfl _ built_wan0 ?_) | (refine wpList_storeE (cs := zeroWL) wanTy _ _ rfl rfl rfl rfl KZH.out rfl rfl rfl ?_) | fail)
        intro w9 k9 ch9
        have K9 := Lib.hid k9
        have F9 := Lib.hid (FH.out w9 ch9)
        clear k9 ch9
        go_wp2
        exact bodyPost_ret (v := .tuple #[.agg zeroWL.toArray, .int .i64 2]) (results_row2 (fn := Try.f14) wanTy rfl _ _ rfl K9.out rfl) rfl F9.out
  · obtain ⟨KZH, FH⟩ := dwget_zero MP.out NN.out (fun h => hz h.1)
    have hzz : (pe == 0) = false := by simp; exact hz
    go_wp2_with (first | (refine wpList_buildTo rfl 26 _ rfl (some 112) rfl _ built_wan0 ?_) | (refine wpList_storeE (cs := zeroWL) wanTy _ _ rfl rfl rfl rfl KZH.out rfl rfl rfl ?_) | fail)
    intro w9 k9 ch9
    have K9 := Lib.hid k9
    have F9 := Lib.hid (FH.out w9 ch9)
    clear k9 ch9
    go_wp2
    exact bodyPost_ret (v := .tuple #[.agg zeroWL.toArray, .int .i64 2]) (results_row2 (fn := Try.f14) wanTy rfl _ _ rfl K9.out rfl) rfl F9.out
set_option maxHeartbeats 8000000 in
theorem dwget_21 (w : World) (v : Value) (l : List UInt8) (hs : Sl w v (bytes l)) (hl : l.length ≤ 10000) (hk : (rByte (l, false)).1 = 21) :
    Calls Try.prog 14 #[v] w (RetDW w l) := by
  have hl9 : l.length ≤ 1000000000 := by omega
  obtain ⟨a, cap, rfl⟩ := hs.oneCells
  rw [bytes_length] at hs ⊢
  have hrr : ¬ ((rByte (l, false)).1 < 17 ∨ 22 < (rByte (l, false)).1) := by rw [hk]; decide
  have HRR := Lib.hid hrr
  obtain ⟨base, hbase⟩ : ∃ base : Nat → Prop, base = fun k => k < w.heap.size ∨ k = w.heap.size + 1 := ⟨_, rfl⟩
  obtain ⟨g, hg⟩ : ∃ g, g = w.heap.size + 1 := ⟨_, rfl⟩
  obtain ⟨b, hb⟩ : ∃ b, b = w.heap.size + 2 := ⟨_, rfl⟩
  have SLW : Hid (∀ W, Gr w W → Sl W (.slice a l.length cap) (bytes l)) := Lib.hid fun W hW => hs.below hW
  obtain ⟨w1, hw1⟩ : ∃ w1, w1 = w.alloc (.cells zeroWL.toArray 26) := ⟨_, rfl⟩
  have e1 : w1.heap.size = g := by rw [hw1, hg]; simp
  obtain ⟨w2, hw2⟩ : ∃ w2, w2 = w1.alloc (.cells #[.slice a l.length cap, .int .i64 0, .bool false] 71) := ⟨_, rfl⟩
  have e2 : w2.heap.size = b := by rw [hw2, hb]; simp [e1, hg]
  obtain ⟨w3, hw3⟩ : ∃ w3, w3 = w2.alloc (.cells zeroWL.toArray 26) := ⟨_, rfl⟩
  have M3 : Hid (GRow w w3 base g (l, false) b zeroW zeroWQ) := Lib.hid (by rw [hw3, hw2, hw1, hbase, hg, hb]; exact GRow.start w _ l a cap rfl hs hl9)
  have HW1 : Hid (w1 = w.alloc (.cells #[.int .u8 0, .int .i64 0, .slice none 0 0, .slice none 0 0, .int .i64 0, .int .u64 0, .slice none 0 0] 26)) := Lib.hid hw1
  have HW2 := Lib.hid hw2
  have HW3 : Hid (w3 = w2.alloc (.cells #[.int .u8 0, .int .i64 0, .slice none 0 0, .slice none 0 0, .int .i64 0, .int .u64 0, .slice none 0 0] 26)) := Lib.hid hw3
  have E1 : Hid (w.heap.size + 1 = g) := Lib.hid hg.symm
  have E2 : Hid (w.heap.size + 1 + 1 = b) := Lib.hid (by rw [hb])
  obtain ⟨y1, hy1⟩ : ∃ y, y = (rTake 1 (l, false)).1 := ⟨_, rfl⟩
  obtain ⟨s1, hs1⟩ : ∃ s1, s1 = (rByte (l, false)).2 := ⟨_, rfl⟩
  obtain ⟨y2, hy2⟩ : ∃ y, y = (rTake 1 s1).1 := ⟨_, rfl⟩
  obtain ⟨si, hsi⟩ : ∃ si, si = (rByte s1).1 := ⟨_, rfl⟩
  obtain ⟨s2, hs2⟩ : ∃ s2, s2 = (rByte s1).2 := ⟨_, rfl⟩
  have hsl : si < 256 := by rw [hsi]; exact rByte_lt _
  have T1 : Hid (∀ W, Ds W base g (l, false) → Calls Try.prog 36 #[.pointer (some ⟨g, 0, none⟩), .int .u64 1] W (DGotP W base g (fun v W => Sl W v (bytes y1)) s1)) := Lib.hid fun W h => by rw [hy1, hs1]; exact ds_take W base g 1 (l, false) h (by decide)
  have T2 : Hid (∀ W, Ds W base g s1 → Calls Try.prog 36 #[.pointer (some ⟨g, 0, none⟩), .int .u64 1] W (DGotP W base g (fun v W => Sl W v (bytes y2)) s2)) := Lib.hid fun W h => by rw [hy2, hs2]; exact ds_take W base g 1 s1 h (by decide)
  have V1 : Hid (∀ W v, Sl W v (bytes y1) → Calls Try.prog 35 #[v] W (fun e w' => e = .returned (.int .u64 21) ∧ w' = W)) := Lib.hid fun W v h => (refvalue_any _ _ _ h (by rw [hy1]; exact Nat.le_trans (rTake_length 1 _) (by decide))).mono fun e w' hh => by
    obtain ⟨h1, h2⟩ := hh
    have e9 : val y1 = 21 := by rw [hy1]; exact hk
    rw [e9] at h1
    exact ⟨h1, h2.symm⟩
  have V2 : Hid (∀ W v, Sl W v (bytes y2) → Calls Try.prog 35 #[v] W (fun e w' => e = .returned (.int .u64 (si : Int)) ∧ w' = W)) := Lib.hid fun W v h => (refvalue_any _ _ _ h (by rw [hy2]; exact Nat.le_trans (rTake_length 1 _) (by decide))).mono fun e w' hh => by
    obtain ⟨h1, h2⟩ := hh
    have e9 : val y2 = si := by rw [hy2, hsi]; rfl
    rw [e9] at h1
    exact ⟨h1, h2.symm⟩
  have hv : wrap64 ((si : Nat) : Int) = (si : Int) := by unfold wrap64; omega
  have L1 : s1.1.length ≤ 1000000000 := by rw [hs1]; exact Nat.le_trans (rByte_left (l, false)) hl9
  have L2 : s2.1.length ≤ 1000000000 := by rw [hs2]; exact Nat.le_trans (rByte_left s1) L1
  obtain ⟨z0, hz0⟩ : ∃ z, z = (rCount ((3 : Nat) : Int) s2).1 := ⟨_, rfl⟩
  obtain ⟨s3, hs3⟩ : ∃ s, s = (rCount ((3 : Nat) : Int) s2).2 := ⟨_, rfl⟩
  have C0 : Hid (∀ W, Ds W base g s2 → Calls Try.prog 38 #[.pointer (some ⟨g, 0, none⟩), .int .i64 3] W (DGot W base g (.int .i64 (z0 : Int)) s3)) := Lib.hid fun W h => by rw [hz0, hs3]; exact ds_count W base g s2 3 (by decide) h
  have hD : dWan (l, false) = (⟨5, (si : Int), [], [], (z0 : Int), 0, []⟩, s3) := by
    unfold dWan
    rw [hk, ← hs1, ← hsi, ← hs2]
    rw [hs3, hz0]; rfl
  have HD := Lib.hid hD
  clear hD hs1 hs2 hsi hy1 hy2 hw1 hw2 hw3 e1 e2 hs hb hg hbase hl hk hrr hl9 hz0 hs3
  go_enter Try.func14, Try.ntmps14
  go_wp2_with fail
  rw [← HW1.out, ← HW2.out, ← HW3.out, E2.out, E1.out]
  refine (T1.out _ M3.out.ds).mono ?_
  rintro en w4 ⟨vt, rfl, st, hr, hg1⟩
  have M4 := Lib.hid (M3.out.call hr hg1)
  have VV := Lib.hid (V1.out w4 vt st)
  clear hr hg1 st M3 HW1 HW2 HW3 E1 E2
  go_wp2_with fail
  refine VV.out.mono ?_
  rintro en w5 ⟨rfl, rfl⟩
  have K := M4.out.cells
  have c0 := (K.cell 0).trans (show (wC _ _)[0]? = some _ from rfl)
  have f0 := K.frozen 0
  have kf := K.set 0 (.int .u8 5)
  have gs := grownBy_setCell w5 b 0 (.int .u8 5)
  have x0w : IntKind.u64.wrap 5 = 5 := rfl
  have x1w : IntKind.u8.wrap 5 = 5 := rfl
  have N5 : Hid (GRow w (w5.setCell ⟨b, 0, none⟩ (.int .u8 5)) base g s1 b ⟨5, 0, [], [], 0, 0, []⟩ zeroWQ) := Lib.hid (M4.out.part (x' := ⟨5, 0, [], [], 0, 0, []⟩) zeroWQ kf gs)
  clear K kf gs M4 VV
  go_upto_region 7 with fail
  obtain ⟨w6, hw6⟩ : ∃ w6, w6 = w5.setCell ⟨b, 0, none⟩ (.int .u8 5) := ⟨_, rfl⟩
  rw [← hw6] at N5 ⊢
  clear hw6 c0 f0 x0w x1w
  go_wp2_with fail
  refine (T2.out _ N5.out.ds).mono ?_
  rintro en w7 ⟨vt2, rfl, st, hr, hg1⟩
  have M7 := Lib.hid (N5.out.call hr hg1)
  have VV := Lib.hid (V2.out w7 vt2 st)
  clear hr hg1 st N5
  go_wp2_with fail
  refine VV.out.mono ?_
  rintro en w8 ⟨rfl, rfl⟩
  have K := M7.out.cells
  have c1 := (K.cell 1).trans (show (wC _ _)[1]? = some _ from rfl)
  have f1 := K.frozen 1
  have kf := K.set 1 (.int .i64 (si : Int))
  have gs := grownBy_setCell w8 b 1 (.int .i64 (si : Int))
  have N8r : Hid (GRow w (w8.setCell ⟨b, 1, none⟩ (.int .i64 (si : Int))) base g s2 b ⟨5, (si : Int), [], [], 0, 0, []⟩ zeroWQ) := Lib.hid (M7.out.part (x' := ⟨5, (si : Int), [], [], 0, 0, []⟩) zeroWQ kf gs)
  clear K kf gs M7 VV
  go_upto_region 8 with fail
  clear hv
  obtain ⟨w9, hw9⟩ : ∃ w9, w9 = w8.setCell ⟨b, 1, none⟩ (.int .i64 (si : Int)) := ⟨_, rfl⟩
  rw [← hw9] at N8r ⊢
  clear hw9 c1 f1
  have N8 : Hid (GWan w w9 base g s2 b ⟨5, (si : Int), [], [], 0, 0, []⟩) := Lib.hid ⟨zeroWQ, N8r.out, SlP.nil _ _ _ _, ItemsP.nil _ _ _ _, SlP.nil _ _ _ _⟩
  have c0 := N8.out.kind 5 rfl
  go_wp2_with fail
  clear c0
  refine (C0.out _ N8.out.ds).mono ?_
  rintro en w10 ⟨rfl, hr, hg1⟩
  have M10 := Lib.hid (N8.out.call hr hg1)
  obtain ⟨q, K, hp⟩ := M10.out.ent
  have c4 := (K.cell 4).trans (show (wC _ _)[4]? = some _ from rfl)
  have f4 := K.frozen 4
  have kf := K.set 4 (.int .i64 (z0 : Int))
  have gs := grownBy_setCell w10 b 4 (.int .i64 (z0 : Int))
  have KP : Keep (fun j => b < j) w10 (w10.setCell ⟨b, 4, none⟩ (.int .i64 (z0 : Int))) := Keep.of_grown gs (fun h => Nat.lt_irrefl _ h)
  have N10 : Hid (GWan w (w10.setCell ⟨b, 4, none⟩ (.int .i64 (z0 : Int))) base g s3 b ⟨5, (si : Int), [], [], (z0 : Int), 0, []⟩) := Lib.hid (M10.out.part (x' := ⟨5, (si : Int), [], [], (z0 : Int), 0, []⟩) q kf (hp.keep KP) gs)
  clear K hp kf gs KP hr hg1 N8 M10
  go_upto_region 18 with fail
  obtain ⟨w11, hw11⟩ : ∃ w9, w9 = w10.setCell ⟨b, 4, none⟩ (.int .i64 (z0 : Int)) := ⟨_, rfl⟩
  rw [← hw11] at N10 ⊢
  clear hw11 c4 f4
  have c0 := N10.out.kind 5 rfl
  obtain ⟨q, E, pe, cL, dn, KB, EN, EO, EP, YY, NN, DH, PH⟩ := dwget_pack HRR.out HD.out N10.out
  go_wp2_with (first | (refine wpList_loadE wanTy _ rfl rfl rfl KB.out EN.out ?_) | fail)
  clear c0
  refine (PH.out).mono ?_
  rintro en wP ⟨vP, rfl, sP, gP⟩
  have MP := Lib.hid (N10.out.gr gP)
  have KP2 := Lib.hid (KB.out.gr gP)
  have EP2 := Lib.hid (EP.out.gr gP)
  obtain ⟨aP, cP, hvP⟩ := sP.oneCells
  rw [bytes_length] at hvP
  subst hvP
  have SP := Lib.hid sP
  clear sP gP PH N10 KB EP
  by_cases hz : pe = 0
  · subst hz
    go_wp2_with fail
    refine (DH.out _ MP.out.ds).mono ?_
    rintro en wD ⟨rfl, gD⟩
    have MD := Lib.hid (MP.out.gr gD)
    have GD := Lib.hid gD
    clear gD MP
    cases dn with
    | false =>
      obtain ⟨KZH, FH⟩ := dwget_zero MD.out NN.out (by simp)
      go_wp2_with (first | (refine wpList_buildTo rfl 26 _ rfl (some 112) rfl _ built_wan0 ?_) | (refine wpList_storeE (cs := zeroWL) wanTy _ _ rfl rfl rfl rfl KZH.out rfl rfl rfl ?_) | fail)
      intro w9 k9 ch9
      have K9 := Lib.hid k9
      have F9 := Lib.hid (FH.out w9 ch9)
      clear k9 ch9
      go_wp2
      exact bodyPost_ret (v := .tuple #[.agg zeroWL.toArray, .int .i64 2]) (results_row2 (fn := Try.f14) wanTy rfl _ _ rfl K9.out rfl) rfl F9.out
    | true =>
      have r1 := run_string_sl (P := Try.prog) 28 5 9 Try.underlying28 Try.underlying5 Try.underlying9 (SP.out.below GD.out)
      have r2 := run_string_sl (P := Try.prog) 28 5 9 Try.underlying28 Try.underlying5 Try.underlying9 (SLW.out wD MD.out.grw)
      by_cases hc : cL = l
      · have KE := Lib.hid (KP2.out.gr GD.out)
        have ZK := Lib.hid MD.out.zero
        have FH := Lib.hid (fun W' ch => dwget_last (W' := W') MD.out (EP2.out.gr GD.out) (YY.out (by trivial) (by trivial) hc) ch)
        subst hc
        go_wp2_with (first | (refine wpList_loadE wanTy _ rfl rfl rfl KE.out EN.out ?_) | (refine wpList_storeE wanTy _ _ rfl rfl rfl rfl ZK.out EN.out rfl EO.out ?_) | fail)
        intro w9 k9 ch9
        have K9 := Lib.hid k9
        have F9 := Lib.hid (FH.out w9 ch9)
        clear k9 ch9
        go_wp2
        exact bodyPost_ret (v := .tuple #[.agg E.toArray, .int .i64 0]) (results_row2 (fn := Try.f14) wanTy rfl _ _ rfl K9.out EN.out) rfl F9.out
      · have hcs : (cL == l) = false := by rw [Bool.eq_false_iff]; intro h; exact hc (eq_of_beq h)
        obtain ⟨KZH, FH⟩ := dwget_zero MD.out NN.out (fun h => hc h.2.2)
        clear hc
        go_wp2_with (first | (refine wpList_buildTo rfl 26 _ rfl (some 112) rfl _ built_wan0 ?_) | (refine wpList_storeE (cs := zeroWL) wanTy _ _ rfl rfl rfl rfl KZH.out rfl rfl rfl ?_) | fail)
        intro w9 k9 ch9
        have K9 := Lib.hid k9
        have F9 := Lib.hid (FH.out w9 ch9)
        clear k9 ch9
        go_wp2
        exact bodyPost_ret (v := .tuple #[.agg zeroWL.toArray, .int .i64 2]) (results_row2 (fn := Try.f14) wanTy rfl _ _ rfl K9.out rfl) rfl F9.out
  · obtain ⟨KZH, FH⟩ := dwget_zero MP.out NN.out (fun h => hz h.1)
    have hzz : (pe == 0) = false := by simp; exact hz
    go_wp2_with (first | (refine wpList_buildTo rfl 26 _ rfl (some 112) rfl _ built_wan0 ?_) | (refine wpList_storeE (cs := zeroWL) wanTy _ _ rfl rfl rfl rfl KZH.out rfl rfl rfl ?_) | fail)
    intro w9 k9 ch9
    have K9 := Lib.hid k9
    have F9 := Lib.hid (FH.out w9 ch9)
    clear k9 ch9
    go_wp2
    exact bodyPost_ret (v := .tuple #[.agg zeroWL.toArray, .int .i64 2]) (results_row2 (fn := Try.f14) wanTy rfl _ _ rfl K9.out rfl) rfl F9.out
set_option maxHeartbeats 8000000 in
theorem dwget_20 (w : World) (v : Value) (l : List UInt8) (hs : Sl w v (bytes l)) (hl : l.length ≤ 10000) (hk : (rByte (l, false)).1 = 20) :
    Calls Try.prog 14 #[v] w (RetDW w l) := by
  have hl9 : l.length ≤ 1000000000 := by omega
  obtain ⟨a, cap, rfl⟩ := hs.oneCells
  rw [bytes_length] at hs ⊢
  have hrr : ¬ ((rByte (l, false)).1 < 17 ∨ 22 < (rByte (l, false)).1) := by rw [hk]; decide
  have HRR := Lib.hid hrr
  obtain ⟨base, hbase⟩ : ∃ base : Nat → Prop, base = fun k => k < w.heap.size ∨ k = w.heap.size + 1 := ⟨_, rfl⟩
  obtain ⟨g, hg⟩ : ∃ g, g = w.heap.size + 1 := ⟨_, rfl⟩
  obtain ⟨b, hb⟩ : ∃ b, b = w.heap.size + 2 := ⟨_, rfl⟩
  have SLW : Hid (∀ W, Gr w W → Sl W (.slice a l.length cap) (bytes l)) := Lib.hid fun W hW => hs.below hW
  obtain ⟨w1, hw1⟩ : ∃ w1, w1 = w.alloc (.cells zeroWL.toArray 26) := ⟨_, rfl⟩
  have e1 : w1.heap.size = g := by rw [hw1, hg]; simp
  obtain ⟨w2, hw2⟩ : ∃ w2, w2 = w1.alloc (.cells #[.slice a l.length cap, .int .i64 0, .bool false] 71) := ⟨_, rfl⟩
  have e2 : w2.heap.size = b := by rw [hw2, hb]; simp [e1, hg]
  obtain ⟨w3, hw3⟩ : ∃ w3, w3 = w2.alloc (.cells zeroWL.toArray 26) := ⟨_, rfl⟩
  have M3 : Hid (GRow w w3 base g (l, false) b zeroW zeroWQ) := Lib.hid (by rw [hw3, hw2, hw1, hbase, hg, hb]; exact GRow.start w _ l a cap rfl hs hl9)
  have HW1 : Hid (w1 = w.alloc (.cells #[.int .u8 0, .int .i64 0, .slice none 0 0, .slice none 0 0, .int .i64 0, .int .u64 0, .slice none 0 0] 26)) := Lib.hid hw1
  have HW2 := Lib.hid hw2
  have HW3 : Hid (w3 = w2.alloc (.cells #[.int .u8 0, .int .i64 0, .slice none 0 0, .slice none 0 0, .int .i64 0, .int .u64 0, .slice none 0 0] 26)) := Lib.hid hw3
  have E1 : Hid (w.heap.size + 1 = g) := Lib.hid hg.symm
  have E2 : Hid (w.heap.size + 1 + 1 = b) := Lib.hid (by rw [hb])
  obtain ⟨y1, hy1⟩ : ∃ y, y = (rTake 1 (l, false)).1 := ⟨_, rfl⟩
  obtain ⟨s1, hs1⟩ : ∃ s1, s1 = (rByte (l, false)).2 := ⟨_, rfl⟩
  obtain ⟨y2, hy2⟩ : ∃ y, y = (rTake 1 s1).1 := ⟨_, rfl⟩
  obtain ⟨si, hsi⟩ : ∃ si, si = (rByte s1).1 := ⟨_, rfl⟩
  obtain ⟨s2, hs2⟩ : ∃ s2, s2 = (rByte s1).2 := ⟨_, rfl⟩
  have hsl : si < 256 := by rw [hsi]; exact rByte_lt _
  have T1 : Hid (∀ W, Ds W base g (l, false) → Calls Try.prog 36 #[.pointer (some ⟨g, 0, none⟩), .int .u64 1] W (DGotP W base g (fun v W => Sl W v (bytes y1)) s1)) := Lib.hid fun W h => by rw [hy1, hs1]; exact ds_take W base g 1 (l, false) h (by decide)
  have T2 : Hid (∀ W, Ds W base g s1 → Calls Try.prog 36 #[.pointer (some ⟨g, 0, none⟩), .int .u64 1] W (DGotP W base g (fun v W => Sl W v (bytes y2)) s2)) := Lib.hid fun W h => by rw [hy2, hs2]; exact ds_take W base g 1 s1 h (by decide)
  have V1 : Hid (∀ W v, Sl W v (bytes y1) → Calls Try.prog 35 #[v] W (fun e w' => e = .returned (.int .u64 20) ∧ w' = W)) := Lib.hid fun W v h => (refvalue_any _ _ _ h (by rw [hy1]; exact Nat.le_trans (rTake_length 1 _) (by decide))).mono fun e w' hh => by
    obtain ⟨h1, h2⟩ := hh
    have e9 : val y1 = 20 := by rw [hy1]; exact hk
    rw [e9] at h1
    exact ⟨h1, h2.symm⟩
  have V2 : Hid (∀ W v, Sl W v (bytes y2) → Calls Try.prog 35 #[v] W (fun e w' => e = .returned (.int .u64 (si : Int)) ∧ w' = W)) := Lib.hid fun W v h => (refvalue_any _ _ _ h (by rw [hy2]; exact Nat.le_trans (rTake_length 1 _) (by decide))).mono fun e w' hh => by
    obtain ⟨h1, h2⟩ := hh
    have e9 : val y2 = si := by rw [hy2, hsi]; rfl
    rw [e9] at h1
    exact ⟨h1, h2.symm⟩
  have hv : wrap64 ((si : Nat) : Int) = (si : Int) := by unfold wrap64; omega
  have L1 : s1.1.length ≤ 1000000000 := by rw [hs1]; exact Nat.le_trans (rByte_left (l, false)) hl9
  have L2 : s2.1.length ≤ 1000000000 := by rw [hs2]; exact Nat.le_trans (rByte_left s1) L1
  obtain ⟨z0, hz0⟩ : ∃ z, z = (rCount ((3 : Nat) : Int) s2).1 := ⟨_, rfl⟩
  obtain ⟨s3, hs3⟩ : ∃ s, s = (rCount ((3 : Nat) : Int) s2).2 := ⟨_, rfl⟩
  have C0 : Hid (∀ W, Ds W base g s2 → Calls Try.prog 38 #[.pointer (some ⟨g, 0, none⟩), .int .i64 3] W (DGot W base g (.int .i64 (z0 : Int)) s3)) := Lib.hid fun W h => by rw [hz0, hs3]; exact ds_count W base g s2 3 (by decide) h
  obtain ⟨z1, hz1⟩ : ∃ z, z = (rUint s3).1 := ⟨_, rfl⟩
  obtain ⟨s4, hs4⟩ : ∃ s, s = (rUint s3).2 := ⟨_, rfl⟩
  have C1 : Hid (∀ W, Ds W base g s3 → Calls Try.prog 40 #[.pointer (some ⟨g, 0, none⟩)] W (DGot W base g (.int .u64 (z1 : Int)) s4)) := Lib.hid fun W h => by rw [hz1, hs4]; exact ds_uint W base g s3 h
  have hD : dWan (l, false) = (⟨4, (si : Int), [], [], (z0 : Int), z1, []⟩, s4) := by
    unfold dWan
    rw [hk, ← hs1, ← hsi, ← hs2]
    rw [hs4, hz1, hs3, hz0]; rfl
  have HD := Lib.hid hD
  clear hD hs1 hs2 hsi hy1 hy2 hw1 hw2 hw3 e1 e2 hs hb hg hbase hl hk hrr hl9 hz0 hs3 hz1 hs4
  go_enter Try.func14, Try.ntmps14
  go_wp2_with fail
  rw [← HW1.out, ← HW2.out, ← HW3.out, E2.out, E1.out]
  refine (T1.out _ M3.out.ds).mono ?_
  rintro en w4 ⟨vt, rfl, st, hr, hg1⟩
  have M4 := Lib.hid (M3.out.call hr hg1)
  have VV := Lib.hid (V1.out w4 vt st)
  clear hr hg1 st M3 HW1 HW2 HW3 E1 E2
  go_wp2_with fail
  refine VV.out.mono ?_
  rintro en w5 ⟨rfl, rfl⟩
  have K := M4.out.cells
  have c0 := (K.cell 0).trans (show (wC _ _)[0]? = some _ from rfl)
  have f0 := K.frozen 0
  have kf := K.set 0 (.int .u8 4)
  have gs := grownBy_setCell w5 b 0 (.int .u8 4)
  have x0w : IntKind.u64.wrap 4 = 4 := rfl
  have x1w : IntKind.u8.wrap 4 = 4 := rfl
  have N5 : Hid (GRow w (w5.setCell ⟨b, 0, none⟩ (.int .u8 4)) base g s1 b ⟨4, 0, [], [], 0, 0, []⟩ zeroWQ) := Lib.hid (M4.out.part (x' := ⟨4, 0, [], [], 0, 0, []⟩) zeroWQ kf gs)
  clear K kf gs M4 VV
  go_upto_region 7 with fail
  obtain ⟨w6, hw6⟩ : ∃ w6, w6 = w5.setCell ⟨b, 0, none⟩ (.int .u8 4) := ⟨_, rfl⟩
  rw [← hw6] at N5 ⊢
  clear hw6 c0 f0 x0w x1w
  go_wp2_with fail
  refine (T2.out _ N5.out.ds).mono ?_
  rintro en w7 ⟨vt2, rfl, st, hr, hg1⟩
  have M7 := Lib.hid (N5.out.call hr hg1)
  have VV := Lib.hid (V2.out w7 vt2 st)
  clear hr hg1 st N5
  go_wp2_with fail
  refine VV.out.mono ?_
  rintro en w8 ⟨rfl, rfl⟩
  have K := M7.out.cells
  have c1 := (K.cell 1).trans (show (wC _ _)[1]? = some _ from rfl)
  have f1 := K.frozen 1
  have kf := K.set 1 (.int .i64 (si : Int))
  have gs := grownBy_setCell w8 b 1 (.int .i64 (si : Int))
  have N8r : Hid (GRow w (w8.setCell ⟨b, 1, none⟩ (.int .i64 (si : Int))) base g s2 b ⟨4, (si : Int), [], [], 0, 0, []⟩ zeroWQ) := Lib.hid (M7.out.part (x' := ⟨4, (si : Int), [], [], 0, 0, []⟩) zeroWQ kf gs)
  clear K kf gs M7 VV
  go_upto_region 8 with fail
  clear hv
  obtain ⟨w9, hw9⟩ : ∃ w9, w9 = w8.setCell ⟨b, 1, none⟩ (.int .i64 (si : Int)) := ⟨_, rfl⟩
  rw [← hw9] at N8r ⊢
  clear hw9 c1 f1
  have N8 : Hid (GWan w w9 base g s2 b ⟨4, (si : Int), [], [], 0, 0, []⟩) := Lib.hid ⟨zeroWQ, N8r.out, SlP.nil _ _ _ _, ItemsP.nil _ _ _ _, SlP.nil _ _ _ _⟩
  have c0 := N8.out.kind 4 rfl
  go_wp2_with fail
  clear c0
  refine (C0.out _ N8.out.ds).mono ?_
  rintro en w10 ⟨rfl, hr, hg1⟩
  have M10 := Lib.hid (N8.out.call hr hg1)
  obtain ⟨q, K, hp⟩ := M10.out.ent
  have c4 := (K.cell 4).trans (show (wC _ _)[4]? = some _ from rfl)
  have f4 := K.frozen 4
  have kf := K.set 4 (.int .i64 (z0 : Int))
  have gs := grownBy_setCell w10 b 4 (.int .i64 (z0 : Int))
  have KP : Keep (fun j => b < j) w10 (w10.setCell ⟨b, 4, none⟩ (.int .i64 (z0 : Int))) := Keep.of_grown gs (fun h => Nat.lt_irrefl _ h)
  have N10 : Hid (GWan w (w10.setCell ⟨b, 4, none⟩ (.int .i64 (z0 : Int))) base g s3 b ⟨4, (si : Int), [], [], (z0 : Int), 0, []⟩) := Lib.hid (M10.out.part (x' := ⟨4, (si : Int), [], [], (z0 : Int), 0, []⟩) q kf (hp.keep KP) gs)
  clear K hp kf gs KP hr hg1 N8 M10
  go_upto_region 18 with fail
  obtain ⟨w11, hw11⟩ : ∃ w9, w9 = w10.setCell ⟨b, 4, none⟩ (.int .i64 (z0 : Int)) := ⟨_, rfl⟩
  rw [← hw11] at N10 ⊢
  clear hw11 c4 f4
  have c0 := N10.out.kind 4 rfl
  go_wp2_with fail
  clear c0
  refine (C1.out _ N10.out.ds).mono ?_
  rintro en w13 ⟨rfl, hr, hg1⟩
  have M13 := Lib.hid (N10.out.call hr hg1)
  obtain ⟨q, K, hp⟩ := M13.out.ent
  have c5 := (K.cell 5).trans (show (wC _ _)[5]? = some _ from rfl)
  have f5 := K.frozen 5
  have kf := K.set 5 (.int .u64 (z1 : Int))
  have gs := grownBy_setCell w13 b 5 (.int .u64 (z1 : Int))
  have KP : Keep (fun j => b < j) w13 (w13.setCell ⟨b, 5, none⟩ (.int .u64 (z1 : Int))) := Keep.of_grown gs (fun h => Nat.lt_irrefl _ h)
  have N13 : Hid (GWan w (w13.setCell ⟨b, 5, none⟩ (.int .u64 (z1 : Int))) base g s4 b ⟨4, (si : Int), [], [], (z0 : Int), z1, []⟩) := Lib.hid (M13.out.part (x' := ⟨4, (si : Int), [], [], (z0 : Int), z1, []⟩) q kf (hp.keep KP) gs)
  clear K hp kf gs KP hr hg1 N10 M13
  go_upto_region 20 with fail
  obtain ⟨w14, hw14⟩ : ∃ w9, w9 = w13.setCell ⟨b, 5, none⟩ (.int .u64 (z1 : Int)) := ⟨_, rfl⟩
  rw [← hw14] at N13 ⊢
  clear hw14 c5 f5
  have c0 := N13.out.kind 4 rfl
  obtain ⟨q, E, pe, cL, dn, KB, EN, EO, EP, YY, NN, DH, PH⟩ := dwget_pack HRR.out HD.out N13.out
  go_wp2_with (first | (refine wpList_loadE wanTy _ rfl rfl rfl KB.out EN.out ?_) | fail)
  clear c0
  refine (PH.out).mono ?_
  rintro en wP ⟨vP, rfl, sP, gP⟩
  have MP := Lib.hid (N13.out.gr gP)
  have KP2 := Lib.hid (KB.out.gr gP)
  have EP2 := Lib.hid (EP.out.gr gP)
  obtain ⟨aP, cP, hvP⟩ := sP.oneCells
  rw [bytes_length] at hvP
  subst hvP
  have SP := Lib.hid sP
  clear sP gP PH N13 KB EP
  by_cases hz : pe = 0
  · subst hz
    go_wp2_with fail
    refine (DH.out _ MP.out.ds).mono ?_
    rintro en wD ⟨rfl, gD⟩
    have MD := Lib.hid (MP.out.gr gD)
    have GD := Lib.hid gD
    clear gD MP
    cases dn with
    | false =>
      obtain ⟨KZH, FH⟩ := dwget_zero MD.out NN.out (by simp)
      go_wp2_with (first | (refine wpList_buildTo rfl 26 _ rfl (some 112) rfl _ built_wan0 ?_) | (refine wpList_storeE (cs := zeroWL) wanTy _ _ rfl rfl rfl rfl KZH.out rfl rfl rfl ?_) | fail)
      intro w9 k9 ch9
      have K9 := Lib.hid k9
      have F9 := Lib.hid (FH.out w9 ch9)
      clear k9 ch9
      go_wp2
      exact bodyPost_ret (v := .tuple #[.agg zeroWL.toArray, .int .i64 2]) (results_row2 (fn := Try.f14) wanTy rfl _ _ rfl K9.out rfl) rfl F9.out
    | true =>
      have r1 := run_string_sl (P := Try.prog) 28 5 9 Try.underlying28 Try.underlying5 Try.underlying9 (SP.out.below GD.out)
      have r2 := run_string_sl (P := Try.prog) 28 5 9 Try.underlying28 Try.underlying5 Try.underlying9 (SLW.out wD MD.out.grw)
      by_cases hc : cL = l
      · have KE := Lib.hid (KP2.out.gr GD.out)
        have ZK := Lib.hid MD.out.zero
        have FH := Lib.hid (fun W' ch => dwget_last (W' := W') MD.out (EP2.out.gr GD.out) (YY.out (by trivial) (by trivial) hc) ch)
        subst hc
        go_wp2_with (first | (refine wpList_loadE wanTy _ rfl rfl rfl KE.out EN.out ?_) | (refine wpList_storeE wanTy _ _ rfl rfl rfl rfl ZK.out EN.out rfl EO.out ?_) | fail)
        intro w9 k9 ch9
        have K9 := Lib.hid k9
        have F9 := Lib.hid (FH.out w9 ch9)
        clear k9 ch9
        go_wp2
        exact bodyPost_ret (v := .tuple #[.agg E.toArray, .int .i64 0]) (results_row2 (fn := Try.f14) wanTy rfl _ _ rfl K9.out EN.out) rfl F9.out
      · have hcs : (cL == l) = false := by rw [Bool.eq_false_iff]; intro h; exact hc (eq_of_beq h)
        obtain ⟨KZH, FH⟩ := dwget_zero MD.out NN.out (fun h => hc h.2.2)
        clear hc
        go_wp2_with (first | (refine wpList_buildTo rfl 26 _ rfl (some 112) rfl _ built_wan0 ?_) | (refine wpList_storeE (cs := zeroWL) wanTy _ _ rfl rfl rfl rfl KZH.out rfl rfl rfl ?_) | fail)
        intro w9 k9 ch9
        have K9 := Lib.hid k9
        have F9 := Lib.hid (FH.out w9 ch9)
        clear k9 ch9
        go_wp2
        exact bodyPost_ret (v := .tuple #[.agg zeroWL.toArray, .int .i64 2]) (results_row2 (fn := Try.f14) wanTy rfl _ _ rfl K9.out rfl) rfl F9.out
  · obtain ⟨KZH, FH⟩ := dwget_zero MP.out NN.out (fun h => hz h.1)
    have hzz : (pe == 0) = false := by simp; exact hz
    go_wp2_with (first | (refine wpList_buildTo rfl 26 _ rfl (some 112) rfl _ built_wan0 ?_) | (refine wpList_storeE (cs := zeroWL) wanTy _ _ rfl rfl rfl rfl KZH.out rfl rfl rfl ?_) | fail)
    intro w9 k9 ch9
    have K9 := Lib.hid k9
    have F9 := Lib.hid (FH.out w9 ch9)
    clear k9 ch9
    go_wp2
    exact bodyPost_ret (v := .tuple #[.agg zeroWL.toArray, .int .i64 2]) (results_row2 (fn := Try.f14) wanTy rfl _ _ rfl K9.out rfl) rfl F9.out
end Go.Proofs.Ytgilijkmmcpfjaa
end
section
set_option linter.unusedVariables false
set_option linter.unusedSimpArgs false
set_option maxRecDepth 100000
namespace Go.Proofs.Ytgilijkmmcpfjaa
open Go.RowKit
set_option maxHeartbeats 8000000 in
theorem dwget_19 (w : World) (v : Value) (l : List UInt8) (hs : Sl w v (bytes l)) (hl : l.length ≤ 10000) (hk : (rByte (l, false)).1 = 19) :
    Calls Try.prog 14 #[v] w (RetDW w l) := by
  have hl9 : l.length ≤ 1000000000 := by omega
  obtain ⟨a, cap, rfl⟩ := hs.oneCells
  rw [bytes_length] at hs ⊢
  have hrr : ¬ ((rByte (l, false)).1 < 17 ∨ 22 < (rByte (l, false)).1) := by rw [hk]; decide
  have HRR := Lib.hid hrr
  obtain ⟨base, hbase⟩ : ∃ base : Nat → Prop, base = fun k => k < w.heap.size ∨ k = w.heap.size + 1 := ⟨_, rfl⟩
  obtain ⟨g, hg⟩ : ∃ g, g = w.heap.size + 1 := ⟨_, rfl⟩
  obtain ⟨b, hb⟩ : ∃ b, b = w.heap.size + 2 := ⟨_, rfl⟩
  have SLW : Hid (∀ W, Gr w W → Sl W (.slice a l.length cap) (bytes l)) := Lib.hid fun W hW => hs.below hW
  obtain ⟨w1, hw1⟩ : ∃ w1, w1 = w.alloc (.cells zeroWL.toArray 26) := ⟨_, rfl⟩
  have e1 : w1.heap.size = g := by rw [hw1, hg]; simp
  obtain ⟨w2, hw2⟩ : ∃ w2, w2 = w1.alloc (.cells #[.slice a l.length cap, .int .i64 0, .bool false] 71) := ⟨_, rfl⟩
  have e2 : w2.heap.size = b := by rw [hw2, hb]; simp [e1, hg]
  obtain ⟨w3, hw3⟩ : ∃ w3, w3 = w2.alloc (.cells zeroWL.toArray 26) := ⟨_, rfl⟩
  have M3 : Hid (GRow w w3 base g (l, false) b zeroW zeroWQ) := Lib.hid (by rw [hw3, hw2, hw1, hbase, hg, hb]; exact GRow.start w _ l a cap rfl hs hl9)
  have HW1 : Hid (w1 = w.alloc (.cells #[.int .u8 0, .int .i64 0, .slice none 0 0, .slice none 0 0, .int .i64 0, .int .u64 0, .slice none 0 0] 26)) := Lib.hid hw1
  have HW2 := Lib.hid hw2
  have HW3 : Hid (w3 = w2.alloc (.cells #[.int .u8 0, .int .i64 0, .slice none 0 0, .slice none 0 0, .int .i64 0, .int .u64 0, .slice none 0 0] 26)) := Lib.hid hw3
  have E1 : Hid (w.heap.size + 1 = g) := Lib.hid hg.symm
  have E2 : Hid (w.heap.size + 1 + 1 = b) := Lib.hid (by rw [hb])
  obtain ⟨y1, hy1⟩ : ∃ y, y = (rTake 1 (l, false)).1 := ⟨_, rfl⟩
  obtain ⟨s1, hs1⟩ : ∃ s1, s1 = (rByte (l, false)).2 := ⟨_, rfl⟩
  obtain ⟨y2, hy2⟩ : ∃ y, y = (rTake 1 s1).1 := ⟨_, rfl⟩
  obtain ⟨si, hsi⟩ : ∃ si, si = (rByte s1).1 := ⟨_, rfl⟩
  obtain ⟨s2, hs2⟩ : ∃ s2, s2 = (rByte s1).2 := ⟨_, rfl⟩
  have hsl : si < 256 := by rw [hsi]; exact rByte_lt _
  have T1 : Hid (∀ W, Ds W base g (l, false) → Calls Try.prog 36 #[.pointer (some ⟨g, 0, none⟩), .int .u64 1] W (DGotP W base g (fun v W => Sl W v (bytes y1)) s1)) := Lib.hid fun W h => by rw [hy1, hs1]; exact ds_take W base g 1 (l, false) h (by decide)
  have T2 : Hid (∀ W, Ds W base g s1 → Calls Try.prog 36 #[.pointer (some ⟨g, 0, none⟩), .int .u64 1] W (DGotP W base g (fun v W => Sl W v (bytes y2)) s2)) := Lib.hid fun W h => by rw [hy2, hs2]; exact ds_take W base g 1 s1 h (by decide)
  have V1 : Hid (∀ W v, Sl W v (bytes y1) → Calls Try.prog 35 #[v] W (fun e w' => e = .returned (.int .u64 19) ∧ w' = W)) := Lib.hid fun W v h => (refvalue_any _ _ _ h (by rw [hy1]; exact Nat.le_trans (rTake_length 1 _) (by decide))).mono fun e w' hh => by
    obtain ⟨h1, h2⟩ := hh
    have e9 : val y1 = 19 := by rw [hy1]; exact hk
    rw [e9] at h1
    exact ⟨h1, h2.symm⟩
  have V2 : Hid (∀ W v, Sl W v (bytes y2) → Calls Try.prog 35 #[v] W (fun e w' => e = .returned (.int .u64 (si : Int)) ∧ w' = W)) := Lib.hid fun W v h => (refvalue_any _ _ _ h (by rw [hy2]; exact Nat.le_trans (rTake_length 1 _) (by decide))).mono fun e w' hh => by
    obtain ⟨h1, h2⟩ := hh
    have e9 : val y2 = si := by rw [hy2, hsi]; rfl
    rw [e9] at h1
    exact ⟨h1, h2.symm⟩
  have hv : wrap64 ((si : Nat) : Int) = (si : Int) := by unfold wrap64; omega
  have L1 : s1.1.length ≤ 1000000000 := by rw [hs1]; exact Nat.le_trans (rByte_left (l, false)) hl9
  have L2 : s2.1.length ≤ 1000000000 := by rw [hs2]; exact Nat.le_trans (rByte_left s1) L1
  obtain ⟨z0, hz0⟩ : ∃ z, z = (rCount ((3 : Nat) : Int) s2).1 := ⟨_, rfl⟩
  obtain ⟨s3, hs3⟩ : ∃ s, s = (rCount ((3 : Nat) : Int) s2).2 := ⟨_, rfl⟩
  have C0 : Hid (∀ W, Ds W base g s2 → Calls Try.prog 38 #[.pointer (some ⟨g, 0, none⟩), .int .i64 3] W (DGot W base g (.int .i64 (z0 : Int)) s3)) := Lib.hid fun W h => by rw [hz0, hs3]; exact ds_count W base g s2 3 (by decide) h
  obtain ⟨z1, hz1⟩ : ∃ z, z = (rUint s3).1 := ⟨_, rfl⟩
  obtain ⟨s4, hs4⟩ : ∃ s, s = (rUint s3).2 := ⟨_, rfl⟩
  have C1 : Hid (∀ W, Ds W base g s3 → Calls Try.prog 40 #[.pointer (some ⟨g, 0, none⟩)] W (DGot W base g (.int .u64 (z1 : Int)) s4)) := Lib.hid fun W h => by rw [hz1, hs4]; exact ds_uint W base g s3 h
  obtain ⟨z2, hz2⟩ : ∃ z, z = (dStamp s4).1 := ⟨_, rfl⟩
  obtain ⟨s5, hs5⟩ : ∃ s, s = (dStamp s4).2 := ⟨_, rfl⟩
  have C2 : Hid (∀ W, Ds W base g s4 → (∀ k, base k → k < W.heap.size) → Calls Try.prog 37 #[.pointer (some ⟨g, 0, none⟩)] W (DGotN W base g z2 s5)) := Lib.hid fun W h hb => by rw [hz2, hs5]; exact stampedW_any W base g s4 h hb
  have hD : dWan (l, false) = (⟨3, (si : Int), [], [], (z0 : Int), z1, z2⟩, s5) := by
    unfold dWan
    rw [hk, ← hs1, ← hsi, ← hs2]
    rw [hs5, hz2, hs4, hz1, hs3, hz0]; rfl
  have HD := Lib.hid hD
  clear hD hs1 hs2 hsi hy1 hy2 hw1 hw2 hw3 e1 e2 hs hb hg hbase hl hk hrr hl9 hz0 hs3 hz1 hs4 hz2 hs5
  go_enter Try.func14, Try.ntmps14
  go_wp2_with fail
  rw [← HW1.out, ← HW2.out, ← HW3.out, E2.out, E1.out]
  refine (T1.out _ M3.out.ds).mono ?_
  rintro en w4 ⟨vt, rfl, st, hr, hg1⟩
  have M4 := Lib.hid (M3.out.call hr hg1)
  have VV := Lib.hid (V1.out w4 vt st)
  clear hr hg1 st M3 HW1 HW2 HW3 E1 E2
  go_wp2_with fail
  refine VV.out.mono ?_
  rintro en w5 ⟨rfl, rfl⟩
  have K := M4.out.cells
  have c0 := (K.cell 0).trans (show (wC _ _)[0]? = some _ from rfl)
  have f0 := K.frozen 0
  have kf := K.set 0 (.int .u8 3)
  have gs := grownBy_setCell w5 b 0 (.int .u8 3)
  have x0w : IntKind.u64.wrap 3 = 3 := rfl
  have x1w : IntKind.u8.wrap 3 = 3 := rfl
  have N5 : Hid (GRow w (w5.setCell ⟨b, 0, none⟩ (.int .u8 3)) base g s1 b ⟨3, 0, [], [], 0, 0, []⟩ zeroWQ) := Lib.hid (M4.out.part (x' := ⟨3, 0, [], [], 0, 0, []⟩) zeroWQ kf gs)
  clear K kf gs M4 VV
  go_upto_region 7 with fail
  obtain ⟨w6, hw6⟩ : ∃ w6, w6 = w5.setCell ⟨b, 0, none⟩ (.int .u8 3) := ⟨_, rfl⟩
  rw [← hw6] at N5 ⊢
  clear hw6 c0 f0 x0w x1w
  go_wp2_with fail
  refine (T2.out _ N5.out.ds).mono ?_
  rintro en w7 ⟨vt2, rfl, st, hr, hg1⟩
  have M7 := Lib.hid (N5.out.call hr hg1)
  have VV := Lib.hid (V2.out w7 vt2 st)
  clear hr hg1 st N5
  go_wp2_with fail
  refine VV.out.mono ?_
  rintro en w8 ⟨rfl, rfl⟩
  have K := M7.out.cells
  have c1 := (K.cell 1).trans (show (wC _ _)[1]? = some _ from rfl)
  have f1 := K.frozen 1
  have kf := K.set 1 (.int .i64 (si : Int))
  have gs := grownBy_setCell w8 b 1 (.int .i64 (si : Int))
  have N8r : Hid (GRow w (w8.setCell ⟨b, 1, none⟩ (.int .i64 (si : Int))) base g s2 b ⟨3, (si : Int), [], [], 0, 0, []⟩ zeroWQ) := Lib.hid (M7.out.part (x' := ⟨3, (si : Int), [], [], 0, 0, []⟩) zeroWQ kf gs)
  clear K kf gs M7 VV
  go_upto_region 8 with fail
  clear hv
  obtain ⟨w9, hw9⟩ : ∃ w9, w9 = w8.setCell ⟨b, 1, none⟩ (.int .i64 (si : Int)) := ⟨_, rfl⟩
  rw [← hw9] at N8r ⊢
  clear hw9 c1 f1
  have N8 : Hid (GWan w w9 base g s2 b ⟨3, (si : Int), [], [], 0, 0, []⟩) := Lib.hid ⟨zeroWQ, N8r.out, SlP.nil _ _ _ _, ItemsP.nil _ _ _ _, SlP.nil _ _ _ _⟩
  have c0 := N8.out.kind 3 rfl
  go_wp2_with fail
  clear c0
  refine (C0.out _ N8.out.ds).mono ?_
  rintro en w10 ⟨rfl, hr, hg1⟩
  have M10 := Lib.hid (N8.out.call hr hg1)
  obtain ⟨q, K, hp⟩ := M10.out.ent
  have c4 := (K.cell 4).trans (show (wC _ _)[4]? = some _ from rfl)
  have f4 := K.frozen 4
  have kf := K.set 4 (.int .i64 (z0 : Int))
  have gs := grownBy_setCell w10 b 4 (.int .i64 (z0 : Int))
  have KP : Keep (fun j => b < j) w10 (w10.setCell ⟨b, 4, none⟩ (.int .i64 (z0 : Int))) := Keep.of_grown gs (fun h => Nat.lt_irrefl _ h)
  have N10 : Hid (GWan w (w10.setCell ⟨b, 4, none⟩ (.int .i64 (z0 : Int))) base g s3 b ⟨3, (si : Int), [], [], (z0 : Int), 0, []⟩) := Lib.hid (M10.out.part (x' := ⟨3, (si : Int), [], [], (z0 : Int), 0, []⟩) q kf (hp.keep KP) gs)
  clear K hp kf gs KP hr hg1 N8 M10
  go_upto_region 18 with fail
  obtain ⟨w11, hw11⟩ : ∃ w9, w9 = w10.setCell ⟨b, 4, none⟩ (.int .i64 (z0 : Int)) := ⟨_, rfl⟩
  rw [← hw11] at N10 ⊢
  clear hw11 c4 f4
  have c0 := N10.out.kind 3 rfl
  go_wp2_with fail
  clear c0
  refine (C1.out _ N10.out.ds).mono ?_
  rintro en w13 ⟨rfl, hr, hg1⟩
  have M13 := Lib.hid (N10.out.call hr hg1)
  obtain ⟨q, K, hp⟩ := M13.out.ent
  have c5 := (K.cell 5).trans (show (wC _ _)[5]? = some _ from rfl)
  have f5 := K.frozen 5
  have kf := K.set 5 (.int .u64 (z1 : Int))
  have gs := grownBy_setCell w13 b 5 (.int .u64 (z1 : Int))
  have KP : Keep (fun j => b < j) w13 (w13.setCell ⟨b, 5, none⟩ (.int .u64 (z1 : Int))) := Keep.of_grown gs (fun h => Nat.lt_irrefl _ h)
  have N13 : Hid (GWan w (w13.setCell ⟨b, 5, none⟩ (.int .u64 (z1 : Int))) base g s4 b ⟨3, (si : Int), [], [], (z0 : Int), z1, []⟩) := Lib.hid (M13.out.part (x' := ⟨3, (si : Int), [], [], (z0 : Int), z1, []⟩) q kf (hp.keep KP) gs)
  clear K hp kf gs KP hr hg1 N10 M13
  go_upto_region 20 with fail
  obtain ⟨w14, hw14⟩ : ∃ w9, w9 = w13.setCell ⟨b, 5, none⟩ (.int .u64 (z1 : Int)) := ⟨_, rfl⟩
  rw [← hw14] at N13 ⊢
  clear hw14 c5 f5
  have c0 := N13.out.kind 3 rfl
  go_wp2_with fail
  clear c0
  refine (C2.out _ N13.out.ds N13.out.blt).mono ?_
  rintro en w16 ⟨vs, rfl, os, hr, hg1⟩
  obtain ⟨fa, fc, rfl⟩ := os.shape
  have hbl : b < w14.heap.size := by obtain ⟨q, K, hp⟩ := N13.out.ent; exact K.lt
  have NP := os.slP.mono (Q := fun j => b < j) (fun j hj => by have h1 : w14.heap.size ≤ j := hj; omega)
  clear os hbl
  have M16 := Lib.hid (N13.out.call hr hg1)
  obtain ⟨q, K, hp⟩ := M16.out.ent
  have c6 := (K.cell 6).trans (show (wC _ _)[6]? = some _ from rfl)
  have f6 := K.frozen 6
  have kf := K.set 6 (.slice fa (nums z2).length fc)
  have gs := grownBy_setCell w16 b 6 (.slice fa (nums z2).length fc)
  have KP : Keep (fun j => b < j) w16 (w16.setCell ⟨b, 6, none⟩ (.slice fa (nums z2).length fc)) := Keep.of_grown gs (fun h => Nat.lt_irrefl _ h)
  have N16 : Hid (GWan w (w16.setCell ⟨b, 6, none⟩ (.slice fa (nums z2).length fc)) base g s5 b ⟨3, (si : Int), [], [], (z0 : Int), z1, z2⟩) := Lib.hid (M16.out.part (x' := ⟨3, (si : Int), [], [], (z0 : Int), z1, z2⟩) (q.1, q.2.1, (.slice fa (nums z2).length fc)) kf (⟨(hp.keep KP).1, (hp.keep KP).2.1, NP.keep KP⟩) gs)
  clear K hp kf gs KP hr hg1 N13 M16 NP
  go_upto_region 22 with fail
  obtain ⟨w17, hw17⟩ : ∃ w9, w9 = w16.setCell ⟨b, 6, none⟩ (.slice fa (nums z2).length fc) := ⟨_, rfl⟩
  rw [← hw17] at N16 ⊢
  clear hw17 c6 f6
  have c0 := N16.out.kind 3 rfl
  obtain ⟨q, E, pe, cL, dn, KB, EN, EO, EP, YY, NN, DH, PH⟩ := dwget_pack HRR.out HD.out N16.out
  go_wp2_with (first | (refine wpList_loadE wanTy _ rfl rfl rfl KB.out EN.out ?_) | fail)
  clear c0
  refine (PH.out).mono ?_
  rintro en wP ⟨vP, rfl, sP, gP⟩
  have MP := Lib.hid (N16.out.gr gP)
  have KP2 := Lib.hid (KB.out.gr gP)
  have EP2 := Lib.hid (EP.out.gr gP)
  obtain ⟨aP, cP, hvP⟩ := sP.oneCells
  rw [bytes_length] at hvP
  subst hvP
  have SP := Lib.hid sP
  clear sP gP PH N16 KB EP
  by_cases hz : pe = 0
  · subst hz
    go_wp2_with fail
    refine (DH.out _ MP.out.ds).mono ?_
    rintro en wD ⟨rfl, gD⟩
    have MD := Lib.hid (MP.out.gr gD)
    have GD := Lib.hid gD
    clear gD MP
    cases dn with
    | false =>
      obtain ⟨KZH, FH⟩ := dwget_zero MD.out NN.out (by simp)
      go_wp2_with (first | (refine wpList_buildTo rfl 26 _ rfl (some 112) rfl _ built_wan0 ?_) | (refine wpList_storeE (cs := zeroWL) wanTy _ _ rfl rfl rfl rfl KZH.out rfl rfl rfl ?_) | fail)
      intro w9 k9 ch9
      have K9 := Lib.hid k9
      have F9 := Lib.hid (FH.out w9 ch9)
      clear k9 ch9
      go_wp2
      exact bodyPost_ret (v := .tuple #[.agg zeroWL.toArray, .int .i64 2]) (results_row2 (fn := Try.f14) wanTy rfl _ _ rfl K9.out rfl) rfl F9.out
    | true =>
      have r1 := run_string_sl (P := Try.prog) 28 5 9 Try.underlying28 Try.underlying5 Try.underlying9 (SP.out.below GD.out)
      have r2 := run_string_sl (P := Try.prog) 28 5 9 Try.underlying28 Try.underlying5 Try.underlying9 (SLW.out wD MD.out.grw)
      by_cases hc : cL = l
      · have KE := Lib.hid (KP2.out.gr GD.out)
        have ZK := Lib.hid MD.out.zero
        have FH := Lib.hid (fun W' ch => dwget_last (W' := W') MD.out (EP2.out.gr GD.out) (YY.out (by trivial) (by trivial) hc) ch)
        subst hc
        go_wp2_with (first | (refine wpList_loadE wanTy _ rfl rfl rfl KE.out EN.out ?_) | (refine wpList_storeE wanTy _ _ rfl rfl rfl rfl ZK.out EN.out rfl EO.out ?_) | fail)
        intro w9 k9 ch9
        have K9 := Lib.hid k9
        have F9 := Lib.hid (FH.out w9 ch9)
        clear k9 ch9
        go_wp2
        exact bodyPost_ret (v := .tuple #[.agg E.toArray, .int .i64 0]) (results_row2 (fn := Try.f14) wanTy rfl _ _ rfl K9.out EN.out) rfl F9.out
      · have hcs : (cL == l) = false := by rw [Bool.eq_false_iff]; intro h; exact hc (eq_of_beq h)
        obtain ⟨KZH, FH⟩ := dwget_zero MD.out NN.out (fun h => hc h.2.2)
        clear hc
        go_wp2_with (first | (refine wpList_buildTo rfl 26 _ rfl (some 112) rfl _ built_wan0 ?_) | (refine wpList_storeE (cs := zeroWL) wanTy _ _ rfl rfl rfl rfl KZH.out rfl rfl rfl ?_) | fail)
        intro w9 k9 ch9
        have K9 := Lib.hid k9
        have F9 := Lib.hid (FH.out w9 ch9)
        clear k9 ch9
        go_wp2
        exact bodyPost_ret (v := .tuple #[.agg zeroWL.toArray, .int .i64 2]) (results_row2 (fn := Try.f14) wanTy rfl _ _ rfl K9.out rfl) rfl F9.out
  · obtain ⟨KZH, FH⟩ := dwget_zero MP.out NN.out (fun h => hz h.1)
    have hzz : (pe == 0) = false := by simp; exact hz
    go_wp2_with (first | (refine wpList_buildTo rfl 26 _ rfl (some 112) rfl _ built_wan0 ?_) | (refine wpList_storeE (cs := zeroWL) wanTy _ _ rfl rfl rfl rfl KZH.out rfl rfl rfl ?_) | fail)
    intro w9 k9 ch9
    have K9 := Lib.hid k9
    have F9 := Lib.hid (FH.out w9 ch9)
    clear k9 ch9
    go_wp2
    exact bodyPost_ret (v := .tuple #[.agg zeroWL.toArray, .int .i64 2]) (results_row2 (fn := Try.f14) wanTy rfl _ _ rfl K9.out rfl) rfl F9.out
set_option maxHeartbeats 8000000 in
theorem dwget_22 (w : World) (v : Value) (l : List UInt8) (hs : Sl w v (bytes l)) (hl : l.length ≤ 10000) (hk : (rByte (l, false)).1 = 22) :
    Calls Try.prog 14 #[v] w (RetDW w l) := by
  have hl9 : l.length ≤ 1000000000 := by omega
  obtain ⟨a, cap, rfl⟩ := hs.oneCells
  rw [bytes_length] at hs ⊢
  have hrr : ¬ ((rByte (l, false)).1 < 17 ∨ 22 < (rByte (l, false)).1) := by rw [hk]; decide
  have HRR := Lib.hid hrr
  obtain ⟨base, hbase⟩ : ∃ base : Nat → Prop, base = fun k => k < w.heap.size ∨ k = w.heap.size + 1 := ⟨_, rfl⟩
  obtain ⟨g, hg⟩ : ∃ g, g = w.heap.size + 1 := ⟨_, rfl⟩
  obtain ⟨b, hb⟩ : ∃ b, b = w.heap.size + 2 := ⟨_, rfl⟩
  have SLW : Hid (∀ W, Gr w W → Sl W (.slice a l.length cap) (bytes l)) := Lib.hid fun W hW => hs.below hW
  obtain ⟨w1, hw1⟩ : ∃ w1, w1 = w.alloc (.cells zeroWL.toArray 26) := ⟨_, rfl⟩
  have e1 : w1.heap.size = g := by rw [hw1, hg]; simp
  obtain ⟨w2, hw2⟩ : ∃ w2, w2 = w1.alloc (.cells #[.slice a l.length cap, .int .i64 0, .bool false] 71) := ⟨_, rfl⟩
  have e2 : w2.heap.size = b := by rw [hw2, hb]; simp [e1, hg]
  obtain ⟨w3, hw3⟩ : ∃ w3, w3 = w2.alloc (.cells zeroWL.toArray 26) := ⟨_, rfl⟩
  have M3 : Hid (GRow w w3 base g (l, false) b zeroW zeroWQ) := Lib.hid (by rw [hw3, hw2, hw1, hbase, hg, hb]; exact GRow.start w _ l a cap rfl hs hl9)
  have HW1 : Hid (w1 = w.alloc (.cells #[.int .u8 0, .int .i64 0, .slice none 0 0, .slice none 0 0, .int .i64 0, .int .u64 0, .slice none 0 0] 26)) := Lib.hid hw1
  have HW2 := Lib.hid hw2
  have HW3 : Hid (w3 = w2.alloc (.cells #[.int .u8 0, .int .i64 0, .slice none 0 0, .slice none 0 0, .int .i64 0, .int .u64 0, .slice none 0 0] 26)) := Lib.hid hw3
  have E1 : Hid (w.heap.size + 1 = g) := Lib.hid hg.symm
  have E2 : Hid (w.heap.size + 1 + 1 = b) := Lib.hid (by rw [hb])
  obtain ⟨y1, hy1⟩ : ∃ y, y = (rTake 1 (l, false)).1 := ⟨_, rfl⟩
  obtain ⟨s1, hs1⟩ : ∃ s1, s1 = (rByte (l, false)).2 := ⟨_, rfl⟩
  obtain ⟨y2, hy2⟩ : ∃ y, y = (rTake 1 s1).1 := ⟨_, rfl⟩
  obtain ⟨si, hsi⟩ : ∃ si, si = (rByte s1).1 := ⟨_, rfl⟩
  obtain ⟨s2, hs2⟩ : ∃ s2, s2 = (rByte s1).2 := ⟨_, rfl⟩
  have hsl : si < 256 := by rw [hsi]; exact rByte_lt _
  have T1 : Hid (∀ W, Ds W base g (l, false) → Calls Try.prog 36 #[.pointer (some ⟨g, 0, none⟩), .int .u64 1] W (DGotP W base g (fun v W => Sl W v (bytes y1)) s1)) := Lib.hid fun W h => by rw [hy1, hs1]; exact ds_take W base g 1 (l, false) h (by decide)
  have T2 : Hid (∀ W, Ds W base g s1 → Calls Try.prog 36 #[.pointer (some ⟨g, 0, none⟩), .int .u64 1] W (DGotP W base g (fun v W => Sl W v (bytes y2)) s2)) := Lib.hid fun W h => by rw [hy2, hs2]; exact ds_take W base g 1 s1 h (by decide)
  have V1 : Hid (∀ W v, Sl W v (bytes y1) → Calls Try.prog 35 #[v] W (fun e w' => e = .returned (.int .u64 22) ∧ w' = W)) := Lib.hid fun W v h => (refvalue_any _ _ _ h (by rw [hy1]; exact Nat.le_trans (rTake_length 1 _) (by decide))).mono fun e w' hh => by
    obtain ⟨h1, h2⟩ := hh
    have e9 : val y1 = 22 := by rw [hy1]; exact hk
    rw [e9] at h1
    exact ⟨h1, h2.symm⟩
  have V2 : Hid (∀ W v, Sl W v (bytes y2) → Calls Try.prog 35 #[v] W (fun e w' => e = .returned (.int .u64 (si : Int)) ∧ w' = W)) := Lib.hid fun W v h => (refvalue_any _ _ _ h (by rw [hy2]; exact Nat.le_trans (rTake_length 1 _) (by decide))).mono fun e w' hh => by
    obtain ⟨h1, h2⟩ := hh
    have e9 : val y2 = si := by rw [hy2, hsi]; rfl
    rw [e9] at h1
    exact ⟨h1, h2.symm⟩
  have hv : wrap64 ((si : Nat) : Int) = (si : Int) := by unfold wrap64; omega
  have L1 : s1.1.length ≤ 1000000000 := by rw [hs1]; exact Nat.le_trans (rByte_left (l, false)) hl9
  have L2 : s2.1.length ≤ 1000000000 := by rw [hs2]; exact Nat.le_trans (rByte_left s1) L1
  obtain ⟨z0, hz0⟩ : ∃ z, z = (rCount ((3 : Nat) : Int) s2).1 := ⟨_, rfl⟩
  obtain ⟨s3, hs3⟩ : ∃ s, s = (rCount ((3 : Nat) : Int) s2).2 := ⟨_, rfl⟩
  have C0 : Hid (∀ W, Ds W base g s2 → Calls Try.prog 38 #[.pointer (some ⟨g, 0, none⟩), .int .i64 3] W (DGot W base g (.int .i64 (z0 : Int)) s3)) := Lib.hid fun W h => by rw [hz0, hs3]; exact ds_count W base g s2 3 (by decide) h
  obtain ⟨z1, hz1⟩ : ∃ z, z = (rUint s3).1 := ⟨_, rfl⟩
  obtain ⟨s4, hs4⟩ : ∃ s, s = (rUint s3).2 := ⟨_, rfl⟩
  have C1 : Hid (∀ W, Ds W base g s3 → Calls Try.prog 40 #[.pointer (some ⟨g, 0, none⟩)] W (DGot W base g (.int .u64 (z1 : Int)) s4)) := Lib.hid fun W h => by rw [hz1, hs4]; exact ds_uint W base g s3 h
  obtain ⟨z2, hz2⟩ : ∃ z, z = (dStamp s4).1 := ⟨_, rfl⟩
  obtain ⟨s5, hs5⟩ : ∃ s, s = (dStamp s4).2 := ⟨_, rfl⟩
  have C2 : Hid (∀ W, Ds W base g s4 → (∀ k, base k → k < W.heap.size) → Calls Try.prog 37 #[.pointer (some ⟨g, 0, none⟩)] W (DGotN W base g z2 s5)) := Lib.hid fun W h hb => by rw [hz2, hs5]; exact stampedW_any W base g s4 h hb
  have hD : dWan (l, false) = (⟨6, (si : Int), [], [], (z0 : Int), z1, z2⟩, s5) := by
    unfold dWan
    rw [hk, ← hs1, ← hsi, ← hs2]
    rw [hs5, hz2, hs4, hz1, hs3, hz0]; rfl
  have HD := Lib.hid hD
  clear hD hs1 hs2 hsi hy1 hy2 hw1 hw2 hw3 e1 e2 hs hb hg hbase hl hk hrr hl9 hz0 hs3 hz1 hs4 hz2 hs5
  go_enter Try.func14, Try.ntmps14
  go_wp2_with fail
  rw [← HW1.out, ← HW2.out, ← HW3.out, E2.out, E1.out]
  refine (T1.out _ M3.out.ds).mono ?_
  rintro en w4 ⟨vt, rfl, st, hr, hg1⟩
  have M4 := Lib.hid (M3.out.call hr hg1)
  have VV := Lib.hid (V1.out w4 vt st)
  clear hr hg1 st M3 HW1 HW2 HW3 E1 E2
  go_wp2_with fail
  refine VV.out.mono ?_
  rintro en w5 ⟨rfl, rfl⟩
  have K := M4.out.cells
  have c0 := (K.cell 0).trans (show (wC _ _)[0]? = some _ from rfl)
  have f0 := K.frozen 0
  have kf := K.set 0 (.int .u8 6)
  have gs := grownBy_setCell w5 b 0 (.int .u8 6)
  have x0w : IntKind.u64.wrap 6 = 6 := rfl
  have x1w : IntKind.u8.wrap 6 = 6 := rfl
  have N5 : Hid (GRow w (w5.setCell ⟨b, 0, none⟩ (.int .u8 6)) base g s1 b ⟨6, 0, [], [], 0, 0, []⟩ zeroWQ) := Lib.hid (M4.out.part (x' := ⟨6, 0, [], [], 0, 0, []⟩) zeroWQ kf gs)
  clear K kf gs M4 VV
  go_upto_region 7 with fail
  obtain ⟨w6, hw6⟩ : ∃ w6, w6 = w5.setCell ⟨b, 0, none⟩ (.int .u8 6) := ⟨_, rfl⟩
  rw [← hw6] at N5 ⊢
  clear hw6 c0 f0 x0w x1w
  go_wp2_with fail
  refine (T2.out _ N5.out.ds).mono ?_
  rintro en w7 ⟨vt2, rfl, st, hr, hg1⟩
  have M7 := Lib.hid (N5.out.call hr hg1)
  have VV := Lib.hid (V2.out w7 vt2 st)
  clear hr hg1 st N5
  go_wp2_with fail
  refine VV.out.mono ?_
  rintro en w8 ⟨rfl, rfl⟩
  have K := M7.out.cells
  have c1 := (K.cell 1).trans (show (wC _ _)[1]? = some _ from rfl)
  have f1 := K.frozen 1
  have kf := K.set 1 (.int .i64 (si : Int))
  have gs := grownBy_setCell w8 b 1 (.int .i64 (si : Int))
  have N8r : Hid (GRow w (w8.setCell ⟨b, 1, none⟩ (.int .i64 (si : Int))) base g s2 b ⟨6, (si : Int), [], [], 0, 0, []⟩ zeroWQ) := Lib.hid (M7.out.part (x' := ⟨6, (si : Int), [], [], 0, 0, []⟩) zeroWQ kf gs)
  clear K kf gs M7 VV
  go_upto_region 8 with fail
  clear hv
  obtain ⟨w9, hw9⟩ : ∃ w9, w9 = w8.setCell ⟨b, 1, none⟩ (.int .i64 (si : Int)) := ⟨_, rfl⟩
  rw [← hw9] at N8r ⊢
  clear hw9 c1 f1
  have N8 : Hid (GWan w w9 base g s2 b ⟨6, (si : Int), [], [], 0, 0, []⟩) := Lib.hid ⟨zeroWQ, N8r.out, SlP.nil _ _ _ _, ItemsP.nil _ _ _ _, SlP.nil _ _ _ _⟩
  have c0 := N8.out.kind 6 rfl
  go_wp2_with fail
  clear c0
  refine (C0.out _ N8.out.ds).mono ?_
  rintro en w10 ⟨rfl, hr, hg1⟩
  have M10 := Lib.hid (N8.out.call hr hg1)
  obtain ⟨q, K, hp⟩ := M10.out.ent
  have c4 := (K.cell 4).trans (show (wC _ _)[4]? = some _ from rfl)
  have f4 := K.frozen 4
  have kf := K.set 4 (.int .i64 (z0 : Int))
  have gs := grownBy_setCell w10 b 4 (.int .i64 (z0 : Int))
  have KP : Keep (fun j => b < j) w10 (w10.setCell ⟨b, 4, none⟩ (.int .i64 (z0 : Int))) := Keep.of_grown gs (fun h => Nat.lt_irrefl _ h)
  have N10 : Hid (GWan w (w10.setCell ⟨b, 4, none⟩ (.int .i64 (z0 : Int))) base g s3 b ⟨6, (si : Int), [], [], (z0 : Int), 0, []⟩) := Lib.hid (M10.out.part (x' := ⟨6, (si : Int), [], [], (z0 : Int), 0, []⟩) q kf (hp.keep KP) gs)
  clear K hp kf gs KP hr hg1 N8 M10
  go_upto_region 18 with fail
  obtain ⟨w11, hw11⟩ : ∃ w9, w9 = w10.setCell ⟨b, 4, none⟩ (.int .i64 (z0 : Int)) := ⟨_, rfl⟩
  rw [← hw11] at N10 ⊢
  clear hw11 c4 f4
  have c0 := N10.out.kind 6 rfl
  go_wp2_with fail
  clear c0
  refine (C1.out _ N10.out.ds).mono ?_
  rintro en w13 ⟨rfl, hr, hg1⟩
  have M13 := Lib.hid (N10.out.call hr hg1)
  obtain ⟨q, K, hp⟩ := M13.out.ent
  have c5 := (K.cell 5).trans (show (wC _ _)[5]? = some _ from rfl)
  have f5 := K.frozen 5
  have kf := K.set 5 (.int .u64 (z1 : Int))
  have gs := grownBy_setCell w13 b 5 (.int .u64 (z1 : Int))
  have KP : Keep (fun j => b < j) w13 (w13.setCell ⟨b, 5, none⟩ (.int .u64 (z1 : Int))) := Keep.of_grown gs (fun h => Nat.lt_irrefl _ h)
  have N13 : Hid (GWan w (w13.setCell ⟨b, 5, none⟩ (.int .u64 (z1 : Int))) base g s4 b ⟨6, (si : Int), [], [], (z0 : Int), z1, []⟩) := Lib.hid (M13.out.part (x' := ⟨6, (si : Int), [], [], (z0 : Int), z1, []⟩) q kf (hp.keep KP) gs)
  clear K hp kf gs KP hr hg1 N10 M13
  go_upto_region 20 with fail
  obtain ⟨w14, hw14⟩ : ∃ w9, w9 = w13.setCell ⟨b, 5, none⟩ (.int .u64 (z1 : Int)) := ⟨_, rfl⟩
  rw [← hw14] at N13 ⊢
  clear hw14 c5 f5
  have c0 := N13.out.kind 6 rfl
  go_wp2_with fail
  clear c0
  refine (C2.out _ N13.out.ds N13.out.blt).mono ?_
  rintro en w16 ⟨vs, rfl, os, hr, hg1⟩
  obtain ⟨fa, fc, rfl⟩ := os.shape
  have hbl : b < w14.heap.size := by obtain ⟨q, K, hp⟩ := N13.out.ent; exact K.lt
  have NP := os.slP.mono (Q := fun j => b < j) (fun j hj => by have h1 : w14.heap.size ≤ j := hj; omega)
  clear os hbl
  have M16 := Lib.hid (N13.out.call hr hg1)
  obtain ⟨q, K, hp⟩ := M16.out.ent
  have c6 := (K.cell 6).trans (show (wC _ _)[6]? = some _ from rfl)
  have f6 := K.frozen 6
  have kf := K.set 6 (.slice fa (nums z2).length fc)
  have gs := grownBy_setCell w16 b 6 (.slice fa (nums z2).length fc)
  have KP : Keep (fun j => b < j) w16 (w16.setCell ⟨b, 6, none⟩ (.slice fa (nums z2).length fc)) := Keep.of_grown gs (fun h => Nat.lt_irrefl _ h)
  have N16 : Hid (GWan w (w16.setCell ⟨b, 6, none⟩ (.slice fa (nums z2).length fc)) base g s5 b ⟨6, (si : Int), [], [], (z0 : Int), z1, z2⟩) := Lib.hid (M16.out.part (x' := ⟨6, (si : Int), [], [], (z0 : Int), z1, z2⟩) (q.1, q.2.1, (.slice fa (nums z2).length fc)) kf (⟨(hp.keep KP).1, (hp.keep KP).2.1, NP.keep KP⟩) gs)
  clear K hp kf gs KP hr hg1 N13 M16 NP
  go_upto_region 22 with fail
  obtain ⟨w17, hw17⟩ : ∃ w9, w9 = w16.setCell ⟨b, 6, none⟩ (.slice fa (nums z2).length fc) := ⟨_, rfl⟩
  rw [← hw17] at N16 ⊢
  clear hw17 c6 f6
  have c0 := N16.out.kind 6 rfl
  obtain ⟨q, E, pe, cL, dn, KB, EN, EO, EP, YY, NN, DH, PH⟩ := dwget_pack HRR.out HD.out N16.out
  go_wp2_with (first | (refine wpList_loadE wanTy _ rfl rfl rfl KB.out EN.out ?_) | fail)
  clear c0
  refine (PH.out).mono ?_
  rintro en wP ⟨vP, rfl, sP, gP⟩
  have MP := Lib.hid (N16.out.gr gP)
  have KP2 := Lib.hid (KB.out.gr gP)
  have EP2 := Lib.hid (EP.out.gr gP)
  obtain ⟨aP, cP, hvP⟩ := sP.oneCells
  rw [bytes_length] at hvP
  subst hvP
  have SP := Lib.hid sP
  clear sP gP PH N16 KB EP
  by_cases hz : pe = 0
  · subst hz
    go_wp2_with fail
    refine (DH.out _ MP.out.ds).mono ?_
    rintro en wD ⟨rfl, gD⟩
    have MD := Lib.hid (MP.out.gr gD)
    have GD := Lib.hid gD
    clear gD MP
    cases dn with
    | false =>
      obtain ⟨KZH, FH⟩ := dwget_zero MD.out NN.out (by simp)
      go_wp2_with (first | (refine wpList_buildTo rfl 26 _ rfl (some 112) rfl _ built_wan0 ?_) | (refine wpList_storeE (cs := zeroWL) wanTy _ _ rfl rfl rfl rfl KZH.out rfl rfl rfl ?_) | fail)
      intro w9 k9 ch9
      have K9 := Lib.hid k9
      have F9 := Lib.hid (FH.out w9 ch9)
      clear k9 ch9
      go_wp2
      exact bodyPost_ret (v := .tuple #[.agg zeroWL.toArray, .int .i64 2]) (results_row2 (fn := Try.f14) wanTy rfl _ _ rfl K9.out rfl) rfl F9.out
    | true =>
      have r1 := run_string_sl (P := Try.prog) 28 5 9 Try.underlying28 Try.underlying5 Try.underlying9 (SP.out.below GD.out)
      have r2 := run_string_sl (P := Try.prog) 28 5 9 Try.underlying28 Try.underlying5 Try.underlying9 (SLW.out wD MD.out.grw)
      by_cases hc : cL = l
      · have KE := Lib.hid (KP2.out.gr GD.out)
        have ZK := Lib.hid MD.out.zero
        have FH := Lib.hid (fun W' ch => dwget_last (W' := W') MD.out (EP2.out.gr GD.out) (YY.out (by trivial) (by trivial) hc) ch)
        subst hc
        go_wp2_with (first | (refine wpList_loadE wanTy _ rfl rfl rfl KE.out EN.out ?_) | (refine wpList_storeE wanTy _ _ rfl rfl rfl rfl ZK.out EN.out rfl EO.out ?_) | fail)
        intro w9 k9 ch9
        have K9 := Lib.hid k9
        have F9 := Lib.hid (FH.out w9 ch9)
        clear k9 ch9
        go_wp2
        exact bodyPost_ret (v := .tuple #[.agg E.toArray, .int .i64 0]) (results_row2 (fn := Try.f14) wanTy rfl _ _ rfl K9.out EN.out) rfl F9.out
      · have hcs : (cL == l) = false := by rw [Bool.eq_false_iff]; intro h; exact hc (eq_of_beq h)
        obtain ⟨KZH, FH⟩ := dwget_zero MD.out NN.out (fun h => hc h.2.2)
        clear hc
        go_wp2_with (first | (refine wpList_buildTo rfl 26 _ rfl (some 112) rfl _ built_wan0 ?_) | (refine wpList_storeE (cs := zeroWL) wanTy _ _ rfl rfl rfl rfl KZH.out rfl rfl rfl ?_) | fail)
        intro w9 k9 ch9
        have K9 := Lib.hid k9
        have F9 := Lib.hid (FH.out w9 ch9)
        clear k9 ch9
        go_wp2
        exact bodyPost_ret (v := .tuple #[.agg zeroWL.toArray, .int .i64 2]) (results_row2 (fn := Try.f14) wanTy rfl _ _ rfl K9.out rfl) rfl F9.out
  · obtain ⟨KZH, FH⟩ := dwget_zero MP.out NN.out (fun h => hz h.1)
    have hzz : (pe == 0) = false := by simp; exact hz
    go_wp2_with (first | (refine wpList_buildTo rfl 26 _ rfl (some 112) rfl _ built_wan0 ?_) | (refine wpList_storeE (cs := zeroWL) wanTy _ _ rfl rfl rfl rfl KZH.out rfl rfl rfl ?_) | fail)
    intro w9 k9 ch9
    have K9 := Lib.hid k9
    have F9 := Lib.hid (FH.out w9 ch9)
    clear k9 ch9
    go_wp2
    exact bodyPost_ret (v := .tuple #[.agg zeroWL.toArray, .int .i64 2]) (results_row2 (fn := Try.f14) wanTy rfl _ _ rfl K9.out rfl) rfl F9.out
end Go.Proofs.Ytgilijkmmcpfjaa
end
section
set_option linter.unusedVariables false
set_option linter.unusedSimpArgs false
set_option maxRecDepth 100000
namespace Go.Proofs.Ytgilijkmmcpfjaa
open Go.RowKit
set_option maxHeartbeats 8000000 in
theorem dwget_18 (w : World) (v : Value) (l : List UInt8) (hs : Sl w v (bytes l)) (hl : l.length ≤ 10000) (hk : (rByte (l, false)).1 = 18) :
    Calls Try.prog 14 #[v] w (RetDW w l) := by
  have hl9 : l.length ≤ 1000000000 := by omega
  obtain ⟨a, cap, rfl⟩ := hs.oneCells
  rw [bytes_length] at hs ⊢
  have hrr : ¬ ((rByte (l, false)).1 < 17 ∨ 22 < (rByte (l, false)).1) := by rw [hk]; decide
  have HRR := Lib.hid hrr
  obtain ⟨base, hbase⟩ : ∃ base : Nat → Prop, base = fun k => k < w.heap.size ∨ k = w.heap.size + 1 := ⟨_, rfl⟩
  obtain ⟨g, hg⟩ : ∃ g, g = w.heap.size + 1 := ⟨_, rfl⟩
  obtain ⟨b, hb⟩ : ∃ b, b = w.heap.size + 2 := ⟨_, rfl⟩
  have SLW : Hid (∀ W, Gr w W → Sl W (.slice a l.length cap) (bytes l)) := Lib.hid fun W hW => hs.below hW
  obtain ⟨w1, hw1⟩ : ∃ w1, w1 = w.alloc (.cells zeroWL.toArray 26) := ⟨_, rfl⟩
  have e1 : w1.heap.size = g := by rw [hw1, hg]; simp
  obtain ⟨w2, hw2⟩ : ∃ w2, w2 = w1.alloc (.cells #[.slice a l.length cap, .int .i64 0, .bool false] 71) := ⟨_, rfl⟩
  have e2 : w2.heap.size = b := by rw [hw2, hb]; simp [e1, hg]
  obtain ⟨w3, hw3⟩ : ∃ w3, w3 = w2.alloc (.cells zeroWL.toArray 26) := ⟨_, rfl⟩
  have M3 : Hid (GRow w w3 base g (l, false) b zeroW zeroWQ) := Lib.hid (by rw [hw3, hw2, hw1, hbase, hg, hb]; exact GRow.start w _ l a cap rfl hs hl9)
  have HW1 : Hid (w1 = w.alloc (.cells #[.int .u8 0, .int .i64 0, .slice none 0 0, .slice none 0 0, .int .i64 0, .int .u64 0, .slice none 0 0] 26)) := Lib.hid hw1
  have HW2 := Lib.hid hw2
  have HW3 : Hid (w3 = w2.alloc (.cells #[.int .u8 0, .int .i64 0, .slice none 0 0, .slice none 0 0, .int .i64 0, .int .u64 0, .slice none 0 0] 26)) := Lib.hid hw3
  have E1 : Hid (w.heap.size + 1 = g) := Lib.hid hg.symm
  have E2 : Hid (w.heap.size + 1 + 1 = b) := Lib.hid (by rw [hb])
  obtain ⟨y1, hy1⟩ : ∃ y, y = (rTake 1 (l, false)).1 := ⟨_, rfl⟩
  obtain ⟨s1, hs1⟩ : ∃ s1, s1 = (rByte (l, false)).2 := ⟨_, rfl⟩
  obtain ⟨y2, hy2⟩ : ∃ y, y = (rTake 1 s1).1 := ⟨_, rfl⟩
  obtain ⟨si, hsi⟩ : ∃ si, si = (rByte s1).1 := ⟨_, rfl⟩
  obtain ⟨s2, hs2⟩ : ∃ s2, s2 = (rByte s1).2 := ⟨_, rfl⟩
  have hsl : si < 256 := by rw [hsi]; exact rByte_lt _
  have T1 : Hid (∀ W, Ds W base g (l, false) → Calls Try.prog 36 #[.pointer (some ⟨g, 0, none⟩), .int .u64 1] W (DGotP W base g (fun v W => Sl W v (bytes y1)) s1)) := Lib.hid fun W h => by rw [hy1, hs1]; exact ds_take W base g 1 (l, false) h (by decide)
  have T2 : Hid (∀ W, Ds W base g s1 → Calls Try.prog 36 #[.pointer (some ⟨g, 0, none⟩), .int .u64 1] W (DGotP W base g (fun v W => Sl W v (bytes y2)) s2)) := Lib.hid fun W h => by rw [hy2, hs2]; exact ds_take W base g 1 s1 h (by decide)
  have V1 : Hid (∀ W v, Sl W v (bytes y1) → Calls Try.prog 35 #[v] W (fun e w' => e = .returned (.int .u64 18) ∧ w' = W)) := Lib.hid fun W v h => (refvalue_any _ _ _ h (by rw [hy1]; exact Nat.le_trans (rTake_length 1 _) (by decide))).mono fun e w' hh => by
    obtain ⟨h1, h2⟩ := hh
    have e9 : val y1 = 18 := by rw [hy1]; exact hk
    rw [e9] at h1
    exact ⟨h1, h2.symm⟩
  have V2 : Hid (∀ W v, Sl W v (bytes y2) → Calls Try.prog 35 #[v] W (fun e w' => e = .returned (.int .u64 (si : Int)) ∧ w' = W)) := Lib.hid fun W v h => (refvalue_any _ _ _ h (by rw [hy2]; exact Nat.le_trans (rTake_length 1 _) (by decide))).mono fun e w' hh => by
    obtain ⟨h1, h2⟩ := hh
    have e9 : val y2 = si := by rw [hy2, hsi]; rfl
    rw [e9] at h1
    exact ⟨h1, h2.symm⟩
  have hv : wrap64 ((si : Nat) : Int) = (si : Int) := by unfold wrap64; omega
  have L1 : s1.1.length ≤ 1000000000 := by rw [hs1]; exact Nat.le_trans (rByte_left (l, false)) hl9
  have L2 : s2.1.length ≤ 1000000000 := by rw [hs2]; exact Nat.le_trans (rByte_left s1) L1
  obtain ⟨n, hn⟩ : ∃ n, n = (rCount ((8 : Nat) : Int) s2).1 := ⟨_, rfl⟩
  obtain ⟨sc, hsc⟩ : ∃ s, s = (rCount ((8 : Nat) : Int) s2).2 := ⟨_, rfl⟩
  have hn8 : n ≤ 8 := by rw [hn]; exact rCount_most 8 s2
  have LC : sc.1.length ≤ 1000000000 := by rw [hsc]; exact Nat.le_trans (rCount_left 8 s2) L2
  have C0 : Hid (∀ W, Ds W base g s2 → Calls Try.prog 38 #[.pointer (some ⟨g, 0, none⟩), .int .i64 8] W (DGot W base g (.int .i64 (n : Int)) sc)) := Lib.hid fun W h => by rw [hn, hsc]; exact ds_count W base g s2 8 (by decide) h
  obtain ⟨D, hDD⟩ : ∃ D, D = dMany dItem n sc := ⟨_, rfl⟩
  have eD : dList 8 dItem s2 = D := by rw [hDD, hn, hsc]; rfl
  obtain ⟨z0, hz0⟩ : ∃ z, z = D.1 := ⟨_, rfl⟩
  obtain ⟨s3, hs3⟩ : ∃ s, s = D.2 := ⟨_, rfl⟩
  have STEP : Hid (∀ k acc sk, k < n → sk.2 = false → D = (acc ++ (dMany dItem (n - k) sk).1, (dMany dItem (n - k) sk).2) → D = (acc ++ [(dItem sk).1] ++ (dMany dItem (n - (k + 1)) (dItem sk).2).1, (dMany dItem (n - (k + 1)) (dItem sk).2).2)) := Lib.hid fun k acc sk h1 h2 h3 => by
    rw [hDD] at h3 ⊢
    exact dMany_step dItem n k sc sk acc h1 h2 h3
  have D0 : Hid (D = ([] ++ (dMany dItem (n - 0) sc).1, (dMany dItem (n - 0) sc).2)) := Lib.hid (by rw [hDD]; rfl)
  have DEND : Hid (∀ k acc sk, (k = n ∨ sk.2 = true) → D = (acc ++ (dMany dItem (n - k) sk).1, (dMany dItem (n - k) sk).2) → z0 = acc ∧ s3 = sk) := Lib.hid fun k acc sk h1 h2 => by
    rw [hz0, hs3]
    rw [hDD] at h2 ⊢
    rw [dMany_end dItem n k sc sk acc h1 h2]; exact ⟨rfl, rfl⟩
  have HN8 := Lib.hid hn8
  have LCH := Lib.hid LC
  have hD : dWan (l, false) = (⟨2, (si : Int), [], z0, 0, 0, []⟩, s3) := by
    unfold dWan
    rw [hk, ← hs1, ← hsi, ← hs2]
    rw [hz0, hs3, ← eD]; rfl
  have HD := Lib.hid hD
  clear hD hs1 hs2 hsi hy1 hy2 hw1 hw2 hw3 e1 e2 hs hb hg hbase hl hk hrr hl9 hz0 hs3 hn hsc hDD eD hn8 LC
  go_enter Try.func14, Try.ntmps14
  go_wp2_with fail
  rw [← HW1.out, ← HW2.out, ← HW3.out, E2.out, E1.out]
  refine (T1.out _ M3.out.ds).mono ?_
  rintro en w4 ⟨vt, rfl, st, hr, hg1⟩
  have M4 := Lib.hid (M3.out.call hr hg1)
  have VV := Lib.hid (V1.out w4 vt st)
  clear hr hg1 st M3 HW1 HW2 HW3 E1 E2
  go_wp2_with fail
  refine VV.out.mono ?_
  rintro en w5 ⟨rfl, rfl⟩
  have K := M4.out.cells
  have c0 := (K.cell 0).trans (show (wC _ _)[0]? = some _ from rfl)
  have f0 := K.frozen 0
  have kf := K.set 0 (.int .u8 2)
  have gs := grownBy_setCell w5 b 0 (.int .u8 2)
  have x0w : IntKind.u64.wrap 2 = 2 := rfl
  have x1w : IntKind.u8.wrap 2 = 2 := rfl
  have N5 : Hid (GRow w (w5.setCell ⟨b, 0, none⟩ (.int .u8 2)) base g s1 b ⟨2, 0, [], [], 0, 0, []⟩ zeroWQ) := Lib.hid (M4.out.part (x' := ⟨2, 0, [], [], 0, 0, []⟩) zeroWQ kf gs)
  clear K kf gs M4 VV
  go_upto_region 7 with fail
  obtain ⟨w6, hw6⟩ : ∃ w6, w6 = w5.setCell ⟨b, 0, none⟩ (.int .u8 2) := ⟨_, rfl⟩
  rw [← hw6] at N5 ⊢
  clear hw6 c0 f0 x0w x1w
  go_wp2_with fail
  refine (T2.out _ N5.out.ds).mono ?_
  rintro en w7 ⟨vt2, rfl, st, hr, hg1⟩
  have M7 := Lib.hid (N5.out.call hr hg1)
  have VV := Lib.hid (V2.out w7 vt2 st)
  clear hr hg1 st N5
  go_wp2_with fail
  refine VV.out.mono ?_
  rintro en w8 ⟨rfl, rfl⟩
  have K := M7.out.cells
  have c1 := (K.cell 1).trans (show (wC _ _)[1]? = some _ from rfl)
  have f1 := K.frozen 1
  have kf := K.set 1 (.int .i64 (si : Int))
  have gs := grownBy_setCell w8 b 1 (.int .i64 (si : Int))
  have N8r : Hid (GRow w (w8.setCell ⟨b, 1, none⟩ (.int .i64 (si : Int))) base g s2 b ⟨2, (si : Int), [], [], 0, 0, []⟩ zeroWQ) := Lib.hid (M7.out.part (x' := ⟨2, (si : Int), [], [], 0, 0, []⟩) zeroWQ kf gs)
  clear K kf gs M7 VV
  go_upto_region 8 with fail
  clear hv
  obtain ⟨w9, hw9⟩ : ∃ w9, w9 = w8.setCell ⟨b, 1, none⟩ (.int .i64 (si : Int)) := ⟨_, rfl⟩
  rw [← hw9] at N8r ⊢
  clear hw9 c1 f1
  have N8 : Hid (GWan w w9 base g s2 b ⟨2, (si : Int), [], [], 0, 0, []⟩) := Lib.hid ⟨zeroWQ, N8r.out, SlP.nil _ _ _ _, ItemsP.nil _ _ _ _, SlP.nil _ _ _ _⟩
  have c0 := N8.out.kind 2 rfl
  go_wp2_with fail
  clear c0
  refine (C0.out _ N8.out.ds).mono ?_
  rintro en w10 ⟨rfl, hr, hg1⟩
  have M10 : Hid (GRow w w10 base g sc b ⟨2, (si : Int), [], [], 0, 0, []⟩ zeroWQ) := Lib.hid (N8r.out.call hr hg1)
  clear hr hg1 N8 N8r
  go_wp2_with fail
  go_loopw [8] (fun i wr => ∃ (kk : Nat) (acc : List ItemD) (sk : RS) (ia : Option Addr) (ic : Nat), kk ≤ n ∧ acc.length = kk ∧ i = .int .i64 kk ∧ Hid (D = (acc ++ (dMany dItem (n - kk) sk).1, (dMany dItem (n - kk) sk).2)) ∧ sk.1.length ≤ 1000000000 ∧ GRow w wr base g sk b ⟨2, (si : Int), [], acc, 0, 0, []⟩ (.slice none 0 0, .slice ia acc.length ic, .slice none 0 0) ∧ ItemsR wr (b + 1) (.slice ia acc.length ic) acc) (fun i _ => n - (intOf i).toNat)
  case atStart => exact ⟨0, [], sc, none, 0, Nat.zero_le _, rfl, rfl, D0, LCH.out, M10.out, ItemsR.nil _ _⟩
  case round =>
    clear M10
    obtain ⟨kk, acc, sk, ia, ic, hk', hal, rfl, HR, hls, N, ho⟩ := hrel
    obtain ⟨wo, rfl⟩ : ∃ wo : World, wo = wr := ⟨_, rfl⟩
    have HNN := Lib.hid N
    have HO := Lib.hid ho
    have HAL := Lib.hid hal
    have HLS := Lib.hid hls
    clear hal hls N ho
    by_cases hlt : kk < n
    · obtain ⟨c2, -⟩ := HNN.out.ds.bad
      have i1 : (0 : Int) ≤ (kk : Int) := by omega
      have i2 : (kk : Int) < (n : Int) := by omega
      cases hbad : sk.2 with
      | true =>
        rw [hbad] at c2
        obtain ⟨ez, es⟩ := DEND.out kk acc sk (.inr hbad) HR.out
        have NI : Hid (GWan w wo base g s3 b ⟨2, (si : Int), [], z0, 0, 0, []⟩) := Lib.hid (by rw [ez, es]; exact ⟨_, HNN.out, SlP.nil _ _ _ _, HO.out.items.mono (fun j hj => by have h1 : b + 1 ≤ j := hj; omega), SlP.nil _ _ _ _⟩)
        clear hbad HR HNN HO ez es
        go_upto_region 18 with fail
        clear c2
        have c0 := NI.out.kind 2 rfl
        obtain ⟨q, E, pe, cL, dn, KB, EN, EO, EP, YY, NN, DH, PH⟩ := dwget_pack HRR.out HD.out NI.out
        go_wp2_with (first | (refine wpList_loadE wanTy _ rfl rfl rfl KB.out EN.out ?_) | fail)
        clear c0
        refine (PH.out).mono ?_
        rintro en wP ⟨vP, rfl, sP, gP⟩
        have MP := Lib.hid (NI.out.gr gP)
        have KP2 := Lib.hid (KB.out.gr gP)
        have EP2 := Lib.hid (EP.out.gr gP)
        obtain ⟨aP, cP, hvP⟩ := sP.oneCells
        rw [bytes_length] at hvP
        subst hvP
        have SP := Lib.hid sP
        clear sP gP PH NI KB EP
        by_cases hz : pe = 0
        · subst hz
          go_wp2_with fail
          refine (DH.out _ MP.out.ds).mono ?_
          rintro en wD ⟨rfl, gD⟩
          have MD := Lib.hid (MP.out.gr gD)
          have GD := Lib.hid gD
          clear gD MP
          cases dn with
          | false =>
            obtain ⟨KZH, FH⟩ := dwget_zero MD.out NN.out (by simp)
            go_wp2_with (first | (refine wpList_buildTo rfl 26 _ rfl (some 112) rfl _ built_wan0 ?_) | (refine wpList_storeE (cs := zeroWL) wanTy _ _ rfl rfl rfl rfl KZH.out rfl rfl rfl ?_) | fail)
            intro w9 k9 ch9
            have K9 := Lib.hid k9
            have F9 := Lib.hid (FH.out w9 ch9)
            clear k9 ch9
            go_wp2
            exact bodyPost_ret (v := .tuple #[.agg zeroWL.toArray, .int .i64 2]) (results_row2 (fn := Try.f14) wanTy rfl _ _ rfl K9.out rfl) rfl F9.out
          | true =>
            have r1 := run_string_sl (P := Try.prog) 28 5 9 Try.underlying28 Try.underlying5 Try.underlying9 (SP.out.below GD.out)
            have r2 := run_string_sl (P := Try.prog) 28 5 9 Try.underlying28 Try.underlying5 Try.underlying9 (SLW.out wD MD.out.grw)
            by_cases hc : cL = l
            · have KE := Lib.hid (KP2.out.gr GD.out)
              have ZK := Lib.hid MD.out.zero
              have FH := Lib.hid (fun W' ch => dwget_last (W' := W') MD.out (EP2.out.gr GD.out) (YY.out (by trivial) (by trivial) hc) ch)
              subst hc
              go_wp2_with (first | (refine wpList_loadE wanTy _ rfl rfl rfl KE.out EN.out ?_) | (refine wpList_storeE wanTy _ _ rfl rfl rfl rfl ZK.out EN.out rfl EO.out ?_) | fail)
              intro w9 k9 ch9
              have K9 := Lib.hid k9
              have F9 := Lib.hid (FH.out w9 ch9)
              clear k9 ch9
              go_wp2
              exact bodyPost_ret (v := .tuple #[.agg E.toArray, .int .i64 0]) (results_row2 (fn := Try.f14) wanTy rfl _ _ rfl K9.out EN.out) rfl F9.out
            · have hcs : (cL == l) = false := by rw [Bool.eq_false_iff]; intro h; exact hc (eq_of_beq h)
              obtain ⟨KZH, FH⟩ := dwget_zero MD.out NN.out (fun h => hc h.2.2)
              clear hc
              go_wp2_with (first | (refine wpList_buildTo rfl 26 _ rfl (some 112) rfl _ built_wan0 ?_) | (refine wpList_storeE (cs := zeroWL) wanTy _ _ rfl rfl rfl rfl KZH.out rfl rfl rfl ?_) | fail)
              intro w9 k9 ch9
              have K9 := Lib.hid k9
              have F9 := Lib.hid (FH.out w9 ch9)
              clear k9 ch9
              go_wp2
              exact bodyPost_ret (v := .tuple #[.agg zeroWL.toArray, .int .i64 2]) (results_row2 (fn := Try.f14) wanTy rfl _ _ rfl K9.out rfl) rfl F9.out
        · obtain ⟨KZH, FH⟩ := dwget_zero MP.out NN.out (fun h => hz h.1)
          have hzz : (pe == 0) = false := by simp; exact hz
          go_wp2_with (first | (refine wpList_buildTo rfl 26 _ rfl (some 112) rfl _ built_wan0 ?_) | (refine wpList_storeE (cs := zeroWL) wanTy _ _ rfl rfl rfl rfl KZH.out rfl rfl rfl ?_) | fail)
          intro w9 k9 ch9
          have K9 := Lib.hid k9
          have F9 := Lib.hid (FH.out w9 ch9)
          clear k9 ch9
          go_wp2
          exact bodyPost_ret (v := .tuple #[.agg zeroWL.toArray, .int .i64 2]) (results_row2 (fn := Try.f14) wanTy rfl _ _ rfl K9.out rfl) rfl F9.out
      | false =>
        rw [hbad] at c2
        have HD2 := Lib.hid (STEP.out kk acc sk hlt hbad HR.out)
        obtain ⟨x, hx⟩ : ∃ x, x = (dItem sk).1 := ⟨_, rfl⟩
        obtain ⟨s4, hs4⟩ : ∃ s3, s3 = (dItem sk).2 := ⟨_, rfl⟩
        have hls4 : s4.1.length ≤ 1000000000 := by rw [hs4]; exact Nat.le_trans (lf_item sk) HLS.out
        have HLS4 := Lib.hid hls4
        have RC : Hid (∀ W, Ds W base g sk → (∀ j, base j → j < W.heap.size) → Calls Try.prog 39 #[.pointer (some ⟨g, 0, none⟩)] W (DGotP W base g (ItemIs W.heap.size x) s4)) := Lib.hid fun W h1 h2 => by rw [hx, hs4]; exact read_item_any W base g sk h1 h2 HLS.out
        rw [← hx, ← hs4] at HD2
        have PT : Hid (∀ W, Ch (fun j => j = g) wo.drew W → W.cell? ⟨b, 3, none⟩ = some (.slice ia acc.length ic)) := Lib.hid fun W hW => by
          have gd := (Gr.refl wo).drew
          have h1 := HNN.out.cells.gr gd
          exact (h1.block (hW.block b h1.lt (fun e => by have h2 := HNN.out.hg; have h3 := HNN.out.hb; have h4 : b = g := e; omega))).cell 3
        clear hx hs4 hls4 hbad HR
        go_wp2_with fail
        clear c2
        apply wp_region_draw_turnTail 5 (fun j => j = g) (fun j W => Ds W base g (dst1 sk s4 j)) (.eq _ :: .eq _ :: .eq _ :: .use (fun v W => ItemIs wo.heap.size x v W) :: .ok (fun v W => ItemBox wo.heap.size x v W) :: []) (by kernel_rfl) (by kernel_rfl) ⟨fun v w2 w3 hg hh => by obtain ⟨sv, ev, h1, h2⟩ := hh; exact ⟨sv, ev, h1, h2.keep (Keep.of_ch hg (fun j h1 h3 => by have h4 : wo.heap.size ≤ j := h1; have h5 : j = g := h3; have := HNN.out.ds.lt; omega))⟩, fun v w2 w3 hg hh => ItemBox.ch hh hg (fun j hj h5 => by have h5 : j = g := h5; have := HNN.out.ds.lt; omega), trivial⟩ (fun j W W' hg h => Ds.gr h hg) (Ds.gr HNN.out.ds ((Gr.refl _).drew))
        simp only [List.take_succ_cons, List.take_zero, List.drop_succ_cons, List.drop_zero]
        apply wpT_eq
        · intro W hW _
          unfold opT
          go_simp
          first | exact resT_eq_mk _ _ _ | exact ⟨Gr.refl _, rfl⟩
        simp only [Act.put, pt1, pt2, pt3]
        apply wpT_eq
        · intro W hW _
          have q0 := PT.out W hW
          unfold opT
          go_simp
          first | exact resT_eq_mk _ _ _ | exact ⟨Gr.refl _, rfl⟩
        simp only [Act.put, pt1, pt2, pt3]
        apply wpT_eq
        · intro W hW _
          unfold opT
          go_simp
          first | exact resT_eq_mk _ _ _ | exact ⟨Gr.refl _, rfl⟩
        simp only [Act.put, pt1, pt2, pt3]
        apply wpT_use
        · intro W hW hS hs
          have hsz : wo.heap.size ≤ W.heap.size := by simpa using hW.size
          have hbw : ∀ j, base j → j < W.heap.size := fun j hj => Nat.lt_of_lt_of_le (HNN.out.blt j hj) hsz
          unfold opT
          go_simp
          refine resT_call ((RC.out W hS hbw).mono ?_)
          rintro en W2 ⟨v, rfl, ⟨sv, ev, h1, h2⟩, h3, h4⟩
          exact ⟨_, rfl, ⟨Ch.of_grownBy h4 (fun j hj => by cases hj; rfl), h3⟩, ⟨sv, ev, h1, h2.mono fun j hj => by have h5 : W.heap.size ≤ j := hj; show wo.heap.size ≤ j; omega⟩⟩
        intro vt2
        simp only [Act.put, pt1, pt2, pt3]
        apply wpT_ok
        · intro W hW hs
          obtain ⟨sv, ev, rfl, h2⟩ := hs _ (.head _) (by rfl)
          have hsz : wo.heap.size ≤ W.heap.size := by simpa using hW.size
          have BX := Lib.hid (ItemBox.mk W _ x sv ev h2 hsz)
          obtain ⟨sa, ns, sc2, ea, ne, ec, rfl, rfl⟩ := item_shape h2
          clear h2
          unfold itemCells
          unfold opT
          go_simp
          exact resT_mk ((Gr.refl W).alloc _) BX.out
        intro vq
        simp only [Act.put, pt1, pt2, pt3]
        apply wpT_nil
        intro W hW hSW hsAll
        obtain ⟨hp, sv, ev, rfl, kbx, sdv, bhp⟩ := hsAll _ (.head _)
        clear hsAll
        have hRW : Ds W base g s4 := hSW
        have gW : wo.grownBy W (some g) := grownBy_trans (gr_grown ((Gr.refl wo).drew) g) (Ch.grownBy hW)
        have MW := HNN.out.call hRW gW
        have hgb := HNN.out.hg
        have hbb := HNN.out.hb
        have hzo : b + 1 ≤ wo.heap.size := HNN.out.cells.lt
        have o3 := HO.out.keep (keep_from gW (by omega))
        have hub : ∀ j, (Value.slice ia acc.length ic).ownBlock = some j → b + 1 ≤ j ∧ j < wo.heap.size := HO.out.lt
        have hn8 := HN8.out
        obtain ⟨v4, y4, hrun, p1, p2⟩ := run_append_item W (b + 1) (.slice ia acc.length ic) acc x sv ev hp o3 (sdv.mono fun j hj => ⟨Nat.le_trans hzo hj, fun e => by have h1 := (hub j e).2; have h2 : wo.heap.size ≤ j := hj; omega⟩) kbx (by rw [HAL.out]; omega) (Nat.le_trans hzo gW.size)
        obtain ⟨acc2, hacc⟩ : ∃ acc2, acc2 = acc ++ [x] := ⟨_, rfl⟩
        have hlen2 : acc2.length = kk + 1 := by rw [hacc, List.length_append, HAL.out]; rfl
        have HLEN2 := Lib.hid hlen2
        rw [← hacc] at p1 HD2
        obtain ⟨pa3, pc3, rfl⟩ := p1.shape
        have M4 := MW.app p2 (fun j hj => by have h1 := (hub j hj).1; omega)
        have P1 := Lib.hid p1
        have HRUN := Lib.hid hrun
        have y3 := (M4.cells.cell 3).trans (show (wC _ _)[3]? = some _ from rfl)
        have fy3 := M4.cells.frozen 3
        have kf := M4.cells.set 3 (.slice pa3 acc2.length pc3)
        have gs := grownBy_setCell y4 b 3 (.slice pa3 acc2.length pc3)
        have M5 := Lib.hid (M4.part (x' := ⟨2, (si : Int), [], acc2, 0, 0, []⟩) (.slice none 0 0, .slice pa3 acc2.length pc3, .slice none 0 0) kf gs)
        have P5 := Lib.hid (P1.out.keep (keep_from gs (show b < b + 1 by omega)))
        clear hrun p1 p2 o3 hub kbx bhp sdv hRW gW MW hW hSW M4 hacc hzo hgb hbb kf gs hlen2
        try simp only [List.drop_succ_cons, List.drop_zero]
        go_wp2_with (at_builtin; refine wpList_run_append HRUN.out rfl _ _ rfl rfl rfl ?_; clear HRUN)
        go_roundw
        case rel => exact ⟨kk + 1, acc2, s4, pa3, pc3, by omega, HLEN2.out, by go_num, HD2, HLS4.out, M5.out, P5.out⟩
        case measure => simp [intOf]; omega
    · obtain rfl : kk = n := by omega
      obtain ⟨ez, es⟩ := DEND.out kk acc sk (.inl rfl) HR.out
      have NI : Hid (GWan w wo base g s3 b ⟨2, (si : Int), [], z0, 0, 0, []⟩) := Lib.hid (by rw [ez, es]; exact ⟨_, HNN.out, SlP.nil _ _ _ _, HO.out.items.mono (fun j hj => by have h1 : b + 1 ≤ j := hj; omega), SlP.nil _ _ _ _⟩)
      clear HR HNN HO ez es
      go_upto_region 18 with fail
      have c0 := NI.out.kind 2 rfl
      obtain ⟨q, E, pe, cL, dn, KB, EN, EO, EP, YY, NN, DH, PH⟩ := dwget_pack HRR.out HD.out NI.out
      go_wp2_with (first | (refine wpList_loadE wanTy _ rfl rfl rfl KB.out EN.out ?_) | fail)
      clear c0
      refine (PH.out).mono ?_
      rintro en wP ⟨vP, rfl, sP, gP⟩
      have MP := Lib.hid (NI.out.gr gP)
      have KP2 := Lib.hid (KB.out.gr gP)
      have EP2 := Lib.hid (EP.out.gr gP)
      obtain ⟨aP, cP, hvP⟩ := sP.oneCells
      rw [bytes_length] at hvP
      subst hvP
      have SP := Lib.hid sP
      clear sP gP PH NI KB EP
      by_cases hz : pe = 0
      · subst hz
        go_wp2_with fail
        refine (DH.out _ MP.out.ds).mono ?_
        rintro en wD ⟨rfl, gD⟩
        have MD := Lib.hid (MP.out.gr gD)
        have GD := Lib.hid gD
        clear gD MP
        cases dn with
        | false =>
          obtain ⟨KZH, FH⟩ := dwget_zero MD.out NN.out (by simp)
          go_wp2_with (first | (refine wpList_buildTo rfl 26 _ rfl (some 112) rfl _ built_wan0 ?_) | (refine wpList_storeE (cs := zeroWL) wanTy _ _ rfl rfl rfl rfl KZH.out rfl rfl rfl ?_) | fail)
          intro w9 k9 ch9
          have K9 := Lib.hid k9
          have F9 := Lib.hid (FH.out w9 ch9)
          clear k9 ch9
          go_wp2
          exact bodyPost_ret (v := .tuple #[.agg zeroWL.toArray, .int .i64 2]) (results_row2 (fn := Try.f14) wanTy rfl _ _ rfl K9.out rfl) rfl F9.out
        | true =>
          have r1 := run_string_sl (P := Try.prog) 28 5 9 Try.underlying28 Try.underlying5 Try.underlying9 (SP.out.below GD.out)
          have r2 := run_string_sl (P := Try.prog) 28 5 9 Try.underlying28 Try.underlying5 Try.underlying9 (SLW.out wD MD.out.grw)
          by_cases hc : cL = l
          · have KE := Lib.hid (KP2.out.gr GD.out)
            have ZK := Lib.hid MD.out.zero
            have FH := Lib.hid (fun W' ch => dwget_last (W' := W') MD.out (EP2.out.gr GD.out) (YY.out (by trivial) (by trivial) hc) ch)
            subst hc
            go_wp2_with (first | (refine wpList_loadE wanTy _ rfl rfl rfl KE.out EN.out ?_) | (refine wpList_storeE wanTy _ _ rfl rfl rfl rfl ZK.out EN.out rfl EO.out ?_) | fail)
            intro w9 k9 ch9
            have K9 := Lib.hid k9
            have F9 := Lib.hid (FH.out w9 ch9)
            clear k9 ch9
            go_wp2
            exact bodyPost_ret (v := .tuple #[.agg E.toArray, .int .i64 0]) (results_row2 (fn := Try.f14) wanTy rfl _ _ rfl K9.out EN.out) rfl F9.out
          · have hcs : (cL == l) = false := by rw [Bool.eq_false_iff]; intro h; exact hc (eq_of_beq h)
            obtain ⟨KZH, FH⟩ := dwget_zero MD.out NN.out (fun h => hc h.2.2)
            clear hc
            go_wp2_with (first | (refine wpList_buildTo rfl 26 _ rfl (some 112) rfl _ built_wan0 ?_) | (refine wpList_storeE (cs := zeroWL) wanTy _ _ rfl rfl rfl rfl KZH.out rfl rfl rfl ?_) | fail)
            intro w9 k9 ch9
            have K9 := Lib.hid k9
            have F9 := Lib.hid (FH.out w9 ch9)
            clear k9 ch9
            go_wp2
            exact bodyPost_ret (v := .tuple #[.agg zeroWL.toArray, .int .i64 2]) (results_row2 (fn := Try.f14) wanTy rfl _ _ rfl K9.out rfl) rfl F9.out
      · obtain ⟨KZH, FH⟩ := dwget_zero MP.out NN.out (fun h => hz h.1)
        have hzz : (pe == 0) = false := by simp; exact hz
        go_wp2_with (first | (refine wpList_buildTo rfl 26 _ rfl (some 112) rfl _ built_wan0 ?_) | (refine wpList_storeE (cs := zeroWL) wanTy _ _ rfl rfl rfl rfl KZH.out rfl rfl rfl ?_) | fail)
        intro w9 k9 ch9
        have K9 := Lib.hid k9
        have F9 := Lib.hid (FH.out w9 ch9)
        clear k9 ch9
        go_wp2
        exact bodyPost_ret (v := .tuple #[.agg zeroWL.toArray, .int .i64 2]) (results_row2 (fn := Try.f14) wanTy rfl _ _ rfl K9.out rfl) rfl F9.out
end Go.Proofs.Ytgilijkmmcpfjaa
end
section
set_option linter.unusedVariables false
set_option linter.unusedSimpArgs false
set_option maxRecDepth 100000
namespace Go.Proofs.Ytgilijkmmcpfjaa
open Go.RowKit
set_option maxHeartbeats 4000000 in
theorem dwget_out (w : World) (v : Value) (l : List UInt8) (hs : Sl w v (bytes l)) (hl : l.length ≤ 10000) (hk : (rByte (l, false)).1 < 17 ∨ 22 < (rByte (l, false)).1) :
    Calls Try.prog 14 #[v] w (RetDW w l) := by
  have hl9 : l.length ≤ 1000000000 := by omega
  obtain ⟨a, cap, rfl⟩ := hs.oneCells
  rw [bytes_length] at hs ⊢
  obtain ⟨base, hbase⟩ : ∃ base : Nat → Prop, base = fun k => k < w.heap.size ∨ k = w.heap.size + 1 := ⟨_, rfl⟩
  obtain ⟨g, hg⟩ : ∃ g, g = w.heap.size + 1 := ⟨_, rfl⟩
  obtain ⟨b, hb⟩ : ∃ b, b = w.heap.size + 2 := ⟨_, rfl⟩
  obtain ⟨w1, hw1⟩ : ∃ w1, w1 = w.alloc (.cells zeroWL.toArray 26) := ⟨_, rfl⟩
  have e1 : w1.heap.size = g := by rw [hw1, hg]; simp
  obtain ⟨w2, hw2⟩ : ∃ w2, w2 = w1.alloc (.cells #[.slice a l.length cap, .int .i64 0, .bool false] 71) := ⟨_, rfl⟩
  have e2 : w2.heap.size = b := by rw [hw2, hb]; simp [e1, hg]
  obtain ⟨w3, hw3⟩ : ∃ w3, w3 = w2.alloc (.cells zeroWL.toArray 26) := ⟨_, rfl⟩
  have M3 : Hid (GRow w w3 base g (l, false) b zeroW zeroWQ) := Lib.hid (by rw [hw3, hw2, hw1, hbase, hg, hb]; exact GRow.start w _ l a cap rfl hs hl9)
  have HW1 : Hid (w1 = w.alloc (.cells #[.int .u8 0, .int .i64 0, .slice none 0 0, .slice none 0 0, .int .i64 0, .int .u64 0, .slice none 0 0] 26)) := Lib.hid hw1
  have HW2 := Lib.hid hw2
  have HW3 : Hid (w3 = w2.alloc (.cells #[.int .u8 0, .int .i64 0, .slice none 0 0, .slice none 0 0, .int .i64 0, .int .u64 0, .slice none 0 0] 26)) := Lib.hid hw3
  have E1 : Hid (w.heap.size + 1 = g) := Lib.hid hg.symm
  have E2 : Hid (w.heap.size + 1 + 1 = b) := Lib.hid (by rw [hb])
  have RET : Hid (∀ w', Gr w w' → RetDW w l (.returned (.tuple #[.agg zeroWL.toArray, .int .i64 2])) w') := Lib.hid fun w' h => retDW_out hk w' h
  obtain ⟨y1, hy1⟩ : ∃ y, y = (rTake 1 (l, false)).1 := ⟨_, rfl⟩
  obtain ⟨s1, hs1⟩ : ∃ s1, s1 = (rByte (l, false)).2 := ⟨_, rfl⟩
  obtain ⟨n, hn⟩ : ∃ n, n = (rByte (l, false)).1 := ⟨_, rfl⟩
  rw [← hn] at hk
  have T1 : Hid (∀ W, Ds W base g (l, false) → Calls Try.prog 36 #[.pointer (some ⟨g, 0, none⟩), .int .u64 1] W (DGotP W base g (fun v W => Sl W v (bytes y1)) s1)) := Lib.hid fun W h => by rw [hy1, hs1]; exact ds_take W base g 1 (l, false) h (by decide)
  have V1 : Hid (∀ W v, Sl W v (bytes y1) → Calls Try.prog 35 #[v] W (fun e w' => e = .returned (.int .u64 (n : Int)) ∧ w' = W)) := Lib.hid fun W v h => (refvalue_any _ _ _ h (by rw [hy1]; exact Nat.le_trans (rTake_length 1 _) (by decide))).mono fun e w' hh => by
    obtain ⟨h1, h2⟩ := hh
    have e9 : val y1 = n := by rw [hy1, hn]; rfl
    rw [e9] at h1
    exact ⟨h1, h2.symm⟩
  have hlt : (17 : Int) ≤ (n : Int) → (22 : Int) < (n : Int) := fun h => by omega
  have HLT := Lib.hid hlt
  clear hs1 hy1 hw1 hw2 hw3 e1 e2 hs hb hg hbase hl hk hn hl9 hlt
  go_enter Try.func14, Try.ntmps14
  go_wp2_with fail
  rw [← HW1.out, ← HW2.out, ← HW3.out, E2.out, E1.out]
  refine (T1.out _ M3.out.ds).mono ?_
  rintro en w4 ⟨vt, rfl, st, hr, hg1⟩
  have M4 := Lib.hid (M3.out.call hr hg1)
  have VV := Lib.hid (V1.out w4 vt st)
  clear hr hg1 st M3 HW1 HW2 HW3 E1 E2
  go_wp2_with fail
  refine VV.out.mono ?_
  rintro en w5 ⟨rfl, rfl⟩
  have KZH := Lib.hid M4.out.zero
  have FH : Hid (∀ W', Ch (fun j => j = w.heap.size) w5 W' → RetDW w l (.returned (.tuple #[.agg zeroWL.toArray, .int .i64 2])) W') := Lib.hid fun W' hc => RET.out W' (Below.trans M4.out.grw (hc.below M4.out.grw.size (fun j hj => by have : j = w.heap.size := hj; omega)))
  clear VV M4
  by_cases h17 : (n : Int) < 17
  · have h17b := h17
    go_wp2_with (first | (refine wpList_buildTo rfl 26 _ rfl (some 23) rfl _ built_wan0 ?_) | (refine wpList_storeE (cs := zeroWL) wanTy _ _ rfl rfl rfl rfl KZH.out rfl rfl rfl ?_) | fail)
    intro w9 k9 ch9
    have K9 := Lib.hid k9
    have F9 := Lib.hid (FH.out w9 ch9)
    clear k9 ch9
    go_wp2
    exact bodyPost_ret (v := .tuple #[.agg zeroWL.toArray, .int .i64 2]) (results_row2 (fn := Try.f14) wanTy rfl _ _ rfl K9.out rfl) rfl F9.out
  · have h22 := HLT.out (by omega)
    go_wp2_with (first | (refine wpList_buildTo rfl 26 _ rfl (some 23) rfl _ built_wan0 ?_) | (refine wpList_storeE (cs := zeroWL) wanTy _ _ rfl rfl rfl rfl KZH.out rfl rfl rfl ?_) | fail)
    intro w9 k9 ch9
    have K9 := Lib.hid k9
    have F9 := Lib.hid (FH.out w9 ch9)
    clear k9 ch9
    go_wp2
    exact bodyPost_ret (v := .tuple #[.agg zeroWL.toArray, .int .i64 2]) (results_row2 (fn := Try.f14) wanTy rfl _ _ rfl K9.out rfl) rfl F9.out
theorem dgetW_any (w : World) (v : Value) (l : List UInt8) (hs : Sl w v (bytes l)) (hl : l.length ≤ 10000) : Calls Try.prog 14 #[v] w (RetGetW w l) := by
  have key : Calls Try.prog 14 #[v] w (RetDW w l) := by
    by_cases h : (rByte (l, false)).1 < 17 ∨ 22 < (rByte (l, false)).1
    · exact dwget_out w v l hs hl h
    · rcases (by omega : (rByte (l, false)).1 = 17 ∨ (rByte (l, false)).1 = 18 ∨ (rByte (l, false)).1 = 19 ∨ (rByte (l, false)).1 = 20 ∨ (rByte (l, false)).1 = 21 ∨ (rByte (l, false)).1 = 22) with h | h | h | h | h | h
      · exact dwget_17 w v l hs hl h
      · exact dwget_18 w v l hs hl h
      · exact dwget_19 w v l hs hl h
      · exact dwget_20 w v l hs hl h
      · exact dwget_21 w v l hs hl h
      · exact dwget_22 w v l hs hl h
  refine key.mono ?_
  rintro e w' ⟨q, h1, h2, h3⟩
  have e9 := dGetW_eq l (dWan_ok _)
  rw [e9] at h1 h2
  exact ⟨q.1, q.2.1, q.2.2, h1, h2, h3⟩
end Go.Proofs.Ytgilijkmmcpfjaa
end
