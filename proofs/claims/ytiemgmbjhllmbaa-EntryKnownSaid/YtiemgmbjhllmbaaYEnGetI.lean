/-
  Package entry: what reads effects and items.
-/
import Derived.Test.YtiemgmbjhllmbaaYEnGetO
import Derived.Test.YtiemgmbjhllmbaaYC
import Derived.Deep.DeepCutAuto
set_option linter.unusedVariables false
set_option maxRecDepth 100000
namespace Go.Proofs.Ytiemgmbjhllmbaa
open Go.RowKit
def EffIs (B : Nat) (x : EffD) (v : Value) (W : World) : Prop := ∃ dv, v = .agg (effCells x dv).toArray ∧ SlP (From B) W dv (bytes x.node.data)
def st2 (a b c : RS) : Nat → RS
  | 0 => a
  | 1 => b
  | _ => c
set_option maxHeartbeats 4000000 in
theorem getEff_true (w : World) (base : Nat → Prop) (g : Nat) (s : RS) (hr : Rs w base g s) (hb : ∀ k, base k → k < w.heap.size) (hl : s.1.length ≤ 1000000000) (hgo : (rFlag (rTextM 64 s).2).1 = true) :
    Calls Try.prog 80 #[.pointer (some ⟨g, 0, none⟩)] w (GotP w base g (EffIs w.heap.size (rEff s).1) (rEff s).2) := by
  have e0 := rEff_eq s
  have l1 := Nat.le_trans (left_text 64 s) hl
  have l2 := Nat.le_trans (left_flag _) l1
  have C0 := fun W h hb => text_get W base g 64 s h hb hl
  rw [hgo] at e0
  obtain ⟨pa, hpa⟩ : ∃ pa, pa = (rTextM 64 s).1 := ⟨_, rfl⟩
  obtain ⟨s1, hs1⟩ : ∃ s1, s1 = (rTextM 64 s).2 := ⟨_, rfl⟩
  rw [← hpa, ← hs1] at C0 e0
  rw [← hs1] at l1 l2 hgo
  have C1 := fun W h => flagged_any W base g s1 h l1
  obtain ⟨s2, hs2⟩ : ∃ s2, s2 = (rFlag s1).2 := ⟨_, rfl⟩
  rw [hgo, ← hs2] at C1
  rw [← hs2] at e0 l2
  have C2 := fun W h hb => getNode_any W base g s2 h hb l2
  have e1 : rEff s = (⟨pa, true, zeroN⟩, s2) := e0
  rw [e1]
  have D0 := Lib.hid C0
  have D1 := Lib.hid C1
  have D2 := Lib.hid C2
  clear e0 e1 hpa hs1 hgo hs2 C0 C1 C2 l1 l2
  obtain ⟨w1, hw1⟩ : ∃ w1, w1 = w.alloc (.cells #[.string ⟨#[]⟩, .bool false, .slice none 0 0, .int .u32 0, .int .u32 0, .int .u32 0, .int .i64 0, .int .u32 0, .int .u64 0, .int .u64 0, .int .u64 0] 31) := ⟨_, rfl⟩
  have g1 : Gr w w1 := by rw [hw1]; exact (Gr.refl w).alloc _
  have z1 : w1.heap.size = w.heap.size + 1 := by rw [hw1]; simp
  have k1 : CellsAt w1 w.heap.size [.string ⟨#[]⟩, .bool false, .slice none 0 0, .int .u32 0, .int .u32 0, .int .u32 0, .int .i64 0, .int .u32 0, .int .u64 0, .int .u64 0, .int .u64 0] 31 := by rw [hw1]; exact CellsAt.new _ _ _
  have hr1 := Rs.gr hr g1
  have hgl := hr.lt
  have hnb : ¬ base w.heap.size := fun h => Nat.lt_irrefl _ (hb _ h)
  have hb1 : ∀ k, base k → k < w1.heap.size := fun k hk => by have := hb k hk; omega
  have HW := Lib.hid hw1
  have HZ := Lib.hid z1
  have HK := Lib.hid k1
  have HG1 := Lib.hid g1
  have hgl1 : g < w1.heap.size := by omega
  have HB1 := Lib.hid hb1
  clear hw1 hr z1 k1 g1 hb1
  go_enter Try.func80, Try.ntmps80
  go_wp2_with fail
  rw [← HW.out]
  apply wp_region_draw_turnTail 7 (fun j => j = g) (fun j W => Rs W base g (st2 s s1 s2 j)) (.eq _ :: .use (fun v W => Own W w1.heap.size 5 v (bytes pa)) :: .eq _ :: .eq _ :: .useEq (.bool true) :: .eq _ :: .ok (fun v W => ∃ hq, v = .pointer (some ⟨hq, 0, none⟩) ∧ CellsAt W hq [.string ⟨#[]⟩, .bool false, .slice none 0 0, .int .u32 0, .int .u32 0, .int .u32 0, .int .i64 0, .int .u32 0, .int .u64 0, .int .u64 0, .int .u64 0] 31 ∧ w1.heap.size ≤ hq) :: []) (by kernel_rfl) (by kernel_rfl) ⟨fun v w2 w3 hg h => h.ch hg (fun j hj e => by have := (h.lt j hj).1; omega), fun v w2 w3 hg h => by obtain ⟨hq, e, k, b⟩ := h; exact ⟨hq, e, k.block (hg.block hq k.lt (fun e => by have : hq = g := e; omega)), b⟩, trivial⟩ (fun j W W' hg h => Rs.gr h hg) (Rs.gr hr1 ((Gr.refl _).drew))
  apply wpT_eq
  · intro W hW _
    unfold opT
    go_simp
    first | exact resT_eq_mk _ _ _ | exact ⟨Gr.refl _, rfl⟩
  simp only [Act.put, pt1, pt2, pt3]
  apply wpT_use
  · intro W hW hS hs
    have hsz : w1.heap.size ≤ W.heap.size := hW.size
    unfold opT
    go_simp
    refine resT_call ((D0.out W hS (fun k hk => Nat.lt_of_lt_of_le (HB1.out k hk) hsz)).mono ?_)
    rintro e W2 ⟨v, rfl, h1, h2, h3⟩
    exact ⟨_, rfl, ⟨Ch.of_grownBy h3 (fun j hj => by cases hj; rfl), h2⟩, h1.mono hsz⟩
  intro vt
  simp only [Act.put, pt1, pt2, pt3]
  apply wpT_eq
  · intro W hW hs
    have hvt := hs _ (.head _) (by rfl)
    have q := run_string_sl (P := Try.prog) 22 5 9 Try.underlying22 Try.underlying5 Try.underlying9 hvt.sl
    unfold opT
    go_simp
    first | exact resT_eq_mk _ _ _ | exact ⟨Gr.refl _, rfl⟩
  simp only [Act.put, pt1, pt2, pt3]
  apply wpT_eq
  · intro W hW _
    unfold opT
    go_simp
    first | exact resT_eq_mk _ _ _ | exact ⟨Gr.refl _, rfl⟩
  simp only [Act.put, pt1, pt2, pt3]
  apply wpT_useEq
  · intro W hW hS hs
    unfold opT
    go_simp
    refine resT_call ((D1.out W hS).mono ?_)
    rintro e W2 ⟨rfl, h2, h3⟩
    exact ⟨_, rfl, ⟨Ch.of_grownBy h3 (fun j hj => by cases hj; rfl), h2⟩, rfl⟩
  simp only [Act.put, pt1, pt2, pt3]
  apply wpT_eq
  · intro W hW _
    unfold opT
    go_simp
    first | exact resT_eq_mk _ _ _ | exact ⟨Gr.refl _, rfl⟩
  simp only [Act.put, pt1, pt2, pt3]
  apply wpT_ok
  · intro W hW hs
    have hsz : w1.heap.size ≤ W.heap.size := hW.size
    unfold opT
    go_simp
    exact resT_mk ((Gr.refl W).alloc _) ⟨_, rfl, CellsAt.new _ _ _, hsz⟩
  intro vq
  simp only [Act.put, pt1, pt2, pt3]
  apply wpT_nil
  intro W hW hSW hsAll
  obtain ⟨hp, rfl, khp, bhp⟩ := hsAll _ (.head _)
  clear hsAll
  have hRW : Rs W base g s2 := hSW
  have kb : CellsAt W w.heap.size [.string ⟨#[]⟩, .bool false, .slice none 0 0, .int .u32 0, .int .u32 0, .int .u32 0, .int .i64 0, .int .u32 0, .int .u64 0, .int .u64 0, .int .u64 0] 31 := HK.out.block (hW.block w.heap.size (by have := HK.out.lt; simpa using this) (by show ¬ w.heap.size = g; omega))
  have gW : w.grownBy W (some g) := grownBy_trans (gr_grown (HG1.out.trans ((Gr.refl w1).drew)) g) (Ch.grownBy hW)
  have hne1 : ¬ w.heap.size = hp := by have := HZ.out; omega
  have hne2 : ¬ hp = w.heap.size := by have := HZ.out; omega
  have c0 := khp.cell 0
  have f0 := khp.frozen 0
  have c1 := khp.cell 1
  have f1 := khp.frozen 1
  have c2 := khp.cell 2
  have f2 := khp.frozen 2
  have c3 := khp.cell 3
  have f3 := khp.frozen 3
  have c4 := khp.cell 4
  have f4 := khp.frozen 4
  have c5 := khp.cell 5
  have f5 := khp.frozen 5
  have c6 := khp.cell 6
  have f6 := khp.frozen 6
  have c7 := khp.cell 7
  have f7 := khp.frozen 7
  have c8 := khp.cell 8
  have f8 := khp.frozen 8
  have c9 := khp.cell 9
  have f9 := khp.frozen 9
  have c10 := khp.cell 10
  have f10 := khp.frozen 10
  have KF := Lib.hid ((((((((((((khp.set 0 (.string ⟨pa.toArray⟩)).set 1 (.bool true)).set 2 (.slice none 0 0)).set 3 (.int .u32 0)).set 4 (.int .u32 0)).set 5 (.int .u32 0)).set 6 (.int .i64 0)).set 7 (.int .u32 0)).set 8 (.int .u64 0)).set 9 (.int .u64 0)).set 10 (.int .u64 0)))
  have GF : Hid (W.grownBy (((((((((((W.setCell ⟨hp, 0, none⟩ (.string ⟨pa.toArray⟩)).setCell ⟨hp, 1, none⟩ (.bool true)).setCell ⟨hp, 2, none⟩ (.slice none 0 0)).setCell ⟨hp, 3, none⟩ (.int .u32 0)).setCell ⟨hp, 4, none⟩ (.int .u32 0)).setCell ⟨hp, 5, none⟩ (.int .u32 0)).setCell ⟨hp, 6, none⟩ (.int .i64 0)).setCell ⟨hp, 7, none⟩ (.int .u32 0)).setCell ⟨hp, 8, none⟩ (.int .u64 0)).setCell ⟨hp, 9, none⟩ (.int .u64 0)).setCell ⟨hp, 10, none⟩ (.int .u64 0)) (some hp)) := Lib.hid (grownBy_trans (grownBy_trans (grownBy_trans (grownBy_trans (grownBy_trans (grownBy_trans (grownBy_trans (grownBy_trans (grownBy_trans (grownBy_trans (grownBy_setCell W hp 0 (.string ⟨pa.toArray⟩)) (grownBy_setCell _ hp 1 (.bool true))) (grownBy_setCell _ hp 2 (.slice none 0 0))) (grownBy_setCell _ hp 3 (.int .u32 0))) (grownBy_setCell _ hp 4 (.int .u32 0))) (grownBy_setCell _ hp 5 (.int .u32 0))) (grownBy_setCell _ hp 6 (.int .i64 0))) (grownBy_setCell _ hp 7 (.int .u32 0))) (grownBy_setCell _ hp 8 (.int .u64 0))) (grownBy_setCell _ hp 9 (.int .u64 0))) (grownBy_setCell _ hp 10 (.int .u64 0)))
  have KB := Lib.hid kb
  have GW := Lib.hid gW
  have RW := Lib.hid hRW
  have HPS := Lib.hid khp.lt
  have BHP := Lib.hid bhp
  clear hW hSW khp kb gW hRW bhp
  simp only [List.drop_succ_cons, List.drop_zero]
  go_upto_region 2 with fail
  obtain ⟨W2, hW2⟩ : ∃ W2, W2 = (((((((((((W.setCell ⟨hp, 0, none⟩ (.string ⟨pa.toArray⟩)).setCell ⟨hp, 1, none⟩ (.bool true)).setCell ⟨hp, 2, none⟩ (.slice none 0 0)).setCell ⟨hp, 3, none⟩ (.int .u32 0)).setCell ⟨hp, 4, none⟩ (.int .u32 0)).setCell ⟨hp, 5, none⟩ (.int .u32 0)).setCell ⟨hp, 6, none⟩ (.int .i64 0)).setCell ⟨hp, 7, none⟩ (.int .u32 0)).setCell ⟨hp, 8, none⟩ (.int .u64 0)).setCell ⟨hp, 9, none⟩ (.int .u64 0)).setCell ⟨hp, 10, none⟩ (.int .u64 0)) := ⟨_, rfl⟩
  rw [← hW2] at KF GF ⊢
  simp only [List.set_cons_zero, List.set_cons_succ] at KF
  have K2 : Hid (CellsAt W2 hp [.string ⟨pa.toArray⟩, .bool true, .slice none 0 0, .int .u32 0, .int .u32 0, .int .u32 0, .int .i64 0, .int .u32 0, .int .u64 0, .int .u64 0, .int .u64 0] 31) := KF
  have KB2 := Lib.hid (KB.out.other GF.out (fun e => by injection e with e; exact hne2 e))
  have G2 := Lib.hid (grown_new GW.out GF.out (by have := HZ.out; have := BHP.out; omega))
  have R2 := Lib.hid (rs_new RW.out GF.out (fun h => by have := hb _ h; have := HZ.out; have := BHP.out; omega))
  have HPS2 : Hid (hp < W2.heap.size) := Lib.hid (Nat.lt_of_lt_of_le HPS.out GF.out.size)
  clear c0 f0 c1 f1 c2 f2 c3 f3 c4 f4 c5 f5 c6 f6 c7 f7 c8 f8 c9 f9 c10 f10 hW2 KF GF KB GW RW HPS
  have y1 := K2.out.cell 1
  go_upto_region 4 with fail
  clear y1
  have y0 := K2.out.cell 0
  have b0 := KB2.out.cell 0
  have fb0 := KB2.out.frozen 0
  have y1 := K2.out.cell 1
  have b1 := KB2.out.cell 1
  have fb1 := KB2.out.frozen 1
  have y2 := K2.out.cell 2
  have b2 := KB2.out.cell 2
  have fb2 := KB2.out.frozen 2
  have y3 := K2.out.cell 3
  have b3 := KB2.out.cell 3
  have fb3 := KB2.out.frozen 3
  have y4 := K2.out.cell 4
  have b4 := KB2.out.cell 4
  have fb4 := KB2.out.frozen 4
  have y5 := K2.out.cell 5
  have b5 := KB2.out.cell 5
  have fb5 := KB2.out.frozen 5
  have y6 := K2.out.cell 6
  have b6 := KB2.out.cell 6
  have fb6 := KB2.out.frozen 6
  have y7 := K2.out.cell 7
  have b7 := KB2.out.cell 7
  have fb7 := KB2.out.frozen 7
  have y8 := K2.out.cell 8
  have b8 := KB2.out.cell 8
  have fb8 := KB2.out.frozen 8
  have y9 := K2.out.cell 9
  have b9 := KB2.out.cell 9
  have fb9 := KB2.out.frozen 9
  have y10 := K2.out.cell 10
  have b10 := KB2.out.cell 10
  have fb10 := KB2.out.frozen 10
  have kf := (((((((((((KB2.out.set 0 (.string ⟨pa.toArray⟩)).set 1 (.bool true)).set 2 (.slice none 0 0)).set 3 (.int .u32 0)).set 4 (.int .u32 0)).set 5 (.int .u32 0)).set 6 (.int .i64 0)).set 7 (.int .u32 0)).set 8 (.int .u64 0)).set 9 (.int .u64 0)).set 10 (.int .u64 0))
  have gf : W2.grownBy (((((((((((W2.setCell ⟨w.heap.size, 0, none⟩ (.string ⟨pa.toArray⟩)).setCell ⟨w.heap.size, 1, none⟩ (.bool true)).setCell ⟨w.heap.size, 2, none⟩ (.slice none 0 0)).setCell ⟨w.heap.size, 3, none⟩ (.int .u32 0)).setCell ⟨w.heap.size, 4, none⟩ (.int .u32 0)).setCell ⟨w.heap.size, 5, none⟩ (.int .u32 0)).setCell ⟨w.heap.size, 6, none⟩ (.int .i64 0)).setCell ⟨w.heap.size, 7, none⟩ (.int .u32 0)).setCell ⟨w.heap.size, 8, none⟩ (.int .u64 0)).setCell ⟨w.heap.size, 9, none⟩ (.int .u64 0)).setCell ⟨w.heap.size, 10, none⟩ (.int .u64 0)) (some w.heap.size) := (grownBy_trans (grownBy_trans (grownBy_trans (grownBy_trans (grownBy_trans (grownBy_trans (grownBy_trans (grownBy_trans (grownBy_trans (grownBy_trans (grownBy_setCell W2 w.heap.size 0 (.string ⟨pa.toArray⟩)) (grownBy_setCell _ w.heap.size 1 (.bool true))) (grownBy_setCell _ w.heap.size 2 (.slice none 0 0))) (grownBy_setCell _ w.heap.size 3 (.int .u32 0))) (grownBy_setCell _ w.heap.size 4 (.int .u32 0))) (grownBy_setCell _ w.heap.size 5 (.int .u32 0))) (grownBy_setCell _ w.heap.size 6 (.int .i64 0))) (grownBy_setCell _ w.heap.size 7 (.int .u32 0))) (grownBy_setCell _ w.heap.size 8 (.int .u64 0))) (grownBy_setCell _ w.heap.size 9 (.int .u64 0))) (grownBy_setCell _ w.heap.size 10 (.int .u64 0)))
  have SF := SlP.nil (From w.heap.size) (((((((((((W2.setCell ⟨w.heap.size, 0, none⟩ (.string ⟨pa.toArray⟩)).setCell ⟨w.heap.size, 1, none⟩ (.bool true)).setCell ⟨w.heap.size, 2, none⟩ (.slice none 0 0)).setCell ⟨w.heap.size, 3, none⟩ (.int .u32 0)).setCell ⟨w.heap.size, 4, none⟩ (.int .u32 0)).setCell ⟨w.heap.size, 5, none⟩ (.int .u32 0)).setCell ⟨w.heap.size, 6, none⟩ (.int .i64 0)).setCell ⟨w.heap.size, 7, none⟩ (.int .u32 0)).setCell ⟨w.heap.size, 8, none⟩ (.int .u64 0)).setCell ⟨w.heap.size, 9, none⟩ (.int .u64 0)).setCell ⟨w.heap.size, 10, none⟩ (.int .u64 0)) none 0
  have x0 := kf.cell 0
  have x1 := kf.cell 1
  have x2 := kf.cell 2
  have x3 := kf.cell 3
  have x4 := kf.cell 4
  have x5 := kf.cell 5
  have x6 := kf.cell 6
  have x7 := kf.cell 7
  have x8 := kf.cell 8
  have x9 := kf.cell 9
  have x10 := kf.cell 10
  simp only [List.set_cons_zero, List.set_cons_succ, List.getElem?_cons_zero, List.getElem?_cons_succ] at x0 x1 x2 x3 x4 x5 x6 x7 x8 x9 x10
  clear kf
  go_wp2
  exact bodyPost_ret (v := .agg #[.string ⟨pa.toArray⟩, .bool true, .slice none 0 0, .int .u32 0, .int .u32 0, .int .u32 0, .int .i64 0, .int .u32 0, .int .u64 0, .int .u64 0, .int .u64 0]) (by simp [results, Try.f80, go_sem, x0, x1, x2, x3, x4, x5, x6, x7, x8, x9, x10]) rfl ⟨_, rfl, ⟨.slice none 0 0, rfl, SF⟩, rs_new R2.out gf hnb, grown_new G2.out gf (Nat.le_refl _)⟩
set_option maxHeartbeats 4000000 in
theorem getEff_false (w : World) (base : Nat → Prop) (g : Nat) (s : RS) (hr : Rs w base g s) (hb : ∀ k, base k → k < w.heap.size) (hl : s.1.length ≤ 1000000000) (hgo : (rFlag (rTextM 64 s).2).1 = false) :
    Calls Try.prog 80 #[.pointer (some ⟨g, 0, none⟩)] w (GotP w base g (EffIs w.heap.size (rEff s).1) (rEff s).2) := by
  have e0 := rEff_eq s
  have l1 := Nat.le_trans (left_text 64 s) hl
  have l2 := Nat.le_trans (left_flag _) l1
  have C0 := fun W h hb => text_get W base g 64 s h hb hl
  rw [hgo] at e0
  obtain ⟨pa, hpa⟩ : ∃ pa, pa = (rTextM 64 s).1 := ⟨_, rfl⟩
  obtain ⟨s1, hs1⟩ : ∃ s1, s1 = (rTextM 64 s).2 := ⟨_, rfl⟩
  rw [← hpa, ← hs1] at C0 e0
  rw [← hs1] at l1 l2 hgo
  have C1 := fun W h => flagged_any W base g s1 h l1
  obtain ⟨s2, hs2⟩ : ∃ s2, s2 = (rFlag s1).2 := ⟨_, rfl⟩
  rw [hgo, ← hs2] at C1
  rw [← hs2] at e0 l2
  have C2 := fun W h hb => getNode_any W base g s2 h hb l2
  obtain ⟨nd, hnd⟩ : ∃ nd, nd = (rNode s2).1 := ⟨_, rfl⟩
  obtain ⟨s3, hs3⟩ : ∃ s3, s3 = (rNode s2).2 := ⟨_, rfl⟩
  rw [← hnd, ← hs3] at C2
  have e1 : rEff s = (⟨pa, false, nd⟩, s3) := by rw [hnd, hs3]; exact e0
  rw [e1]
  clear hnd hs3
  obtain ⟨da, ve, ki, ne, si, nn, ma, ch, tu⟩ := nd
  have D0 := Lib.hid C0
  have D1 := Lib.hid C1
  have D2 := Lib.hid C2
  clear e0 e1 hpa hs1 hgo hs2 C0 C1 C2 l1 l2
  obtain ⟨w1, hw1⟩ : ∃ w1, w1 = w.alloc (.cells #[.string ⟨#[]⟩, .bool false, .slice none 0 0, .int .u32 0, .int .u32 0, .int .u32 0, .int .i64 0, .int .u32 0, .int .u64 0, .int .u64 0, .int .u64 0] 31) := ⟨_, rfl⟩
  have g1 : Gr w w1 := by rw [hw1]; exact (Gr.refl w).alloc _
  have z1 : w1.heap.size = w.heap.size + 1 := by rw [hw1]; simp
  have k1 : CellsAt w1 w.heap.size [.string ⟨#[]⟩, .bool false, .slice none 0 0, .int .u32 0, .int .u32 0, .int .u32 0, .int .i64 0, .int .u32 0, .int .u64 0, .int .u64 0, .int .u64 0] 31 := by rw [hw1]; exact CellsAt.new _ _ _
  have hr1 := Rs.gr hr g1
  have hgl := hr.lt
  have hnb : ¬ base w.heap.size := fun h => Nat.lt_irrefl _ (hb _ h)
  have hb1 : ∀ k, base k → k < w1.heap.size := fun k hk => by have := hb k hk; omega
  have HW := Lib.hid hw1
  have HZ := Lib.hid z1
  have HK := Lib.hid k1
  have HG1 := Lib.hid g1
  have hgl1 : g < w1.heap.size := by omega
  have HB1 := Lib.hid hb1
  clear hw1 hr z1 k1 g1 hb1
  go_enter Try.func80, Try.ntmps80
  go_wp2_with fail
  rw [← HW.out]
  apply wp_region_draw_turnTail 7 (fun j => j = g) (fun j W => Rs W base g (st2 s s1 s2 j)) (.eq _ :: .use (fun v W => Own W w1.heap.size 5 v (bytes pa)) :: .eq _ :: .eq _ :: .useEq (.bool false) :: .eq _ :: .ok (fun v W => ∃ hq, v = .pointer (some ⟨hq, 0, none⟩) ∧ CellsAt W hq [.string ⟨#[]⟩, .bool false, .slice none 0 0, .int .u32 0, .int .u32 0, .int .u32 0, .int .i64 0, .int .u32 0, .int .u64 0, .int .u64 0, .int .u64 0] 31 ∧ w1.heap.size ≤ hq) :: []) (by kernel_rfl) (by kernel_rfl) ⟨fun v w2 w3 hg h => h.ch hg (fun j hj e => by have := (h.lt j hj).1; omega), fun v w2 w3 hg h => by obtain ⟨hq, e, k, b⟩ := h; exact ⟨hq, e, k.block (hg.block hq k.lt (fun e => by have : hq = g := e; omega)), b⟩, trivial⟩ (fun j W W' hg h => Rs.gr h hg) (Rs.gr hr1 ((Gr.refl _).drew))
  apply wpT_eq
  · intro W hW _
    unfold opT
    go_simp
    first | exact resT_eq_mk _ _ _ | exact ⟨Gr.refl _, rfl⟩
  simp only [Act.put, pt1, pt2, pt3]
  apply wpT_use
  · intro W hW hS hs
    have hsz : w1.heap.size ≤ W.heap.size := hW.size
    unfold opT
    go_simp
    refine resT_call ((D0.out W hS (fun k hk => Nat.lt_of_lt_of_le (HB1.out k hk) hsz)).mono ?_)
    rintro e W2 ⟨v, rfl, h1, h2, h3⟩
    exact ⟨_, rfl, ⟨Ch.of_grownBy h3 (fun j hj => by cases hj; rfl), h2⟩, h1.mono hsz⟩
  intro vt
  simp only [Act.put, pt1, pt2, pt3]
  apply wpT_eq
  · intro W hW hs
    have hvt := hs _ (.head _) (by rfl)
    have q := run_string_sl (P := Try.prog) 22 5 9 Try.underlying22 Try.underlying5 Try.underlying9 hvt.sl
    unfold opT
    go_simp
    first | exact resT_eq_mk _ _ _ | exact ⟨Gr.refl _, rfl⟩
  simp only [Act.put, pt1, pt2, pt3]
  apply wpT_eq
  · intro W hW _
    unfold opT
    go_simp
    first | exact resT_eq_mk _ _ _ | exact ⟨Gr.refl _, rfl⟩
  simp only [Act.put, pt1, pt2, pt3]
  apply wpT_useEq
  · intro W hW hS hs
    unfold opT
    go_simp
    refine resT_call ((D1.out W hS).mono ?_)
    rintro e W2 ⟨rfl, h2, h3⟩
    exact ⟨_, rfl, ⟨Ch.of_grownBy h3 (fun j hj => by cases hj; rfl), h2⟩, rfl⟩
  simp only [Act.put, pt1, pt2, pt3]
  apply wpT_eq
  · intro W hW _
    unfold opT
    go_simp
    first | exact resT_eq_mk _ _ _ | exact ⟨Gr.refl _, rfl⟩
  simp only [Act.put, pt1, pt2, pt3]
  apply wpT_ok
  · intro W hW hs
    have hsz : w1.heap.size ≤ W.heap.size := hW.size
    unfold opT
    go_simp
    exact resT_mk ((Gr.refl W).alloc _) ⟨_, rfl, CellsAt.new _ _ _, hsz⟩
  intro vq
  simp only [Act.put, pt1, pt2, pt3]
  apply wpT_nil
  intro W hW hSW hsAll
  obtain ⟨hp, rfl, khp, bhp⟩ := hsAll _ (.head _)
  clear hsAll
  have hRW : Rs W base g s2 := hSW
  have kb : CellsAt W w.heap.size [.string ⟨#[]⟩, .bool false, .slice none 0 0, .int .u32 0, .int .u32 0, .int .u32 0, .int .i64 0, .int .u32 0, .int .u64 0, .int .u64 0, .int .u64 0] 31 := HK.out.block (hW.block w.heap.size (by have := HK.out.lt; simpa using this) (by show ¬ w.heap.size = g; omega))
  have gW : w.grownBy W (some g) := grownBy_trans (gr_grown (HG1.out.trans ((Gr.refl w1).drew)) g) (Ch.grownBy hW)
  have hne1 : ¬ w.heap.size = hp := by have := HZ.out; omega
  have hne2 : ¬ hp = w.heap.size := by have := HZ.out; omega
  have c0 := khp.cell 0
  have f0 := khp.frozen 0
  have c1 := khp.cell 1
  have f1 := khp.frozen 1
  have c2 := khp.cell 2
  have f2 := khp.frozen 2
  have c3 := khp.cell 3
  have f3 := khp.frozen 3
  have c4 := khp.cell 4
  have f4 := khp.frozen 4
  have c5 := khp.cell 5
  have f5 := khp.frozen 5
  have c6 := khp.cell 6
  have f6 := khp.frozen 6
  have c7 := khp.cell 7
  have f7 := khp.frozen 7
  have c8 := khp.cell 8
  have f8 := khp.frozen 8
  have c9 := khp.cell 9
  have f9 := khp.frozen 9
  have c10 := khp.cell 10
  have f10 := khp.frozen 10
  have KF := Lib.hid ((((((((((((khp.set 0 (.string ⟨pa.toArray⟩)).set 1 (.bool false)).set 2 (.slice none 0 0)).set 3 (.int .u32 0)).set 4 (.int .u32 0)).set 5 (.int .u32 0)).set 6 (.int .i64 0)).set 7 (.int .u32 0)).set 8 (.int .u64 0)).set 9 (.int .u64 0)).set 10 (.int .u64 0)))
  have GF : Hid (W.grownBy (((((((((((W.setCell ⟨hp, 0, none⟩ (.string ⟨pa.toArray⟩)).setCell ⟨hp, 1, none⟩ (.bool false)).setCell ⟨hp, 2, none⟩ (.slice none 0 0)).setCell ⟨hp, 3, none⟩ (.int .u32 0)).setCell ⟨hp, 4, none⟩ (.int .u32 0)).setCell ⟨hp, 5, none⟩ (.int .u32 0)).setCell ⟨hp, 6, none⟩ (.int .i64 0)).setCell ⟨hp, 7, none⟩ (.int .u32 0)).setCell ⟨hp, 8, none⟩ (.int .u64 0)).setCell ⟨hp, 9, none⟩ (.int .u64 0)).setCell ⟨hp, 10, none⟩ (.int .u64 0)) (some hp)) := Lib.hid (grownBy_trans (grownBy_trans (grownBy_trans (grownBy_trans (grownBy_trans (grownBy_trans (grownBy_trans (grownBy_trans (grownBy_trans (grownBy_trans (grownBy_setCell W hp 0 (.string ⟨pa.toArray⟩)) (grownBy_setCell _ hp 1 (.bool false))) (grownBy_setCell _ hp 2 (.slice none 0 0))) (grownBy_setCell _ hp 3 (.int .u32 0))) (grownBy_setCell _ hp 4 (.int .u32 0))) (grownBy_setCell _ hp 5 (.int .u32 0))) (grownBy_setCell _ hp 6 (.int .i64 0))) (grownBy_setCell _ hp 7 (.int .u32 0))) (grownBy_setCell _ hp 8 (.int .u64 0))) (grownBy_setCell _ hp 9 (.int .u64 0))) (grownBy_setCell _ hp 10 (.int .u64 0)))
  have KB := Lib.hid kb
  have GW := Lib.hid gW
  have RW := Lib.hid hRW
  have HPS := Lib.hid khp.lt
  have BHP := Lib.hid bhp
  clear hW hSW khp kb gW hRW bhp
  simp only [List.drop_succ_cons, List.drop_zero]
  go_upto_region 2 with fail
  obtain ⟨W2, hW2⟩ : ∃ W2, W2 = (((((((((((W.setCell ⟨hp, 0, none⟩ (.string ⟨pa.toArray⟩)).setCell ⟨hp, 1, none⟩ (.bool false)).setCell ⟨hp, 2, none⟩ (.slice none 0 0)).setCell ⟨hp, 3, none⟩ (.int .u32 0)).setCell ⟨hp, 4, none⟩ (.int .u32 0)).setCell ⟨hp, 5, none⟩ (.int .u32 0)).setCell ⟨hp, 6, none⟩ (.int .i64 0)).setCell ⟨hp, 7, none⟩ (.int .u32 0)).setCell ⟨hp, 8, none⟩ (.int .u64 0)).setCell ⟨hp, 9, none⟩ (.int .u64 0)).setCell ⟨hp, 10, none⟩ (.int .u64 0)) := ⟨_, rfl⟩
  rw [← hW2] at KF GF ⊢
  simp only [List.set_cons_zero, List.set_cons_succ] at KF
  have K2 : Hid (CellsAt W2 hp [.string ⟨pa.toArray⟩, .bool false, .slice none 0 0, .int .u32 0, .int .u32 0, .int .u32 0, .int .i64 0, .int .u32 0, .int .u64 0, .int .u64 0, .int .u64 0] 31) := KF
  have KB2 := Lib.hid (KB.out.other GF.out (fun e => by injection e with e; exact hne2 e))
  have G2 := Lib.hid (grown_new GW.out GF.out (by have := HZ.out; have := BHP.out; omega))
  have R2 := Lib.hid (rs_new RW.out GF.out (fun h => by have := hb _ h; have := HZ.out; have := BHP.out; omega))
  have HPS2 : Hid (hp < W2.heap.size) := Lib.hid (Nat.lt_of_lt_of_le HPS.out GF.out.size)
  clear c0 f0 c1 f1 c2 f2 c3 f3 c4 f4 c5 f5 c6 f6 c7 f7 c8 f8 c9 f9 c10 f10 hW2 KF GF KB GW RW HPS
  have y1 := K2.out.cell 1
  have hsz2 : w.heap.size ≤ W2.heap.size := G2.out.size
  go_wp2_with fail
  refine (D2.out _ R2.out (fun j hj => Nat.lt_of_lt_of_le (hb j hj) hsz2)).mono ?_
  rintro e W3 ⟨vn, rfl, ⟨dv, rfl, sdv⟩, hr3, hg3⟩
  dsimp only [nodeCells] at sdv ⊢
  obtain ⟨ad, cd, rfl⟩ := sdv.1.oneCells
  have K3 := Lib.hid (K2.out.other hg3 (fun e => by injection e with e; have := HZ.out; have := BHP.out; omega))
  have KB3 := Lib.hid (KB2.out.other hg3 (fun e => by injection e with e; omega))
  have G3 := Lib.hid (grownBy_trans G2.out hg3)
  have R3 := Lib.hid hr3
  have SD := Lib.hid sdv
  have HPS3 := Lib.hid (Nat.lt_of_lt_of_le HPS2.out hg3.size)
  clear K2 KB2 G2 R2 y1 hr3 hg3 sdv hsz2
  have y0 := K3.out.cell 0
  have y1 := K3.out.cell 1
  have y2 := K3.out.cell 2
  have y3 := K3.out.cell 3
  have y4 := K3.out.cell 4
  have y5 := K3.out.cell 5
  have y6 := K3.out.cell 6
  have y7 := K3.out.cell 7
  have y8 := K3.out.cell 8
  have y9 := K3.out.cell 9
  have y10 := K3.out.cell 10
  have fy2 := K3.out.frozen 2
  have fy3 := K3.out.frozen 3
  have fy4 := K3.out.frozen 4
  have fy5 := K3.out.frozen 5
  have fy6 := K3.out.frozen 6
  have fy7 := K3.out.frozen 7
  have fy8 := K3.out.frozen 8
  have fy9 := K3.out.frozen 9
  have fy10 := K3.out.frozen 10
  go_upto_region 4 with fail
  obtain ⟨W4, hW4⟩ : ∃ W4, W4 = (((((((((W3.setCell ⟨hp, 2, none⟩ (.slice ad (bytes da).length cd)).setCell ⟨hp, 3, none⟩ (.int .u32 (ve : Int))).setCell ⟨hp, 4, none⟩ (.int .u32 (ki : Int))).setCell ⟨hp, 5, none⟩ (.int .u32 (ne : Int))).setCell ⟨hp, 6, none⟩ (.int .i64 si)).setCell ⟨hp, 7, none⟩ (.int .u32 (nn : Int))).setCell ⟨hp, 8, none⟩ (.int .u64 (ma : Int))).setCell ⟨hp, 9, none⟩ (.int .u64 (ch : Int))).setCell ⟨hp, 10, none⟩ (.int .u64 (tu : Int))) := ⟨_, rfl⟩
  have KF4 := (((((((((K3.out.set 2 (.slice ad (bytes da).length cd)).set 3 (.int .u32 (ve : Int))).set 4 (.int .u32 (ki : Int))).set 5 (.int .u32 (ne : Int))).set 6 (.int .i64 si)).set 7 (.int .u32 (nn : Int))).set 8 (.int .u64 (ma : Int))).set 9 (.int .u64 (ch : Int))).set 10 (.int .u64 (tu : Int)))
  have GF4 : W3.grownBy (((((((((W3.setCell ⟨hp, 2, none⟩ (.slice ad (bytes da).length cd)).setCell ⟨hp, 3, none⟩ (.int .u32 (ve : Int))).setCell ⟨hp, 4, none⟩ (.int .u32 (ki : Int))).setCell ⟨hp, 5, none⟩ (.int .u32 (ne : Int))).setCell ⟨hp, 6, none⟩ (.int .i64 si)).setCell ⟨hp, 7, none⟩ (.int .u32 (nn : Int))).setCell ⟨hp, 8, none⟩ (.int .u64 (ma : Int))).setCell ⟨hp, 9, none⟩ (.int .u64 (ch : Int))).setCell ⟨hp, 10, none⟩ (.int .u64 (tu : Int))) (some hp) := (grownBy_trans (grownBy_trans (grownBy_trans (grownBy_trans (grownBy_trans (grownBy_trans (grownBy_trans (grownBy_trans (grownBy_setCell W3 hp 2 (.slice ad (bytes da).length cd)) (grownBy_setCell _ hp 3 (.int .u32 (ve : Int)))) (grownBy_setCell _ hp 4 (.int .u32 (ki : Int)))) (grownBy_setCell _ hp 5 (.int .u32 (ne : Int)))) (grownBy_setCell _ hp 6 (.int .i64 si))) (grownBy_setCell _ hp 7 (.int .u32 (nn : Int)))) (grownBy_setCell _ hp 8 (.int .u64 (ma : Int)))) (grownBy_setCell _ hp 9 (.int .u64 (ch : Int)))) (grownBy_setCell _ hp 10 (.int .u64 (tu : Int))))
  rw [← hW4] at KF4 GF4 ⊢
  simp only [List.set_cons_zero, List.set_cons_succ] at KF4
  have K4 : Hid (CellsAt W4 hp [.string ⟨pa.toArray⟩, .bool false, .slice ad (bytes da).length cd, .int .u32 (ve : Int), .int .u32 (ki : Int), .int .u32 (ne : Int), .int .i64 si, .int .u32 (nn : Int), .int .u64 (ma : Int), .int .u64 (ch : Int), .int .u64 (tu : Int)] 31) := Lib.hid KF4
  have KB4 := Lib.hid (KB3.out.other GF4 (fun e => by injection e with e; exact hne2 e))
  have G4 := Lib.hid (grown_new G3.out GF4 (by have := HZ.out; have := BHP.out; omega))
  have R4 := Lib.hid (rs_new R3.out GF4 (fun h => by have := hb _ h; have := HZ.out; have := BHP.out; omega))
  have SD4 : Hid (SlP (fun j => w.heap.size ≤ j ∧ j ≠ w.heap.size) W4 (.slice ad (bytes da).length cd) (bytes da)) := Lib.hid (by
    have h1 : SlP (fun j => W2.heap.size ≤ j) W3 (.slice ad (bytes da).length cd) (bytes da) := SD.out
    have h2 := h1.keep (Keep.of_grown GF4 (fun h => by have := HPS2.out; omega))
    exact h2.mono fun k hk => by have := HPS2.out; have := HZ.out; have := BHP.out; exact ⟨by omega, by omega⟩)
  clear hW4 KF4 GF4 K3 KB3 G3 R3 SD HPS3 y0 y1 y2 y3 y4 y5 y6 y7 y8 y9 y10 fy2 fy3 fy4 fy5 fy6 fy7 fy8 fy9 fy10
  have y0 := K4.out.cell 0
  have b0 := KB4.out.cell 0
  have fb0 := KB4.out.frozen 0
  have y1 := K4.out.cell 1
  have b1 := KB4.out.cell 1
  have fb1 := KB4.out.frozen 1
  have y2 := K4.out.cell 2
  have b2 := KB4.out.cell 2
  have fb2 := KB4.out.frozen 2
  have y3 := K4.out.cell 3
  have b3 := KB4.out.cell 3
  have fb3 := KB4.out.frozen 3
  have y4 := K4.out.cell 4
  have b4 := KB4.out.cell 4
  have fb4 := KB4.out.frozen 4
  have y5 := K4.out.cell 5
  have b5 := KB4.out.cell 5
  have fb5 := KB4.out.frozen 5
  have y6 := K4.out.cell 6
  have b6 := KB4.out.cell 6
  have fb6 := KB4.out.frozen 6
  have y7 := K4.out.cell 7
  have b7 := KB4.out.cell 7
  have fb7 := KB4.out.frozen 7
  have y8 := K4.out.cell 8
  have b8 := KB4.out.cell 8
  have fb8 := KB4.out.frozen 8
  have y9 := K4.out.cell 9
  have b9 := KB4.out.cell 9
  have fb9 := KB4.out.frozen 9
  have y10 := K4.out.cell 10
  have b10 := KB4.out.cell 10
  have fb10 := KB4.out.frozen 10
  have kf := (((((((((((KB4.out.set 0 (.string ⟨pa.toArray⟩)).set 1 (.bool false)).set 2 (.slice ad (bytes da).length cd)).set 3 (.int .u32 (ve : Int))).set 4 (.int .u32 (ki : Int))).set 5 (.int .u32 (ne : Int))).set 6 (.int .i64 si)).set 7 (.int .u32 (nn : Int))).set 8 (.int .u64 (ma : Int))).set 9 (.int .u64 (ch : Int))).set 10 (.int .u64 (tu : Int)))
  have gf : W4.grownBy (((((((((((W4.setCell ⟨w.heap.size, 0, none⟩ (.string ⟨pa.toArray⟩)).setCell ⟨w.heap.size, 1, none⟩ (.bool false)).setCell ⟨w.heap.size, 2, none⟩ (.slice ad (bytes da).length cd)).setCell ⟨w.heap.size, 3, none⟩ (.int .u32 (ve : Int))).setCell ⟨w.heap.size, 4, none⟩ (.int .u32 (ki : Int))).setCell ⟨w.heap.size, 5, none⟩ (.int .u32 (ne : Int))).setCell ⟨w.heap.size, 6, none⟩ (.int .i64 si)).setCell ⟨w.heap.size, 7, none⟩ (.int .u32 (nn : Int))).setCell ⟨w.heap.size, 8, none⟩ (.int .u64 (ma : Int))).setCell ⟨w.heap.size, 9, none⟩ (.int .u64 (ch : Int))).setCell ⟨w.heap.size, 10, none⟩ (.int .u64 (tu : Int))) (some w.heap.size) := (grownBy_trans (grownBy_trans (grownBy_trans (grownBy_trans (grownBy_trans (grownBy_trans (grownBy_trans (grownBy_trans (grownBy_trans (grownBy_trans (grownBy_setCell W4 w.heap.size 0 (.string ⟨pa.toArray⟩)) (grownBy_setCell _ w.heap.size 1 (.bool false))) (grownBy_setCell _ w.heap.size 2 (.slice ad (bytes da).length cd))) (grownBy_setCell _ w.heap.size 3 (.int .u32 (ve : Int)))) (grownBy_setCell _ w.heap.size 4 (.int .u32 (ki : Int)))) (grownBy_setCell _ w.heap.size 5 (.int .u32 (ne : Int)))) (grownBy_setCell _ w.heap.size 6 (.int .i64 si))) (grownBy_setCell _ w.heap.size 7 (.int .u32 (nn : Int)))) (grownBy_setCell _ w.heap.size 8 (.int .u64 (ma : Int)))) (grownBy_setCell _ w.heap.size 9 (.int .u64 (ch : Int)))) (grownBy_setCell _ w.heap.size 10 (.int .u64 (tu : Int))))
  have SF := (SD4.out.keep (Keep.of_grown gf (fun h => h.2 rfl))).mono (Q := From w.heap.size) (fun k hk => hk.1)
  have x0 := kf.cell 0
  have x1 := kf.cell 1
  have x2 := kf.cell 2
  have x3 := kf.cell 3
  have x4 := kf.cell 4
  have x5 := kf.cell 5
  have x6 := kf.cell 6
  have x7 := kf.cell 7
  have x8 := kf.cell 8
  have x9 := kf.cell 9
  have x10 := kf.cell 10
  simp only [List.set_cons_zero, List.set_cons_succ, List.getElem?_cons_zero, List.getElem?_cons_succ] at x0 x1 x2 x3 x4 x5 x6 x7 x8 x9 x10
  clear kf
  go_wp2
  exact bodyPost_ret (v := .agg #[.string ⟨pa.toArray⟩, .bool false, .slice ad (bytes da).length cd, .int .u32 (ve : Int), .int .u32 (ki : Int), .int .u32 (ne : Int), .int .i64 si, .int .u32 (nn : Int), .int .u64 (ma : Int), .int .u64 (ch : Int), .int .u64 (tu : Int)]) (by simp [results, Try.f80, go_sem, x0, x1, x2, x3, x4, x5, x6, x7, x8, x9, x10]) rfl ⟨_, rfl, ⟨_, rfl, SF⟩, rs_new R4.out gf hnb, grown_new G4.out gf (Nat.le_refl _)⟩
theorem getEff_any (w : World) (base : Nat → Prop) (g : Nat) (s : RS) (hr : Rs w base g s) (hb : ∀ k, base k → k < w.heap.size) (hl : s.1.length ≤ 1000000000) :
    Calls Try.prog 80 #[.pointer (some ⟨g, 0, none⟩)] w (GotP w base g (EffIs w.heap.size (rEff s).1) (rEff s).2) := by
  cases h : (rFlag (rTextM 64 s).2).1 with
  | true => exact getEff_true w base g s hr hb hl h
  | false => exact getEff_false w base g s hr hb hl h
end Go.Proofs.Ytiemgmbjhllmbaa
