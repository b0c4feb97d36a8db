/-
  Package entry: what reads operations.
-/
import Derived.Test.YtiemgmbjhllmbaaYEnGetJ
set_option linter.unusedVariables false
set_option maxRecDepth 100000
namespace Go.Proofs.Ytiemgmbjhllmbaa
open Go.RowKit
def OpIs (B : Nat) (o : OpD) (v : Value) (W : World) : Prop := ∃ dv pv, v = .agg (opCells o.h dv pv).toArray ∧ OpP (From B) W o dv pv
def stO (a b c d e f h : RS) : Nat → RS
  | 0 => a
  | 1 => b
  | 2 => c
  | 3 => d
  | 4 => e
  | 5 => f
  | _ => h
theorem Own.ne_cells {w : World} {base : Nat} {e t : TypeId} {v : Value} {xs : List Value} {b : Nat} {cs : List Value} (h : Own w base e v xs) (k : CellsAt w b cs t) (hne : e ≠ t) (j : Nat) (hj : v.ownBlock = some j) : j ≠ b := by
  rintro rfl
  rcases h.2 with ⟨rfl, _⟩ | ⟨g, cap, cur, rfl, _, hh, _⟩
  · cases hj
  · injection hj with hj
    subst hj
    unfold CellsAt at k
    rw [k] at hh
    injection hh with hh
    injection hh with _ hh
    exact hne hh.symm
theorem OpsP.mono {P Q : Nat → Prop} {w : World} {v : Value} {ps : List OpD} (h : OpsP P w v ps) (hq : ∀ k, P k → Q k) : OpsP Q w v ps := by
  obtain ⟨R, D, Qq, h2, h3, h4⟩ := h
  exact ⟨R, D, Qq, h2.mono hq, fun i hi => (h3 i hi).mono hq, h4⟩
set_option maxHeartbeats 4000000 in
theorem getOp_true_true (m : Nat) (hm : m ≤ 1000) (w : World) (base : Nat → Prop) (g : Nat) (s : RS) (hr : Rs w base g s) (hb : ∀ k, base k → k < w.heap.size) (hl : s.1.length ≤ 1000000000) (ps : List OpD) (s7 : RS)
    (hlist : ∀ W, Rs W base g (rHead s).2 → (∀ k, base k → k < W.heap.size) → Calls Try.prog 73 #[.pointer (some ⟨g, 0, none⟩), .int .i64 (m : Int), .func (.func 74) #[] #[]] W (GotP W base g (fun v V => OpsP (From W.heap.size) V v ps) s7)) (h1 : (rHead s).1.seq = true) (h2 : (rHead s).1.eph = true) :
    Calls Try.prog 30 #[.pointer (some ⟨g, 0, none⟩), .int .i64 (m : Int)] w (GotP w base g (OpIs w.heap.size (.mk (rHead s).1 ps)) s7) := by
  obtain ⟨s1, hs1⟩ : ∃ s1, s1 = (rByte s).2 := ⟨_, rfl⟩
  obtain ⟨s2, hs2⟩ : ∃ s2, s2 = (rTextM 64 s1).2 := ⟨_, rfl⟩
  obtain ⟨s3, hs3⟩ : ∃ s3, s3 = (rTextM 64 s2).2 := ⟨_, rfl⟩
  obtain ⟨s4, hs4⟩ : ∃ s4, s4 = (rUint s3).2 := ⟨_, rfl⟩
  obtain ⟨s5, hs5⟩ : ∃ s5, s5 = (rFlag s4).2 := ⟨_, rfl⟩
  obtain ⟨s6, hs6⟩ : ∃ s6, s6 = (rFlag s5).2 := ⟨_, rfl⟩
  have e0 : rHead s = (⟨(rByte s).1, (rTextM 64 s1).1, (rTextM 64 s2).1, i64 (rUint s3).1, (rFlag s4).1, (rFlag s5).1⟩, s6) := by
    rw [hs6, hs5, hs4, hs3, hs2, hs1]; rfl
  have l1 : s1.1.length ≤ 1000000000 := by rw [hs1]; exact Nat.le_trans (rByte_left s) hl
  have l2 : s2.1.length ≤ 1000000000 := by rw [hs2]; exact Nat.le_trans (left_text 64 s1) l1
  have l3 : s3.1.length ≤ 1000000000 := by rw [hs3]; exact Nat.le_trans (left_text 64 s2) l2
  have l4 : s4.1.length ≤ 1000000000 := by rw [hs4]; exact Nat.le_trans (rUint_left s3) l3
  have l5 : s5.1.length ≤ 1000000000 := by rw [hs5]; exact Nat.le_trans (left_flag s4) l4
  rw [e0] at h1 h2 hlist
  dsimp only at h1 h2 hlist
  have C0 := fun W h => get_byte W base g s h hl
  have C1 := fun W h hb => text_get W base g 64 s1 h hb l1
  have C2 := fun W h hb => text_get W base g 64 s2 h hb l2
  have C3 := fun W h => get_int W base g s3 h l3
  have C4 := fun W h => flagged_any W base g s4 h l4
  have C5 := fun W h => flagged_any W base g s5 h l5
  rw [← hs1] at C0
  rw [← hs2] at C1
  rw [← hs3] at C2
  rw [← hs4] at C3
  rw [h1, ← hs5] at C4
  rw [h2, ← hs6] at C5
  rw [e0, h1, h2]
  clear e0 hs1 hs2 hs3 hs4 hs5 hs6 l1 l2 l3 l4 l5 h1 h2
  obtain ⟨ki, hki⟩ : ∃ ki, ki = (rByte s).1 := ⟨_, rfl⟩
  obtain ⟨pa, hpa⟩ : ∃ pa, pa = (rTextM 64 s1).1 := ⟨_, rfl⟩
  obtain ⟨da, hda⟩ : ∃ da, da = (rTextM 64 s2).1 := ⟨_, rfl⟩
  obtain ⟨ve, hve⟩ : ∃ ve, ve = i64 (rUint s3).1 := ⟨_, rfl⟩
  rw [← hki] at C0
  rw [← hpa] at C1
  rw [← hda] at C2
  rw [← hve] at C3
  rw [← hki, ← hpa, ← hda, ← hve]
  clear hki hpa hda hve
  have D0 := Lib.hid C0
  have D1 := Lib.hid C1
  have D2 := Lib.hid C2
  have D3 := Lib.hid C3
  have D4 := Lib.hid C4
  have D5 := Lib.hid C5
  have D6 := Lib.hid hlist
  clear C0 C1 C2 C3 C4 C5 hlist
  obtain ⟨w1, hw1⟩ : ∃ w1, w1 = w.alloc (.cells #[.int .u8 0, .string ⟨#[]⟩, .slice none 0 0, .int .i64 0, .bool false, .bool false, .slice none 0 0] 37) := ⟨_, rfl⟩
  have g1 : Gr w w1 := by rw [hw1]; exact (Gr.refl w).alloc _
  have z1 : w1.heap.size = w.heap.size + 1 := by rw [hw1]; simp
  have k1 : CellsAt w1 w.heap.size [.int .u8 0, .string ⟨#[]⟩, .slice none 0 0, .int .i64 0, .bool false, .bool false, .slice none 0 0] 37 := by rw [hw1]; exact CellsAt.new _ _ _
  have hr1 := Rs.gr hr g1
  have hgl := hr.lt
  have hnb : ¬ base w.heap.size := fun h => Nat.lt_irrefl _ (hb _ h)
  have hb1 : ∀ k, base k → k < w1.heap.size := fun k hk => by have := hb k hk; omega
  have HW := Lib.hid hw1
  have HZ := Lib.hid z1
  have HK := Lib.hid k1
  have HG1 := Lib.hid g1
  have hgl1 : g < w1.heap.size := by omega
  have HB1 := Lib.hid hb1
  clear hw1 hr z1 k1 g1 hb1
  go_enter Try.func30, Try.ntmps30
  go_wp2_with fail
  rw [← HW.out]
  apply wp_region_draw_turnTail 15 (fun j => j = g) (fun j W => Rs W base g (stO s s1 s2 s3 s4 s5 s6 j)) (.eq _ :: .useEq (.int .u8 (ki : Int)) :: .eq _ :: .use (fun v W => Own W w1.heap.size 5 v (bytes pa)) :: .eq _ :: .eq _ :: .use (fun v W => Own W w1.heap.size 5 v (bytes da)) :: .eq _ :: .useEq (.int .i64 ve) :: .eq _ :: .useEq (.bool true) :: .eq _ :: .useEq (.bool true) :: .ok (fun v W => ∃ dv, v = .agg #[.int .u8 (ki : Int), .string ⟨pa.toArray⟩, dv, .int .i64 ve, .bool true, .bool true, .slice none 0 0] ∧ Own W w1.heap.size 5 dv (bytes da)) :: .ok (fun v W => ∃ hq, v = .pointer (some ⟨hq, 0, none⟩) ∧ CellsAt W hq [.int .u8 0, .string ⟨#[]⟩, .slice none 0 0, .int .i64 0, .bool false, .bool false, .slice none 0 0] 37 ∧ w1.heap.size ≤ hq) :: []) (by kernel_rfl) (by kernel_rfl) ⟨fun v w2 w3 hg h => h.ch hg (fun j hj e => by have := (h.lt j hj).1; omega), fun v w2 w3 hg h => h.ch hg (fun j hj e => by have := (h.lt j hj).1; omega), fun v w2 w3 hg h => by obtain ⟨dv, e, h⟩ := h; exact ⟨dv, e, h.ch hg (fun j hj e => by have := (h.lt j hj).1; omega)⟩, fun v w2 w3 hg h => by obtain ⟨hq, e, k, b⟩ := h; exact ⟨hq, e, k.block (hg.block hq k.lt (fun e => by have : hq = g := e; omega)), b⟩, trivial⟩ (fun j W W' hg h => Rs.gr h hg) (Rs.gr hr1 ((Gr.refl _).drew))
  apply wpT_eq
  · intro W hW _
    unfold opT
    go_simp
    first | exact resT_eq_mk _ _ _ | exact ⟨Gr.refl _, rfl⟩
  simp only [Act.put, pt1, pt2, pt3]
  apply wpT_useEq
  · intro W hW hS hs
    unfold opT
    go_simp
    refine resT_call ((D0.out W hS).mono ?_)
    rintro e W2 ⟨rfl, h2, h3⟩
    exact ⟨_, rfl, ⟨Ch.of_grownBy h3 (fun j hj => by cases hj; rfl), h2⟩, rfl⟩
  simp only [Act.put, pt1, pt2, pt3]
  apply wpT_eq
  · intro W hW _
    unfold opT
    go_simp
    first | exact resT_eq_mk _ _ _ | exact ⟨Gr.refl _, rfl⟩
  simp only [Act.put, pt1, pt2, pt3]
  apply wpT_use
  · intro W hW hS hs
    have hsz : w1.heap.size ≤ W.heap.size := hW.size
    unfold opT
    go_simp
    refine resT_call ((D1.out W hS (fun k hk => Nat.lt_of_lt_of_le (HB1.out k hk) hsz)).mono ?_)
    rintro e W2 ⟨v, rfl, h1, h2, h3⟩
    exact ⟨_, rfl, ⟨Ch.of_grownBy h3 (fun j hj => by cases hj; rfl), h2⟩, h1.mono hsz⟩
  intro vp
  simp only [Act.put, pt1, pt2, pt3]
  apply wpT_eq
  · intro W hW hs
    have hvt := hs _ (.head _) (by rfl)
    have q := run_string_sl (P := Try.prog) 22 5 9 Try.underlying22 Try.underlying5 Try.underlying9 hvt.sl
    unfold opT
    go_simp
    first | exact resT_eq_mk _ _ _ | exact ⟨Gr.refl _, rfl⟩
  simp only [Act.put, pt1, pt2, pt3]
  apply wpT_eq
  · intro W hW _
    unfold opT
    go_simp
    first | exact resT_eq_mk _ _ _ | exact ⟨Gr.refl _, rfl⟩
  simp only [Act.put, pt1, pt2, pt3]
  apply wpT_use
  · intro W hW hS hs
    have hsz : w1.heap.size ≤ W.heap.size := hW.size
    unfold opT
    go_simp
    refine resT_call ((D2.out W hS (fun k hk => Nat.lt_of_lt_of_le (HB1.out k hk) hsz)).mono ?_)
    rintro e W2 ⟨v, rfl, h1, h2, h3⟩
    exact ⟨_, rfl, ⟨Ch.of_grownBy h3 (fun j hj => by cases hj; rfl), h2⟩, h1.mono hsz⟩
  intro vd
  simp only [Act.put, pt1, pt2, pt3]
  apply wpT_eq
  · intro W hW _
    unfold opT
    go_simp
    first | exact resT_eq_mk _ _ _ | exact ⟨Gr.refl _, rfl⟩
  simp only [Act.put, pt1, pt2, pt3]
  apply wpT_useEq
  · intro W hW hS hs
    unfold opT
    go_simp
    refine resT_call ((D3.out W hS).mono ?_)
    rintro e W2 ⟨rfl, h2, h3⟩
    exact ⟨_, rfl, ⟨Ch.of_grownBy h3 (fun j hj => by cases hj; rfl), h2⟩, rfl⟩
  simp only [Act.put, pt1, pt2, pt3]
  apply wpT_eq
  · intro W hW _
    unfold opT
    go_simp
    first | exact resT_eq_mk _ _ _ | exact ⟨Gr.refl _, rfl⟩
  simp only [Act.put, pt1, pt2, pt3]
  apply wpT_useEq
  · intro W hW hS hs
    unfold opT
    go_simp
    refine resT_call ((D4.out W hS).mono ?_)
    rintro e W2 ⟨rfl, h2, h3⟩
    exact ⟨_, rfl, ⟨Ch.of_grownBy h3 (fun j hj => by cases hj; rfl), h2⟩, rfl⟩
  simp only [Act.put, pt1, pt2, pt3]
  apply wpT_eq
  · intro W hW _
    unfold opT
    go_simp
    first | exact resT_eq_mk _ _ _ | exact ⟨Gr.refl _, rfl⟩
  simp only [Act.put, pt1, pt2, pt3]
  apply wpT_useEq
  · intro W hW hS hs
    unfold opT
    go_simp
    refine resT_call ((D5.out W hS).mono ?_)
    rintro e W2 ⟨rfl, h2, h3⟩
    exact ⟨_, rfl, ⟨Ch.of_grownBy h3 (fun j hj => by cases hj; rfl), h2⟩, rfl⟩
  simp only [Act.put, pt1, pt2, pt3]
  apply wpT_ok
  · intro W hW hs
    have hvd := hs _ (.head _) (by rfl)
    obtain ⟨ad, cd, rfl⟩ := hvd.shape
    unfold opT
    go_simp
    exact resT_mk (Gr.refl W) ⟨_, rfl, hvd⟩
  intro vb
  simp only [Act.put, pt1, pt2, pt3]
  apply wpT_ok
  · intro W hW hs
    have hsz : w1.heap.size ≤ W.heap.size := hW.size
    unfold opT
    go_simp
    exact resT_mk ((Gr.refl W).alloc _) ⟨_, rfl, CellsAt.new _ _ _, hsz⟩
  intro vq
  simp only [Act.put, pt1, pt2, pt3]
  apply wpT_nil
  intro W hW hSW hsAll
  obtain ⟨hp, rfl, khp, bhp⟩ := hsAll _ (.head _)
  obtain ⟨dv, rfl, odv⟩ := hsAll _ (.tail _ (.head _))
  obtain ⟨ad, cd, rfl⟩ := odv.shape
  clear hsAll
  have hRW : Rs W base g s6 := hSW
  have kb : CellsAt W w.heap.size [.int .u8 0, .string ⟨#[]⟩, .slice none 0 0, .int .i64 0, .bool false, .bool false, .slice none 0 0] 37 := HK.out.block (hW.block w.heap.size (by have := HK.out.lt; simpa using this) (by show ¬ w.heap.size = g; omega))
  have gW : w.grownBy W (some g) := grownBy_trans (gr_grown (HG1.out.trans ((Gr.refl w1).drew)) g) (Ch.grownBy hW)
  have hne1 : ¬ w.heap.size = hp := by have := HZ.out; omega
  have hne2 : ¬ hp = w.heap.size := by have := HZ.out; omega
  have hnehp := odv.ne_cells khp (by decide)
  have sdv : SlP (fun j => w1.heap.size ≤ j ∧ j ≠ hp) W (.slice ad (bytes da).length cd) (bytes da) := ⟨odv.sl, .inr fun j hj => ⟨odv.ownBlock_ge j hj, hnehp j hj⟩⟩
  have c0 := khp.cell 0
  have f0 := khp.frozen 0
  have c1 := khp.cell 1
  have f1 := khp.frozen 1
  have c2 := khp.cell 2
  have f2 := khp.frozen 2
  have c3 := khp.cell 3
  have f3 := khp.frozen 3
  have c4 := khp.cell 4
  have f4 := khp.frozen 4
  have c5 := khp.cell 5
  have f5 := khp.frozen 5
  have c6 := khp.cell 6
  have f6 := khp.frozen 6
  have KF := Lib.hid ((((((((khp.set 0 (.int .u8 (ki : Int))).set 1 (.string ⟨pa.toArray⟩)).set 2 (.slice ad (bytes da).length cd)).set 3 (.int .i64 ve)).set 4 (.bool true)).set 5 (.bool true)).set 6 (.slice none 0 0)))
  have GF : Hid (W.grownBy (((((((W.setCell ⟨hp, 0, none⟩ (.int .u8 (ki : Int))).setCell ⟨hp, 1, none⟩ (.string ⟨pa.toArray⟩)).setCell ⟨hp, 2, none⟩ (.slice ad (bytes da).length cd)).setCell ⟨hp, 3, none⟩ (.int .i64 ve)).setCell ⟨hp, 4, none⟩ (.bool true)).setCell ⟨hp, 5, none⟩ (.bool true)).setCell ⟨hp, 6, none⟩ (.slice none 0 0)) (some hp)) := Lib.hid (grownBy_trans (grownBy_trans (grownBy_trans (grownBy_trans (grownBy_trans (grownBy_trans (grownBy_setCell W hp 0 (.int .u8 (ki : Int))) (grownBy_setCell _ hp 1 (.string ⟨pa.toArray⟩))) (grownBy_setCell _ hp 2 (.slice ad (bytes da).length cd))) (grownBy_setCell _ hp 3 (.int .i64 ve))) (grownBy_setCell _ hp 4 (.bool true))) (grownBy_setCell _ hp 5 (.bool true))) (grownBy_setCell _ hp 6 (.slice none 0 0)))
  have KB := Lib.hid kb
  have GW := Lib.hid gW
  have RW := Lib.hid hRW
  have SDV := Lib.hid sdv
  have HPS := Lib.hid khp.lt
  have BHP := Lib.hid bhp
  clear hW hSW khp kb gW hRW bhp sdv odv hnehp
  simp only [List.drop_succ_cons, List.drop_zero]
  go_upto_region 2 with fail
  obtain ⟨W2, hW2⟩ : ∃ W2, W2 = (((((((W.setCell ⟨hp, 0, none⟩ (.int .u8 (ki : Int))).setCell ⟨hp, 1, none⟩ (.string ⟨pa.toArray⟩)).setCell ⟨hp, 2, none⟩ (.slice ad (bytes da).length cd)).setCell ⟨hp, 3, none⟩ (.int .i64 ve)).setCell ⟨hp, 4, none⟩ (.bool true)).setCell ⟨hp, 5, none⟩ (.bool true)).setCell ⟨hp, 6, none⟩ (.slice none 0 0)) := ⟨_, rfl⟩
  rw [← hW2] at KF GF ⊢
  simp only [List.set_cons_zero, List.set_cons_succ] at KF
  have K2 : Hid (CellsAt W2 hp [.int .u8 (ki : Int), .string ⟨pa.toArray⟩, .slice ad (bytes da).length cd, .int .i64 ve, .bool true, .bool true, .slice none 0 0] 37) := KF
  have KB2 := Lib.hid (KB.out.other GF.out (fun e => by injection e with e; exact hne2 e))
  have G2 := Lib.hid (grown_new GW.out GF.out (by have := HZ.out; have := BHP.out; omega))
  have R2 := Lib.hid (rs_new RW.out GF.out (fun h => by have := hb _ h; have := HZ.out; have := BHP.out; omega))
  have SD2 := Lib.hid (SDV.out.keep (Keep.of_grown GF.out (fun h => h.2 rfl)))
  have HPS2 : Hid (hp < W2.heap.size) := Lib.hid (Nat.lt_of_lt_of_le HPS.out GF.out.size)
  clear c0 f0 c1 f1 c2 f2 c3 f3 c4 f4 c5 f5 c6 f6 hW2 KF GF KB GW RW HPS SDV
  have hsz2 : w.heap.size ≤ W2.heap.size := G2.out.size
  go_wp2_with fail
  refine (D6.out _ R2.out (fun j hj => Nat.lt_of_lt_of_le (hb j hj) hsz2)).mono ?_
  rintro e W3 ⟨pv, rfl, spv, hr3, hg3⟩
  obtain ⟨ap, ac, rfl⟩ := spv.shape
  have K3 := Lib.hid (K2.out.other hg3 (fun e => by injection e with e; have := HZ.out; have := BHP.out; omega))
  have KB3 := Lib.hid (KB2.out.other hg3 (fun e => by injection e with e; omega))
  have G3 := Lib.hid (grownBy_trans G2.out hg3)
  have R3 := Lib.hid hr3
  have SD3 := Lib.hid (SD2.out.keep (Keep.of_grown hg3 (fun h => by have := h.1; omega)))
  have SP := Lib.hid spv
  clear K2 KB2 G2 R2 hr3 hg3 spv hsz2 SD2
  have y6 := K3.out.cell 6
  have fy6 := K3.out.frozen 6
  go_upto_region 3 with fail
  have kf := K3.out.set 6 (.slice ap ps.length ac)
  have gf := grownBy_setCell W3 hp 6 (.slice ap ps.length ac)
  obtain ⟨W4, hW4⟩ : ∃ W4, W4 = W3.setCell ⟨hp, 6, none⟩ (.slice ap ps.length ac) := ⟨_, rfl⟩
  rw [← hW4] at kf gf ⊢
  simp only [List.set_cons_zero, List.set_cons_succ] at kf
  have K4 : Hid (CellsAt W4 hp [.int .u8 (ki : Int), .string ⟨pa.toArray⟩, .slice ad (bytes da).length cd, .int .i64 ve, .bool true, .bool true, .slice ap ps.length ac] 37) := Lib.hid kf
  have KB4 := Lib.hid (KB3.out.other gf (fun e => by injection e with e; exact hne2 e))
  have G4 := Lib.hid (grown_new G3.out gf (by have := HZ.out; have := BHP.out; omega))
  have R4 := Lib.hid (rs_new R3.out gf (fun h => by have := hb _ h; have := HZ.out; have := BHP.out; omega))
  have SD4 := Lib.hid (SD3.out.keep (Keep.of_grown gf (fun h => h.2 rfl)))
  have SP4 : Hid (OpsP (fun j => w1.heap.size ≤ j) W4 (.slice ap ps.length ac) ps) := Lib.hid ((SP.out.keep (Keep.of_grown gf (fun h => by have h1 : W2.heap.size ≤ hp := h; have := HPS2.out; omega))).mono (fun j hj => by have h1 : W2.heap.size ≤ j := hj; have := HPS2.out; have := BHP.out; omega))
  clear kf gf hW4 y6 fy6 K3 KB3 G3 R3 SD3 SP
  have y0 := K4.out.cell 0
  have b0 := KB4.out.cell 0
  have fb0 := KB4.out.frozen 0
  have y1 := K4.out.cell 1
  have b1 := KB4.out.cell 1
  have fb1 := KB4.out.frozen 1
  have y2 := K4.out.cell 2
  have b2 := KB4.out.cell 2
  have fb2 := KB4.out.frozen 2
  have y3 := K4.out.cell 3
  have b3 := KB4.out.cell 3
  have fb3 := KB4.out.frozen 3
  have y4 := K4.out.cell 4
  have b4 := KB4.out.cell 4
  have fb4 := KB4.out.frozen 4
  have y5 := K4.out.cell 5
  have b5 := KB4.out.cell 5
  have fb5 := KB4.out.frozen 5
  have y6 := K4.out.cell 6
  have b6 := KB4.out.cell 6
  have fb6 := KB4.out.frozen 6
  have kf := (((((((KB4.out.set 0 (.int .u8 (ki : Int))).set 1 (.string ⟨pa.toArray⟩)).set 2 (.slice ad (bytes da).length cd)).set 3 (.int .i64 ve)).set 4 (.bool true)).set 5 (.bool true)).set 6 (.slice ap ps.length ac))
  have gf : W4.grownBy (((((((W4.setCell ⟨w.heap.size, 0, none⟩ (.int .u8 (ki : Int))).setCell ⟨w.heap.size, 1, none⟩ (.string ⟨pa.toArray⟩)).setCell ⟨w.heap.size, 2, none⟩ (.slice ad (bytes da).length cd)).setCell ⟨w.heap.size, 3, none⟩ (.int .i64 ve)).setCell ⟨w.heap.size, 4, none⟩ (.bool true)).setCell ⟨w.heap.size, 5, none⟩ (.bool true)).setCell ⟨w.heap.size, 6, none⟩ (.slice ap ps.length ac)) (some w.heap.size) := (grownBy_trans (grownBy_trans (grownBy_trans (grownBy_trans (grownBy_trans (grownBy_trans (grownBy_setCell W4 w.heap.size 0 (.int .u8 (ki : Int))) (grownBy_setCell _ w.heap.size 1 (.string ⟨pa.toArray⟩))) (grownBy_setCell _ w.heap.size 2 (.slice ad (bytes da).length cd))) (grownBy_setCell _ w.heap.size 3 (.int .i64 ve))) (grownBy_setCell _ w.heap.size 4 (.bool true))) (grownBy_setCell _ w.heap.size 5 (.bool true))) (grownBy_setCell _ w.heap.size 6 (.slice ap ps.length ac)))
  have SF := (SD4.out.keep (Keep.of_grown gf (fun h => by have h1 := h.1; have := HZ.out; omega))).mono (Q := From w.heap.size) (fun k hk => by have h1 := hk.1; have := HZ.out; show w.heap.size ≤ k; omega)
  have PF := (SP4.out.keep (Keep.of_grown gf (fun h => by have h1 : w1.heap.size ≤ w.heap.size := h; have := HZ.out; omega))).mono (Q := From w.heap.size) (fun k hk => by have := HZ.out; show w.heap.size ≤ k; omega)
  have x0 := kf.cell 0
  have x1 := kf.cell 1
  have x2 := kf.cell 2
  have x3 := kf.cell 3
  have x4 := kf.cell 4
  have x5 := kf.cell 5
  have x6 := kf.cell 6
  simp only [List.set_cons_zero, List.set_cons_succ, List.getElem?_cons_zero, List.getElem?_cons_succ] at x0 x1 x2 x3 x4 x5 x6
  clear kf
  go_wp2
  exact bodyPost_ret (v := .agg #[.int .u8 (ki : Int), .string ⟨pa.toArray⟩, .slice ad (bytes da).length cd, .int .i64 ve, .bool true, .bool true, .slice ap ps.length ac]) (by simp [results, Try.f30, go_sem, x0, x1, x2, x3, x4, x5, x6]) rfl ⟨_, rfl, ⟨_, _, rfl, OpP.of SF PF⟩, rs_new R4.out gf hnb, grown_new G4.out gf (Nat.le_refl _)⟩
set_option maxHeartbeats 4000000 in
theorem getOp_true_false (m : Nat) (hm : m ≤ 1000) (w : World) (base : Nat → Prop) (g : Nat) (s : RS) (hr : Rs w base g s) (hb : ∀ k, base k → k < w.heap.size) (hl : s.1.length ≤ 1000000000) (ps : List OpD) (s7 : RS)
    (hlist : ∀ W, Rs W base g (rHead s).2 → (∀ k, base k → k < W.heap.size) → Calls Try.prog 73 #[.pointer (some ⟨g, 0, none⟩), .int .i64 (m : Int), .func (.func 74) #[] #[]] W (GotP W base g (fun v V => OpsP (From W.heap.size) V v ps) s7)) (h1 : (rHead s).1.seq = true) (h2 : (rHead s).1.eph = false) :
    Calls Try.prog 30 #[.pointer (some ⟨g, 0, none⟩), .int .i64 (m : Int)] w (GotP w base g (OpIs w.heap.size (.mk (rHead s).1 ps)) s7) := by
  obtain ⟨s1, hs1⟩ : ∃ s1, s1 = (rByte s).2 := ⟨_, rfl⟩
  obtain ⟨s2, hs2⟩ : ∃ s2, s2 = (rTextM 64 s1).2 := ⟨_, rfl⟩
  obtain ⟨s3, hs3⟩ : ∃ s3, s3 = (rTextM 64 s2).2 := ⟨_, rfl⟩
  obtain ⟨s4, hs4⟩ : ∃ s4, s4 = (rUint s3).2 := ⟨_, rfl⟩
  obtain ⟨s5, hs5⟩ : ∃ s5, s5 = (rFlag s4).2 := ⟨_, rfl⟩
  obtain ⟨s6, hs6⟩ : ∃ s6, s6 = (rFlag s5).2 := ⟨_, rfl⟩
  have e0 : rHead s = (⟨(rByte s).1, (rTextM 64 s1).1, (rTextM 64 s2).1, i64 (rUint s3).1, (rFlag s4).1, (rFlag s5).1⟩, s6) := by
    rw [hs6, hs5, hs4, hs3, hs2, hs1]; rfl
  have l1 : s1.1.length ≤ 1000000000 := by rw [hs1]; exact Nat.le_trans (rByte_left s) hl
  have l2 : s2.1.length ≤ 1000000000 := by rw [hs2]; exact Nat.le_trans (left_text 64 s1) l1
  have l3 : s3.1.length ≤ 1000000000 := by rw [hs3]; exact Nat.le_trans (left_text 64 s2) l2
  have l4 : s4.1.length ≤ 1000000000 := by rw [hs4]; exact Nat.le_trans (rUint_left s3) l3
  have l5 : s5.1.length ≤ 1000000000 := by rw [hs5]; exact Nat.le_trans (left_flag s4) l4
  rw [e0] at h1 h2 hlist
  dsimp only at h1 h2 hlist
  have C0 := fun W h => get_byte W base g s h hl
  have C1 := fun W h hb => text_get W base g 64 s1 h hb l1
  have C2 := fun W h hb => text_get W base g 64 s2 h hb l2
  have C3 := fun W h => get_int W base g s3 h l3
  have C4 := fun W h => flagged_any W base g s4 h l4
  have C5 := fun W h => flagged_any W base g s5 h l5
  rw [← hs1] at C0
  rw [← hs2] at C1
  rw [← hs3] at C2
  rw [← hs4] at C3
  rw [h1, ← hs5] at C4
  rw [h2, ← hs6] at C5
  rw [e0, h1, h2]
  clear e0 hs1 hs2 hs3 hs4 hs5 hs6 l1 l2 l3 l4 l5 h1 h2
  obtain ⟨ki, hki⟩ : ∃ ki, ki = (rByte s).1 := ⟨_, rfl⟩
  obtain ⟨pa, hpa⟩ : ∃ pa, pa = (rTextM 64 s1).1 := ⟨_, rfl⟩
  obtain ⟨da, hda⟩ : ∃ da, da = (rTextM 64 s2).1 := ⟨_, rfl⟩
  obtain ⟨ve, hve⟩ : ∃ ve, ve = i64 (rUint s3).1 := ⟨_, rfl⟩
  rw [← hki] at C0
  rw [← hpa] at C1
  rw [← hda] at C2
  rw [← hve] at C3
  rw [← hki, ← hpa, ← hda, ← hve]
  clear hki hpa hda hve
  have D0 := Lib.hid C0
  have D1 := Lib.hid C1
  have D2 := Lib.hid C2
  have D3 := Lib.hid C3
  have D4 := Lib.hid C4
  have D5 := Lib.hid C5
  have D6 := Lib.hid hlist
  clear C0 C1 C2 C3 C4 C5 hlist
  obtain ⟨w1, hw1⟩ : ∃ w1, w1 = w.alloc (.cells #[.int .u8 0, .string ⟨#[]⟩, .slice none 0 0, .int .i64 0, .bool false, .bool false, .slice none 0 0] 37) := ⟨_, rfl⟩
  have g1 : Gr w w1 := by rw [hw1]; exact (Gr.refl w).alloc _
  have z1 : w1.heap.size = w.heap.size + 1 := by rw [hw1]; simp
  have k1 : CellsAt w1 w.heap.size [.int .u8 0, .string ⟨#[]⟩, .slice none 0 0, .int .i64 0, .bool false, .bool false, .slice none 0 0] 37 := by rw [hw1]; exact CellsAt.new _ _ _
  have hr1 := Rs.gr hr g1
  have hgl := hr.lt
  have hnb : ¬ base w.heap.size := fun h => Nat.lt_irrefl _ (hb _ h)
  have hb1 : ∀ k, base k → k < w1.heap.size := fun k hk => by have := hb k hk; omega
  have HW := Lib.hid hw1
  have HZ := Lib.hid z1
  have HK := Lib.hid k1
  have HG1 := Lib.hid g1
  have hgl1 : g < w1.heap.size := by omega
  have HB1 := Lib.hid hb1
  clear hw1 hr z1 k1 g1 hb1
  go_enter Try.func30, Try.ntmps30
  go_wp2_with fail
  rw [← HW.out]
  apply wp_region_draw_turnTail 15 (fun j => j = g) (fun j W => Rs W base g (stO s s1 s2 s3 s4 s5 s6 j)) (.eq _ :: .useEq (.int .u8 (ki : Int)) :: .eq _ :: .use (fun v W => Own W w1.heap.size 5 v (bytes pa)) :: .eq _ :: .eq _ :: .use (fun v W => Own W w1.heap.size 5 v (bytes da)) :: .eq _ :: .useEq (.int .i64 ve) :: .eq _ :: .useEq (.bool true) :: .eq _ :: .useEq (.bool false) :: .ok (fun v W => ∃ dv, v = .agg #[.int .u8 (ki : Int), .string ⟨pa.toArray⟩, dv, .int .i64 ve, .bool true, .bool false, .slice none 0 0] ∧ Own W w1.heap.size 5 dv (bytes da)) :: .ok (fun v W => ∃ hq, v = .pointer (some ⟨hq, 0, none⟩) ∧ CellsAt W hq [.int .u8 0, .string ⟨#[]⟩, .slice none 0 0, .int .i64 0, .bool false, .bool false, .slice none 0 0] 37 ∧ w1.heap.size ≤ hq) :: []) (by kernel_rfl) (by kernel_rfl) ⟨fun v w2 w3 hg h => h.ch hg (fun j hj e => by have := (h.lt j hj).1; omega), fun v w2 w3 hg h => h.ch hg (fun j hj e => by have := (h.lt j hj).1; omega), fun v w2 w3 hg h => by obtain ⟨dv, e, h⟩ := h; exact ⟨dv, e, h.ch hg (fun j hj e => by have := (h.lt j hj).1; omega)⟩, fun v w2 w3 hg h => by obtain ⟨hq, e, k, b⟩ := h; exact ⟨hq, e, k.block (hg.block hq k.lt (fun e => by have : hq = g := e; omega)), b⟩, trivial⟩ (fun j W W' hg h => Rs.gr h hg) (Rs.gr hr1 ((Gr.refl _).drew))
  apply wpT_eq
  · intro W hW _
    unfold opT
    go_simp
    first | exact resT_eq_mk _ _ _ | exact ⟨Gr.refl _, rfl⟩
  simp only [Act.put, pt1, pt2, pt3]
  apply wpT_useEq
  · intro W hW hS hs
    unfold opT
    go_simp
    refine resT_call ((D0.out W hS).mono ?_)
    rintro e W2 ⟨rfl, h2, h3⟩
    exact ⟨_, rfl, ⟨Ch.of_grownBy h3 (fun j hj => by cases hj; rfl), h2⟩, rfl⟩
  simp only [Act.put, pt1, pt2, pt3]
  apply wpT_eq
  · intro W hW _
    unfold opT
    go_simp
    first | exact resT_eq_mk _ _ _ | exact ⟨Gr.refl _, rfl⟩
  simp only [Act.put, pt1, pt2, pt3]
  apply wpT_use
  · intro W hW hS hs
    have hsz : w1.heap.size ≤ W.heap.size := hW.size
    unfold opT
    go_simp
    refine resT_call ((D1.out W hS (fun k hk => Nat.lt_of_lt_of_le (HB1.out k hk) hsz)).mono ?_)
    rintro e W2 ⟨v, rfl, h1, h2, h3⟩
    exact ⟨_, rfl, ⟨Ch.of_grownBy h3 (fun j hj => by cases hj; rfl), h2⟩, h1.mono hsz⟩
  intro vp
  simp only [Act.put, pt1, pt2, pt3]
  apply wpT_eq
  · intro W hW hs
    have hvt := hs _ (.head _) (by rfl)
    have q := run_string_sl (P := Try.prog) 22 5 9 Try.underlying22 Try.underlying5 Try.underlying9 hvt.sl
    unfold opT
    go_simp
    first | exact resT_eq_mk _ _ _ | exact ⟨Gr.refl _, rfl⟩
  simp only [Act.put, pt1, pt2, pt3]
  apply wpT_eq
  · intro W hW _
    unfold opT
    go_simp
    first | exact resT_eq_mk _ _ _ | exact ⟨Gr.refl _, rfl⟩
  simp only [Act.put, pt1, pt2, pt3]
  apply wpT_use
  · intro W hW hS hs
    have hsz : w1.heap.size ≤ W.heap.size := hW.size
    unfold opT
    go_simp
    refine resT_call ((D2.out W hS (fun k hk => Nat.lt_of_lt_of_le (HB1.out k hk) hsz)).mono ?_)
    rintro e W2 ⟨v, rfl, h1, h2, h3⟩
    exact ⟨_, rfl, ⟨Ch.of_grownBy h3 (fun j hj => by cases hj; rfl), h2⟩, h1.mono hsz⟩
  intro vd
  simp only [Act.put, pt1, pt2, pt3]
  apply wpT_eq
  · intro W hW _
    unfold opT
    go_simp
    first | exact resT_eq_mk _ _ _ | exact ⟨Gr.refl _, rfl⟩
  simp only [Act.put, pt1, pt2, pt3]
  apply wpT_useEq
  · intro W hW hS hs
    unfold opT
    go_simp
    refine resT_call ((D3.out W hS).mono ?_)
    rintro e W2 ⟨rfl, h2, h3⟩
    exact ⟨_, rfl, ⟨Ch.of_grownBy h3 (fun j hj => by cases hj; rfl), h2⟩, rfl⟩
  simp only [Act.put, pt1, pt2, pt3]
  apply wpT_eq
  · intro W hW _
    unfold opT
    go_simp
    first | exact resT_eq_mk _ _ _ | exact ⟨Gr.refl _, rfl⟩
  simp only [Act.put, pt1, pt2, pt3]
  apply wpT_useEq
  · intro W hW hS hs
    unfold opT
    go_simp
    refine resT_call ((D4.out W hS).mono ?_)
    rintro e W2 ⟨rfl, h2, h3⟩
    exact ⟨_, rfl, ⟨Ch.of_grownBy h3 (fun j hj => by cases hj; rfl), h2⟩, rfl⟩
  simp only [Act.put, pt1, pt2, pt3]
  apply wpT_eq
  · intro W hW _
    unfold opT
    go_simp
    first | exact resT_eq_mk _ _ _ | exact ⟨Gr.refl _, rfl⟩
  simp only [Act.put, pt1, pt2, pt3]
  apply wpT_useEq
  · intro W hW hS hs
    unfold opT
    go_simp
    refine resT_call ((D5.out W hS).mono ?_)
    rintro e W2 ⟨rfl, h2, h3⟩
    exact ⟨_, rfl, ⟨Ch.of_grownBy h3 (fun j hj => by cases hj; rfl), h2⟩, rfl⟩
  simp only [Act.put, pt1, pt2, pt3]
  apply wpT_ok
  · intro W hW hs
    have hvd := hs _ (.head _) (by rfl)
    obtain ⟨ad, cd, rfl⟩ := hvd.shape
    unfold opT
    go_simp
    exact resT_mk (Gr.refl W) ⟨_, rfl, hvd⟩
  intro vb
  simp only [Act.put, pt1, pt2, pt3]
  apply wpT_ok
  · intro W hW hs
    have hsz : w1.heap.size ≤ W.heap.size := hW.size
    unfold opT
    go_simp
    exact resT_mk ((Gr.refl W).alloc _) ⟨_, rfl, CellsAt.new _ _ _, hsz⟩
  intro vq
  simp only [Act.put, pt1, pt2, pt3]
  apply wpT_nil
  intro W hW hSW hsAll
  obtain ⟨hp, rfl, khp, bhp⟩ := hsAll _ (.head _)
  obtain ⟨dv, rfl, odv⟩ := hsAll _ (.tail _ (.head _))
  obtain ⟨ad, cd, rfl⟩ := odv.shape
  clear hsAll
  have hRW : Rs W base g s6 := hSW
  have kb : CellsAt W w.heap.size [.int .u8 0, .string ⟨#[]⟩, .slice none 0 0, .int .i64 0, .bool false, .bool false, .slice none 0 0] 37 := HK.out.block (hW.block w.heap.size (by have := HK.out.lt; simpa using this) (by show ¬ w.heap.size = g; omega))
  have gW : w.grownBy W (some g) := grownBy_trans (gr_grown (HG1.out.trans ((Gr.refl w1).drew)) g) (Ch.grownBy hW)
  have hne1 : ¬ w.heap.size = hp := by have := HZ.out; omega
  have hne2 : ¬ hp = w.heap.size := by have := HZ.out; omega
  have hnehp := odv.ne_cells khp (by decide)
  have sdv : SlP (fun j => w1.heap.size ≤ j ∧ j ≠ hp) W (.slice ad (bytes da).length cd) (bytes da) := ⟨odv.sl, .inr fun j hj => ⟨odv.ownBlock_ge j hj, hnehp j hj⟩⟩
  have c0 := khp.cell 0
  have f0 := khp.frozen 0
  have c1 := khp.cell 1
  have f1 := khp.frozen 1
  have c2 := khp.cell 2
  have f2 := khp.frozen 2
  have c3 := khp.cell 3
  have f3 := khp.frozen 3
  have c4 := khp.cell 4
  have f4 := khp.frozen 4
  have c5 := khp.cell 5
  have f5 := khp.frozen 5
  have c6 := khp.cell 6
  have f6 := khp.frozen 6
  have KF := Lib.hid ((((((((khp.set 0 (.int .u8 (ki : Int))).set 1 (.string ⟨pa.toArray⟩)).set 2 (.slice ad (bytes da).length cd)).set 3 (.int .i64 ve)).set 4 (.bool true)).set 5 (.bool false)).set 6 (.slice none 0 0)))
  have GF : Hid (W.grownBy (((((((W.setCell ⟨hp, 0, none⟩ (.int .u8 (ki : Int))).setCell ⟨hp, 1, none⟩ (.string ⟨pa.toArray⟩)).setCell ⟨hp, 2, none⟩ (.slice ad (bytes da).length cd)).setCell ⟨hp, 3, none⟩ (.int .i64 ve)).setCell ⟨hp, 4, none⟩ (.bool true)).setCell ⟨hp, 5, none⟩ (.bool false)).setCell ⟨hp, 6, none⟩ (.slice none 0 0)) (some hp)) := Lib.hid (grownBy_trans (grownBy_trans (grownBy_trans (grownBy_trans (grownBy_trans (grownBy_trans (grownBy_setCell W hp 0 (.int .u8 (ki : Int))) (grownBy_setCell _ hp 1 (.string ⟨pa.toArray⟩))) (grownBy_setCell _ hp 2 (.slice ad (bytes da).length cd))) (grownBy_setCell _ hp 3 (.int .i64 ve))) (grownBy_setCell _ hp 4 (.bool true))) (grownBy_setCell _ hp 5 (.bool false))) (grownBy_setCell _ hp 6 (.slice none 0 0)))
  have KB := Lib.hid kb
  have GW := Lib.hid gW
  have RW := Lib.hid hRW
  have SDV := Lib.hid sdv
  have HPS := Lib.hid khp.lt
  have BHP := Lib.hid bhp
  clear hW hSW khp kb gW hRW bhp sdv odv hnehp
  simp only [List.drop_succ_cons, List.drop_zero]
  go_upto_region 2 with fail
  obtain ⟨W2, hW2⟩ : ∃ W2, W2 = (((((((W.setCell ⟨hp, 0, none⟩ (.int .u8 (ki : Int))).setCell ⟨hp, 1, none⟩ (.string ⟨pa.toArray⟩)).setCell ⟨hp, 2, none⟩ (.slice ad (bytes da).length cd)).setCell ⟨hp, 3, none⟩ (.int .i64 ve)).setCell ⟨hp, 4, none⟩ (.bool true)).setCell ⟨hp, 5, none⟩ (.bool false)).setCell ⟨hp, 6, none⟩ (.slice none 0 0)) := ⟨_, rfl⟩
  rw [← hW2] at KF GF ⊢
  simp only [List.set_cons_zero, List.set_cons_succ] at KF
  have K2 : Hid (CellsAt W2 hp [.int .u8 (ki : Int), .string ⟨pa.toArray⟩, .slice ad (bytes da).length cd, .int .i64 ve, .bool true, .bool false, .slice none 0 0] 37) := KF
  have KB2 := Lib.hid (KB.out.other GF.out (fun e => by injection e with e; exact hne2 e))
  have G2 := Lib.hid (grown_new GW.out GF.out (by have := HZ.out; have := BHP.out; omega))
  have R2 := Lib.hid (rs_new RW.out GF.out (fun h => by have := hb _ h; have := HZ.out; have := BHP.out; omega))
  have SD2 := Lib.hid (SDV.out.keep (Keep.of_grown GF.out (fun h => h.2 rfl)))
  have HPS2 : Hid (hp < W2.heap.size) := Lib.hid (Nat.lt_of_lt_of_le HPS.out GF.out.size)
  clear c0 f0 c1 f1 c2 f2 c3 f3 c4 f4 c5 f5 c6 f6 hW2 KF GF KB GW RW HPS SDV
  have hsz2 : w.heap.size ≤ W2.heap.size := G2.out.size
  go_wp2_with fail
  refine (D6.out _ R2.out (fun j hj => Nat.lt_of_lt_of_le (hb j hj) hsz2)).mono ?_
  rintro e W3 ⟨pv, rfl, spv, hr3, hg3⟩
  obtain ⟨ap, ac, rfl⟩ := spv.shape
  have K3 := Lib.hid (K2.out.other hg3 (fun e => by injection e with e; have := HZ.out; have := BHP.out; omega))
  have KB3 := Lib.hid (KB2.out.other hg3 (fun e => by injection e with e; omega))
  have G3 := Lib.hid (grownBy_trans G2.out hg3)
  have R3 := Lib.hid hr3
  have SD3 := Lib.hid (SD2.out.keep (Keep.of_grown hg3 (fun h => by have := h.1; omega)))
  have SP := Lib.hid spv
  clear K2 KB2 G2 R2 hr3 hg3 spv hsz2 SD2
  have y6 := K3.out.cell 6
  have fy6 := K3.out.frozen 6
  go_upto_region 3 with fail
  have kf := K3.out.set 6 (.slice ap ps.length ac)
  have gf := grownBy_setCell W3 hp 6 (.slice ap ps.length ac)
  obtain ⟨W4, hW4⟩ : ∃ W4, W4 = W3.setCell ⟨hp, 6, none⟩ (.slice ap ps.length ac) := ⟨_, rfl⟩
  rw [← hW4] at kf gf ⊢
  simp only [List.set_cons_zero, List.set_cons_succ] at kf
  have K4 : Hid (CellsAt W4 hp [.int .u8 (ki : Int), .string ⟨pa.toArray⟩, .slice ad (bytes da).length cd, .int .i64 ve, .bool true, .bool false, .slice ap ps.length ac] 37) := Lib.hid kf
  have KB4 := Lib.hid (KB3.out.other gf (fun e => by injection e with e; exact hne2 e))
  have G4 := Lib.hid (grown_new G3.out gf (by have := HZ.out; have := BHP.out; omega))
  have R4 := Lib.hid (rs_new R3.out gf (fun h => by have := hb _ h; have := HZ.out; have := BHP.out; omega))
  have SD4 := Lib.hid (SD3.out.keep (Keep.of_grown gf (fun h => h.2 rfl)))
  have SP4 : Hid (OpsP (fun j => w1.heap.size ≤ j) W4 (.slice ap ps.length ac) ps) := Lib.hid ((SP.out.keep (Keep.of_grown gf (fun h => by have h1 : W2.heap.size ≤ hp := h; have := HPS2.out; omega))).mono (fun j hj => by have h1 : W2.heap.size ≤ j := hj; have := HPS2.out; have := BHP.out; omega))
  clear kf gf hW4 y6 fy6 K3 KB3 G3 R3 SD3 SP
  have y0 := K4.out.cell 0
  have b0 := KB4.out.cell 0
  have fb0 := KB4.out.frozen 0
  have y1 := K4.out.cell 1
  have b1 := KB4.out.cell 1
  have fb1 := KB4.out.frozen 1
  have y2 := K4.out.cell 2
  have b2 := KB4.out.cell 2
  have fb2 := KB4.out.frozen 2
  have y3 := K4.out.cell 3
  have b3 := KB4.out.cell 3
  have fb3 := KB4.out.frozen 3
  have y4 := K4.out.cell 4
  have b4 := KB4.out.cell 4
  have fb4 := KB4.out.frozen 4
  have y5 := K4.out.cell 5
  have b5 := KB4.out.cell 5
  have fb5 := KB4.out.frozen 5
  have y6 := K4.out.cell 6
  have b6 := KB4.out.cell 6
  have fb6 := KB4.out.frozen 6
  have kf := (((((((KB4.out.set 0 (.int .u8 (ki : Int))).set 1 (.string ⟨pa.toArray⟩)).set 2 (.slice ad (bytes da).length cd)).set 3 (.int .i64 ve)).set 4 (.bool true)).set 5 (.bool false)).set 6 (.slice ap ps.length ac))
  have gf : W4.grownBy (((((((W4.setCell ⟨w.heap.size, 0, none⟩ (.int .u8 (ki : Int))).setCell ⟨w.heap.size, 1, none⟩ (.string ⟨pa.toArray⟩)).setCell ⟨w.heap.size, 2, none⟩ (.slice ad (bytes da).length cd)).setCell ⟨w.heap.size, 3, none⟩ (.int .i64 ve)).setCell ⟨w.heap.size, 4, none⟩ (.bool true)).setCell ⟨w.heap.size, 5, none⟩ (.bool false)).setCell ⟨w.heap.size, 6, none⟩ (.slice ap ps.length ac)) (some w.heap.size) := (grownBy_trans (grownBy_trans (grownBy_trans (grownBy_trans (grownBy_trans (grownBy_trans (grownBy_setCell W4 w.heap.size 0 (.int .u8 (ki : Int))) (grownBy_setCell _ w.heap.size 1 (.string ⟨pa.toArray⟩))) (grownBy_setCell _ w.heap.size 2 (.slice ad (bytes da).length cd))) (grownBy_setCell _ w.heap.size 3 (.int .i64 ve))) (grownBy_setCell _ w.heap.size 4 (.bool true))) (grownBy_setCell _ w.heap.size 5 (.bool false))) (grownBy_setCell _ w.heap.size 6 (.slice ap ps.length ac)))
  have SF := (SD4.out.keep (Keep.of_grown gf (fun h => by have h1 := h.1; have := HZ.out; omega))).mono (Q := From w.heap.size) (fun k hk => by have h1 := hk.1; have := HZ.out; show w.heap.size ≤ k; omega)
  have PF := (SP4.out.keep (Keep.of_grown gf (fun h => by have h1 : w1.heap.size ≤ w.heap.size := h; have := HZ.out; omega))).mono (Q := From w.heap.size) (fun k hk => by have := HZ.out; show w.heap.size ≤ k; omega)
  have x0 := kf.cell 0
  have x1 := kf.cell 1
  have x2 := kf.cell 2
  have x3 := kf.cell 3
  have x4 := kf.cell 4
  have x5 := kf.cell 5
  have x6 := kf.cell 6
  simp only [List.set_cons_zero, List.set_cons_succ, List.getElem?_cons_zero, List.getElem?_cons_succ] at x0 x1 x2 x3 x4 x5 x6
  clear kf
  go_wp2
  exact bodyPost_ret (v := .agg #[.int .u8 (ki : Int), .string ⟨pa.toArray⟩, .slice ad (bytes da).length cd, .int .i64 ve, .bool true, .bool false, .slice ap ps.length ac]) (by simp [results, Try.f30, go_sem, x0, x1, x2, x3, x4, x5, x6]) rfl ⟨_, rfl, ⟨_, _, rfl, OpP.of SF PF⟩, rs_new R4.out gf hnb, grown_new G4.out gf (Nat.le_refl _)⟩
set_option maxHeartbeats 4000000 in
theorem getOp_false_true (m : Nat) (hm : m ≤ 1000) (w : World) (base : Nat → Prop) (g : Nat) (s : RS) (hr : Rs w base g s) (hb : ∀ k, base k → k < w.heap.size) (hl : s.1.length ≤ 1000000000) (ps : List OpD) (s7 : RS)
    (hlist : ∀ W, Rs W base g (rHead s).2 → (∀ k, base k → k < W.heap.size) → Calls Try.prog 73 #[.pointer (some ⟨g, 0, none⟩), .int .i64 (m : Int), .func (.func 74) #[] #[]] W (GotP W base g (fun v V => OpsP (From W.heap.size) V v ps) s7)) (h1 : (rHead s).1.seq = false) (h2 : (rHead s).1.eph = true) :
    Calls Try.prog 30 #[.pointer (some ⟨g, 0, none⟩), .int .i64 (m : Int)] w (GotP w base g (OpIs w.heap.size (.mk (rHead s).1 ps)) s7) := by
  obtain ⟨s1, hs1⟩ : ∃ s1, s1 = (rByte s).2 := ⟨_, rfl⟩
  obtain ⟨s2, hs2⟩ : ∃ s2, s2 = (rTextM 64 s1).2 := ⟨_, rfl⟩
  obtain ⟨s3, hs3⟩ : ∃ s3, s3 = (rTextM 64 s2).2 := ⟨_, rfl⟩
  obtain ⟨s4, hs4⟩ : ∃ s4, s4 = (rUint s3).2 := ⟨_, rfl⟩
  obtain ⟨s5, hs5⟩ : ∃ s5, s5 = (rFlag s4).2 := ⟨_, rfl⟩
  obtain ⟨s6, hs6⟩ : ∃ s6, s6 = (rFlag s5).2 := ⟨_, rfl⟩
  have e0 : rHead s = (⟨(rByte s).1, (rTextM 64 s1).1, (rTextM 64 s2).1, i64 (rUint s3).1, (rFlag s4).1, (rFlag s5).1⟩, s6) := by
    rw [hs6, hs5, hs4, hs3, hs2, hs1]; rfl
  have l1 : s1.1.length ≤ 1000000000 := by rw [hs1]; exact Nat.le_trans (rByte_left s) hl
  have l2 : s2.1.length ≤ 1000000000 := by rw [hs2]; exact Nat.le_trans (left_text 64 s1) l1
  have l3 : s3.1.length ≤ 1000000000 := by rw [hs3]; exact Nat.le_trans (left_text 64 s2) l2
  have l4 : s4.1.length ≤ 1000000000 := by rw [hs4]; exact Nat.le_trans (rUint_left s3) l3
  have l5 : s5.1.length ≤ 1000000000 := by rw [hs5]; exact Nat.le_trans (left_flag s4) l4
  rw [e0] at h1 h2 hlist
  dsimp only at h1 h2 hlist
  have C0 := fun W h => get_byte W base g s h hl
  have C1 := fun W h hb => text_get W base g 64 s1 h hb l1
  have C2 := fun W h hb => text_get W base g 64 s2 h hb l2
  have C3 := fun W h => get_int W base g s3 h l3
  have C4 := fun W h => flagged_any W base g s4 h l4
  have C5 := fun W h => flagged_any W base g s5 h l5
  rw [← hs1] at C0
  rw [← hs2] at C1
  rw [← hs3] at C2
  rw [← hs4] at C3
  rw [h1, ← hs5] at C4
  rw [h2, ← hs6] at C5
  rw [e0, h1, h2]
  clear e0 hs1 hs2 hs3 hs4 hs5 hs6 l1 l2 l3 l4 l5 h1 h2
  obtain ⟨ki, hki⟩ : ∃ ki, ki = (rByte s).1 := ⟨_, rfl⟩
  obtain ⟨pa, hpa⟩ : ∃ pa, pa = (rTextM 64 s1).1 := ⟨_, rfl⟩
  obtain ⟨da, hda⟩ : ∃ da, da = (rTextM 64 s2).1 := ⟨_, rfl⟩
  obtain ⟨ve, hve⟩ : ∃ ve, ve = i64 (rUint s3).1 := ⟨_, rfl⟩
  rw [← hki] at C0
  rw [← hpa] at C1
  rw [← hda] at C2
  rw [← hve] at C3
  rw [← hki, ← hpa, ← hda, ← hve]
  clear hki hpa hda hve
  have D0 := Lib.hid C0
  have D1 := Lib.hid C1
  have D2 := Lib.hid C2
  have D3 := Lib.hid C3
  have D4 := Lib.hid C4
  have D5 := Lib.hid C5
  have D6 := Lib.hid hlist
  clear C0 C1 C2 C3 C4 C5 hlist
  obtain ⟨w1, hw1⟩ : ∃ w1, w1 = w.alloc (.cells #[.int .u8 0, .string ⟨#[]⟩, .slice none 0 0, .int .i64 0, .bool false, .bool false, .slice none 0 0] 37) := ⟨_, rfl⟩
  have g1 : Gr w w1 := by rw [hw1]; exact (Gr.refl w).alloc _
  have z1 : w1.heap.size = w.heap.size + 1 := by rw [hw1]; simp
  have k1 : CellsAt w1 w.heap.size [.int .u8 0, .string ⟨#[]⟩, .slice none 0 0, .int .i64 0, .bool false, .bool false, .slice none 0 0] 37 := by rw [hw1]; exact CellsAt.new _ _ _
  have hr1 := Rs.gr hr g1
  have hgl := hr.lt
  have hnb : ¬ base w.heap.size := fun h => Nat.lt_irrefl _ (hb _ h)
  have hb1 : ∀ k, base k → k < w1.heap.size := fun k hk => by have := hb k hk; omega
  have HW := Lib.hid hw1
  have HZ := Lib.hid z1
  have HK := Lib.hid k1
  have HG1 := Lib.hid g1
  have hgl1 : g < w1.heap.size := by omega
  have HB1 := Lib.hid hb1
  clear hw1 hr z1 k1 g1 hb1
  go_enter Try.func30, Try.ntmps30
  go_wp2_with fail
  rw [← HW.out]
  apply wp_region_draw_turnTail 15 (fun j => j = g) (fun j W => Rs W base g (stO s s1 s2 s3 s4 s5 s6 j)) (.eq _ :: .useEq (.int .u8 (ki : Int)) :: .eq _ :: .use (fun v W => Own W w1.heap.size 5 v (bytes pa)) :: .eq _ :: .eq _ :: .use (fun v W => Own W w1.heap.size 5 v (bytes da)) :: .eq _ :: .useEq (.int .i64 ve) :: .eq _ :: .useEq (.bool false) :: .eq _ :: .useEq (.bool true) :: .ok (fun v W => ∃ dv, v = .agg #[.int .u8 (ki : Int), .string ⟨pa.toArray⟩, dv, .int .i64 ve, .bool false, .bool true, .slice none 0 0] ∧ Own W w1.heap.size 5 dv (bytes da)) :: .ok (fun v W => ∃ hq, v = .pointer (some ⟨hq, 0, none⟩) ∧ CellsAt W hq [.int .u8 0, .string ⟨#[]⟩, .slice none 0 0, .int .i64 0, .bool false, .bool false, .slice none 0 0] 37 ∧ w1.heap.size ≤ hq) :: []) (by kernel_rfl) (by kernel_rfl) ⟨fun v w2 w3 hg h => h.ch hg (fun j hj e => by have := (h.lt j hj).1; omega), fun v w2 w3 hg h => h.ch hg (fun j hj e => by have := (h.lt j hj).1; omega), fun v w2 w3 hg h => by obtain ⟨dv, e, h⟩ := h; exact ⟨dv, e, h.ch hg (fun j hj e => by have := (h.lt j hj).1; omega)⟩, fun v w2 w3 hg h => by obtain ⟨hq, e, k, b⟩ := h; exact ⟨hq, e, k.block (hg.block hq k.lt (fun e => by have : hq = g := e; omega)), b⟩, trivial⟩ (fun j W W' hg h => Rs.gr h hg) (Rs.gr hr1 ((Gr.refl _).drew))
  apply wpT_eq
  · intro W hW _
    unfold opT
    go_simp
    first | exact resT_eq_mk _ _ _ | exact ⟨Gr.refl _, rfl⟩
  simp only [Act.put, pt1, pt2, pt3]
  apply wpT_useEq
  · intro W hW hS hs
    unfold opT
    go_simp
    refine resT_call ((D0.out W hS).mono ?_)
    rintro e W2 ⟨rfl, h2, h3⟩
    exact ⟨_, rfl, ⟨Ch.of_grownBy h3 (fun j hj => by cases hj; rfl), h2⟩, rfl⟩
  simp only [Act.put, pt1, pt2, pt3]
  apply wpT_eq
  · intro W hW _
    unfold opT
    go_simp
    first | exact resT_eq_mk _ _ _ | exact ⟨Gr.refl _, rfl⟩
  simp only [Act.put, pt1, pt2, pt3]
  apply wpT_use
  · intro W hW hS hs
    have hsz : w1.heap.size ≤ W.heap.size := hW.size
    unfold opT
    go_simp
    refine resT_call ((D1.out W hS (fun k hk => Nat.lt_of_lt_of_le (HB1.out k hk) hsz)).mono ?_)
    rintro e W2 ⟨v, rfl, h1, h2, h3⟩
    exact ⟨_, rfl, ⟨Ch.of_grownBy h3 (fun j hj => by cases hj; rfl), h2⟩, h1.mono hsz⟩
  intro vp
  simp only [Act.put, pt1, pt2, pt3]
  apply wpT_eq
  · intro W hW hs
    have hvt := hs _ (.head _) (by rfl)
    have q := run_string_sl (P := Try.prog) 22 5 9 Try.underlying22 Try.underlying5 Try.underlying9 hvt.sl
    unfold opT
    go_simp
    first | exact resT_eq_mk _ _ _ | exact ⟨Gr.refl _, rfl⟩
  simp only [Act.put, pt1, pt2, pt3]
  apply wpT_eq
  · intro W hW _
    unfold opT
    go_simp
    first | exact resT_eq_mk _ _ _ | exact ⟨Gr.refl _, rfl⟩
  simp only [Act.put, pt1, pt2, pt3]
  apply wpT_use
  · intro W hW hS hs
    have hsz : w1.heap.size ≤ W.heap.size := hW.size
    unfold opT
    go_simp
    refine resT_call ((D2.out W hS (fun k hk => Nat.lt_of_lt_of_le (HB1.out k hk) hsz)).mono ?_)
    rintro e W2 ⟨v, rfl, h1, h2, h3⟩
    exact ⟨_, rfl, ⟨Ch.of_grownBy h3 (fun j hj => by cases hj; rfl), h2⟩, h1.mono hsz⟩
  intro vd
  simp only [Act.put, pt1, pt2, pt3]
  apply wpT_eq
  · intro W hW _
    unfold opT
    go_simp
    first | exact resT_eq_mk _ _ _ | exact ⟨Gr.refl _, rfl⟩
  simp only [Act.put, pt1, pt2, pt3]
  apply wpT_useEq
  · intro W hW hS hs
    unfold opT
    go_simp
    refine resT_call ((D3.out W hS).mono ?_)
    rintro e W2 ⟨rfl, h2, h3⟩
    exact ⟨_, rfl, ⟨Ch.of_grownBy h3 (fun j hj => by cases hj; rfl), h2⟩, rfl⟩
  simp only [Act.put, pt1, pt2, pt3]
  apply wpT_eq
  · intro W hW _
    unfold opT
    go_simp
    first | exact resT_eq_mk _ _ _ | exact ⟨Gr.refl _, rfl⟩
  simp only [Act.put, pt1, pt2, pt3]
  apply wpT_useEq
  · intro W hW hS hs
    unfold opT
    go_simp
    refine resT_call ((D4.out W hS).mono ?_)
    rintro e W2 ⟨rfl, h2, h3⟩
    exact ⟨_, rfl, ⟨Ch.of_grownBy h3 (fun j hj => by cases hj; rfl), h2⟩, rfl⟩
  simp only [Act.put, pt1, pt2, pt3]
  apply wpT_eq
  · intro W hW _
    unfold opT
    go_simp
    first | exact resT_eq_mk _ _ _ | exact ⟨Gr.refl _, rfl⟩
  simp only [Act.put, pt1, pt2, pt3]
  apply wpT_useEq
  · intro W hW hS hs
    unfold opT
    go_simp
    refine resT_call ((D5.out W hS).mono ?_)
    rintro e W2 ⟨rfl, h2, h3⟩
    exact ⟨_, rfl, ⟨Ch.of_grownBy h3 (fun j hj => by cases hj; rfl), h2⟩, rfl⟩
  simp only [Act.put, pt1, pt2, pt3]
  apply wpT_ok
  · intro W hW hs
    have hvd := hs _ (.head _) (by rfl)
    obtain ⟨ad, cd, rfl⟩ := hvd.shape
    unfold opT
    go_simp
    exact resT_mk (Gr.refl W) ⟨_, rfl, hvd⟩
  intro vb
  simp only [Act.put, pt1, pt2, pt3]
  apply wpT_ok
  · intro W hW hs
    have hsz : w1.heap.size ≤ W.heap.size := hW.size
    unfold opT
    go_simp
    exact resT_mk ((Gr.refl W).alloc _) ⟨_, rfl, CellsAt.new _ _ _, hsz⟩
  intro vq
  simp only [Act.put, pt1, pt2, pt3]
  apply wpT_nil
  intro W hW hSW hsAll
  obtain ⟨hp, rfl, khp, bhp⟩ := hsAll _ (.head _)
  obtain ⟨dv, rfl, odv⟩ := hsAll _ (.tail _ (.head _))
  obtain ⟨ad, cd, rfl⟩ := odv.shape
  clear hsAll
  have hRW : Rs W base g s6 := hSW
  have kb : CellsAt W w.heap.size [.int .u8 0, .string ⟨#[]⟩, .slice none 0 0, .int .i64 0, .bool false, .bool false, .slice none 0 0] 37 := HK.out.block (hW.block w.heap.size (by have := HK.out.lt; simpa using this) (by show ¬ w.heap.size = g; omega))
  have gW : w.grownBy W (some g) := grownBy_trans (gr_grown (HG1.out.trans ((Gr.refl w1).drew)) g) (Ch.grownBy hW)
  have hne1 : ¬ w.heap.size = hp := by have := HZ.out; omega
  have hne2 : ¬ hp = w.heap.size := by have := HZ.out; omega
  have hnehp := odv.ne_cells khp (by decide)
  have sdv : SlP (fun j => w1.heap.size ≤ j ∧ j ≠ hp) W (.slice ad (bytes da).length cd) (bytes da) := ⟨odv.sl, .inr fun j hj => ⟨odv.ownBlock_ge j hj, hnehp j hj⟩⟩
  have c0 := khp.cell 0
  have f0 := khp.frozen 0
  have c1 := khp.cell 1
  have f1 := khp.frozen 1
  have c2 := khp.cell 2
  have f2 := khp.frozen 2
  have c3 := khp.cell 3
  have f3 := khp.frozen 3
  have c4 := khp.cell 4
  have f4 := khp.frozen 4
  have c5 := khp.cell 5
  have f5 := khp.frozen 5
  have c6 := khp.cell 6
  have f6 := khp.frozen 6
  have KF := Lib.hid ((((((((khp.set 0 (.int .u8 (ki : Int))).set 1 (.string ⟨pa.toArray⟩)).set 2 (.slice ad (bytes da).length cd)).set 3 (.int .i64 ve)).set 4 (.bool false)).set 5 (.bool true)).set 6 (.slice none 0 0)))
  have GF : Hid (W.grownBy (((((((W.setCell ⟨hp, 0, none⟩ (.int .u8 (ki : Int))).setCell ⟨hp, 1, none⟩ (.string ⟨pa.toArray⟩)).setCell ⟨hp, 2, none⟩ (.slice ad (bytes da).length cd)).setCell ⟨hp, 3, none⟩ (.int .i64 ve)).setCell ⟨hp, 4, none⟩ (.bool false)).setCell ⟨hp, 5, none⟩ (.bool true)).setCell ⟨hp, 6, none⟩ (.slice none 0 0)) (some hp)) := Lib.hid (grownBy_trans (grownBy_trans (grownBy_trans (grownBy_trans (grownBy_trans (grownBy_trans (grownBy_setCell W hp 0 (.int .u8 (ki : Int))) (grownBy_setCell _ hp 1 (.string ⟨pa.toArray⟩))) (grownBy_setCell _ hp 2 (.slice ad (bytes da).length cd))) (grownBy_setCell _ hp 3 (.int .i64 ve))) (grownBy_setCell _ hp 4 (.bool false))) (grownBy_setCell _ hp 5 (.bool true))) (grownBy_setCell _ hp 6 (.slice none 0 0)))
  have KB := Lib.hid kb
  have GW := Lib.hid gW
  have RW := Lib.hid hRW
  have SDV := Lib.hid sdv
  have HPS := Lib.hid khp.lt
  have BHP := Lib.hid bhp
  clear hW hSW khp kb gW hRW bhp sdv odv hnehp
  simp only [List.drop_succ_cons, List.drop_zero]
  go_upto_region 2 with fail
  obtain ⟨W2, hW2⟩ : ∃ W2, W2 = (((((((W.setCell ⟨hp, 0, none⟩ (.int .u8 (ki : Int))).setCell ⟨hp, 1, none⟩ (.string ⟨pa.toArray⟩)).setCell ⟨hp, 2, none⟩ (.slice ad (bytes da).length cd)).setCell ⟨hp, 3, none⟩ (.int .i64 ve)).setCell ⟨hp, 4, none⟩ (.bool false)).setCell ⟨hp, 5, none⟩ (.bool true)).setCell ⟨hp, 6, none⟩ (.slice none 0 0)) := ⟨_, rfl⟩
  rw [← hW2] at KF GF ⊢
  simp only [List.set_cons_zero, List.set_cons_succ] at KF
  have K2 : Hid (CellsAt W2 hp [.int .u8 (ki : Int), .string ⟨pa.toArray⟩, .slice ad (bytes da).length cd, .int .i64 ve, .bool false, .bool true, .slice none 0 0] 37) := KF
  have KB2 := Lib.hid (KB.out.other GF.out (fun e => by injection e with e; exact hne2 e))
  have G2 := Lib.hid (grown_new GW.out GF.out (by have := HZ.out; have := BHP.out; omega))
  have R2 := Lib.hid (rs_new RW.out GF.out (fun h => by have := hb _ h; have := HZ.out; have := BHP.out; omega))
  have SD2 := Lib.hid (SDV.out.keep (Keep.of_grown GF.out (fun h => h.2 rfl)))
  have HPS2 : Hid (hp < W2.heap.size) := Lib.hid (Nat.lt_of_lt_of_le HPS.out GF.out.size)
  clear c0 f0 c1 f1 c2 f2 c3 f3 c4 f4 c5 f5 c6 f6 hW2 KF GF KB GW RW HPS SDV
  have hsz2 : w.heap.size ≤ W2.heap.size := G2.out.size
  go_wp2_with fail
  refine (D6.out _ R2.out (fun j hj => Nat.lt_of_lt_of_le (hb j hj) hsz2)).mono ?_
  rintro e W3 ⟨pv, rfl, spv, hr3, hg3⟩
  obtain ⟨ap, ac, rfl⟩ := spv.shape
  have K3 := Lib.hid (K2.out.other hg3 (fun e => by injection e with e; have := HZ.out; have := BHP.out; omega))
  have KB3 := Lib.hid (KB2.out.other hg3 (fun e => by injection e with e; omega))
  have G3 := Lib.hid (grownBy_trans G2.out hg3)
  have R3 := Lib.hid hr3
  have SD3 := Lib.hid (SD2.out.keep (Keep.of_grown hg3 (fun h => by have := h.1; omega)))
  have SP := Lib.hid spv
  clear K2 KB2 G2 R2 hr3 hg3 spv hsz2 SD2
  have y6 := K3.out.cell 6
  have fy6 := K3.out.frozen 6
  go_upto_region 3 with fail
  have kf := K3.out.set 6 (.slice ap ps.length ac)
  have gf := grownBy_setCell W3 hp 6 (.slice ap ps.length ac)
  obtain ⟨W4, hW4⟩ : ∃ W4, W4 = W3.setCell ⟨hp, 6, none⟩ (.slice ap ps.length ac) := ⟨_, rfl⟩
  rw [← hW4] at kf gf ⊢
  simp only [List.set_cons_zero, List.set_cons_succ] at kf
  have K4 : Hid (CellsAt W4 hp [.int .u8 (ki : Int), .string ⟨pa.toArray⟩, .slice ad (bytes da).length cd, .int .i64 ve, .bool false, .bool true, .slice ap ps.length ac] 37) := Lib.hid kf
  have KB4 := Lib.hid (KB3.out.other gf (fun e => by injection e with e; exact hne2 e))
  have G4 := Lib.hid (grown_new G3.out gf (by have := HZ.out; have := BHP.out; omega))
  have R4 := Lib.hid (rs_new R3.out gf (fun h => by have := hb _ h; have := HZ.out; have := BHP.out; omega))
  have SD4 := Lib.hid (SD3.out.keep (Keep.of_grown gf (fun h => h.2 rfl)))
  have SP4 : Hid (OpsP (fun j => w1.heap.size ≤ j) W4 (.slice ap ps.length ac) ps) := Lib.hid ((SP.out.keep (Keep.of_grown gf (fun h => by have h1 : W2.heap.size ≤ hp := h; have := HPS2.out; omega))).mono (fun j hj => by have h1 : W2.heap.size ≤ j := hj; have := HPS2.out; have := BHP.out; omega))
  clear kf gf hW4 y6 fy6 K3 KB3 G3 R3 SD3 SP
  have y0 := K4.out.cell 0
  have b0 := KB4.out.cell 0
  have fb0 := KB4.out.frozen 0
  have y1 := K4.out.cell 1
  have b1 := KB4.out.cell 1
  have fb1 := KB4.out.frozen 1
  have y2 := K4.out.cell 2
  have b2 := KB4.out.cell 2
  have fb2 := KB4.out.frozen 2
  have y3 := K4.out.cell 3
  have b3 := KB4.out.cell 3
  have fb3 := KB4.out.frozen 3
  have y4 := K4.out.cell 4
  have b4 := KB4.out.cell 4
  have fb4 := KB4.out.frozen 4
  have y5 := K4.out.cell 5
  have b5 := KB4.out.cell 5
  have fb5 := KB4.out.frozen 5
  have y6 := K4.out.cell 6
  have b6 := KB4.out.cell 6
  have fb6 := KB4.out.frozen 6
  have kf := (((((((KB4.out.set 0 (.int .u8 (ki : Int))).set 1 (.string ⟨pa.toArray⟩)).set 2 (.slice ad (bytes da).length cd)).set 3 (.int .i64 ve)).set 4 (.bool false)).set 5 (.bool true)).set 6 (.slice ap ps.length ac))
  have gf : W4.grownBy (((((((W4.setCell ⟨w.heap.size, 0, none⟩ (.int .u8 (ki : Int))).setCell ⟨w.heap.size, 1, none⟩ (.string ⟨pa.toArray⟩)).setCell ⟨w.heap.size, 2, none⟩ (.slice ad (bytes da).length cd)).setCell ⟨w.heap.size, 3, none⟩ (.int .i64 ve)).setCell ⟨w.heap.size, 4, none⟩ (.bool false)).setCell ⟨w.heap.size, 5, none⟩ (.bool true)).setCell ⟨w.heap.size, 6, none⟩ (.slice ap ps.length ac)) (some w.heap.size) := (grownBy_trans (grownBy_trans (grownBy_trans (grownBy_trans (grownBy_trans (grownBy_trans (grownBy_setCell W4 w.heap.size 0 (.int .u8 (ki : Int))) (grownBy_setCell _ w.heap.size 1 (.string ⟨pa.toArray⟩))) (grownBy_setCell _ w.heap.size 2 (.slice ad (bytes da).length cd))) (grownBy_setCell _ w.heap.size 3 (.int .i64 ve))) (grownBy_setCell _ w.heap.size 4 (.bool false))) (grownBy_setCell _ w.heap.size 5 (.bool true))) (grownBy_setCell _ w.heap.size 6 (.slice ap ps.length ac)))
  have SF := (SD4.out.keep (Keep.of_grown gf (fun h => by have h1 := h.1; have := HZ.out; omega))).mono (Q := From w.heap.size) (fun k hk => by have h1 := hk.1; have := HZ.out; show w.heap.size ≤ k; omega)
  have PF := (SP4.out.keep (Keep.of_grown gf (fun h => by have h1 : w1.heap.size ≤ w.heap.size := h; have := HZ.out; omega))).mono (Q := From w.heap.size) (fun k hk => by have := HZ.out; show w.heap.size ≤ k; omega)
  have x0 := kf.cell 0
  have x1 := kf.cell 1
  have x2 := kf.cell 2
  have x3 := kf.cell 3
  have x4 := kf.cell 4
  have x5 := kf.cell 5
  have x6 := kf.cell 6
  simp only [List.set_cons_zero, List.set_cons_succ, List.getElem?_cons_zero, List.getElem?_cons_succ] at x0 x1 x2 x3 x4 x5 x6
  clear kf
  go_wp2
  exact bodyPost_ret (v := .agg #[.int .u8 (ki : Int), .string ⟨pa.toArray⟩, .slice ad (bytes da).length cd, .int .i64 ve, .bool false, .bool true, .slice ap ps.length ac]) (by simp [results, Try.f30, go_sem, x0, x1, x2, x3, x4, x5, x6]) rfl ⟨_, rfl, ⟨_, _, rfl, OpP.of SF PF⟩, rs_new R4.out gf hnb, grown_new G4.out gf (Nat.le_refl _)⟩
set_option maxHeartbeats 4000000 in
theorem getOp_false_false (m : Nat) (hm : m ≤ 1000) (w : World) (base : Nat → Prop) (g : Nat) (s : RS) (hr : Rs w base g s) (hb : ∀ k, base k → k < w.heap.size) (hl : s.1.length ≤ 1000000000) (ps : List OpD) (s7 : RS)
    (hlist : ∀ W, Rs W base g (rHead s).2 → (∀ k, base k → k < W.heap.size) → Calls Try.prog 73 #[.pointer (some ⟨g, 0, none⟩), .int .i64 (m : Int), .func (.func 74) #[] #[]] W (GotP W base g (fun v V => OpsP (From W.heap.size) V v ps) s7)) (h1 : (rHead s).1.seq = false) (h2 : (rHead s).1.eph = false) :
    Calls Try.prog 30 #[.pointer (some ⟨g, 0, none⟩), .int .i64 (m : Int)] w (GotP w base g (OpIs w.heap.size (.mk (rHead s).1 ps)) s7) := by
  obtain ⟨s1, hs1⟩ : ∃ s1, s1 = (rByte s).2 := ⟨_, rfl⟩
  obtain ⟨s2, hs2⟩ : ∃ s2, s2 = (rTextM 64 s1).2 := ⟨_, rfl⟩
  obtain ⟨s3, hs3⟩ : ∃ s3, s3 = (rTextM 64 s2).2 := ⟨_, rfl⟩
  obtain ⟨s4, hs4⟩ : ∃ s4, s4 = (rUint s3).2 := ⟨_, rfl⟩
  obtain ⟨s5, hs5⟩ : ∃ s5, s5 = (rFlag s4).2 := ⟨_, rfl⟩
  obtain ⟨s6, hs6⟩ : ∃ s6, s6 = (rFlag s5).2 := ⟨_, rfl⟩
  have e0 : rHead s = (⟨(rByte s).1, (rTextM 64 s1).1, (rTextM 64 s2).1, i64 (rUint s3).1, (rFlag s4).1, (rFlag s5).1⟩, s6) := by
    rw [hs6, hs5, hs4, hs3, hs2, hs1]; rfl
  have l1 : s1.1.length ≤ 1000000000 := by rw [hs1]; exact Nat.le_trans (rByte_left s) hl
  have l2 : s2.1.length ≤ 1000000000 := by rw [hs2]; exact Nat.le_trans (left_text 64 s1) l1
  have l3 : s3.1.length ≤ 1000000000 := by rw [hs3]; exact Nat.le_trans (left_text 64 s2) l2
  have l4 : s4.1.length ≤ 1000000000 := by rw [hs4]; exact Nat.le_trans (rUint_left s3) l3
  have l5 : s5.1.length ≤ 1000000000 := by rw [hs5]; exact Nat.le_trans (left_flag s4) l4
  rw [e0] at h1 h2 hlist
  dsimp only at h1 h2 hlist
  have C0 := fun W h => get_byte W base g s h hl
  have C1 := fun W h hb => text_get W base g 64 s1 h hb l1
  have C2 := fun W h hb => text_get W base g 64 s2 h hb l2
  have C3 := fun W h => get_int W base g s3 h l3
  have C4 := fun W h => flagged_any W base g s4 h l4
  have C5 := fun W h => flagged_any W base g s5 h l5
  rw [← hs1] at C0
  rw [← hs2] at C1
  rw [← hs3] at C2
  rw [← hs4] at C3
  rw [h1, ← hs5] at C4
  rw [h2, ← hs6] at C5
  rw [e0, h1, h2]
  clear e0 hs1 hs2 hs3 hs4 hs5 hs6 l1 l2 l3 l4 l5 h1 h2
  obtain ⟨ki, hki⟩ : ∃ ki, ki = (rByte s).1 := ⟨_, rfl⟩
  obtain ⟨pa, hpa⟩ : ∃ pa, pa = (rTextM 64 s1).1 := ⟨_, rfl⟩
  obtain ⟨da, hda⟩ : ∃ da, da = (rTextM 64 s2).1 := ⟨_, rfl⟩
  obtain ⟨ve, hve⟩ : ∃ ve, ve = i64 (rUint s3).1 := ⟨_, rfl⟩
  rw [← hki] at C0
  rw [← hpa] at C1
  rw [← hda] at C2
  rw [← hve] at C3
  rw [← hki, ← hpa, ← hda, ← hve]
  clear hki hpa hda hve
  have D0 := Lib.hid C0
  have D1 := Lib.hid C1
  have D2 := Lib.hid C2
  have D3 := Lib.hid C3
  have D4 := Lib.hid C4
  have D5 := Lib.hid C5
  have D6 := Lib.hid hlist
  clear C0 C1 C2 C3 C4 C5 hlist
  obtain ⟨w1, hw1⟩ : ∃ w1, w1 = w.alloc (.cells #[.int .u8 0, .string ⟨#[]⟩, .slice none 0 0, .int .i64 0, .bool false, .bool false, .slice none 0 0] 37) := ⟨_, rfl⟩
  have g1 : Gr w w1 := by rw [hw1]; exact (Gr.refl w).alloc _
  have z1 : w1.heap.size = w.heap.size + 1 := by rw [hw1]; simp
  have k1 : CellsAt w1 w.heap.size [.int .u8 0, .string ⟨#[]⟩, .slice none 0 0, .int .i64 0, .bool false, .bool false, .slice none 0 0] 37 := by rw [hw1]; exact CellsAt.new _ _ _
  have hr1 := Rs.gr hr g1
  have hgl := hr.lt
  have hnb : ¬ base w.heap.size := fun h => Nat.lt_irrefl _ (hb _ h)
  have hb1 : ∀ k, base k → k < w1.heap.size := fun k hk => by have := hb k hk; omega
  have HW := Lib.hid hw1
  have HZ := Lib.hid z1
  have HK := Lib.hid k1
  have HG1 := Lib.hid g1
  have hgl1 : g < w1.heap.size := by omega
  have HB1 := Lib.hid hb1
  clear hw1 hr z1 k1 g1 hb1
  go_enter Try.func30, Try.ntmps30
  go_wp2_with fail
  rw [← HW.out]
  apply wp_region_draw_turnTail 15 (fun j => j = g) (fun j W => Rs W base g (stO s s1 s2 s3 s4 s5 s6 j)) (.eq _ :: .useEq (.int .u8 (ki : Int)) :: .eq _ :: .use (fun v W => Own W w1.heap.size 5 v (bytes pa)) :: .eq _ :: .eq _ :: .use (fun v W => Own W w1.heap.size 5 v (bytes da)) :: .eq _ :: .useEq (.int .i64 ve) :: .eq _ :: .useEq (.bool false) :: .eq _ :: .useEq (.bool false) :: .ok (fun v W => ∃ dv, v = .agg #[.int .u8 (ki : Int), .string ⟨pa.toArray⟩, dv, .int .i64 ve, .bool false, .bool false, .slice none 0 0] ∧ Own W w1.heap.size 5 dv (bytes da)) :: .ok (fun v W => ∃ hq, v = .pointer (some ⟨hq, 0, none⟩) ∧ CellsAt W hq [.int .u8 0, .string ⟨#[]⟩, .slice none 0 0, .int .i64 0, .bool false, .bool false, .slice none 0 0] 37 ∧ w1.heap.size ≤ hq) :: []) (by kernel_rfl) (by kernel_rfl) ⟨fun v w2 w3 hg h => h.ch hg (fun j hj e => by have := (h.lt j hj).1; omega), fun v w2 w3 hg h => h.ch hg (fun j hj e => by have := (h.lt j hj).1; omega), fun v w2 w3 hg h => by obtain ⟨dv, e, h⟩ := h; exact ⟨dv, e, h.ch hg (fun j hj e => by have := (h.lt j hj).1; omega)⟩, fun v w2 w3 hg h => by obtain ⟨hq, e, k, b⟩ := h; exact ⟨hq, e, k.block (hg.block hq k.lt (fun e => by have : hq = g := e; omega)), b⟩, trivial⟩ (fun j W W' hg h => Rs.gr h hg) (Rs.gr hr1 ((Gr.refl _).drew))
  apply wpT_eq
  · intro W hW _
    unfold opT
    go_simp
    first | exact resT_eq_mk _ _ _ | exact ⟨Gr.refl _, rfl⟩
  simp only [Act.put, pt1, pt2, pt3]
  apply wpT_useEq
  · intro W hW hS hs
    unfold opT
    go_simp
    refine resT_call ((D0.out W hS).mono ?_)
    rintro e W2 ⟨rfl, h2, h3⟩
    exact ⟨_, rfl, ⟨Ch.of_grownBy h3 (fun j hj => by cases hj; rfl), h2⟩, rfl⟩
  simp only [Act.put, pt1, pt2, pt3]
  apply wpT_eq
  · intro W hW _
    unfold opT
    go_simp
    first | exact resT_eq_mk _ _ _ | exact ⟨Gr.refl _, rfl⟩
  simp only [Act.put, pt1, pt2, pt3]
  apply wpT_use
  · intro W hW hS hs
    have hsz : w1.heap.size ≤ W.heap.size := hW.size
    unfold opT
    go_simp
    refine resT_call ((D1.out W hS (fun k hk => Nat.lt_of_lt_of_le (HB1.out k hk) hsz)).mono ?_)
    rintro e W2 ⟨v, rfl, h1, h2, h3⟩
    exact ⟨_, rfl, ⟨Ch.of_grownBy h3 (fun j hj => by cases hj; rfl), h2⟩, h1.mono hsz⟩
  intro vp
  simp only [Act.put, pt1, pt2, pt3]
  apply wpT_eq
  · intro W hW hs
    have hvt := hs _ (.head _) (by rfl)
    have q := run_string_sl (P := Try.prog) 22 5 9 Try.underlying22 Try.underlying5 Try.underlying9 hvt.sl
    unfold opT
    go_simp
    first | exact resT_eq_mk _ _ _ | exact ⟨Gr.refl _, rfl⟩
  simp only [Act.put, pt1, pt2, pt3]
  apply wpT_eq
  · intro W hW _
    unfold opT
    go_simp
    first | exact resT_eq_mk _ _ _ | exact ⟨Gr.refl _, rfl⟩
  simp only [Act.put, pt1, pt2, pt3]
  apply wpT_use
  · intro W hW hS hs
    have hsz : w1.heap.size ≤ W.heap.size := hW.size
    unfold opT
    go_simp
    refine resT_call ((D2.out W hS (fun k hk => Nat.lt_of_lt_of_le (HB1.out k hk) hsz)).mono ?_)
    rintro e W2 ⟨v, rfl, h1, h2, h3⟩
    exact ⟨_, rfl, ⟨Ch.of_grownBy h3 (fun j hj => by cases hj; rfl), h2⟩, h1.mono hsz⟩
  intro vd
  simp only [Act.put, pt1, pt2, pt3]
  apply wpT_eq
  · intro W hW _
    unfold opT
    go_simp
    first | exact resT_eq_mk _ _ _ | exact ⟨Gr.refl _, rfl⟩
  simp only [Act.put, pt1, pt2, pt3]
  apply wpT_useEq
  · intro W hW hS hs
    unfold opT
    go_simp
    refine resT_call ((D3.out W hS).mono ?_)
    rintro e W2 ⟨rfl, h2, h3⟩
    exact ⟨_, rfl, ⟨Ch.of_grownBy h3 (fun j hj => by cases hj; rfl), h2⟩, rfl⟩
  simp only [Act.put, pt1, pt2, pt3]
  apply wpT_eq
  · intro W hW _
    unfold opT
    go_simp
    first | exact resT_eq_mk _ _ _ | exact ⟨Gr.refl _, rfl⟩
  simp only [Act.put, pt1, pt2, pt3]
  apply wpT_useEq
  · intro W hW hS hs
    unfold opT
    go_simp
    refine resT_call ((D4.out W hS).mono ?_)
    rintro e W2 ⟨rfl, h2, h3⟩
    exact ⟨_, rfl, ⟨Ch.of_grownBy h3 (fun j hj => by cases hj; rfl), h2⟩, rfl⟩
  simp only [Act.put, pt1, pt2, pt3]
  apply wpT_eq
  · intro W hW _
    unfold opT
    go_simp
    first | exact resT_eq_mk _ _ _ | exact ⟨Gr.refl _, rfl⟩
  simp only [Act.put, pt1, pt2, pt3]
  apply wpT_useEq
  · intro W hW hS hs
    unfold opT
    go_simp
    refine resT_call ((D5.out W hS).mono ?_)
    rintro e W2 ⟨rfl, h2, h3⟩
    exact ⟨_, rfl, ⟨Ch.of_grownBy h3 (fun j hj => by cases hj; rfl), h2⟩, rfl⟩
  simp only [Act.put, pt1, pt2, pt3]
  apply wpT_ok
  · intro W hW hs
    have hvd := hs _ (.head _) (by rfl)
    obtain ⟨ad, cd, rfl⟩ := hvd.shape
    unfold opT
    go_simp
    exact resT_mk (Gr.refl W) ⟨_, rfl, hvd⟩
  intro vb
  simp only [Act.put, pt1, pt2, pt3]
  apply wpT_ok
  · intro W hW hs
    have hsz : w1.heap.size ≤ W.heap.size := hW.size
    unfold opT
    go_simp
    exact resT_mk ((Gr.refl W).alloc _) ⟨_, rfl, CellsAt.new _ _ _, hsz⟩
  intro vq
  simp only [Act.put, pt1, pt2, pt3]
  apply wpT_nil
  intro W hW hSW hsAll
  obtain ⟨hp, rfl, khp, bhp⟩ := hsAll _ (.head _)
  obtain ⟨dv, rfl, odv⟩ := hsAll _ (.tail _ (.head _))
  obtain ⟨ad, cd, rfl⟩ := odv.shape
  clear hsAll
  have hRW : Rs W base g s6 := hSW
  have kb : CellsAt W w.heap.size [.int .u8 0, .string ⟨#[]⟩, .slice none 0 0, .int .i64 0, .bool false, .bool false, .slice none 0 0] 37 := HK.out.block (hW.block w.heap.size (by have := HK.out.lt; simpa using this) (by show ¬ w.heap.size = g; omega))
  have gW : w.grownBy W (some g) := grownBy_trans (gr_grown (HG1.out.trans ((Gr.refl w1).drew)) g) (Ch.grownBy hW)
  have hne1 : ¬ w.heap.size = hp := by have := HZ.out; omega
  have hne2 : ¬ hp = w.heap.size := by have := HZ.out; omega
  have hnehp := odv.ne_cells khp (by decide)
  have sdv : SlP (fun j => w1.heap.size ≤ j ∧ j ≠ hp) W (.slice ad (bytes da).length cd) (bytes da) := ⟨odv.sl, .inr fun j hj => ⟨odv.ownBlock_ge j hj, hnehp j hj⟩⟩
  have c0 := khp.cell 0
  have f0 := khp.frozen 0
  have c1 := khp.cell 1
  have f1 := khp.frozen 1
  have c2 := khp.cell 2
  have f2 := khp.frozen 2
  have c3 := khp.cell 3
  have f3 := khp.frozen 3
  have c4 := khp.cell 4
  have f4 := khp.frozen 4
  have c5 := khp.cell 5
  have f5 := khp.frozen 5
  have c6 := khp.cell 6
  have f6 := khp.frozen 6
  have KF := Lib.hid ((((((((khp.set 0 (.int .u8 (ki : Int))).set 1 (.string ⟨pa.toArray⟩)).set 2 (.slice ad (bytes da).length cd)).set 3 (.int .i64 ve)).set 4 (.bool false)).set 5 (.bool false)).set 6 (.slice none 0 0)))
  have GF : Hid (W.grownBy (((((((W.setCell ⟨hp, 0, none⟩ (.int .u8 (ki : Int))).setCell ⟨hp, 1, none⟩ (.string ⟨pa.toArray⟩)).setCell ⟨hp, 2, none⟩ (.slice ad (bytes da).length cd)).setCell ⟨hp, 3, none⟩ (.int .i64 ve)).setCell ⟨hp, 4, none⟩ (.bool false)).setCell ⟨hp, 5, none⟩ (.bool false)).setCell ⟨hp, 6, none⟩ (.slice none 0 0)) (some hp)) := Lib.hid (grownBy_trans (grownBy_trans (grownBy_trans (grownBy_trans (grownBy_trans (grownBy_trans (grownBy_setCell W hp 0 (.int .u8 (ki : Int))) (grownBy_setCell _ hp 1 (.string ⟨pa.toArray⟩))) (grownBy_setCell _ hp 2 (.slice ad (bytes da).length cd))) (grownBy_setCell _ hp 3 (.int .i64 ve))) (grownBy_setCell _ hp 4 (.bool false))) (grownBy_setCell _ hp 5 (.bool false))) (grownBy_setCell _ hp 6 (.slice none 0 0)))
  have KB := Lib.hid kb
  have GW := Lib.hid gW
  have RW := Lib.hid hRW
  have SDV := Lib.hid sdv
  have HPS := Lib.hid khp.lt
  have BHP := Lib.hid bhp
  clear hW hSW khp kb gW hRW bhp sdv odv hnehp
  simp only [List.drop_succ_cons, List.drop_zero]
  go_upto_region 2 with fail
  obtain ⟨W2, hW2⟩ : ∃ W2, W2 = (((((((W.setCell ⟨hp, 0, none⟩ (.int .u8 (ki : Int))).setCell ⟨hp, 1, none⟩ (.string ⟨pa.toArray⟩)).setCell ⟨hp, 2, none⟩ (.slice ad (bytes da).length cd)).setCell ⟨hp, 3, none⟩ (.int .i64 ve)).setCell ⟨hp, 4, none⟩ (.bool false)).setCell ⟨hp, 5, none⟩ (.bool false)).setCell ⟨hp, 6, none⟩ (.slice none 0 0)) := ⟨_, rfl⟩
  rw [← hW2] at KF GF ⊢
  simp only [List.set_cons_zero, List.set_cons_succ] at KF
  have K2 : Hid (CellsAt W2 hp [.int .u8 (ki : Int), .string ⟨pa.toArray⟩, .slice ad (bytes da).length cd, .int .i64 ve, .bool false, .bool false, .slice none 0 0] 37) := KF
  have KB2 := Lib.hid (KB.out.other GF.out (fun e => by injection e with e; exact hne2 e))
  have G2 := Lib.hid (grown_new GW.out GF.out (by have := HZ.out; have := BHP.out; omega))
  have R2 := Lib.hid (rs_new RW.out GF.out (fun h => by have := hb _ h; have := HZ.out; have := BHP.out; omega))
  have SD2 := Lib.hid (SDV.out.keep (Keep.of_grown GF.out (fun h => h.2 rfl)))
  have HPS2 : Hid (hp < W2.heap.size) := Lib.hid (Nat.lt_of_lt_of_le HPS.out GF.out.size)
  clear c0 f0 c1 f1 c2 f2 c3 f3 c4 f4 c5 f5 c6 f6 hW2 KF GF KB GW RW HPS SDV
  have hsz2 : w.heap.size ≤ W2.heap.size := G2.out.size
  go_wp2_with fail
  refine (D6.out _ R2.out (fun j hj => Nat.lt_of_lt_of_le (hb j hj) hsz2)).mono ?_
  rintro e W3 ⟨pv, rfl, spv, hr3, hg3⟩
  obtain ⟨ap, ac, rfl⟩ := spv.shape
  have K3 := Lib.hid (K2.out.other hg3 (fun e => by injection e with e; have := HZ.out; have := BHP.out; omega))
  have KB3 := Lib.hid (KB2.out.other hg3 (fun e => by injection e with e; omega))
  have G3 := Lib.hid (grownBy_trans G2.out hg3)
  have R3 := Lib.hid hr3
  have SD3 := Lib.hid (SD2.out.keep (Keep.of_grown hg3 (fun h => by have := h.1; omega)))
  have SP := Lib.hid spv
  clear K2 KB2 G2 R2 hr3 hg3 spv hsz2 SD2
  have y6 := K3.out.cell 6
  have fy6 := K3.out.frozen 6
  go_upto_region 3 with fail
  have kf := K3.out.set 6 (.slice ap ps.length ac)
  have gf := grownBy_setCell W3 hp 6 (.slice ap ps.length ac)
  obtain ⟨W4, hW4⟩ : ∃ W4, W4 = W3.setCell ⟨hp, 6, none⟩ (.slice ap ps.length ac) := ⟨_, rfl⟩
  rw [← hW4] at kf gf ⊢
  simp only [List.set_cons_zero, List.set_cons_succ] at kf
  have K4 : Hid (CellsAt W4 hp [.int .u8 (ki : Int), .string ⟨pa.toArray⟩, .slice ad (bytes da).length cd, .int .i64 ve, .bool false, .bool false, .slice ap ps.length ac] 37) := Lib.hid kf
  have KB4 := Lib.hid (KB3.out.other gf (fun e => by injection e with e; exact hne2 e))
  have G4 := Lib.hid (grown_new G3.out gf (by have := HZ.out; have := BHP.out; omega))
  have R4 := Lib.hid (rs_new R3.out gf (fun h => by have := hb _ h; have := HZ.out; have := BHP.out; omega))
  have SD4 := Lib.hid (SD3.out.keep (Keep.of_grown gf (fun h => h.2 rfl)))
  have SP4 : Hid (OpsP (fun j => w1.heap.size ≤ j) W4 (.slice ap ps.length ac) ps) := Lib.hid ((SP.out.keep (Keep.of_grown gf (fun h => by have h1 : W2.heap.size ≤ hp := h; have := HPS2.out; omega))).mono (fun j hj => by have h1 : W2.heap.size ≤ j := hj; have := HPS2.out; have := BHP.out; omega))
  clear kf gf hW4 y6 fy6 K3 KB3 G3 R3 SD3 SP
  have y0 := K4.out.cell 0
  have b0 := KB4.out.cell 0
  have fb0 := KB4.out.frozen 0
  have y1 := K4.out.cell 1
  have b1 := KB4.out.cell 1
  have fb1 := KB4.out.frozen 1
  have y2 := K4.out.cell 2
  have b2 := KB4.out.cell 2
  have fb2 := KB4.out.frozen 2
  have y3 := K4.out.cell 3
  have b3 := KB4.out.cell 3
  have fb3 := KB4.out.frozen 3
  have y4 := K4.out.cell 4
  have b4 := KB4.out.cell 4
  have fb4 := KB4.out.frozen 4
  have y5 := K4.out.cell 5
  have b5 := KB4.out.cell 5
  have fb5 := KB4.out.frozen 5
  have y6 := K4.out.cell 6
  have b6 := KB4.out.cell 6
  have fb6 := KB4.out.frozen 6
  have kf := (((((((KB4.out.set 0 (.int .u8 (ki : Int))).set 1 (.string ⟨pa.toArray⟩)).set 2 (.slice ad (bytes da).length cd)).set 3 (.int .i64 ve)).set 4 (.bool false)).set 5 (.bool false)).set 6 (.slice ap ps.length ac))
  have gf : W4.grownBy (((((((W4.setCell ⟨w.heap.size, 0, none⟩ (.int .u8 (ki : Int))).setCell ⟨w.heap.size, 1, none⟩ (.string ⟨pa.toArray⟩)).setCell ⟨w.heap.size, 2, none⟩ (.slice ad (bytes da).length cd)).setCell ⟨w.heap.size, 3, none⟩ (.int .i64 ve)).setCell ⟨w.heap.size, 4, none⟩ (.bool false)).setCell ⟨w.heap.size, 5, none⟩ (.bool false)).setCell ⟨w.heap.size, 6, none⟩ (.slice ap ps.length ac)) (some w.heap.size) := (grownBy_trans (grownBy_trans (grownBy_trans (grownBy_trans (grownBy_trans (grownBy_trans (grownBy_setCell W4 w.heap.size 0 (.int .u8 (ki : Int))) (grownBy_setCell _ w.heap.size 1 (.string ⟨pa.toArray⟩))) (grownBy_setCell _ w.heap.size 2 (.slice ad (bytes da).length cd))) (grownBy_setCell _ w.heap.size 3 (.int .i64 ve))) (grownBy_setCell _ w.heap.size 4 (.bool false))) (grownBy_setCell _ w.heap.size 5 (.bool false))) (grownBy_setCell _ w.heap.size 6 (.slice ap ps.length ac)))
  have SF := (SD4.out.keep (Keep.of_grown gf (fun h => by have h1 := h.1; have := HZ.out; omega))).mono (Q := From w.heap.size) (fun k hk => by have h1 := hk.1; have := HZ.out; show w.heap.size ≤ k; omega)
  have PF := (SP4.out.keep (Keep.of_grown gf (fun h => by have h1 : w1.heap.size ≤ w.heap.size := h; have := HZ.out; omega))).mono (Q := From w.heap.size) (fun k hk => by have := HZ.out; show w.heap.size ≤ k; omega)
  have x0 := kf.cell 0
  have x1 := kf.cell 1
  have x2 := kf.cell 2
  have x3 := kf.cell 3
  have x4 := kf.cell 4
  have x5 := kf.cell 5
  have x6 := kf.cell 6
  simp only [List.set_cons_zero, List.set_cons_succ, List.getElem?_cons_zero, List.getElem?_cons_succ] at x0 x1 x2 x3 x4 x5 x6
  clear kf
  go_wp2
  exact bodyPost_ret (v := .agg #[.int .u8 (ki : Int), .string ⟨pa.toArray⟩, .slice ad (bytes da).length cd, .int .i64 ve, .bool false, .bool false, .slice ap ps.length ac]) (by simp [results, Try.f30, go_sem, x0, x1, x2, x3, x4, x5, x6]) rfl ⟨_, rfl, ⟨_, _, rfl, OpP.of SF PF⟩, rs_new R4.out gf hnb, grown_new G4.out gf (Nat.le_refl _)⟩
theorem getOp_gen (m : Nat) (hm : m ≤ 1000) (w : World) (base : Nat → Prop) (g : Nat) (s : RS) (hr : Rs w base g s) (hb : ∀ k, base k → k < w.heap.size) (hl : s.1.length ≤ 1000000000) (ps : List OpD) (s7 : RS)
    (hlist : ∀ W, Rs W base g (rHead s).2 → (∀ k, base k → k < W.heap.size) → Calls Try.prog 73 #[.pointer (some ⟨g, 0, none⟩), .int .i64 (m : Int), .func (.func 74) #[] #[]] W (GotP W base g (fun v V => OpsP (From W.heap.size) V v ps) s7)) :
    Calls Try.prog 30 #[.pointer (some ⟨g, 0, none⟩), .int .i64 (m : Int)] w (GotP w base g (OpIs w.heap.size (.mk (rHead s).1 ps)) s7) := by
  cases h1 : (rHead s).1.seq with
  | true =>
    cases h2 : (rHead s).1.eph with
    | true => exact getOp_true_true m hm w base g s hr hb hl ps s7 hlist h1 h2
    | false => exact getOp_true_false m hm w base g s hr hb hl ps s7 hlist h1 h2
  | false =>
    cases h2 : (rHead s).1.eph with
    | true => exact getOp_false_true m hm w base g s hr hb hl ps s7 hlist h1 h2
    | false => exact getOp_false_false m hm w base g s hr hb hl ps s7 hlist h1 h2
theorem left_head : Left rHead := fun s => Nat.le_trans (left_flag _) (Nat.le_trans (left_flag _) (Nat.le_trans (rUint_left _) (Nat.le_trans (left_text 64 _) (Nat.le_trans (left_text 64 _) (rByte_left s)))))
theorem left_op0 : Left rOp0 := fun s => by unfold rOp0; exact Nat.le_trans (rCount_left 0 _) (left_head s)
theorem left_op : Left rOp := fun s => by unfold rOp; exact Nat.le_trans (left_list left_op0 6 _) (left_head s)
theorem listedZ_any (w : World) (base : Nat → Prop) (g : Nat) (s : RS) (hr : Rs w base g s) (hl : s.1.length ≤ 1000000000) :
    Calls Try.prog 73 #[.pointer (some ⟨g, 0, none⟩), .int .i64 0, .func (.func 74) #[] #[]] w (GotP w base g (fun v V => OpsP (From w.heap.size) V v []) (rCount ((0 : Nat) : Int) s).2) := by
  have C0 := get_count w base g s ((0 : Nat) : Int) (by decide) hr hl
  have h0 : (rCount ((0 : Nat) : Int) s).1 = 0 := by have := rCount_most 0 s; omega
  rw [h0] at C0
  have CC := Lib.hid C0
  clear C0 h0
  go_enter Try.func73, Try.ntmps73
  go_wp2_with fail
  refine CC.out.mono ?_
  rintro e w1 ⟨rfl, hr1, hg1⟩
  go_wp2
  go_loop [7, 11] (fun v i => v = .slice none 0 0 ∧ i = .int .i64 0) (fun _ _ => 0)
  case atStart => exact ⟨rfl, rfl⟩
  case round =>
    obtain ⟨rfl, rfl⟩ := hrel
    go_wp2
    go_ret
    exact ⟨_, rfl, OpsP.nil _ _ _ _, hr1, hg1⟩
def OpIs0 (B : Nat) (o : OpD) (v : Value) (W : World) : Prop := ∃ dv, (∃ a c, v = .agg (opCells o.h dv (.slice a 0 c)).toArray) ∧ SlP (From B) W dv (bytes o.h.data)
theorem getOp0_any (w : World) (base : Nat → Prop) (g : Nat) (s : RS) (hr : Rs w base g s) (hb : ∀ k, base k → k < w.heap.size) (hl : s.1.length ≤ 1000000000) :
    Calls Try.prog 30 #[.pointer (some ⟨g, 0, none⟩), .int .i64 0] w (GotP w base g (OpIs0 w.heap.size (rOp0 s).1) (rOp0 s).2) := by
  refine (getOp_gen 0 (by decide) w base g s hr hb hl [] (rCount ((0 : Nat) : Int) (rHead s).2).2 (fun W hr hb => listedZ_any W base g _ hr (Nat.le_trans (left_head s) hl))).mono ?_
  rintro e w' ⟨v, rfl, ⟨dv, pv, rfl, hp⟩, h2, h3⟩
  obtain ⟨p1, p2⟩ := hp.parts
  obtain ⟨a, c, rfl⟩ := p2.shape
  exact ⟨_, rfl, ⟨dv, ⟨a, c, rfl⟩, p1⟩, h2, h3⟩
set_option maxHeartbeats 1000000 in
theorem getOp1_any (w : World) (base : Nat → Prop) (g : Nat) (s : RS) (hr : Rs w base g s) (hb : ∀ k, base k → k < w.heap.size) (hl : s.1.length ≤ 1000000000) :
    Calls Try.prog 74 #[.pointer (some ⟨g, 0, none⟩)] w (GotP w base g (OpIs0 w.heap.size (rOp0 s).1) (rOp0 s).2) := by
  have C := fun W h hb => getOp0_any W base g s h hb hl
  have e : (rOp0 s).1.parts = [] := rfl
  obtain ⟨o, ho⟩ : ∃ o, o = (rOp0 s).1 := ⟨_, rfl⟩
  obtain ⟨s2, hs2⟩ : ∃ s2, s2 = (rOp0 s).2 := ⟨_, rfl⟩
  rw [← ho] at e
  rw [← ho, ← hs2] at C ⊢
  obtain ⟨⟨ki, pa, da, ve, sq, ep⟩, ps⟩ := o
  have CC := Lib.hid C
  clear C ho hs2 e
  obtain ⟨w1, hw1⟩ : ∃ w1, w1 = w.alloc (.cells #[.int .u8 0, .string ⟨#[]⟩, .slice none 0 0, .int .i64 0, .bool false, .bool false, .slice none 0 0] 37) := ⟨_, rfl⟩
  have g1 : Gr w w1 := by rw [hw1]; exact (Gr.refl w).alloc _
  have z1 : w1.heap.size = w.heap.size + 1 := by rw [hw1]; simp
  have K1 : Hid (CellsAt w1 w.heap.size [.int .u8 0, .string ⟨#[]⟩, .slice none 0 0, .int .i64 0, .bool false, .bool false, .slice none 0 0] 37) := Lib.hid (by rw [hw1]; exact CellsAt.new _ _ _)
  have hr1 := Rs.gr hr g1
  have hgl := hr.lt
  have hnb : ¬ base w.heap.size := fun h => Nat.lt_irrefl _ (hb _ h)
  have HW := Lib.hid hw1
  have HZ := Lib.hid z1
  have HG1 := Lib.hid g1
  clear hw1 hr z1 g1
  go_enter Try.func74, Try.ntmps74
  go_wp2_with fail
  rw [← HW.out]
  refine (CC.out _ hr1 (fun k hk => by have := hb k hk; have := HZ.out; omega)).mono ?_
  rintro e w2 ⟨v, rfl, ⟨dv, ⟨qa, qc, rfl⟩, sdv⟩, hr2, hg2⟩
  dsimp only [opCells, OpD.h] at sdv ⊢
  obtain ⟨ad, cd, rfl⟩ := sdv.1.oneCells
  have K2 := Lib.hid (K1.out.other hg2 (fun e => by injection e with e; omega))
  have G2 := Lib.hid (grownBy_trans (gr_grown HG1.out g) hg2)
  have R2 := Lib.hid hr2
  have SD := Lib.hid sdv
  clear hr1 hr2 hg2 K1 sdv
  have b0 := K2.out.cell 0
  have fb0 := K2.out.frozen 0
  have b1 := K2.out.cell 1
  have fb1 := K2.out.frozen 1
  have b2 := K2.out.cell 2
  have fb2 := K2.out.frozen 2
  have b3 := K2.out.cell 3
  have fb3 := K2.out.frozen 3
  have b4 := K2.out.cell 4
  have fb4 := K2.out.frozen 4
  have b5 := K2.out.cell 5
  have fb5 := K2.out.frozen 5
  have b6 := K2.out.cell 6
  have fb6 := K2.out.frozen 6
  have kf := (((((((K2.out.set 0 (.int .u8 (ki : Int))).set 1 (.string ⟨pa.toArray⟩)).set 2 (.slice ad (bytes da).length cd)).set 3 (.int .i64 ve)).set 4 (.bool sq)).set 5 (.bool ep)).set 6 (.slice qa 0 qc))
  have gf : w2.grownBy (((((((w2.setCell ⟨w.heap.size, 0, none⟩ (.int .u8 (ki : Int))).setCell ⟨w.heap.size, 1, none⟩ (.string ⟨pa.toArray⟩)).setCell ⟨w.heap.size, 2, none⟩ (.slice ad (bytes da).length cd)).setCell ⟨w.heap.size, 3, none⟩ (.int .i64 ve)).setCell ⟨w.heap.size, 4, none⟩ (.bool sq)).setCell ⟨w.heap.size, 5, none⟩ (.bool ep)).setCell ⟨w.heap.size, 6, none⟩ (.slice qa 0 qc)) (some w.heap.size) := (grownBy_trans (grownBy_trans (grownBy_trans (grownBy_trans (grownBy_trans (grownBy_trans (grownBy_setCell w2 w.heap.size 0 (.int .u8 (ki : Int))) (grownBy_setCell _ w.heap.size 1 (.string ⟨pa.toArray⟩))) (grownBy_setCell _ w.heap.size 2 (.slice ad (bytes da).length cd))) (grownBy_setCell _ w.heap.size 3 (.int .i64 ve))) (grownBy_setCell _ w.heap.size 4 (.bool sq))) (grownBy_setCell _ w.heap.size 5 (.bool ep))) (grownBy_setCell _ w.heap.size 6 (.slice qa 0 qc)))
  have SF := (SD.out.keep (Keep.of_grown gf (fun h => by have h1 : w1.heap.size ≤ w.heap.size := h; have := HZ.out; omega))).mono (Q := From w.heap.size) (fun k hk => by have h1 : w1.heap.size ≤ k := hk; have := HZ.out; show w.heap.size ≤ k; omega)
  have x0 := kf.cell 0
  have x1 := kf.cell 1
  have x2 := kf.cell 2
  have x3 := kf.cell 3
  have x4 := kf.cell 4
  have x5 := kf.cell 5
  have x6 := kf.cell 6
  simp only [List.set_cons_zero, List.set_cons_succ, List.getElem?_cons_zero, List.getElem?_cons_succ] at x0 x1 x2 x3 x4 x5 x6
  clear kf
  go_wp2
  exact bodyPost_ret (v := .agg #[.int .u8 (ki : Int), .string ⟨pa.toArray⟩, .slice ad (bytes da).length cd, .int .i64 ve, .bool sq, .bool ep, .slice qa 0 qc]) (by simp [results, Try.f74, go_sem, x0, x1, x2, x3, x4, x5, x6]) rfl ⟨_, rfl, ⟨_, ⟨_, _, rfl⟩, SF⟩, rs_new R2.out gf hnb, grown_new G2.out gf (Nat.le_refl _)⟩
def GotO (w : World) (base : Nat → Prop) (g : Nat) (l : List OpD) (s : RS) (en : Ending) (w' : World) : Prop := ∃ v, en = .returned v ∧ OpsR w' w.heap.size v l ∧ Rs w' base g s ∧ w.grownBy w' (some g)
set_option maxHeartbeats 2000000 in
theorem listedO_any (w : World) (base : Nat → Prop) (g : Nat) (s : RS) (hr : Rs w base g s) (hb : ∀ k, base k → k < w.heap.size) (hl : s.1.length ≤ 1000000000) :
    Calls Try.prog 73 #[.pointer (some ⟨g, 0, none⟩), .int .i64 6, .func (.func 74) #[] #[]] w (GotO w base g (rList 6 rOp0 s).1 (rList 6 rOp0 s).2) := by
  obtain ⟨n, hn⟩ : ∃ n, n = (rCount ((6 : Nat) : Int) s).1 := ⟨_, rfl⟩
  obtain ⟨s1, hs1⟩ : ∃ s1, s1 = (rCount ((6 : Nat) : Int) s).2 := ⟨_, rfl⟩
  have e1 : rList 6 rOp0 s = rMany rOp0 n s1 := by rw [hn, hs1]; rfl
  have hn3 : n ≤ 6 := by rw [hn]; exact rCount_most 6 s
  have l1 : s1.1.length ≤ 1000000000 := by rw [hs1]; exact Nat.le_trans (rCount_left 6 s) hl
  have CO := get_count w base g s ((6 : Nat) : Int) (by decide) hr hl
  rw [← hn, ← hs1] at CO
  rw [e1]
  have hgl := hr.lt
  have CC := Lib.hid CO
  clear CO hn hs1 e1
  go_enter Try.func73, Try.ntmps73
  go_wp2_with fail
  refine CC.out.mono ?_
  rintro e w1 ⟨rfl, hr1, hg1⟩
  go_wp2
  go_loopw [7, 11] (fun v i wr => ∃ k : Nat, k ≤ n ∧ i = .int .i64 k ∧ OpsR wr w.heap.size v (rMany rOp0 k s1).1 ∧ Rs wr base g (rMany rOp0 k s1).2 ∧ w.grownBy wr (some g)) (fun _ i _ => n - (intOf i).toNat)
  case atStart => exact ⟨0, Nat.zero_le _, rfl, OpsR.nil _ _, hr1, hg1⟩
  case round =>
    clear hr1 hg1
    obtain ⟨k, hk, rfl, ho, hr2, hg2⟩ := hrel
    obtain ⟨wo, rfl⟩ : ∃ wo : World, wo = wr := ⟨_, rfl⟩
    by_cases hlt : k < n
    · have l2 := Nat.le_trans (left_many left_op0 k s1) l1
      have en : rMany rOp0 (k + 1) s1 = ((rMany rOp0 k s1).1 ++ [(rOp0 (rMany rOp0 k s1).2).1], (rOp0 (rMany rOp0 k s1).2).2) := rfl
      have hlen : (rMany rOp0 k s1).1.length = k := rMany_length _ _ _
      have EN := Lib.hid en
      obtain ⟨ls, hls⟩ : ∃ ls, ls = (rMany rOp0 k s1).1 := ⟨_, rfl⟩
      obtain ⟨sk, hsk⟩ : ∃ sk, sk = (rMany rOp0 k s1).2 := ⟨_, rfl⟩
      rw [← hls, ← hsk] at EN
      rw [← hls] at ho hlen
      rw [← hsk] at hr2 l2
      have HLEN := Lib.hid hlen
      clear en hls hsk hlen
      have hbo : ∀ j, base j → j < wo.heap.size := fun j hj => Nat.lt_of_lt_of_le (hb j hj) hg2.size
      have GU := getOp1_any wo base g sk hr2 hbo l2
      have hnil : (rOp0 sk).1.parts = [] := rfl
      obtain ⟨x, hx⟩ : ∃ x, x = (rOp0 sk).1 := ⟨_, rfl⟩
      obtain ⟨s3, hs3⟩ : ∃ s3, s3 = (rOp0 sk).2 := ⟨_, rfl⟩
      rw [← hx, ← hs3] at GU EN
      rw [← hx] at hnil
      obtain ⟨⟨ki, pa, dt, ve, sq, ep⟩, qs⟩ := x
      have HNIL := Lib.hid hnil
      clear hnil
      have GU2 := Lib.hid GU
      have HBO := Lib.hid hbo
      clear GU hx hs3 hbo
      have i1 : (0 : Int) ≤ (k : Int) := by omega
      have i2 : (k : Int) < (n : Int) := by omega
      go_wp2_with fail
      refine GU2.out.mono ?_
      rintro e w3 ⟨vn, rfl, ⟨dv, ⟨qa, qc, rfl⟩, sdv⟩, hr3, hg3⟩
      dsimp only [opCells, OpD.h] at sdv ⊢
      obtain ⟨ad, cd, rfl⟩ := sdv.1.oneCells
      have o3 := ho.keep (keep_from hg3 hgl)
      have hsz : w.heap.size ≤ w3.heap.size := (grownBy_trans hg2 hg3).size
      have hub : ∀ j, u7.ownBlock = some j → w.heap.size ≤ j ∧ j < wo.heap.size := ho.lt
      have hal : Gr w3 (w3.alloc (.cells #[.int .u8 (ki : Int), .string ⟨pa.toArray⟩, .slice ad (bytes dt).length cd, .int .i64 ve, .bool sq, .bool ep, .slice qa 0 qc] 37)) := (Gr.refl w3).alloc _
      obtain ⟨v4, w4, hrun, p1, p2⟩ := run_append_op (w3.alloc (.cells #[.int .u8 (ki : Int), .string ⟨pa.toArray⟩, .slice ad (bytes dt).length cd, .int .i64 ve, .bool sq, .bool ep, .slice qa 0 qc] 37)) w.heap.size u7 ls (.mk ⟨ki, pa, dt, ve, sq, ep⟩ qs) (.slice ad (bytes dt).length cd) qa qc w3.heap.size
        (o3.keep (Keep.of_gr hal)) HNIL.out ((sdv.gr hal).mono fun j hj => ⟨Nat.le_trans hg2.size hj, fun e => by have h1 := (hub j e).2; have h2 : wo.heap.size ≤ j := hj; omega⟩) (CellsAt.new w3 _ _) (by rw [HLEN.out]; omega) (by simp; omega)
      have r4 := rs_newO (Rs.gr hr3 hal) p2 (fun j hj hq => by have := (hub j hj).1; have := hb j hq; omega)
      have g4 : w.grownBy w4 (some g) := grown_newO (grownBy_trans (grownBy_trans hg2 hg3) (gr_grown hal g)) p2 (fun j hj => (hub j hj).1)
      have P1 : Hid (OpsR w4 w.heap.size v4 (rMany rOp0 (k + 1) s1).1) := Lib.hid (by rw [EN.out]; exact p1)
      have R4 : Hid (Rs w4 base g (rMany rOp0 (k + 1) s1).2) := Lib.hid (by rw [EN.out]; exact r4)
      have G4 := Lib.hid g4
      have HRUN := Lib.hid hrun
      clear hrun p1 p2 r4 g4 o3 ho hr2 hr3 hg2 hg3 hub hal sdv hsz
      go_wp2_with (at_builtin; refine wpList_run_append HRUN.out rfl _ _ rfl rfl rfl ?_; clear HRUN)
      go_roundw
      case rel => exact ⟨k + 1, by omega, by go_num, P1.out, R4.out, G4.out⟩
      case measure => simp [intOf]; omega
    · obtain rfl : k = n := by omega
      go_wp2
      go_ret
      exact ⟨_, rfl, ho, hr2, hg2⟩
theorem getOp_any (w : World) (base : Nat → Prop) (g : Nat) (s : RS) (hr : Rs w base g s) (hb : ∀ k, base k → k < w.heap.size) (hl : s.1.length ≤ 1000000000) :
    Calls Try.prog 30 #[.pointer (some ⟨g, 0, none⟩), .int .i64 6] w (GotP w base g (OpIs w.heap.size (rOp s).1) (rOp s).2) := by
  have L := fun W h hb => listedO_any W base g (rHead s).2 h hb (Nat.le_trans (left_head s) hl)
  obtain ⟨ps, hps⟩ : ∃ ps, ps = (rList 6 rOp0 (rHead s).2).1 := ⟨_, rfl⟩
  obtain ⟨s7, hs7⟩ : ∃ s7, s7 = (rList 6 rOp0 (rHead s).2).2 := ⟨_, rfl⟩
  have e : rOp s = (.mk (rHead s).1 ps, s7) := by rw [hps, hs7]; rfl
  rw [← hps, ← hs7] at L
  rw [e]
  clear e hps hs7
  refine getOp_gen 6 (by decide) w base g s hr hb hl ps s7 (fun W hr hb => (L W hr hb).mono ?_)
  rintro e w' ⟨v, rfl, h1, h2, h3⟩
  exact ⟨_, rfl, h1.ops, h2, h3⟩
end Go.Proofs.Ytiemgmbjhllmbaa
