/-
  WanApart: unlike messages have unlike bytes, like ones the same; what is handed in stays.
-/
import Derived.Test.YtgilijkmmcpfjaaZWOpen
import Derived.JoinedCond
set_option linter.unusedVariables false
set_option linter.unusedSimpArgs false
set_option maxRecDepth 100000
namespace Go.Proofs.Ytgilijkmmcpfjaa
open Go.RowKit
theorem putW_zero {x : WanD} (h : (putW x).2 = 0) : MayW x ∧ (putW x).1 = wanB x := by
  by_cases m : MayW x
  · exact ⟨m, by rw [putW_may m]⟩
  · rw [putW_not m] at h; cases h
theorem wapart_facts {x y : WanD} (hx : WanOk x) (hy : WanOk y) (h1 : (putW x).2 = 0) (h2 : (putW y).2 = 0) : (putW x).1 = (putW y).1 ↔ x = y := by
  obtain ⟨m1, e1⟩ := putW_zero h1
  obtain ⟨m2, e2⟩ := putW_zero h2
  rw [e1, e2]
  exact ⟨wan_apart hx m1 hy m2, fun e => by rw [e]⟩
set_option maxHeartbeats 8000000 in
theorem wapart_walk (w : World) (x y : WanD) (a1 b1 c1 a2 b2 c2 : Value) (hp1 : WanP Any w x a1 b1 c1) (hp2 : WanP Any w y a2 b2 c2) (ok1 : WanOk x) (ok2 : WanOk y) :
    Calls Try.prog 6 #[.agg (wanCells x a1 b1 c1).toArray, .agg (wanCells y a2 b2 c2).toArray] w fun e w' => e = .returned (.bool true) ∧ Below w.heap.size w w' := by
  have PUT1 : Hid (WanLight x → ∀ W, Gr w W → Calls Try.prog 10 #[.agg (wanCells x a1 b1 c1).toArray] W (RetPutW W x)) := Lib.hid fun hl W hW => putW_any W x a1 b1 c1 (hp1.gr hW) ok1 hl.len
  have HEAVY1 : Hid (∀ W, Gr w W → Calls Try.prog 9 #[.agg (wanCells x a1 b1 c1).toArray] W (NotThenW (WanLight x) W)) := Lib.hid fun W hW => heavy_any W x a1 b1 c1 (hp1.gr hW)
  obtain ⟨L1, hL1⟩ : ∃ L, L = (putW x).1 := ⟨_, rfl⟩
  obtain ⟨pe1, hpe1⟩ : ∃ pe, pe = (putW x).2 := ⟨_, rfl⟩
  have RP1 : Hid (∀ W e W', RetPutW W x e W' → ∃ v, e = .returned (.tuple #[v, .int .i64 pe1]) ∧ Sl W' v (bytes L1) ∧ Gr W W') := Lib.hid fun W e W' h => by rw [hL1, hpe1]; exact h
  have PUT2 : Hid (WanLight y → ∀ W, Gr w W → Calls Try.prog 10 #[.agg (wanCells y a2 b2 c2).toArray] W (RetPutW W y)) := Lib.hid fun hl W hW => putW_any W y a2 b2 c2 (hp2.gr hW) ok2 hl.len
  have HEAVY2 : Hid (∀ W, Gr w W → Calls Try.prog 9 #[.agg (wanCells y a2 b2 c2).toArray] W (NotThenW (WanLight y) W)) := Lib.hid fun W hW => heavy_any W y a2 b2 c2 (hp2.gr hW)
  obtain ⟨L2, hL2⟩ : ∃ L, L = (putW y).1 := ⟨_, rfl⟩
  obtain ⟨pe2, hpe2⟩ : ∃ pe, pe = (putW y).2 := ⟨_, rfl⟩
  have RP2 : Hid (∀ W e W', RetPutW W y e W' → ∃ v, e = .returned (.tuple #[v, .int .i64 pe2]) ∧ Sl W' v (bytes L2) ∧ Gr W W') := Lib.hid fun W e W' h => by rw [hL2, hpe2]; exact h
  obtain ⟨sm, hsm⟩ : ∃ sm : Bool, sm = true ↔ x = y := by
    by_cases h : x = y
    · exact ⟨true, fun _ => h, fun _ => rfl⟩
    · exact ⟨false, fun e => (by cases e), fun e => absurd e h⟩
  have SAME : Hid (WanLight x → WanLight y → ∀ W, Gr w W → Calls Try.prog 15 #[.agg (wanCells x a1 b1 c1).toArray, .agg (wanCells y a2 b2 c2).toArray] W (fun e w' => e = .returned (.bool sm) ∧ Gr W w')) := Lib.hid fun h1 h2 W hW => (wan_says W x y a1 b1 c1 a2 b2 c2 (hp1.gr hW) (hp2.gr hW) h1.short h2.short).mono fun e w' ⟨z, he, hz, hg⟩ => ⟨by
    have : z = sm := by rw [Bool.eq_iff_iff, hz, hsm]
    rw [he, this], hg⟩
  have FACTS : Hid (pe1 = 0 → pe2 = 0 → (L1 == L2) = sm) := Lib.hid fun h1 h2 => by
    rw [hpe1] at h1
    rw [hpe2] at h2
    have f2 := wapart_facts ok1 ok2 h1 h2
    rw [Bool.eq_iff_iff, hsm, ← f2, hL1, hL2, beq_iff_eq]
  obtain ⟨E1, hE1⟩ : ∃ E, E = wanCells x a1 b1 c1 := ⟨_, rfl⟩
  obtain ⟨E2, hE2⟩ : ∃ E, E = wanCells y a2 b2 c2 := ⟨_, rfl⟩
  have EN1 : Hid (E1.length = 7) := Lib.hid (by rw [hE1]; rfl)
  have EN2 : Hid (E2.length = 7) := Lib.hid (by rw [hE2]; rfl)
  rw [← hE1] at PUT1 HEAVY1 SAME ⊢
  rw [← hE2] at PUT2 HEAVY2 SAME ⊢
  obtain ⟨PP1, hPP1⟩ : ∃ PP : Prop, PP = WanLight x := ⟨_, rfl⟩
  obtain ⟨PP2, hPP2⟩ : ∃ PP : Prop, PP = WanLight y := ⟨_, rfl⟩
  rw [← hPP1] at HEAVY1 SAME PUT1
  rw [← hPP2] at HEAVY2 SAME PUT2
  clear hL1 hL2 hpe1 hpe2 hE1 hE2 hp1 hp2 ok1 ok2 hPP1 hPP2 hsm
  go_enter Try.func6, Try.ntmps6
  go_wp2_with (first | (refine wpList_boxE _ rfl rfl rfl ?_) | fail)
  intro w0 k0 g0 n0
  have K0 := Lib.hid k0
  have G0 := Lib.hid g0
  clear k0 g0
  go_wp2_with (first | (refine wpList_boxE _ rfl rfl rfl ?_) | fail)
  intro w1 k1 g1 n1
  obtain ⟨B1, hb1⟩ : ∃ B1, B1 = w.heap.size := ⟨_, rfl⟩
  obtain ⟨B2, hb2⟩ : ∃ B2, B2 = w.heap.size + 1 := ⟨_, rfl⟩
  rw [← hb1] at K0
  rw [← hb2] at k1
  have KA := Lib.hid (K0.out.gr g1)
  have KB := Lib.hid k1
  have GG := Lib.hid (G0.out.trans g1)
  have HB1 : Hid (w.heap.size = B1) := Lib.hid hb1.symm
  have HB2 : Hid (w.heap.size + 1 = B2) := Lib.hid hb2.symm
  try rw [HB2.out]
  try rw [HB1.out]
  clear K0 G0 k1 g1 n0 n1 hb1 hb2
  go_wp2_with (first | (refine wpList_loadE wanTy _ rfl rfl rfl KA.out EN1.out ?_) | fail)
  refine (HEAVY1.out w1 GG.out).mono ?_
  rintro en w2 ⟨z1, rfl, hz1, g2⟩
  have G2 := Lib.hid (GG.out.trans g2)
  have KA2 := Lib.hid (KA.out.gr g2)
  have KB2 := Lib.hid (KB.out.gr g2)
  cases z1 with
  | true =>
    clear hz1 g2
    go_wp2
    go_ret
    exact ⟨rfl, G2.out⟩
  | false =>
  have SH1 := Lib.hid (hz1 rfl)
  clear hz1 g2 KA KB
  go_wp2_with (first | (refine wpList_loadW wanTy _ rfl rfl rfl KB2.out EN2.out ?_) | fail)
  refine (HEAVY2.out w2 G2.out).mono ?_
  rintro en w3 ⟨z2, rfl, hz2, g3⟩
  have G3 := Lib.hid (G2.out.trans g3)
  have KA3 := Lib.hid (KA2.out.gr g3)
  have KB3 := Lib.hid (KB2.out.gr g3)
  cases z2 with
  | true =>
    clear hz2 g3
    go_wp2
    go_ret
    exact ⟨rfl, G3.out⟩
  | false =>
  have SH2 := Lib.hid (hz2 rfl)
  clear hz2 g3 KA2 KB2
  go_wp2_with (first | (refine wpList_loadE wanTy _ rfl rfl rfl KA3.out EN1.out ?_) | fail)
  refine (PUT1.out SH1.out w3 G3.out).mono ?_
  intro en w4 h4
  obtain ⟨v4, rfl, s4, g4⟩ := RP1.out _ _ _ h4
  obtain ⟨a4, c4, hv4⟩ := s4.oneCells
  rw [bytes_length] at hv4
  subst hv4
  have G4 := Lib.hid (G3.out.trans g4)
  have S4 := Lib.hid s4
  have KA4 := Lib.hid (KA3.out.gr g4)
  have KB4 := Lib.hid (KB3.out.gr g4)
  clear h4 g4 s4 KA3 KB3
  go_wp2_with (first | (refine wpList_loadE wanTy _ rfl rfl rfl KB4.out EN2.out ?_) | fail)
  refine (PUT2.out SH2.out w4 G4.out).mono ?_
  intro en w5 h5
  obtain ⟨v5, rfl, s5, g5⟩ := RP2.out _ _ _ h5
  obtain ⟨a5, c5, hv5⟩ := s5.oneCells
  rw [bytes_length] at hv5
  subst hv5
  have G5 := Lib.hid (G4.out.trans g5)
  have S5 := Lib.hid s5
  have KA5 := Lib.hid (KA4.out.gr g5)
  have KB5 := Lib.hid (KB4.out.gr g5)
  have S45 := Lib.hid (S4.out.below g5)
  clear h5 g5 s5 KA4 KB4 S4
  by_cases hz : pe1 = 0
  rotate_left
  · have hzz : (pe1 == 0) = false := by simp; exact hz
    go_wp2_with fail
    refine (tells_any w5).mono ?_
    rintro en wt ⟨rfl, gt⟩
    have Gt := Lib.hid (G5.out.trans gt)
    clear gt
    go_wp2
    go_ret
    exact ⟨rfl, Gt.out⟩
  by_cases hy : pe2 = 0
  rotate_left
  · have hzz : (pe2 == 0) = false := by simp; exact hy
    subst hz
    go_wp2_with fail
    refine (tells_any w5).mono ?_
    rintro en wt ⟨rfl, gt⟩
    have Gt := Lib.hid (G5.out.trans gt)
    clear gt
    go_wp2
    go_ret
    exact ⟨rfl, Gt.out⟩
  subst hz hy
  have hst := FACTS.out (by trivial) (by trivial)
  have SM := Lib.hid (SAME.out SH1.out SH2.out)
  have HST := Lib.hid hst
  clear hst FACTS
  have GD : Hid (Gr w5 w5.drew) := Lib.hid ((Gr.refl w5).drew)
  go_wp2_with fail
  apply wp_region_draw_grow (.eq _ :: .eq _ :: .eq _ :: .eq _ :: .eq _ :: .eq _ :: .eq _ :: .eq _ :: .eq _ :: .eq _ :: .eq _ :: .eq _ :: .eq _ :: []) (by kernel_rfl) (by kernel_rfl) trivial
  apply wpG_eq
  · intro W hW hs
    unfold opG
    go_simp
    first | exact resG_eq_mk _ _ _ | rfl
  simp only [Act.put, pt1, pt2, pt3]
  apply wpG_eq
  · intro W hW hs
    have r := run_string_sl (P := Try.prog) 28 5 9 Try.underlying28 Try.underlying5 Try.underlying9 (S45.out.below (GD.out.trans hW))
    unfold opG
    go_simp
    first | exact resG_eq_mk _ _ _ | rfl
  simp only [Act.put, pt1, pt2, pt3]
  apply wpG_eq
  · intro W hW hs
    unfold opG
    go_simp
    first | exact resG_eq_mk _ _ _ | rfl
  simp only [Act.put, pt1, pt2, pt3]
  apply wpG_eq
  · intro W hW hs
    have r := run_string_sl (P := Try.prog) 28 5 9 Try.underlying28 Try.underlying5 Try.underlying9 (S5.out.below (GD.out.trans hW))
    unfold opG
    go_simp
    first | exact resG_eq_mk _ _ _ | rfl
  simp only [Act.put, pt1, pt2, pt3]
  apply wpG_eq
  · intro W hW hs
    unfold opG
    go_simp
    first | exact resG_eq_mk _ _ _ | rfl
  simp only [Act.put, pt1, pt2, pt3]
  apply wpG_eq
  · intro W hW hs
    exact opG_load wanTy _ rfl rfl rfl (KA5.out.gr (GD.out.trans hW)) EN1.out rfl
  simp only [Act.put, pt1, pt2, pt3]
  apply wpG_eq
  · intro W hW hs
    exact opG_load wanTy _ rfl rfl rfl (KB5.out.gr (GD.out.trans hW)) EN2.out rfl
  simp only [Act.put, pt1, pt2, pt3]
  apply wpG_eq
  · intro W hW hs
    unfold opG
    go_simp
    refine resG_call ((SM.out W (G5.out.trans (GD.out.trans hW))).mono ?_)
    rintro en W2 ⟨rfl, g2⟩
    exact ⟨_, rfl, g2, rfl⟩
  simp only [Act.put, pt1, pt2, pt3]
  apply wpG_eq
  · intro W hW hs
    have hq : ((L1 == L2) == sm) = true := by rw [HST.out]; simp
    unfold opG
    go_simp
    first | exact resG_eq_mk _ _ _ | rfl
  simp only [Act.put, pt1, pt2, pt3]
  apply wpG_eq
  · intro W hW hs
    unfold opG
    go_simp
    first | exact resG_eq_mk _ _ _ | rfl
  simp only [Act.put, pt1, pt2, pt3]
  apply wpG_eq
  · intro W hW hs
    unfold opG
    go_simp
    refine resG_call ((tells_any W).mono ?_)
    rintro en W2 ⟨rfl, g2⟩
    exact ⟨_, rfl, g2, rfl⟩
  simp only [Act.put, pt1, pt2, pt3]
  iterate 2
   apply wpG_eq
   · intro W hW hs
     unfold opG
     go_simp
     first | exact resG_eq_mk _ _ _ | rfl
   simp only [Act.put, pt1, pt2, pt3]
  apply wpG_nil
  intro W9 hW9 hsAll
  clear hsAll
  have GZ := Lib.hid (G5.out.trans (GD.out.trans hW9))
  clear hW9
  go_wp2
  go_ret
  exact ⟨rfl, GZ.out⟩
open Go.ChangeShapes Go.WideShapes Go.ChangeAt Go.RowKit
open Go.ChangeMaps (open_string shut_string)
theorem own_wanApart : ownKnob Try.prog.godebug = none := by kernel_rfl
theorem laidOut_wanApart : laidOutB Try.prog = true := by kernel_rfl
set_option maxRecDepth 100000 in
theorem lifted_wanApart (os : Os) (started : os.Started) (H : Type) (enc : TypeId × Value → H) :
    ReturnsInHanded {} Try.checked os 6 .any (Rows.wanApartSpec.pre6 enc Try.prog Try.f6 Rows.wanApartRow.domain false) (Rows.wanApartSpec.post enc Try.prog Try.f6 false true false false) := by
  refine returnsInHanded_of_change (C := Try.checked) own_wanApart started (by kernel_rfl) Try.func6
    (ChangeSpec.witness6 (enc := enc) (C := Try.checked) false ⟨#[], #[.agg #[.int .u8 0, .int .i64 0, .slice none 0 0, .slice none 0 0, .int .i64 0, .int .u64 0, .slice none 0 0], .agg #[.int .u8 0, .int .i64 0, .slice none 0 0, .slice none 0 0, .int .i64 0, .int .u64 0, .slice none 0 0]], []⟩ 8 (by kernel_rfl) (by kernel_rfl) (by kernel_rfl) (by kernel_rfl)) ?_
  intro W base args ds gs before hval0 hW hcnd _
  have hval : ∀ (j : Nat) t v, Try.f6.params[j]? = some t → args[j]? = some v → Value.okWide Try.prog W .any base t v := hval0
  have hW' := hW
  obtain ⟨p, q, hA0, hV, rfl, hfz, hnd⟩ := hW
  have hA : DataW.TrodAll enc Try.prog W 0 (fun _ => true) true Try.f6.params.toList args.toList ds p := hA0
  rw [Try.params6] at hA hval
  obtain ⟨v0, vs0, d0, ds0, p0, q0, hargs, rfl, rfl, k0, r0⟩ := trodAll_cons hA
  obtain ⟨v1, vs1, d1, ds1, p1, q1, rfl, rfl, rfl, k1, r1⟩ := trodAll_cons r0
  obtain ⟨rfl, rfl, rfl⟩ := trodAll_nil r1
  obtain rfl : args = #[v0, v1] := by cases args; simp_all
  obtain ⟨rfl, rfl⟩ := trodVars_none hV
  have lt0 : ∀ x ∈ p0, x.block < W.heap.size := by obtain ⟨m, hm⟩ := k0; exact DataW.trod_lt m _ _ _ hm
  have lt1 : ∀ x ∈ p1, x.block < W.heap.size := by obtain ⟨m, hm⟩ := k1; exact DataW.trod_lt m _ _ _ hm
  obtain ⟨x0, a0, b0, c0, hv0, ok0, pp0⟩ := open_wan (hval 0 26 v0 rfl rfl) k0
  subst hv0
  obtain ⟨x1, a1, b1, c1, hv1, ok1, pp1⟩ := open_wan (hval 1 26 v1 rfl rfl) k1
  subst hv1
  clear hA0 hval0
  refine (wapart_walk W x0 x1 a0 b0 c0 a1 b1 c1 pp0 pp1 ok0 ok1 ).mono fun e W' ⟨he, bel⟩ => ?_
  subst he
  exact ⟨_, rfl, _, _, _, [], _, [], hW', trodAll_mk1 (shut_bool Try.underlying4 _), (trodAll_cons_mk (Below.trod laidOut_wanApart (by kernel_rfl) (of_decide_eq_true (by kernel_rfl)) k0 bel lt0) (trodAll_cons_mk (Below.trod laidOut_wanApart (by kernel_rfl) (of_decide_eq_true (by kernel_rfl)) k1 bel lt1) trodAll_mk0)), rfl, bel.frame _, fun h => by cases h⟩
theorem over_wanApart : Rows.wanApartRow.holds Try.pinned (OpenSpec.ofChange Rows.wanApartSpec) :=
  OpenClaim.holds_of_wide 6 Try.f6 rfl rfl rfl rfl rfl rfl rfl ⟨rfl, rfl, rfl, rfl, rfl⟩ rfl rfl rfl rfl rfl (by kernel_rfl) Try.func6 (by kernel_rfl)
    (of_decide_eq_true (by kernel_rfl)) (by unfold Func.isWrapper; first | (rw [if_pos (by decide +kernel)]; kernel_rfl) | (rw [if_neg (by decide +kernel)]; exact ⟨rfl, rfl⟩))
    (fun os started H enc _ => lifted_wanApart os started H enc)
theorem wanApart_proved : Rows.WanApartSaid := over_wanApart
#print axioms wanApart_proved
end Go.Proofs.Ytgilijkmmcpfjaa
