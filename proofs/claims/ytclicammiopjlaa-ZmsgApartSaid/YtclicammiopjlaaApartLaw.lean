/-
  ZmsgApart: unlike messages have unlike bytes, like ones the same. Every input (the law looks at up to 300 lines and 6,000 bytes each); no conditions.
-/
import Derived.Test.YtclicammiopjlaaTells
set_option linter.unusedVariables false
namespace Go.Proofs.Ytclicammiopjlaa
open Go.RowKit

set_option maxHeartbeats 4000000 in
theorem apart_walk (w : World) (m1 m2 : MsgD) (l1 l2 : Value) (h1 : Lines w l1 m1.ls) (h2 : Lines w l2 m2.ls) (k1 : MsgOk m1) (k2 : MsgOk m2) (n1 : m1.ls.length ≤ maxLen) (n2 : m2.ls.length ≤ maxLen) :
    Calls Try.prog 6 #[.agg (msgCells m1 l1), .agg (msgCells m2 l2)] w fun e w' => e = .returned (.bool true) ∧ Below w.heap.size w w' := by
  obtain ⟨a1, c1, rfl⟩ := h1.shape
  obtain ⟨a2, c2, rfl⟩ := h2.shape
  have HA1 : Hid ((.agg #[.int .u8 (m1.kind : Int), .int .u64 (m1.epoch : Int), .int .u64 (m1.current : Int), .int .i64 m1.at_, .int .i64 m1.commit, .slice a1 m1.ls.length c1] : Value) = .agg (msgCells m1 (.slice a1 m1.ls.length c1))) := Lib.hid rfl
  have HA2 : Hid ((.agg #[.int .u8 (m2.kind : Int), .int .u64 (m2.epoch : Int), .int .u64 (m2.current : Int), .int .i64 m2.at_, .int .i64 m2.commit, .slice a2 m2.ls.length c2] : Value) = .agg (msgCells m2 (.slice a2 m2.ls.length c2))) := Lib.hid rfl
  obtain ⟨w1, hw1⟩ : ∃ w1, w1 = w.alloc (.cells #[.int .u8 (m1.kind : Int), .int .u64 (m1.epoch : Int), .int .u64 (m1.current : Int), .int .i64 m1.at_, .int .i64 m1.commit, .slice a1 m1.ls.length c1] 25) := ⟨_, rfl⟩
  have e1 : w1.heap.size = w.heap.size + 1 := by rw [hw1]; simp
  obtain ⟨w2, hw2⟩ : ∃ w2, w2 = w1.alloc (.cells #[.int .u8 (m2.kind : Int), .int .u64 (m2.epoch : Int), .int .u64 (m2.current : Int), .int .i64 m2.at_, .int .i64 m2.commit, .slice a2 m2.ls.length c2] 25) := ⟨_, rfl⟩
  have g1 : Gr w w1 := by rw [hw1]; exact (Gr.refl w).alloc _
  have g2 : Gr w1 w2 := by rw [hw2]; exact (Gr.refl w1).alloc _
  have b1 : MsgAt w2 w.heap.size m1 (.slice a1 m1.ls.length c1) := by
    have : MsgAt w1 w.heap.size m1 (.slice a1 m1.ls.length c1) := by unfold MsgAt; rw [hw1]; exact heap_alloc_new w _
    exact this.block (g2.block _ this.lt)
  have b2 : MsgAt w2 (w.heap.size + 1) m2 (.slice a2 m2.ls.length c2) := by unfold MsgAt; rw [hw2, ← e1]; exact heap_alloc_new w1 _
  have G2 := Gr.trans g1 g2
  have cc1 := fun W (hg : Gr w2 W) => (b1.block (hg.block _ b1.lt)).cells
  have cc2 := fun W (hg : Gr w2 W) => (b2.block (hg.block _ b2.lt)).cells
  have CC1 := Lib.hid cc1
  have CC2 := Lib.hid cc2
  have H1 := Lib.hid (h1.below G2)
  have H2 := Lib.hid (h2.below G2)
  have HW1 := Lib.hid hw1
  have HW2 := Lib.hid hw2
  have HG := Lib.hid G2
  have K1 := Lib.hid k1
  have K2 := Lib.hid k2
  have N1 := Lib.hid n1
  have N2 := Lib.hid n2
  have HE1 := Lib.hid e1
  clear cc1 cc2 b1 b2 g1 g2 hw1 hw2 h1 h2 G2 k1 k2 n1 n2 e1
  unfold msgCells
  obtain ⟨f1, hf1⟩ : ∃ b, b = mayV m1 := ⟨_, rfl⟩
  obtain ⟨f2, hf2⟩ : ∃ b, b = mayV m2 := ⟨_, rfl⟩
  have F1 := Lib.hid hf1.symm
  have F2 := Lib.hid hf2.symm
  clear hf1 hf2
  go_enter Try.func6, Try.ntmps6
  go_wp2_with fail
  rw [← HW1.out, ← HW2.out, HA1.out]
  refine (heavy_any _ m1 _ H1.out N1.out).mono ?_
  rintro e w3 ⟨z1, rfl, _, g3⟩
  have G3 := g3
  obtain ⟨p0, p1, p2, p3, p4, p5, _⟩ := CC1.out w3 G3
  obtain ⟨q0, q1, q2, q3, q4, q5, _⟩ := CC2.out w3 G3
  have HG3 := Lib.hid G3
  clear g3 G3
  cases z1 with
  | true =>
    go_wp2
    go_ret
    exact ⟨rfl, Gr.trans HG.out HG3.out⟩
  | false =>
  go_wp2_with fail
  rw [HA2.out]
  refine (heavy_any _ m2 _ (H2.out.below HG3.out) N2.out).mono ?_
  rintro e w4 ⟨z2, rfl, _, g4⟩
  have G4 := Gr.trans HG3.out g4
  obtain ⟨p0, p1, p2, p3, p4, p5, _⟩ := CC1.out w4 G4
  obtain ⟨q0, q1, q2, q3, q4, q5, _⟩ := CC2.out w4 G4
  have HG4 := Lib.hid G4
  clear g4 G4 HG3
  cases z2 with
  | true =>
    go_wp2
    go_ret
    exact ⟨rfl, Gr.trans HG.out HG4.out⟩
  | false =>
  go_wp2_with fail
  rw [HA1.out]
  cases f1 with
  | false =>
    refine (put_no _ m1 _ (H1.out.below HG4.out) K1.out N1.out F1.out).mono ?_
    rintro e w5 ⟨rfl, g5⟩
    have G5 := Gr.trans HG4.out g5
    obtain ⟨q0, q1, q2, q3, q4, q5, _⟩ := CC2.out w5 G5
    have HG5 := Lib.hid G5
    clear g5 G5 HG4
    go_wp2_with fail
    rw [HA2.out]
    refine (put_any _ m2 _ (H2.out.below HG5.out) K2.out N2.out).mono ?_
    rintro e w6 ⟨g6, hret⟩
    have G6 := Gr.trans HG.out (Gr.trans HG5.out g6)
    have HG6 := Lib.hid G6
    obtain ⟨v6, n6, rfl⟩ : ∃ v n, e = .returned (.tuple #[v, .int .i64 n]) := by
      rw [F2.out] at hret
      cases f2 with
      | true => rw [if_pos rfl] at hret; obtain ⟨v, rfl, _⟩ := hret; exact ⟨v, 0, rfl⟩
      | false => rw [if_neg (by simp)] at hret; exact ⟨_, 1, hret⟩
    clear hret g6 G6 HG5
    go_wp2_with fail
    refine (tells_any _).mono ?_
    rintro e w7 ⟨rfl, g7⟩
    have G7 := Gr.trans HG6.out g7
    go_wp2
    go_ret
    exact ⟨rfl, G7⟩
  | true =>
  refine (put_yes _ m1 _ (H1.out.below HG4.out) K1.out N1.out F1.out).mono ?_
  rintro e w5 ⟨v5, rfl, s5, g5⟩
  obtain ⟨a5, c5, rfl, _, _⟩ := s5.bytes
  have G5 := Gr.trans HG4.out g5
  obtain ⟨q0, q1, q2, q3, q4, q5, _⟩ := CC2.out w5 G5
  have S5 := Lib.hid s5
  have HG5 := Lib.hid G5
  clear g5 G5 HG4 s5
  go_wp2_with fail
  rw [HA2.out]
  cases f2 with
  | false =>
    refine (put_no _ m2 _ (H2.out.below HG5.out) K2.out N2.out F2.out).mono ?_
    rintro e w6 ⟨rfl, g6⟩
    have G6 := Gr.trans HG.out (Gr.trans HG5.out g6)
    have HG6 := Lib.hid G6
    clear g6 G6 HG5
    go_wp2_with fail
    refine (tells_any _).mono ?_
    rintro e w7 ⟨rfl, g7⟩
    have G7 := Gr.trans HG6.out g7
    go_wp2
    go_ret
    exact ⟨rfl, G7⟩
  | true =>
  refine (put_yes _ m2 _ (H2.out.below HG5.out) K2.out N2.out F2.out).mono ?_
  rintro e w6 ⟨v6, rfl, s6, g6⟩
  obtain ⟨a6, c6, rfl, _, _⟩ := s6.bytes
  have G6 := Gr.trans HG5.out g6
  have s5 := S5.out.below g6
  have es : ∀ W, Gr w6.drew W → (convert 27 9 (.slice a5 (putV m1).length c5)).run Try.prog W = .ok (.string ⟨(putV m1).toArray⟩) W := fun W hW => run_string_sl 27 5 9 Try.underlying27 Try.underlying5 Try.underlying9 (s5.below (Gr.trans ((Gr.refl w6).drew) hW))
  have et : ∀ W, Gr w6.drew W → (convert 27 9 (.slice a6 (putV m2).length c6)).run Try.prog W = .ok (.string ⟨(putV m2).toArray⟩) W := fun W hW => run_string_sl 27 5 9 Try.underlying27 Try.underlying5 Try.underlying9 (s6.below (Gr.trans ((Gr.refl w6).drew) hW))
  have gg : ∀ W, Gr w6.drew W → Gr w2 W := fun W hW => Gr.trans (Gr.trans G6 ((Gr.refl w6).drew)) hW
  have ES := Lib.hid es
  have ET := Lib.hid et
  have GG := Lib.hid gg
  clear g6 G6 s5 s6 es et gg S5 HG5
  by_cases hmm : m1 = m2
  · have hp : ((putV m1) == (putV m2)) = true := by rw [hmm]; simp
    have HMM := Lib.hid hmm
    clear hmm
    go_wp2_with fail
    apply wp_region_draw_grow (.eq _ :: .eq _ :: .eq _ :: .eq _ :: .eq _ :: .eq _ :: .eq _ :: .eq _ :: .eq _ :: .eq _ :: .eq _ :: .eq _ :: .eq _ :: []) (by kernel_rfl) (by kernel_rfl) trivial
    apply wpG_eq
    · intro W hW hs
      unfold opG
      go_simp
      first | exact resG_eq_mk _ _ _ | rfl
    simp only [Act.put, List.setIfInBounds_toArray, List.set_cons_zero, List.set_cons_succ]
    apply wpG_eq
    · intro W hW hs
      have h1 := ES.out W hW
      unfold opG
      go_simp
      first | exact resG_eq_mk _ _ _ | rfl
    simp only [Act.put, List.setIfInBounds_toArray, List.set_cons_zero, List.set_cons_succ]
    apply wpG_eq
    · intro W hW hs
      unfold opG
      go_simp
      first | exact resG_eq_mk _ _ _ | rfl
    simp only [Act.put, List.setIfInBounds_toArray, List.set_cons_zero, List.set_cons_succ]
    apply wpG_eq
    · intro W hW hs
      have h1 := ET.out W hW
      unfold opG
      go_simp
      first | exact resG_eq_mk _ _ _ | rfl
    simp only [Act.put, List.setIfInBounds_toArray, List.set_cons_zero, List.set_cons_succ]
    apply wpG_eq
    · intro W hW hs
      unfold opG
      go_simp
      first | exact resG_eq_mk _ _ _ | rfl
    simp only [Act.put, List.setIfInBounds_toArray, List.set_cons_zero, List.set_cons_succ]
    apply wpG_eq
    · intro W hW hs
      obtain ⟨p0, p1, p2, p3, p4, p5, _⟩ := CC1.out W (GG.out W hW)
      unfold opG
      go_simp
      first | exact resG_eq_mk _ _ _ | rfl
    simp only [Act.put, List.setIfInBounds_toArray, List.set_cons_zero, List.set_cons_succ]
    apply wpG_eq
    · intro W hW hs
      obtain ⟨p0, p1, p2, p3, p4, p5, _⟩ := CC2.out W (GG.out W hW)
      unfold opG
      go_simp
      first | exact resG_eq_mk _ _ _ | rfl
    simp only [Act.put, List.setIfInBounds_toArray, List.set_cons_zero, List.set_cons_succ]
    apply wpG_eq
    · intro W hW hs
      unfold opG
      go_simp
      rw [HA1.out, HA2.out]
      refine resG_call ((same_any _ m1 m2 _ _ (H1.out.below (GG.out W hW)) (H2.out.below (GG.out W hW)) N1.out N2.out).mono ?_)
      rintro e W2 ⟨z, rfl, hz, g⟩
      obtain rfl : z = true := hz.2 HMM.out
      exact ⟨_, rfl, g, rfl⟩
    simp only [Act.put, List.setIfInBounds_toArray, List.set_cons_zero, List.set_cons_succ]
    apply wpG_eq
    · intro W hW hs
      unfold opG
      go_simp
      first | exact resG_eq_mk _ _ _ | rfl
    simp only [Act.put, List.setIfInBounds_toArray, List.set_cons_zero, List.set_cons_succ]
    apply wpG_eq
    · intro W hW hs
      unfold opG
      go_simp
      first | exact resG_eq_mk _ _ _ | rfl
    simp only [Act.put, List.setIfInBounds_toArray, List.set_cons_zero, List.set_cons_succ]
    apply wpG_eq
    · intro W hW hs
      unfold opG
      go_simp
      refine resG_call ((tells_any _).mono ?_)
      rintro e W2 ⟨rfl, g⟩
      exact ⟨_, rfl, g, rfl⟩
    simp only [Act.put, List.setIfInBounds_toArray, List.set_cons_zero, List.set_cons_succ]
    apply wpG_eq
    · intro W hW hs
      unfold opG
      go_simp
      first | exact resG_eq_mk _ _ _ | rfl
    simp only [Act.put, List.setIfInBounds_toArray, List.set_cons_zero, List.set_cons_succ]
    apply wpG_eq
    · intro W hW hs
      unfold opG
      go_simp
      first | exact resG_eq_mk _ _ _ | rfl
    simp only [Act.put, List.setIfInBounds_toArray, List.set_cons_zero, List.set_cons_succ]
    apply wpG_nil
    intro W9 hW9 hsAll
    have G9 := Gr.trans HG.out (GG.out _ hW9)
    clear hsAll
    go_wp2
    go_ret
    exact ⟨rfl, G9⟩
  · have hp : ((putV m1) == (putV m2)) = false := by
      cases hq : ((putV m1) == (putV m2)) with
      | false => rfl
      | true => exact absurd (put_inj F1.out F2.out (by simpa using hq)) hmm
    have HMM := Lib.hid hmm
    clear hmm
    go_wp2_with fail
    apply wp_region_draw_grow (.eq _ :: .eq _ :: .eq _ :: .eq _ :: .eq _ :: .eq _ :: .eq _ :: .eq _ :: .eq _ :: .eq _ :: .eq _ :: .eq _ :: .eq _ :: []) (by kernel_rfl) (by kernel_rfl) trivial
    apply wpG_eq
    · intro W hW hs
      unfold opG
      go_simp
      first | exact resG_eq_mk _ _ _ | rfl
    simp only [Act.put, List.setIfInBounds_toArray, List.set_cons_zero, List.set_cons_succ]
    apply wpG_eq
    · intro W hW hs
      have h1 := ES.out W hW
      unfold opG
      go_simp
      first | exact resG_eq_mk _ _ _ | rfl
    simp only [Act.put, List.setIfInBounds_toArray, List.set_cons_zero, List.set_cons_succ]
    apply wpG_eq
    · intro W hW hs
      unfold opG
      go_simp
      first | exact resG_eq_mk _ _ _ | rfl
    simp only [Act.put, List.setIfInBounds_toArray, List.set_cons_zero, List.set_cons_succ]
    apply wpG_eq
    · intro W hW hs
      have h1 := ET.out W hW
      unfold opG
      go_simp
      first | exact resG_eq_mk _ _ _ | rfl
    simp only [Act.put, List.setIfInBounds_toArray, List.set_cons_zero, List.set_cons_succ]
    apply wpG_eq
    · intro W hW hs
      unfold opG
      go_simp
      first | exact resG_eq_mk _ _ _ | rfl
    simp only [Act.put, List.setIfInBounds_toArray, List.set_cons_zero, List.set_cons_succ]
    apply wpG_eq
    · intro W hW hs
      obtain ⟨p0, p1, p2, p3, p4, p5, _⟩ := CC1.out W (GG.out W hW)
      unfold opG
      go_simp
      first | exact resG_eq_mk _ _ _ | rfl
    simp only [Act.put, List.setIfInBounds_toArray, List.set_cons_zero, List.set_cons_succ]
    apply wpG_eq
    · intro W hW hs
      obtain ⟨p0, p1, p2, p3, p4, p5, _⟩ := CC2.out W (GG.out W hW)
      unfold opG
      go_simp
      first | exact resG_eq_mk _ _ _ | rfl
    simp only [Act.put, List.setIfInBounds_toArray, List.set_cons_zero, List.set_cons_succ]
    apply wpG_eq
    · intro W hW hs
      unfold opG
      go_simp
      rw [HA1.out, HA2.out]
      refine resG_call ((same_any _ m1 m2 _ _ (H1.out.below (GG.out W hW)) (H2.out.below (GG.out W hW)) N1.out N2.out).mono ?_)
      rintro e W2 ⟨z, rfl, hz, g⟩
      obtain rfl : z = false := by cases z with
            | false => rfl
            | true => exact absurd (hz.1 rfl) HMM.out
      exact ⟨_, rfl, g, rfl⟩
    simp only [Act.put, List.setIfInBounds_toArray, List.set_cons_zero, List.set_cons_succ]
    apply wpG_eq
    · intro W hW hs
      unfold opG
      go_simp
      first | exact resG_eq_mk _ _ _ | rfl
    simp only [Act.put, List.setIfInBounds_toArray, List.set_cons_zero, List.set_cons_succ]
    apply wpG_eq
    · intro W hW hs
      unfold opG
      go_simp
      first | exact resG_eq_mk _ _ _ | rfl
    simp only [Act.put, List.setIfInBounds_toArray, List.set_cons_zero, List.set_cons_succ]
    apply wpG_eq
    · intro W hW hs
      unfold opG
      go_simp
      refine resG_call ((tells_any _).mono ?_)
      rintro e W2 ⟨rfl, g⟩
      exact ⟨_, rfl, g, rfl⟩
    simp only [Act.put, List.setIfInBounds_toArray, List.set_cons_zero, List.set_cons_succ]
    apply wpG_eq
    · intro W hW hs
      unfold opG
      go_simp
      first | exact resG_eq_mk _ _ _ | rfl
    simp only [Act.put, List.setIfInBounds_toArray, List.set_cons_zero, List.set_cons_succ]
    apply wpG_eq
    · intro W hW hs
      unfold opG
      go_simp
      first | exact resG_eq_mk _ _ _ | rfl
    simp only [Act.put, List.setIfInBounds_toArray, List.set_cons_zero, List.set_cons_succ]
    apply wpG_nil
    intro W9 hW9 hsAll
    have G9 := Gr.trans HG.out (GG.out _ hW9)
    clear hsAll
    go_wp2
    go_ret
    exact ⟨rfl, G9⟩

open Go.ChangeShapes Go.WideShapes Go.ChangeAt Go.RowKit
open Go.ChangeMaps (open_string shut_string)
theorem own_zmsgApart : ownKnob Try.prog.godebug = none := by kernel_rfl
theorem laidOut_zmsgApart : laidOutB Try.prog = true := by kernel_rfl
set_option maxRecDepth 100000 in
theorem lifted_zmsgApart (os : Os) (started : os.Started) (H : Type) (enc : TypeId × Value → H) :
    ReturnsInHanded {} Try.checked os 6 .any (Rows.zmsgApartSpec.pre6 enc Try.prog Try.f6 Rows.zmsgApartRow.domain false) (Rows.zmsgApartSpec.post enc Try.prog Try.f6 false true false false) := by
  refine returnsInHanded_of_change (C := Try.checked) own_zmsgApart started (by kernel_rfl) Try.func6
    (ChangeSpec.witness6 (enc := enc) (C := Try.checked) false ⟨#[], #[.agg #[.int .u8 0, .int .u64 0, .int .u64 0, .int .i64 0, .int .i64 0, .slice none 0 0], .agg #[.int .u8 0, .int .u64 0, .int .u64 0, .int .i64 0, .int .i64 0, .slice none 0 0]], []⟩ 8 (by kernel_rfl) (by kernel_rfl) (by kernel_rfl) (by kernel_rfl)) ?_
  intro W base args ds gs before hval0 hW hcnd _
  have hval : ∀ (j : Nat) t v, Try.f6.params[j]? = some t → args[j]? = some v → Value.okWide Try.prog W .any base t v := hval0
  have hW' := hW
  obtain ⟨p, q, hA0, hV, rfl, hfz, hnd⟩ := hW
  have hA : DataW.TrodAll enc Try.prog W 0 (fun _ => true) true Try.f6.params.toList args.toList ds p := hA0
  rw [Try.params6] at hA hval
  obtain ⟨v0, vs0, d0, ds0, p0, q0, hargs, rfl, rfl, k0, r0⟩ := trodAll_cons hA
  obtain ⟨v1, vs1, d1, ds1, p1, q1, rfl, rfl, rfl, k1, r1⟩ := trodAll_cons r0
  obtain ⟨rfl, rfl, rfl⟩ := trodAll_nil r1
  obtain rfl : args = #[v0, v1] := by cases args; simp_all
  obtain ⟨rfl, rfl⟩ := trodVars_none hV
  have lt0 : ∀ x ∈ p0, x.block < W.heap.size := by obtain ⟨m, hm⟩ := k0; exact DataW.trod_lt m _ _ _ hm
  have lt1 : ∀ x ∈ p1, x.block < W.heap.size := by obtain ⟨m, hm⟩ := k1; exact DataW.trod_lt m _ _ _ hm
  obtain ⟨m0, lv0, rfl, hl0, ok0, n0, x0⟩ := open_msg (hval 0 25 v0 rfl rfl) k0
  obtain ⟨m1, lv1, rfl, hl1, ok1, n1, x1⟩ := open_msg (hval 1 25 v1 rfl rfl) k1
  clear hA0 hval0
  refine (apart_walk W m0  m1 lv0 lv1 hl0 hl1 ok0 ok1 n0 n1).mono fun e W' ⟨he, bel⟩ => ?_
  subst he
  exact ⟨_, rfl, _, _, _, [], _, [], hW', trodAll_mk1 (shut_bool Try.underlying4 _), (trodAll_cons_mk (Below.trod laidOut_zmsgApart (by kernel_rfl) (of_decide_eq_true (by kernel_rfl)) k0 bel lt0) (trodAll_cons_mk (Below.trod laidOut_zmsgApart (by kernel_rfl) (of_decide_eq_true (by kernel_rfl)) k1 bel lt1) trodAll_mk0)), rfl, bel.frame _, fun h => by cases h⟩

theorem over_zmsgApart : Rows.zmsgApartRow.holds Try.pinned (OpenSpec.ofChange Rows.zmsgApartSpec) :=
  OpenClaim.holds_of_wide 6 Try.f6 rfl rfl rfl rfl rfl rfl rfl ⟨rfl, rfl, rfl, rfl, rfl⟩ rfl rfl rfl rfl rfl (by kernel_rfl) Try.func6 (by kernel_rfl)
    (of_decide_eq_true (by kernel_rfl)) (by unfold Func.isWrapper; first | (rw [if_pos (by decide +kernel)]; kernel_rfl) | (rw [if_neg (by decide +kernel)]; exact ⟨rfl, rfl⟩))
    (fun os started H enc _ => lifted_zmsgApart os started H enc)

theorem zmsgApart_proved : Rows.ZmsgApartSaid := over_zmsgApart
#print axioms zmsgApart_proved
end Go.Proofs.Ytclicammiopjlaa
