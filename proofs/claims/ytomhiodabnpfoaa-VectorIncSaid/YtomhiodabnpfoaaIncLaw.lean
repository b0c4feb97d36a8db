/-
  VectorInc: one more is more, and nothing lies between; in two orders the same. Every input; no conditions.
-/
import Derived.Test.YtomhiodabnpfoaaOrderLaw
set_option linter.unusedVariables false
namespace Go.Proofs.Ytomhiodabnpfoaa
open Go.RowKit

def inc3 (L : List Nat) (p : Nat) : List Nat := L.set p (L[p]?.getD 0 + 1)
theorem incV3 (x0 x1 x2 p : Nat) (h0 : x0 < 2 ^ 62) (h1 : x1 < 2 ^ 62) (h2 : x2 < 2 ^ 62) (hp : p < 3) : incV [x0, x1, x2] (p : Int) = inc3 [x0, x1, x2] p := by
  have hp' : (0 : Int) ≤ (p : Int) ∧ (p : Int) < (([x0, x1, x2] : List Nat).length : Int) := ⟨by omega, by simp; omega⟩
  unfold incV inc3
  rw [if_pos hp', Int.toNat_natCast]
  congr 1
  have : p = 0 ∨ p = 1 ∨ p = 2 := by omega
  rcases this with rfl | rfl | rfl <;> simp <;> omega
theorem inc3_comm (x0 x1 x2 p q : Nat) (hp : p < 3) (hq : q < 3) : inc3 (inc3 [x0, x1, x2] p) q = inc3 (inc3 [x0, x1, x2] q) p := by
  have h1 : p = 0 ∨ p = 1 ∨ p = 2 := by omega
  have h2 : q = 0 ∨ q = 1 ∨ q = 2 := by omega
  rcases h1 with rfl | rfl | rfl <;> rcases h2 with rfl | rfl | rfl <;> simp [inc3]
theorem inc3_three (x0 x1 x2 p : Nat) (h0 : x0 < 2 ^ 61) (h1 : x1 < 2 ^ 61) (h2 : x2 < 2 ^ 61) (hp : p < 3) : ∃ y0 y1 y2, inc3 [x0, x1, x2] p = [y0, y1, y2] ∧ x0 ≤ y0 ∧ x1 ≤ y1 ∧ x2 ≤ y2 ∧ (x0 < y0 ∨ x1 < y1 ∨ x2 < y2) ∧ y0 < 2 ^ 62 ∧ y1 < 2 ^ 62 ∧ y2 < 2 ^ 62 ∧ [y0, y1, y2][p]?.getD 0 = [x0, x1, x2][p]?.getD 0 + 1 := by
  have h3 : p = 0 ∨ p = 1 ∨ p = 2 := by omega
  rcases h3 with rfl | rfl | rfl
  · exact ⟨x0 + 1, x1, x2, rfl, by omega, by omega, by omega, by omega, by omega, by omega, by omega, rfl⟩
  · exact ⟨x0, x1 + 1, x2, rfl, by omega, by omega, by omega, by omega, by omega, by omega, by omega, rfl⟩
  · exact ⟨x0, x1, x2 + 1, rfl, by omega, by omega, by omega, by omega, by omega, by omega, by omega, rfl⟩

theorem sl_cell {w : World} {g n cap : Nat} {l : List Nat} (h : Sl w (.slice (some ⟨g, 0, none⟩) n cap) (nums l)) (hn : n = l.length) (j c : Nat) (hj : l[j]? = some c) : w.cell? ⟨g, j, none⟩ = some (.int .u64 (c : Int)) ∧ g < w.heap.size := by
  obtain ⟨a, cp, he, _, hc⟩ := h
  injection he with e1 e2 e3
  subst e1
  obtain ⟨h1, h2⟩ := List.getElem?_eq_some_iff.1 hj
  rcases hc with hc | ⟨b, off, e, hb, hc⟩
  · have : l.length = 0 := by have := congrArg List.length hc; rw [nums_length] at this; exact this
    omega
  · injection e with e
    injection e with e4 e5
    subst e4 e5
    have := hc j (by rw [nums_length]; exact h1)
    rw [Nat.zero_add] at this
    refine ⟨by rw [this]; simp [nums, num64, h2], hb⟩

set_option maxHeartbeats 2000000 in
theorem vinc_walk (w : World) (va : Value) (la : List Nat) (i k : Nat) (sa : Sl w va (nums la)) (ha : la.length ≤ maxLen) (hi : i < 256) (hk : k < 256) :
    Calls Try.prog 5 #[va, .int .u8 (i : Int), .int .u8 (k : Int)] w fun e w' => e = .returned (.bool true) ∧ Below w.heap.size w w' := by
  obtain ⟨p, hp, ep⟩ : ∃ p : Nat, p < 3 ∧ (i : Int) % 3 = (p : Int) := ⟨i % 3, by omega, by omega⟩
  obtain ⟨q, hq, eq⟩ : ∃ q : Nat, q < 3 ∧ (k : Int) % 3 = (q : Int) := ⟨k % 3, by omega, by omega⟩
  go_enter Try.func5, Try.ntmps5
  go_wp2_with fail
  refine (cut_any _ _ la sa ha).mono ?_
  rintro e w1 ⟨v1, rfl, o1, b1⟩
  obtain ⟨g, cap, rfl, hg1, hg2, hcap⟩ := o1.formN (by rw [cutV_length]; decide)
  rw [cutV_length] at o1 hcap ⊢
  have hlen := cutV_length la
  go_wp2
  go_loopw [8] (fun j wr => ∃ (m : Nat) (L : List Nat), m ≤ 3 ∧ j = .int .i64 m ∧ L.length = 3 ∧ Own wr w.heap.size 23 (.slice (some ⟨g, 0, none⟩) 3 cap) (nums L) ∧ (∀ t, t < m → L[t]?.getD 0 < 1152921504606846976) ∧ Below w.heap.size w wr) (fun j _ => 3 - (intOf j).toNat)
  case atStart => exact ⟨0, _, by decide, rfl, hlen, o1, fun t ht => absurd ht (Nat.not_lt_zero _), b1⟩
  case round =>
    clear o1 hlen
    obtain ⟨m, L, hm, rfl, hL, ho, hlow, br⟩ := hrel
    by_cases hlt : m < 3
    · have ho' : Own wr w.heap.size 23 (.slice (some ⟨g, 0, none⟩) L.length cap) (nums L) := by rw [hL]; exact ho
      obtain ⟨c0, hc0⟩ : ∃ c, L[m]? = some c := ⟨_, List.getElem?_eq_getElem (by omega)⟩
      have cg := ho'.cellN m c0 hc0
      have fg := ho'.frozenN m
      have hos := ho'.storeN m (c0 % 1152921504606846976)
      have hce : ((c0 % 1152921504606846976 : Nat) : Int) = (c0 : Int) % 1152921504606846976 := by omega
      rw [hce, hL] at hos
      have HOS := Lib.hid hos
      have HLOW := Lib.hid hlow
      clear ho ho' hos hce hc0 hlow
      go_wp2
      go_roundw
      case rel =>
        refine ⟨m + 1, L.set m (c0 % 1152921504606846976), by omega, by go_num, by simp [hL], HOS.out, fun t ht => ?_, br.setCell (p := ⟨g, m, none⟩) hg1 _⟩
        by_cases htm : t = m
        · subst htm
          rw [List.getElem?_set_self (by omega)]
          exact Nat.mod_lt _ (by decide)
        · rw [List.getElem?_set_ne (Ne.symm htm)]
          exact HLOW.out t (by omega)
      case measure => simp [intOf]; omega
    · obtain rfl : m = 3 := by omega
      obtain ⟨x0, x1, x2, rfl⟩ := three L hL
      have h0 : x0 < 1152921504606846976 := hlow 0 (by decide)
      have h1 : x1 < 1152921504606846976 := hlow 1 (by decide)
      have h2 : x2 < 1152921504606846976 := hlow 2 (by decide)
      obtain ⟨y0, y1, y2, ey, hy⟩ := inc3_three x0 x1 x2 p (by omega) (by omega) (by omega) hp
      obtain ⟨u0, u1, u2, eu, hu⟩ := inc3_three x0 x1 x2 q (by omega) (by omega) (by omega) hq
      have sx := ho.sl
      have HO := Lib.hid ho
      clear ho hlow hL hm hlt
      have HY := Lib.hid hy
      have HU := Lib.hid hu
      clear hy hu
      go_wp2_with fail
      refine (inc_any _ _ [x0, x1, x2] (p : Int) sx (by simp) (by omega) (by omega)).mono ?_
      rintro e w2 ⟨v2, rfl, o2, c2⟩
      rw [incV3 x0 x1 x2 p (by omega) (by omega) (by omega) hp, ey] at o2
      obtain ⟨gy, cy, rfl, _, _, _⟩ := o2.formN (by simp)
      have sy := o2.sl
      have b2 := step0 br c2
      replace sx := sx.below c2
      clear o2 c2 br
      go_wp2_with fail
      refine (inc_any _ _ [y0, y1, y2] (q : Int) sy (by simp) (by omega) (by omega)).mono ?_
      rintro e w3 ⟨v3, rfl, o3, c3⟩
      rw [incV3 y0 y1 y2 q HY.out.2.2.2.2.1 HY.out.2.2.2.2.2.1 HY.out.2.2.2.2.2.2.1 hq, ← ey] at o3
      have sz := o3.sl
      have b3 := step0 b2 c3
      replace sx := sx.below c3
      replace sy := sy.below c3
      clear o3 c3 b2
      go_wp2_with fail
      refine (leq_any _ _ _ [x0, x1, x2] [y0, y1, y2] sx sy (by simp) (by simp)).mono ?_
      rintro e w4 ⟨rfl, c4⟩
      rw [leqV3 HY.out.1 HY.out.2.1 HY.out.2.2.1]
      have b4 := step0 b3 c4
      replace sx := sx.below c4
      replace sy := sy.below c4
      replace sz := sz.below c4
      clear c4 b3
      go_wp2_with fail
      refine (leq_any _ _ _ [y0, y1, y2] [x0, x1, x2] sy sx (by simp) (by simp)).mono ?_
      rintro e w5 ⟨rfl, c5⟩
      have hnle : leqV [y0, y1, y2] [x0, x1, x2] = false := by
        cases h : leqV [y0, y1, y2] [x0, x1, x2] with
        | false => rfl
        | true => have := (leqV3_iff _ _ _ _ _ _).1 h; have := HY.out; omega
      rw [hnle]
      have b5 := step0 b4 c5
      replace sx := sx.below c5
      replace sy := sy.below c5
      replace sz := sz.below c5
      clear c5 b4 hnle
      go_wp2_with fail
      refine (inc_any _ _ [x0, x1, x2] (q : Int) sx (by simp) (by omega) (by omega)).mono ?_
      rintro e w6 ⟨v6, rfl, o6, c6⟩
      rw [incV3 x0 x1 x2 q (by omega) (by omega) (by omega) hq, eu] at o6
      have su := o6.sl
      have b6 := step0 b5 c6
      replace sx := sx.below c6
      replace sy := sy.below c6
      replace sz := sz.below c6
      clear c6 b5 o6
      go_wp2_with fail
      refine (inc_any _ _ [u0, u1, u2] (p : Int) su (by simp) (by omega) (by omega)).mono ?_
      rintro e w7 ⟨v7, rfl, o7, c7⟩
      rw [incV3 u0 u1 u2 p HU.out.2.2.2.2.1 HU.out.2.2.2.2.2.1 HU.out.2.2.2.2.2.2.1 hp, ← eu, inc3_comm x0 x1 x2 q p hq hp] at o7
      have st := o7.sl
      have b7 := step0 b6 c7
      replace sx := sx.below c7
      replace sy := sy.below c7
      replace sz := sz.below c7
      clear c7 b6 o7 su
      have hl6 : (inc3 (inc3 [x0, x1, x2] p) q).length ≤ 1000000 := by simp [inc3]
      go_wp2_with fail
      refine (same_any _ _ _ (inc3 (inc3 [x0, x1, x2] p) q) (inc3 (inc3 [x0, x1, x2] p) q) sz st hl6 hl6).mono ?_
      rintro e w8 ⟨rfl, c8⟩
      rw [sameV_self]
      have b8 := step0 b7 c8
      replace sx := sx.below c8
      replace sy := sy.below c8
      clear c8 b7 sz st
      obtain ⟨xp, hxp⟩ : ∃ xp, [x0, x1, x2][p]? = some xp := ⟨_, List.getElem?_eq_getElem (by simpa using hp)⟩
      have hxl : xp < 1152921504606846976 := by
        have h3 : p = 0 ∨ p = 1 ∨ p = 2 := by omega
        rcases h3 with rfl | rfl | rfl <;> (simp at hxp; omega)
      have hyp : [y0, y1, y2][p]? = some (xp + 1) := by
        have := HY.out.2.2.2.2.2.2.2
        rw [hxp] at this
        have h4 : [y0, y1, y2][p]? = some ([y0, y1, y2][p]'(by simpa using hp)) := List.getElem?_eq_getElem _
        rw [h4] at this ⊢
        simpa using this
      have b8d : Below w8.heap.size w8 w8.drew := below_drewN (Below.refl _ _) 1
      obtain ⟨cx1, hlx⟩ := sl_cell (sx.below b8d) rfl p xp hxp
      obtain ⟨cy1, hly⟩ := sl_cell (sy.below b8d) rfl p (xp + 1) hyp
      have b9 := step0 b8 b8d
      have i1 : (0 : Int) ≤ (p : Int) := by omega
      have i2 : (p : Int) < 3 := by omega
      clear sx sy hxp hyp
      go_wp2
      apply wp_region_draw_grow (.eq _ :: .eq _ :: .eq _ :: .eq _ :: .eq _ :: .eq _ :: .eq _ :: .eq _ :: .eq _ :: .eq _ :: .eq _ :: .eq _ :: .eq _ :: .eq _ :: []) (by kernel_rfl) (by kernel_rfl) trivial
      apply wpG_eq
      · intro W hW hs
        unfold opG
        go_simp
        first | exact resG_eq_mk _ _ _ | rfl
      simp only [Act.put, List.setIfInBounds_toArray, List.set_cons_zero, List.set_cons_succ]
      apply wpG_eq
      · intro W hW hs
        unfold opG
        go_simp
        first | exact resG_eq_mk _ _ _ | rfl
      simp only [Act.put, List.setIfInBounds_toArray, List.set_cons_zero, List.set_cons_succ]
      apply wpG_eq
      · intro W hW hs
        unfold opG
        go_simp
        first | exact resG_eq_mk _ _ _ | rfl
      simp only [Act.put, List.setIfInBounds_toArray, List.set_cons_zero, List.set_cons_succ]
      apply wpG_eq
      · intro W hW hs
        have h1 := (hW.cell (p := ⟨gy, p, none⟩) hly).trans cy1
        unfold opG
        go_simp
        first | exact resG_eq_mk _ _ _ | rfl
      simp only [Act.put, List.setIfInBounds_toArray, List.set_cons_zero, List.set_cons_succ]
      apply wpG_eq
      · intro W hW hs
        unfold opG
        go_simp
        first | exact resG_eq_mk _ _ _ | rfl
      simp only [Act.put, List.setIfInBounds_toArray, List.set_cons_zero, List.set_cons_succ]
      apply wpG_eq
      · intro W hW hs
        unfold opG
        go_simp
        first | exact resG_eq_mk _ _ _ | rfl
      simp only [Act.put, List.setIfInBounds_toArray, List.set_cons_zero, List.set_cons_succ]
      apply wpG_eq
      · intro W hW hs
        unfold opG
        go_simp
        first | exact resG_eq_mk _ _ _ | rfl
      simp only [Act.put, List.setIfInBounds_toArray, List.set_cons_zero, List.set_cons_succ]
      apply wpG_eq
      · intro W hW hs
        have h1 := (hW.cell (p := ⟨g, p, none⟩) hlx).trans cx1
        unfold opG
        go_simp
        first | exact resG_eq_mk _ _ _ | rfl
      simp only [Act.put, List.setIfInBounds_toArray, List.set_cons_zero, List.set_cons_succ]
      apply wpG_eq
      · intro W hW hs
        have h1 : IntKind.u64.wrap ((xp : Int) + 1) = (xp : Int) + 1 := by simp [IntKind.wrap, IntKind.bits, IntKind.signed]; omega
        unfold opG
        go_simp
        first | exact resG_eq_mk _ _ _ | rfl
      simp only [Act.put, List.setIfInBounds_toArray, List.set_cons_zero, List.set_cons_succ]
      apply wpG_eq
      · intro W hW hs
        unfold opG
        go_simp
        first | exact resG_eq_mk _ _ _ | rfl
      simp only [Act.put, List.setIfInBounds_toArray, List.set_cons_zero, List.set_cons_succ]
      apply wpG_eq
      · intro W hW hs
        unfold opG
        go_simp
        first | exact resG_eq_mk _ _ _ | rfl
      simp only [Act.put, List.setIfInBounds_toArray, List.set_cons_zero, List.set_cons_succ]
      apply wpG_eq
      · intro W hW hs
        unfold opG
        go_simp
        refine resG_call ((goes_any _).mono ?_)
        rintro e W2 ⟨rfl, c9⟩
        exact ⟨_, rfl, c9, rfl⟩
      simp only [Act.put, List.setIfInBounds_toArray, List.set_cons_zero, List.set_cons_succ]
      apply wpG_eq
      · intro W hW hs
        unfold opG
        go_simp
        first | exact resG_eq_mk _ _ _ | rfl
      simp only [Act.put, List.setIfInBounds_toArray, List.set_cons_zero, List.set_cons_succ]
      apply wpG_eq
      · intro W hW hs
        unfold opG
        go_simp
        first | exact resG_eq_mk _ _ _ | rfl
      simp only [Act.put, List.setIfInBounds_toArray, List.set_cons_zero, List.set_cons_succ]
      apply wpG_nil
      intro W9 hW9 hsAll
      have b10 := step0 b9 hW9
      go_wp2
      go_ret
      exact ⟨rfl, b10⟩

open Go.ChangeShapes Go.WideShapes Go.ChangeAt Go.RowKit
open Go.ChangeMaps (open_string shut_string)
theorem own_vectorInc : ownKnob Try.prog.godebug = none := by kernel_rfl
theorem laidOut_vectorInc : laidOutB Try.prog = true := by kernel_rfl
set_option maxRecDepth 100000 in
theorem lifted_vectorInc (os : Os) (started : os.Started) (H : Type) (enc : TypeId × Value → H) :
    ReturnsInHanded {} Try.checked os 5 .any (Rows.vectorIncSpec.pre6 enc Try.prog Try.f5 Rows.vectorIncRow.domain false) (Rows.vectorIncSpec.post enc Try.prog Try.f5 false true false false) := by
  refine returnsInHanded_of_change (C := Try.checked) own_vectorInc started (by kernel_rfl) Try.func5
    (ChangeSpec.witness6 (enc := enc) (C := Try.checked) false ⟨#[], #[.slice none 0 0, .int .u8 0, .int .u8 0], []⟩ 8 (by kernel_rfl) (by kernel_rfl) (by kernel_rfl) (by kernel_rfl)) ?_
  intro W base args ds gs before hval0 hW hcnd _
  have hval : ∀ (j : Nat) t v, Try.f5.params[j]? = some t → args[j]? = some v → Value.okWide Try.prog W .any base t v := hval0
  have hW' := hW
  obtain ⟨p, q, hA0, hV, rfl, hfz, hnd⟩ := hW
  have hA : DataW.TrodAll enc Try.prog W 0 (fun _ => true) true Try.f5.params.toList args.toList ds p := hA0
  rw [Try.params5] at hA hval
  obtain ⟨v0, vs0, d0, ds0, p0, q0, hargs, rfl, rfl, k0, r0⟩ := trodAll_cons hA
  obtain ⟨v1, vs1, d1, ds1, p1, q1, rfl, rfl, rfl, k1, r1⟩ := trodAll_cons r0
  obtain ⟨v2, vs2, d2, ds2, p2, q2, rfl, rfl, rfl, k2, r2⟩ := trodAll_cons r1
  obtain ⟨rfl, rfl, rfl⟩ := trodAll_nil r2
  obtain rfl : args = #[v0, v1, v2] := by cases args; simp_all
  obtain ⟨rfl, rfl⟩ := trodVars_none hV
  have lt0 : ∀ x ∈ p0, x.block < W.heap.size := by obtain ⟨m, hm⟩ := k0; exact DataW.trod_lt m _ _ _ hm
  have lt1 : ∀ x ∈ p1, x.block < W.heap.size := by obtain ⟨m, hm⟩ := k1; exact DataW.trod_lt m _ _ _ hm
  have lt2 : ∀ x ∈ p2, x.block < W.heap.size := by obtain ⟨m, hm⟩ := k2; exact DataW.trod_lt m _ _ _ hm
  obtain ⟨l0, s0, w0, f0⟩ := open_nums Try.underlying22 Try.underlying23 (by kernel_rfl) (hval 0 22 v0 rfl rfl) k0
  obtain ⟨a1, rfl, w1⟩ := open_nat rfl Try.underlying5 (hval 1 5 v1 rfl rfl) k1
  obtain ⟨a2, rfl, w2⟩ := open_nat rfl Try.underlying5 (hval 2 5 v2 rfl rfl) k2
  clear hA0 hval0
  refine (vinc_walk W v0 l0 a1 a2 s0 w0 w1 w2  ).mono fun e W' ⟨he, bel⟩ => ?_
  subst he
  exact ⟨_, rfl, _, _, _, [], _, [], hW', trodAll_mk1 (shut_bool Try.underlying4 _), (trodAll_cons_mk (Below.trod laidOut_vectorInc (by kernel_rfl) (of_decide_eq_true (by kernel_rfl)) k0 bel lt0) (trodAll_cons_mk (Below.trod laidOut_vectorInc (by kernel_rfl) (of_decide_eq_true (by kernel_rfl)) k1 bel lt1) (trodAll_cons_mk (Below.trod laidOut_vectorInc (by kernel_rfl) (of_decide_eq_true (by kernel_rfl)) k2 bel lt2) trodAll_mk0))), rfl, bel.frame _, fun h => by cases h⟩

theorem over_vectorInc : Rows.vectorIncRow.holds Try.pinned (OpenSpec.ofChange Rows.vectorIncSpec) :=
  OpenClaim.holds_of_wide 5 Try.f5 rfl rfl rfl rfl rfl rfl rfl ⟨rfl, rfl, rfl, rfl, rfl⟩ rfl rfl rfl rfl rfl (by kernel_rfl) Try.func5 (by kernel_rfl)
    (of_decide_eq_true (by kernel_rfl)) (by unfold Func.isWrapper; first | (rw [if_pos (by decide +kernel)]; kernel_rfl) | (rw [if_neg (by decide +kernel)]; exact ⟨rfl, rfl⟩))
    (fun os started H enc _ => lifted_vectorInc os started H enc)

theorem vectorInc_proved : Rows.VectorIncSaid := over_vectorInc
#print axioms vectorInc_proved
end Go.Proofs.Ytomhiodabnpfoaa
