/-
  VectorOrder: Leq is an order, and Max the least stamp that both are no more than. Every input; no conditions.
-/
import Derived.Test.YtomhiodabnpfoaaThreeLaw
set_option linter.unusedVariables false
namespace Go.Proofs.Ytomhiodabnpfoaa
open Go.RowKit

theorem leqV3_iff (a b c d e f : Nat) : leqV [a, b, c] [d, e, f] = true ↔ a ≤ d ∧ b ≤ e ∧ c ≤ f := by
  constructor
  · intro h
    have h1 := (leqV_iff [a, b, c] [d, e, f] rfl).1 h
    exact ⟨h1 0 (by simp), h1 1 (by simp), h1 2 (by simp)⟩
  · rintro ⟨h1, h2, h3⟩; exact leqV3 h1 h2 h3
theorem leqV_max (x0 x1 x2 y0 y1 y2 z0 z1 z2 : Nat) : leqV [max x0 y0, max x1 y1, max x2 y2] [z0, z1, z2] = (leqV [x0, x1, x2] [z0, z1, z2] && leqV [y0, y1, y2] [z0, z1, z2]) := by
  rw [Bool.eq_iff_iff, Bool.and_eq_true, leqV3_iff, leqV3_iff, leqV3_iff]; omega
theorem leq_trans3 {x0 x1 x2 y0 y1 y2 z0 z1 z2 : Nat} (h : leqV [x0, x1, x2] [y0, y1, y2] = true) (k : leqV [y0, y1, y2] [z0, z1, z2] = true) : leqV [x0, x1, x2] [z0, z1, z2] = true := by
  rw [leqV3_iff] at *; omega

set_option maxHeartbeats 2000000 in
theorem order_walk (w : World) (va vb vc : Value) (la lb lc : List Nat) (sa : Sl w va (nums la)) (sb : Sl w vb (nums lb)) (sc : Sl w vc (nums lc)) (ha : la.length ≤ maxLen) (hb : lb.length ≤ maxLen) (hc : lc.length ≤ maxLen) :
    Calls Try.prog 4 #[va, vb, vc] w fun e w' => e = .returned (.bool true) ∧ Below w.heap.size w w' := by
  obtain ⟨x0, x1, x2, hx⟩ := three (cutV la) (cutV_length la)
  obtain ⟨y0, y1, y2, hy⟩ := three (cutV lb) (cutV_length lb)
  obtain ⟨z0, z1, z2, hz⟩ := three (cutV lc) (cutV_length lc)
  go_enter Try.func4, Try.ntmps4
  go_wp2_with fail
  refine (cut_any _ _ la sa (by omega)).mono ?_
  rintro e w1 ⟨vx, rfl, ox, c1⟩
  rw [hx] at ox
  have b1 := (c1 : Below w.heap.size w w1)
  replace sa := sa.below c1
  replace sb := sb.below c1
  replace sc := sc.below c1
  clear c1
  have sx := ox.sl
  clear ox
  go_wp2_with fail
  refine (cut_any _ _ lb sb (by omega)).mono ?_
  rintro e w2 ⟨vy, rfl, oy, c2⟩
  rw [hy] at oy
  have b2 := step0 b1 c2
  replace sa := sa.below c2
  replace sb := sb.below c2
  replace sc := sc.below c2
  replace sx := sx.below c2
  clear c2 b1
  have sy := oy.sl
  clear oy
  go_wp2_with fail
  refine (cut_any _ _ lc sc (by omega)).mono ?_
  rintro e w3 ⟨vz, rfl, oz, c3⟩
  rw [hz] at oz
  have b3 := step0 b2 c3
  replace sa := sa.below c3
  replace sb := sb.below c3
  replace sc := sc.below c3
  replace sx := sx.below c3
  replace sy := sy.below c3
  clear c3 b2
  have sz := oz.sl
  clear oz
  clear sa
  clear sb
  clear sc
  go_wp2_with fail
  refine (max_any _ _ _ [x0, x1, x2] [y0, y1, y2] sx sy (by simp) (by simp)).mono ?_
  rintro e w4 ⟨vm, rfl, om, c4⟩
  rw [maxV3] at om
  have b4 := step0 b3 c4
  replace sx := sx.below c4
  replace sy := sy.below c4
  replace sz := sz.below c4
  clear c4 b3
  have sm := om.sl
  clear om
  go_wp2_with fail
  refine (leq_any _ _ _ [x0, x1, x2] [x0, x1, x2] sx sx (by simp) (by simp)).mono ?_
  rintro e w5 ⟨rfl, c5⟩
  rw [leqV_refl [x0, x1, x2]]
  have b5 := step0 b4 c5
  replace sx := sx.below c5
  replace sy := sy.below c5
  replace sz := sz.below c5
  replace sm := sm.below c5
  clear c5 b4
  cases hxy : leqV [x0, x1, x2] [y0, y1, y2] with
  | true =>
    cases hyz : leqV [y0, y1, y2] [z0, z1, z2] with
    | true =>
      have hxz : leqV [x0, x1, x2] [z0, z1, z2] = true := leq_trans3 hxy hyz
      go_wp2_with fail
      refine (leq_any _ _ _ [x0, x1, x2] [y0, y1, y2] sx sy (by simp) (by simp)).mono ?_
      rintro e w6 ⟨rfl, c6⟩
      rw [hxy]
      have b6 := step0 b5 c6
      replace sx := sx.below c6
      replace sy := sy.below c6
      replace sz := sz.below c6
      replace sm := sm.below c6
      clear c6 b5
      go_wp2_with fail
      refine (leq_any _ _ _ [y0, y1, y2] [x0, x1, x2] sy sx (by simp) (by simp)).mono ?_
      rintro e w7 ⟨rfl, c7⟩
      rw [show leqV [y0, y1, y2] [x0, x1, x2] = sameV [x0, x1, x2] [y0, y1, y2] from by rw [sameV, hxy]; rfl]
      have b7 := step0 b6 c7
      replace sx := sx.below c7
      replace sy := sy.below c7
      replace sz := sz.below c7
      replace sm := sm.below c7
      clear c7 b6
      go_wp2_with fail
      refine (same_any _ _ _ [x0, x1, x2] [y0, y1, y2] sx sy (by simp) (by simp)).mono ?_
      rintro e w8 ⟨rfl, c8⟩
      rw [show sameV [x0, x1, x2] [y0, y1, y2] = sameV [x0, x1, x2] [y0, y1, y2] from rfl]
      have b8 := step0 b7 c8
      replace sx := sx.below c8
      replace sy := sy.below c8
      replace sz := sz.below c8
      replace sm := sm.below c8
      clear c8 b7
      go_wp2_with fail
      refine (leq_any _ _ _ [x0, x1, x2] [y0, y1, y2] sx sy (by simp) (by simp)).mono ?_
      rintro e w9 ⟨rfl, c9⟩
      rw [hxy]
      have b9 := step0 b8 c9
      replace sx := sx.below c9
      replace sy := sy.below c9
      replace sz := sz.below c9
      replace sm := sm.below c9
      clear c9 b8
      go_wp2_with fail
      refine (leq_any _ _ _ [y0, y1, y2] [z0, z1, z2] sy sz (by simp) (by simp)).mono ?_
      rintro e w10 ⟨rfl, c10⟩
      rw [hyz]
      have b10 := step0 b9 c10
      replace sx := sx.below c10
      replace sy := sy.below c10
      replace sz := sz.below c10
      replace sm := sm.below c10
      clear c10 b9
      go_wp2_with fail
      refine (leq_any _ _ _ [x0, x1, x2] [z0, z1, z2] sx sz (by simp) (by simp)).mono ?_
      rintro e w11 ⟨rfl, c11⟩
      rw [hxz]
      have b11 := step0 b10 c11
      replace sx := sx.below c11
      replace sy := sy.below c11
      replace sz := sz.below c11
      replace sm := sm.below c11
      clear c11 b10
      go_wp2_with fail
      refine (leq_any _ _ _ [x0, x1, x2] [max x0 y0, max x1 y1, max x2 y2] sx sm (by simp) (by simp)).mono ?_
      rintro e w12 ⟨rfl, c12⟩
      rw [show leqV [x0, x1, x2] [max x0 y0, max x1 y1, max x2 y2] = true from leqV3 (by omega) (by omega) (by omega)]
      have b12 := step0 b11 c12
      replace sx := sx.below c12
      replace sy := sy.below c12
      replace sz := sz.below c12
      replace sm := sm.below c12
      clear c12 b11
      go_wp2_with fail
      refine (leq_any _ _ _ [y0, y1, y2] [max x0 y0, max x1 y1, max x2 y2] sy sm (by simp) (by simp)).mono ?_
      rintro e w13 ⟨rfl, c13⟩
      rw [show leqV [y0, y1, y2] [max x0 y0, max x1 y1, max x2 y2] = true from leqV3 (by omega) (by omega) (by omega)]
      have b13 := step0 b12 c13
      replace sx := sx.below c13
      replace sy := sy.below c13
      replace sz := sz.below c13
      replace sm := sm.below c13
      clear c13 b12
      go_wp2_with fail
      refine (leq_any _ _ _ [x0, x1, x2] [z0, z1, z2] sx sz (by simp) (by simp)).mono ?_
      rintro e w14 ⟨rfl, c14⟩
      rw [hxz]
      have b14 := step0 b13 c14
      replace sx := sx.below c14
      replace sy := sy.below c14
      replace sz := sz.below c14
      replace sm := sm.below c14
      clear c14 b13
      go_wp2_with fail
      refine (leq_any _ _ _ [y0, y1, y2] [z0, z1, z2] sy sz (by simp) (by simp)).mono ?_
      rintro e w15 ⟨rfl, c15⟩
      rw [show leqV [y0, y1, y2] [z0, z1, z2] = leqV [max x0 y0, max x1 y1, max x2 y2] [z0, z1, z2] from by rw [leqV_max, hxz]; rfl]
      have b15 := step0 b14 c15
      replace sx := sx.below c15
      replace sy := sy.below c15
      replace sz := sz.below c15
      replace sm := sm.below c15
      clear c15 b14
      go_wp2_with fail
      refine (leq_any _ _ _ [max x0 y0, max x1 y1, max x2 y2] [z0, z1, z2] sm sz (by simp) (by simp)).mono ?_
      rintro e w16 ⟨rfl, c16⟩
      rw [show leqV [max x0 y0, max x1 y1, max x2 y2] [z0, z1, z2] = leqV [max x0 y0, max x1 y1, max x2 y2] [z0, z1, z2] from rfl]
      have b16 := step0 b15 c16
      replace sx := sx.below c16
      replace sy := sy.below c16
      replace sz := sz.below c16
      replace sm := sm.below c16
      clear c16 b15
      go_wp2_with fail
      refine (max_any _ _ _ [y0, y1, y2] [x0, x1, x2] sy sx (by simp) (by simp)).mono ?_
      rintro e w17 ⟨vq, rfl, oq, c17⟩
      rw [maxV3] at oq
      have b17 := step0 b16 c17
      replace sx := sx.below c17
      replace sy := sy.below c17
      replace sz := sz.below c17
      replace sm := sm.below c17
      clear c17 b16
      have sq := oq.sl
      clear oq
      go_wp2_with fail
      refine (same_any _ _ _ [max x0 y0, max x1 y1, max x2 y2] [max y0 x0, max y1 x1, max y2 x2] sm sq (by simp) (by simp)).mono ?_
      rintro e w18 ⟨rfl, c18⟩
      rw [show sameV [max x0 y0, max x1 y1, max x2 y2] [max y0 x0, max y1 x1, max y2 x2] = true from sameV_of (by rw [Nat.max_comm x0, Nat.max_comm x1, Nat.max_comm x2])]
      have b18 := step0 b17 c18
      replace sx := sx.below c18
      replace sy := sy.below c18
      replace sz := sz.below c18
      replace sm := sm.below c18
      replace sq := sq.below c18
      clear c18 b17
      clear sq
      go_wp2_with fail
      refine (new_n _ 3).mono ?_
      rintro e w19 ⟨vn, rfl, on, c19⟩
      rw [show newV 3 = [0, 0, 0] from by decide] at on
      have b19 := step0 b18 c19
      replace sx := sx.below c19
      replace sy := sy.below c19
      replace sz := sz.below c19
      replace sm := sm.below c19
      clear c19 b18
      have sn := on.sl
      clear on
      go_wp2_with fail
      refine (leq_any _ _ _ [0, 0, 0] [x0, x1, x2] sn sx (by simp) (by simp)).mono ?_
      rintro e w20 ⟨rfl, c20⟩
      rw [show leqV [0, 0, 0] [x0, x1, x2] = true from leqV3 (by omega) (by omega) (by omega)]
      have b20 := step0 b19 c20
      replace sx := sx.below c20
      replace sy := sy.below c20
      replace sz := sz.below c20
      replace sm := sm.below c20
      replace sn := sn.below c20
      clear c20 b19
      go_wp2_with fail
      refine (goes_any _).mono ?_
      rintro e w21 ⟨rfl, c21⟩
      have b21 := step0 b20 c21
      clear c21 b20
      go_wp2
      go_ret
      exact ⟨rfl, b21⟩
    | false =>
      go_wp2_with fail
      refine (leq_any _ _ _ [x0, x1, x2] [y0, y1, y2] sx sy (by simp) (by simp)).mono ?_
      rintro e w6 ⟨rfl, c6⟩
      rw [hxy]
      have b6 := step0 b5 c6
      replace sx := sx.below c6
      replace sy := sy.below c6
      replace sz := sz.below c6
      replace sm := sm.below c6
      clear c6 b5
      go_wp2_with fail
      refine (leq_any _ _ _ [y0, y1, y2] [x0, x1, x2] sy sx (by simp) (by simp)).mono ?_
      rintro e w7 ⟨rfl, c7⟩
      rw [show leqV [y0, y1, y2] [x0, x1, x2] = sameV [x0, x1, x2] [y0, y1, y2] from by rw [sameV, hxy]; rfl]
      have b7 := step0 b6 c7
      replace sx := sx.below c7
      replace sy := sy.below c7
      replace sz := sz.below c7
      replace sm := sm.below c7
      clear c7 b6
      go_wp2_with fail
      refine (same_any _ _ _ [x0, x1, x2] [y0, y1, y2] sx sy (by simp) (by simp)).mono ?_
      rintro e w8 ⟨rfl, c8⟩
      rw [show sameV [x0, x1, x2] [y0, y1, y2] = sameV [x0, x1, x2] [y0, y1, y2] from rfl]
      have b8 := step0 b7 c8
      replace sx := sx.below c8
      replace sy := sy.below c8
      replace sz := sz.below c8
      replace sm := sm.below c8
      clear c8 b7
      go_wp2_with fail
      refine (leq_any _ _ _ [x0, x1, x2] [y0, y1, y2] sx sy (by simp) (by simp)).mono ?_
      rintro e w9 ⟨rfl, c9⟩
      rw [hxy]
      have b9 := step0 b8 c9
      replace sx := sx.below c9
      replace sy := sy.below c9
      replace sz := sz.below c9
      replace sm := sm.below c9
      clear c9 b8
      go_wp2_with fail
      refine (leq_any _ _ _ [y0, y1, y2] [z0, z1, z2] sy sz (by simp) (by simp)).mono ?_
      rintro e w10 ⟨rfl, c10⟩
      rw [hyz]
      have b10 := step0 b9 c10
      replace sx := sx.below c10
      replace sy := sy.below c10
      replace sz := sz.below c10
      replace sm := sm.below c10
      clear c10 b9
      cases hxz : leqV [x0, x1, x2] [z0, z1, z2] with
      | true =>
        go_wp2_with fail
        refine (leq_any _ _ _ [x0, x1, x2] [max x0 y0, max x1 y1, max x2 y2] sx sm (by simp) (by simp)).mono ?_
        rintro e w11 ⟨rfl, c11⟩
        rw [show leqV [x0, x1, x2] [max x0 y0, max x1 y1, max x2 y2] = true from leqV3 (by omega) (by omega) (by omega)]
        have b11 := step0 b10 c11
        replace sx := sx.below c11
        replace sy := sy.below c11
        replace sz := sz.below c11
        replace sm := sm.below c11
        clear c11 b10
        go_wp2_with fail
        refine (leq_any _ _ _ [y0, y1, y2] [max x0 y0, max x1 y1, max x2 y2] sy sm (by simp) (by simp)).mono ?_
        rintro e w12 ⟨rfl, c12⟩
        rw [show leqV [y0, y1, y2] [max x0 y0, max x1 y1, max x2 y2] = true from leqV3 (by omega) (by omega) (by omega)]
        have b12 := step0 b11 c12
        replace sx := sx.below c12
        replace sy := sy.below c12
        replace sz := sz.below c12
        replace sm := sm.below c12
        clear c12 b11
        go_wp2_with fail
        refine (leq_any _ _ _ [x0, x1, x2] [z0, z1, z2] sx sz (by simp) (by simp)).mono ?_
        rintro e w13 ⟨rfl, c13⟩
        rw [hxz]
        have b13 := step0 b12 c13
        replace sx := sx.below c13
        replace sy := sy.below c13
        replace sz := sz.below c13
        replace sm := sm.below c13
        clear c13 b12
        go_wp2_with fail
        refine (leq_any _ _ _ [y0, y1, y2] [z0, z1, z2] sy sz (by simp) (by simp)).mono ?_
        rintro e w14 ⟨rfl, c14⟩
        rw [show leqV [y0, y1, y2] [z0, z1, z2] = leqV [max x0 y0, max x1 y1, max x2 y2] [z0, z1, z2] from by rw [leqV_max, hxz]; rfl]
        have b14 := step0 b13 c14
        replace sx := sx.below c14
        replace sy := sy.below c14
        replace sz := sz.below c14
        replace sm := sm.below c14
        clear c14 b13
        go_wp2_with fail
        refine (leq_any _ _ _ [max x0 y0, max x1 y1, max x2 y2] [z0, z1, z2] sm sz (by simp) (by simp)).mono ?_
        rintro e w15 ⟨rfl, c15⟩
        rw [show leqV [max x0 y0, max x1 y1, max x2 y2] [z0, z1, z2] = leqV [max x0 y0, max x1 y1, max x2 y2] [z0, z1, z2] from rfl]
        have b15 := step0 b14 c15
        replace sx := sx.below c15
        replace sy := sy.below c15
        replace sz := sz.below c15
        replace sm := sm.below c15
        clear c15 b14
        go_wp2_with fail
        refine (max_any _ _ _ [y0, y1, y2] [x0, x1, x2] sy sx (by simp) (by simp)).mono ?_
        rintro e w16 ⟨vq, rfl, oq, c16⟩
        rw [maxV3] at oq
        have b16 := step0 b15 c16
        replace sx := sx.below c16
        replace sy := sy.below c16
        replace sz := sz.below c16
        replace sm := sm.below c16
        clear c16 b15
        have sq := oq.sl
        clear oq
        go_wp2_with fail
        refine (same_any _ _ _ [max x0 y0, max x1 y1, max x2 y2] [max y0 x0, max y1 x1, max y2 x2] sm sq (by simp) (by simp)).mono ?_
        rintro e w17 ⟨rfl, c17⟩
        rw [show sameV [max x0 y0, max x1 y1, max x2 y2] [max y0 x0, max y1 x1, max y2 x2] = true from sameV_of (by rw [Nat.max_comm x0, Nat.max_comm x1, Nat.max_comm x2])]
        have b17 := step0 b16 c17
        replace sx := sx.below c17
        replace sy := sy.below c17
        replace sz := sz.below c17
        replace sm := sm.below c17
        replace sq := sq.below c17
        clear c17 b16
        clear sq
        go_wp2_with fail
        refine (new_n _ 3).mono ?_
        rintro e w18 ⟨vn, rfl, on, c18⟩
        rw [show newV 3 = [0, 0, 0] from by decide] at on
        have b18 := step0 b17 c18
        replace sx := sx.below c18
        replace sy := sy.below c18
        replace sz := sz.below c18
        replace sm := sm.below c18
        clear c18 b17
        have sn := on.sl
        clear on
        go_wp2_with fail
        refine (leq_any _ _ _ [0, 0, 0] [x0, x1, x2] sn sx (by simp) (by simp)).mono ?_
        rintro e w19 ⟨rfl, c19⟩
        rw [show leqV [0, 0, 0] [x0, x1, x2] = true from leqV3 (by omega) (by omega) (by omega)]
        have b19 := step0 b18 c19
        replace sx := sx.below c19
        replace sy := sy.below c19
        replace sz := sz.below c19
        replace sm := sm.below c19
        replace sn := sn.below c19
        clear c19 b18
        go_wp2_with fail
        refine (goes_any _).mono ?_
        rintro e w20 ⟨rfl, c20⟩
        have b20 := step0 b19 c20
        clear c20 b19
        go_wp2
        go_ret
        exact ⟨rfl, b20⟩
      | false =>
        go_wp2_with fail
        refine (leq_any _ _ _ [x0, x1, x2] [max x0 y0, max x1 y1, max x2 y2] sx sm (by simp) (by simp)).mono ?_
        rintro e w11 ⟨rfl, c11⟩
        rw [show leqV [x0, x1, x2] [max x0 y0, max x1 y1, max x2 y2] = true from leqV3 (by omega) (by omega) (by omega)]
        have b11 := step0 b10 c11
        replace sx := sx.below c11
        replace sy := sy.below c11
        replace sz := sz.below c11
        replace sm := sm.below c11
        clear c11 b10
        go_wp2_with fail
        refine (leq_any _ _ _ [y0, y1, y2] [max x0 y0, max x1 y1, max x2 y2] sy sm (by simp) (by simp)).mono ?_
        rintro e w12 ⟨rfl, c12⟩
        rw [show leqV [y0, y1, y2] [max x0 y0, max x1 y1, max x2 y2] = true from leqV3 (by omega) (by omega) (by omega)]
        have b12 := step0 b11 c12
        replace sx := sx.below c12
        replace sy := sy.below c12
        replace sz := sz.below c12
        replace sm := sm.below c12
        clear c12 b11
        go_wp2_with fail
        refine (leq_any _ _ _ [x0, x1, x2] [z0, z1, z2] sx sz (by simp) (by simp)).mono ?_
        rintro e w13 ⟨rfl, c13⟩
        rw [hxz]
        have b13 := step0 b12 c13
        replace sx := sx.below c13
        replace sy := sy.below c13
        replace sz := sz.below c13
        replace sm := sm.below c13
        clear c13 b12
        go_wp2_with fail
        refine (leq_any _ _ _ [max x0 y0, max x1 y1, max x2 y2] [z0, z1, z2] sm sz (by simp) (by simp)).mono ?_
        rintro e w14 ⟨rfl, c14⟩
        rw [show leqV [max x0 y0, max x1 y1, max x2 y2] [z0, z1, z2] = false from by rw [leqV_max, hxz]; rfl]
        have b14 := step0 b13 c14
        replace sx := sx.below c14
        replace sy := sy.below c14
        replace sz := sz.below c14
        replace sm := sm.below c14
        clear c14 b13
        go_wp2_with fail
        refine (max_any _ _ _ [y0, y1, y2] [x0, x1, x2] sy sx (by simp) (by simp)).mono ?_
        rintro e w15 ⟨vq, rfl, oq, c15⟩
        rw [maxV3] at oq
        have b15 := step0 b14 c15
        replace sx := sx.below c15
        replace sy := sy.below c15
        replace sz := sz.below c15
        replace sm := sm.below c15
        clear c15 b14
        have sq := oq.sl
        clear oq
        go_wp2_with fail
        refine (same_any _ _ _ [max x0 y0, max x1 y1, max x2 y2] [max y0 x0, max y1 x1, max y2 x2] sm sq (by simp) (by simp)).mono ?_
        rintro e w16 ⟨rfl, c16⟩
        rw [show sameV [max x0 y0, max x1 y1, max x2 y2] [max y0 x0, max y1 x1, max y2 x2] = true from sameV_of (by rw [Nat.max_comm x0, Nat.max_comm x1, Nat.max_comm x2])]
        have b16 := step0 b15 c16
        replace sx := sx.below c16
        replace sy := sy.below c16
        replace sz := sz.below c16
        replace sm := sm.below c16
        replace sq := sq.below c16
        clear c16 b15
        clear sq
        go_wp2_with fail
        refine (new_n _ 3).mono ?_
        rintro e w17 ⟨vn, rfl, on, c17⟩
        rw [show newV 3 = [0, 0, 0] from by decide] at on
        have b17 := step0 b16 c17
        replace sx := sx.below c17
        replace sy := sy.below c17
        replace sz := sz.below c17
        replace sm := sm.below c17
        clear c17 b16
        have sn := on.sl
        clear on
        go_wp2_with fail
        refine (leq_any _ _ _ [0, 0, 0] [x0, x1, x2] sn sx (by simp) (by simp)).mono ?_
        rintro e w18 ⟨rfl, c18⟩
        rw [show leqV [0, 0, 0] [x0, x1, x2] = true from leqV3 (by omega) (by omega) (by omega)]
        have b18 := step0 b17 c18
        replace sx := sx.below c18
        replace sy := sy.below c18
        replace sz := sz.below c18
        replace sm := sm.below c18
        replace sn := sn.below c18
        clear c18 b17
        go_wp2_with fail
        refine (goes_any _).mono ?_
        rintro e w19 ⟨rfl, c19⟩
        have b19 := step0 b18 c19
        clear c19 b18
        go_wp2
        go_ret
        exact ⟨rfl, b19⟩
  | false =>
    go_wp2_with fail
    refine (leq_any _ _ _ [x0, x1, x2] [y0, y1, y2] sx sy (by simp) (by simp)).mono ?_
    rintro e w6 ⟨rfl, c6⟩
    rw [hxy]
    have b6 := step0 b5 c6
    replace sx := sx.below c6
    replace sy := sy.below c6
    replace sz := sz.below c6
    replace sm := sm.below c6
    clear c6 b5
    go_wp2_with fail
    refine (leq_any _ _ _ [x0, x1, x2] [y0, y1, y2] sx sy (by simp) (by simp)).mono ?_
    rintro e w7 ⟨rfl, c7⟩
    rw [hxy]
    have b7 := step0 b6 c7
    replace sx := sx.below c7
    replace sy := sy.below c7
    replace sz := sz.below c7
    replace sm := sm.below c7
    clear c7 b6
    cases hxz : leqV [x0, x1, x2] [z0, z1, z2] with
    | true =>
      go_wp2_with fail
      refine (leq_any _ _ _ [x0, x1, x2] [max x0 y0, max x1 y1, max x2 y2] sx sm (by simp) (by simp)).mono ?_
      rintro e w8 ⟨rfl, c8⟩
      rw [show leqV [x0, x1, x2] [max x0 y0, max x1 y1, max x2 y2] = true from leqV3 (by omega) (by omega) (by omega)]
      have b8 := step0 b7 c8
      replace sx := sx.below c8
      replace sy := sy.below c8
      replace sz := sz.below c8
      replace sm := sm.below c8
      clear c8 b7
      go_wp2_with fail
      refine (leq_any _ _ _ [y0, y1, y2] [max x0 y0, max x1 y1, max x2 y2] sy sm (by simp) (by simp)).mono ?_
      rintro e w9 ⟨rfl, c9⟩
      rw [show leqV [y0, y1, y2] [max x0 y0, max x1 y1, max x2 y2] = true from leqV3 (by omega) (by omega) (by omega)]
      have b9 := step0 b8 c9
      replace sx := sx.below c9
      replace sy := sy.below c9
      replace sz := sz.below c9
      replace sm := sm.below c9
      clear c9 b8
      go_wp2_with fail
      refine (leq_any _ _ _ [x0, x1, x2] [z0, z1, z2] sx sz (by simp) (by simp)).mono ?_
      rintro e w10 ⟨rfl, c10⟩
      rw [hxz]
      have b10 := step0 b9 c10
      replace sx := sx.below c10
      replace sy := sy.below c10
      replace sz := sz.below c10
      replace sm := sm.below c10
      clear c10 b9
      go_wp2_with fail
      refine (leq_any _ _ _ [y0, y1, y2] [z0, z1, z2] sy sz (by simp) (by simp)).mono ?_
      rintro e w11 ⟨rfl, c11⟩
      rw [show leqV [y0, y1, y2] [z0, z1, z2] = leqV [max x0 y0, max x1 y1, max x2 y2] [z0, z1, z2] from by rw [leqV_max, hxz]; rfl]
      have b11 := step0 b10 c11
      replace sx := sx.below c11
      replace sy := sy.below c11
      replace sz := sz.below c11
      replace sm := sm.below c11
      clear c11 b10
      go_wp2_with fail
      refine (leq_any _ _ _ [max x0 y0, max x1 y1, max x2 y2] [z0, z1, z2] sm sz (by simp) (by simp)).mono ?_
      rintro e w12 ⟨rfl, c12⟩
      rw [show leqV [max x0 y0, max x1 y1, max x2 y2] [z0, z1, z2] = leqV [max x0 y0, max x1 y1, max x2 y2] [z0, z1, z2] from rfl]
      have b12 := step0 b11 c12
      replace sx := sx.below c12
      replace sy := sy.below c12
      replace sz := sz.below c12
      replace sm := sm.below c12
      clear c12 b11
      go_wp2_with fail
      refine (max_any _ _ _ [y0, y1, y2] [x0, x1, x2] sy sx (by simp) (by simp)).mono ?_
      rintro e w13 ⟨vq, rfl, oq, c13⟩
      rw [maxV3] at oq
      have b13 := step0 b12 c13
      replace sx := sx.below c13
      replace sy := sy.below c13
      replace sz := sz.below c13
      replace sm := sm.below c13
      clear c13 b12
      have sq := oq.sl
      clear oq
      go_wp2_with fail
      refine (same_any _ _ _ [max x0 y0, max x1 y1, max x2 y2] [max y0 x0, max y1 x1, max y2 x2] sm sq (by simp) (by simp)).mono ?_
      rintro e w14 ⟨rfl, c14⟩
      rw [show sameV [max x0 y0, max x1 y1, max x2 y2] [max y0 x0, max y1 x1, max y2 x2] = true from sameV_of (by rw [Nat.max_comm x0, Nat.max_comm x1, Nat.max_comm x2])]
      have b14 := step0 b13 c14
      replace sx := sx.below c14
      replace sy := sy.below c14
      replace sz := sz.below c14
      replace sm := sm.below c14
      replace sq := sq.below c14
      clear c14 b13
      clear sq
      go_wp2_with fail
      refine (new_n _ 3).mono ?_
      rintro e w15 ⟨vn, rfl, on, c15⟩
      rw [show newV 3 = [0, 0, 0] from by decide] at on
      have b15 := step0 b14 c15
      replace sx := sx.below c15
      replace sy := sy.below c15
      replace sz := sz.below c15
      replace sm := sm.below c15
      clear c15 b14
      have sn := on.sl
      clear on
      go_wp2_with fail
      refine (leq_any _ _ _ [0, 0, 0] [x0, x1, x2] sn sx (by simp) (by simp)).mono ?_
      rintro e w16 ⟨rfl, c16⟩
      rw [show leqV [0, 0, 0] [x0, x1, x2] = true from leqV3 (by omega) (by omega) (by omega)]
      have b16 := step0 b15 c16
      replace sx := sx.below c16
      replace sy := sy.below c16
      replace sz := sz.below c16
      replace sm := sm.below c16
      replace sn := sn.below c16
      clear c16 b15
      go_wp2_with fail
      refine (goes_any _).mono ?_
      rintro e w17 ⟨rfl, c17⟩
      have b17 := step0 b16 c17
      clear c17 b16
      go_wp2
      go_ret
      exact ⟨rfl, b17⟩
    | false =>
      go_wp2_with fail
      refine (leq_any _ _ _ [x0, x1, x2] [max x0 y0, max x1 y1, max x2 y2] sx sm (by simp) (by simp)).mono ?_
      rintro e w8 ⟨rfl, c8⟩
      rw [show leqV [x0, x1, x2] [max x0 y0, max x1 y1, max x2 y2] = true from leqV3 (by omega) (by omega) (by omega)]
      have b8 := step0 b7 c8
      replace sx := sx.below c8
      replace sy := sy.below c8
      replace sz := sz.below c8
      replace sm := sm.below c8
      clear c8 b7
      go_wp2_with fail
      refine (leq_any _ _ _ [y0, y1, y2] [max x0 y0, max x1 y1, max x2 y2] sy sm (by simp) (by simp)).mono ?_
      rintro e w9 ⟨rfl, c9⟩
      rw [show leqV [y0, y1, y2] [max x0 y0, max x1 y1, max x2 y2] = true from leqV3 (by omega) (by omega) (by omega)]
      have b9 := step0 b8 c9
      replace sx := sx.below c9
      replace sy := sy.below c9
      replace sz := sz.below c9
      replace sm := sm.below c9
      clear c9 b8
      go_wp2_with fail
      refine (leq_any _ _ _ [x0, x1, x2] [z0, z1, z2] sx sz (by simp) (by simp)).mono ?_
      rintro e w10 ⟨rfl, c10⟩
      rw [hxz]
      have b10 := step0 b9 c10
      replace sx := sx.below c10
      replace sy := sy.below c10
      replace sz := sz.below c10
      replace sm := sm.below c10
      clear c10 b9
      go_wp2_with fail
      refine (leq_any _ _ _ [max x0 y0, max x1 y1, max x2 y2] [z0, z1, z2] sm sz (by simp) (by simp)).mono ?_
      rintro e w11 ⟨rfl, c11⟩
      rw [show leqV [max x0 y0, max x1 y1, max x2 y2] [z0, z1, z2] = false from by rw [leqV_max, hxz]; rfl]
      have b11 := step0 b10 c11
      replace sx := sx.below c11
      replace sy := sy.below c11
      replace sz := sz.below c11
      replace sm := sm.below c11
      clear c11 b10
      go_wp2_with fail
      refine (max_any _ _ _ [y0, y1, y2] [x0, x1, x2] sy sx (by simp) (by simp)).mono ?_
      rintro e w12 ⟨vq, rfl, oq, c12⟩
      rw [maxV3] at oq
      have b12 := step0 b11 c12
      replace sx := sx.below c12
      replace sy := sy.below c12
      replace sz := sz.below c12
      replace sm := sm.below c12
      clear c12 b11
      have sq := oq.sl
      clear oq
      go_wp2_with fail
      refine (same_any _ _ _ [max x0 y0, max x1 y1, max x2 y2] [max y0 x0, max y1 x1, max y2 x2] sm sq (by simp) (by simp)).mono ?_
      rintro e w13 ⟨rfl, c13⟩
      rw [show sameV [max x0 y0, max x1 y1, max x2 y2] [max y0 x0, max y1 x1, max y2 x2] = true from sameV_of (by rw [Nat.max_comm x0, Nat.max_comm x1, Nat.max_comm x2])]
      have b13 := step0 b12 c13
      replace sx := sx.below c13
      replace sy := sy.below c13
      replace sz := sz.below c13
      replace sm := sm.below c13
      replace sq := sq.below c13
      clear c13 b12
      clear sq
      go_wp2_with fail
      refine (new_n _ 3).mono ?_
      rintro e w14 ⟨vn, rfl, on, c14⟩
      rw [show newV 3 = [0, 0, 0] from by decide] at on
      have b14 := step0 b13 c14
      replace sx := sx.below c14
      replace sy := sy.below c14
      replace sz := sz.below c14
      replace sm := sm.below c14
      clear c14 b13
      have sn := on.sl
      clear on
      go_wp2_with fail
      refine (leq_any _ _ _ [0, 0, 0] [x0, x1, x2] sn sx (by simp) (by simp)).mono ?_
      rintro e w15 ⟨rfl, c15⟩
      rw [show leqV [0, 0, 0] [x0, x1, x2] = true from leqV3 (by omega) (by omega) (by omega)]
      have b15 := step0 b14 c15
      replace sx := sx.below c15
      replace sy := sy.below c15
      replace sz := sz.below c15
      replace sm := sm.below c15
      replace sn := sn.below c15
      clear c15 b14
      go_wp2_with fail
      refine (goes_any _).mono ?_
      rintro e w16 ⟨rfl, c16⟩
      have b16 := step0 b15 c16
      clear c16 b15
      go_wp2
      go_ret
      exact ⟨rfl, b16⟩

open Go.ChangeShapes Go.WideShapes Go.ChangeAt Go.RowKit
open Go.ChangeMaps (open_string shut_string)
theorem own_vectorOrder : ownKnob Try.prog.godebug = none := by kernel_rfl
theorem laidOut_vectorOrder : laidOutB Try.prog = true := by kernel_rfl
set_option maxRecDepth 100000 in
theorem lifted_vectorOrder (os : Os) (started : os.Started) (H : Type) (enc : TypeId × Value → H) :
    ReturnsInHanded {} Try.checked os 4 .any (Rows.vectorOrderSpec.pre6 enc Try.prog Try.f4 Rows.vectorOrderRow.domain false) (Rows.vectorOrderSpec.post enc Try.prog Try.f4 false true false false) := by
  refine returnsInHanded_of_change (C := Try.checked) own_vectorOrder started (by kernel_rfl) Try.func4
    (ChangeSpec.witness6 (enc := enc) (C := Try.checked) false ⟨#[], #[.slice none 0 0, .slice none 0 0, .slice none 0 0], []⟩ 8 (by kernel_rfl) (by kernel_rfl) (by kernel_rfl) (by kernel_rfl)) ?_
  intro W base args ds gs before hval0 hW hcnd _
  have hval : ∀ (j : Nat) t v, Try.f4.params[j]? = some t → args[j]? = some v → Value.okWide Try.prog W .any base t v := hval0
  have hW' := hW
  obtain ⟨p, q, hA0, hV, rfl, hfz, hnd⟩ := hW
  have hA : DataW.TrodAll enc Try.prog W 0 (fun _ => true) true Try.f4.params.toList args.toList ds p := hA0
  rw [Try.params4] at hA hval
  obtain ⟨v0, vs0, d0, ds0, p0, q0, hargs, rfl, rfl, k0, r0⟩ := trodAll_cons hA
  obtain ⟨v1, vs1, d1, ds1, p1, q1, rfl, rfl, rfl, k1, r1⟩ := trodAll_cons r0
  obtain ⟨v2, vs2, d2, ds2, p2, q2, rfl, rfl, rfl, k2, r2⟩ := trodAll_cons r1
  obtain ⟨rfl, rfl, rfl⟩ := trodAll_nil r2
  obtain rfl : args = #[v0, v1, v2] := by cases args; simp_all
  obtain ⟨rfl, rfl⟩ := trodVars_none hV
  have lt0 : ∀ x ∈ p0, x.block < W.heap.size := by obtain ⟨m, hm⟩ := k0; exact DataW.trod_lt m _ _ _ hm
  have lt1 : ∀ x ∈ p1, x.block < W.heap.size := by obtain ⟨m, hm⟩ := k1; exact DataW.trod_lt m _ _ _ hm
  have lt2 : ∀ x ∈ p2, x.block < W.heap.size := by obtain ⟨m, hm⟩ := k2; exact DataW.trod_lt m _ _ _ hm
  obtain ⟨l0, s0, w0, f0⟩ := open_nums Try.underlying22 Try.underlying23 (by kernel_rfl) (hval 0 22 v0 rfl rfl) k0
  obtain ⟨l1, s1, w1, f1⟩ := open_nums Try.underlying22 Try.underlying23 (by kernel_rfl) (hval 1 22 v1 rfl rfl) k1
  obtain ⟨l2, s2, w2, f2⟩ := open_nums Try.underlying22 Try.underlying23 (by kernel_rfl) (hval 2 22 v2 rfl rfl) k2
  clear hA0 hval0
  refine (order_walk W v0 v1 v2 l0 l1 l2 s0 s1 s2 w0 w1 w2  ).mono fun e W' ⟨he, bel⟩ => ?_
  subst he
  exact ⟨_, rfl, _, _, _, [], _, [], hW', trodAll_mk1 (shut_bool Try.underlying4 _), (trodAll_cons_mk (Below.trod laidOut_vectorOrder (by kernel_rfl) (of_decide_eq_true (by kernel_rfl)) k0 bel lt0) (trodAll_cons_mk (Below.trod laidOut_vectorOrder (by kernel_rfl) (of_decide_eq_true (by kernel_rfl)) k1 bel lt1) (trodAll_cons_mk (Below.trod laidOut_vectorOrder (by kernel_rfl) (of_decide_eq_true (by kernel_rfl)) k2 bel lt2) trodAll_mk0))), rfl, bel.frame _, fun h => by cases h⟩

theorem over_vectorOrder : Rows.vectorOrderRow.holds Try.pinned (OpenSpec.ofChange Rows.vectorOrderSpec) :=
  OpenClaim.holds_of_wide 4 Try.f4 rfl rfl rfl rfl rfl rfl rfl ⟨rfl, rfl, rfl, rfl, rfl⟩ rfl rfl rfl rfl rfl (by kernel_rfl) Try.func4 (by kernel_rfl)
    (of_decide_eq_true (by kernel_rfl)) (by unfold Func.isWrapper; first | (rw [if_pos (by decide +kernel)]; kernel_rfl) | (rw [if_neg (by decide +kernel)]; exact ⟨rfl, rfl⟩))
    (fun os started H enc _ => lifted_vectorOrder os started H enc)

theorem vectorOrder_proved : Rows.VectorOrderSaid := over_vectorOrder
#print axioms vectorOrder_proved
end Go.Proofs.Ytomhiodabnpfoaa
