/-
  VectorThree: the greatest of three stamps hangs on no order; of like ones it is they. Every input; no conditions.
-/
import Derived.Test.YtomhiodabnpfoaaCut
set_option linter.unusedVariables false
namespace Go.Proofs.Ytomhiodabnpfoaa
open Go.RowKit

section
open Go.ChangeShapes Go.WideShapes Go.ChangeAt
variable {H : Type} {enc : TypeId × Value → H} {P : Program} {w : World}
theorem nums_of_ints (zs : List Int) (h : ∀ z ∈ zs, (Lit.int .u64 z).wf = true) : zs.map (Value.int .u64) = nums (zs.map Int.toNat) := by
  unfold nums
  rw [List.map_map]
  refine List.map_congr_left fun z hz => ?_
  have := h z hz
  simp [Lit.wf, IntKind.min, IntKind.max, IntKind.bits, IntKind.signed] at this
  simp only [Function.comp, num64]
  congr 1
  omega
theorem open_nums {r : Reach} {b0 : Nat} {t e : TypeId} {v : Value} {d : DataW H} {ps : List MemPlace} (ht : P.underlying t = some (.slice e)) (he : P.underlying e = some (.int .u64)) (hc : P.cellsOf e = 1)
    (hval : Value.okWide P w r b0 t v) (hd : DataW.Trod enc P w 0 (fun _ => true) true t v d ps) : ∃ l : List Nat, Sl w v (nums l) ∧ l.length ≤ maxLen ∧ ∀ x ∈ l, x < 2 ^ 64 := by
  obtain ⟨zs, hs, hw, hm⟩ := open_sl_ints ht he hc hval hd
  refine ⟨_, by rw [← nums_of_ints zs hw]; exact hs, by simpa using hm, ?_⟩
  intro x hx
  obtain ⟨z, hz, rfl⟩ := List.mem_map.1 hx
  have := hw z hz
  simp [Lit.wf, IntKind.min, IntKind.max, IntKind.bits, IntKind.signed] at this
  omega
end
theorem three (l : List Nat) (h : l.length = 3) : ∃ a b c, l = [a, b, c] := by
  match l, h with
  | [a, b, c], _ => exact ⟨a, b, c, rfl⟩
theorem maxV3 (a b c d e f : Nat) : maxV [a, b, c] [d, e, f] = [max a d, max b e, max c f] := rfl
theorem leqV3 {a b c d e f : Nat} (h1 : a ≤ d) (h2 : b ≤ e) (h3 : c ≤ f) : leqV [a, b, c] [d, e, f] = true := by
  refine (leqV_iff [a, b, c] [d, e, f] rfl).2 ?_
  intro j hj
  match j, hj with
  | 0, _ => exact h1
  | 1, _ => exact h2
  | 2, _ => exact h3
theorem sameV_of {l m : List Nat} (h : l = m) : sameV l m = true := by rw [h]; exact sameV_self m

theorem max3 (x y z : Nat) : max (max x y) z = max (max z x) y := by omega
theorem three_walk (w : World) (va vb vc : Value) (la lb lc : List Nat) (sa : Sl w va (nums la)) (sb : Sl w vb (nums lb)) (sc : Sl w vc (nums lc)) (ha : la.length ≤ maxLen) (hb : lb.length ≤ maxLen) (hc : lc.length ≤ maxLen) :
    Calls Try.prog 7 #[va, vb, vc] w fun e w' => e = .returned (.bool true) ∧ Below w.heap.size w w' := by
  obtain ⟨x0, x1, x2, hx⟩ := three (cutV la) (cutV_length la)
  obtain ⟨y0, y1, y2, hy⟩ := three (cutV lb) (cutV_length lb)
  obtain ⟨z0, z1, z2, hz⟩ := three (cutV lc) (cutV_length lc)
  go_enter Try.func7, Try.ntmps7
  go_wp2_with fail
  refine (cut_any _ _ la sa (by omega)).mono ?_
  rintro e w1 ⟨vx, rfl, ox, c1⟩
  rw [hx] at ox
  have b1 := (c1 : Below w.heap.size w w1)
  replace sa := sa.below c1
  replace sb := sb.below c1
  replace sc := sc.below c1
  clear c1
  have sx := ox.sl
  clear ox
  go_wp2_with fail
  refine (cut_any _ _ lb sb (by omega)).mono ?_
  rintro e w2 ⟨vy, rfl, oy, c2⟩
  rw [hy] at oy
  have b2 := step0 b1 c2
  replace sa := sa.below c2
  replace sb := sb.below c2
  replace sc := sc.below c2
  replace sx := sx.below c2
  clear c2 b1
  have sy := oy.sl
  clear oy
  go_wp2_with fail
  refine (cut_any _ _ lc sc (by omega)).mono ?_
  rintro e w3 ⟨vz, rfl, oz, c3⟩
  rw [hz] at oz
  have b3 := step0 b2 c3
  replace sa := sa.below c3
  replace sb := sb.below c3
  replace sc := sc.below c3
  replace sx := sx.below c3
  replace sy := sy.below c3
  clear c3 b2
  have sz := oz.sl
  clear oz
  clear sa
  clear sb
  clear sc
  go_wp2_with fail
  refine (max_any _ _ _ [x0, x1, x2] [y0, y1, y2] sx sy (by simp) (by simp)).mono ?_
  rintro e w4 ⟨vp, rfl, op, c4⟩
  rw [maxV3] at op
  have b4 := step0 b3 c4
  replace sx := sx.below c4
  replace sy := sy.below c4
  replace sz := sz.below c4
  clear c4 b3
  have sp := op.sl
  clear op
  go_wp2_with fail
  refine (max_any _ _ _ [max x0 y0, max x1 y1, max x2 y2] [z0, z1, z2] sp sz (by simp) (by simp)).mono ?_
  rintro e w5 ⟨vm, rfl, om, c5⟩
  rw [maxV3] at om
  have b5 := step0 b4 c5
  replace sx := sx.below c5
  replace sy := sy.below c5
  replace sz := sz.below c5
  replace sp := sp.below c5
  clear c5 b4
  have sm := om.sl
  clear om
  clear sp
  go_wp2_with fail
  refine (max_any _ _ _ [y0, y1, y2] [z0, z1, z2] sy sz (by simp) (by simp)).mono ?_
  rintro e w6 ⟨vp, rfl, op, c6⟩
  rw [maxV3] at op
  have b6 := step0 b5 c6
  replace sx := sx.below c6
  replace sy := sy.below c6
  replace sz := sz.below c6
  replace sm := sm.below c6
  clear c6 b5
  have sp := op.sl
  clear op
  go_wp2_with fail
  refine (max_any _ _ _ [x0, x1, x2] [max y0 z0, max y1 z1, max y2 z2] sx sp (by simp) (by simp)).mono ?_
  rintro e w7 ⟨vq, rfl, oq, c7⟩
  rw [maxV3] at oq
  have b7 := step0 b6 c7
  replace sx := sx.below c7
  replace sy := sy.below c7
  replace sz := sz.below c7
  replace sm := sm.below c7
  replace sp := sp.below c7
  clear c7 b6
  have sq := oq.sl
  clear oq
  clear sp
  go_wp2_with fail
  refine (same_any _ _ _ [max (max x0 y0) z0, max (max x1 y1) z1, max (max x2 y2) z2] [max x0 (max y0 z0), max x1 (max y1 z1), max x2 (max y2 z2)] sm sq (by simp) (by simp)).mono ?_
  rintro e w8 ⟨rfl, c8⟩
  rw [show sameV [max (max x0 y0) z0, max (max x1 y1) z1, max (max x2 y2) z2] [max x0 (max y0 z0), max x1 (max y1 z1), max x2 (max y2 z2)] = true from sameV_of (by rw [Nat.max_assoc, Nat.max_assoc, Nat.max_assoc])]
  have b8 := step0 b7 c8
  replace sx := sx.below c8
  replace sy := sy.below c8
  replace sz := sz.below c8
  replace sm := sm.below c8
  replace sq := sq.below c8
  clear c8 b7
  clear sq
  go_wp2_with fail
  refine (max_any _ _ _ [z0, z1, z2] [x0, x1, x2] sz sx (by simp) (by simp)).mono ?_
  rintro e w9 ⟨vp, rfl, op, c9⟩
  rw [maxV3] at op
  have b9 := step0 b8 c9
  replace sx := sx.below c9
  replace sy := sy.below c9
  replace sz := sz.below c9
  replace sm := sm.below c9
  clear c9 b8
  have sp := op.sl
  clear op
  go_wp2_with fail
  refine (max_any _ _ _ [max z0 x0, max z1 x1, max z2 x2] [y0, y1, y2] sp sy (by simp) (by simp)).mono ?_
  rintro e w10 ⟨vq, rfl, oq, c10⟩
  rw [maxV3] at oq
  have b10 := step0 b9 c10
  replace sx := sx.below c10
  replace sy := sy.below c10
  replace sz := sz.below c10
  replace sm := sm.below c10
  replace sp := sp.below c10
  clear c10 b9
  have sq := oq.sl
  clear oq
  clear sp
  go_wp2_with fail
  refine (same_any _ _ _ [max (max x0 y0) z0, max (max x1 y1) z1, max (max x2 y2) z2] [max (max z0 x0) y0, max (max z1 x1) y1, max (max z2 x2) y2] sm sq (by simp) (by simp)).mono ?_
  rintro e w11 ⟨rfl, c11⟩
  rw [show sameV [max (max x0 y0) z0, max (max x1 y1) z1, max (max x2 y2) z2] [max (max z0 x0) y0, max (max z1 x1) y1, max (max z2 x2) y2] = true from sameV_of (by rw [max3 x0 y0 z0, max3 x1 y1 z1, max3 x2 y2 z2])]
  have b11 := step0 b10 c11
  replace sx := sx.below c11
  replace sy := sy.below c11
  replace sz := sz.below c11
  replace sm := sm.below c11
  replace sq := sq.below c11
  clear c11 b10
  clear sq
  go_wp2_with fail
  refine (max_any _ _ _ [x0, x1, x2] [x0, x1, x2] sx sx (by simp) (by simp)).mono ?_
  rintro e w12 ⟨vp, rfl, op, c12⟩
  rw [maxV3] at op
  have b12 := step0 b11 c12
  replace sx := sx.below c12
  replace sy := sy.below c12
  replace sz := sz.below c12
  replace sm := sm.below c12
  clear c12 b11
  have sp := op.sl
  clear op
  go_wp2_with fail
  refine (same_any _ _ _ [max x0 x0, max x1 x1, max x2 x2] [x0, x1, x2] sp sx (by simp) (by simp)).mono ?_
  rintro e w13 ⟨rfl, c13⟩
  rw [show sameV [max x0 x0, max x1 x1, max x2 x2] [x0, x1, x2] = true from sameV_of (by rw [Nat.max_self, Nat.max_self, Nat.max_self])]
  have b13 := step0 b12 c13
  replace sx := sx.below c13
  replace sy := sy.below c13
  replace sz := sz.below c13
  replace sm := sm.below c13
  replace sp := sp.below c13
  clear c13 b12
  clear sp
  go_wp2_with fail
  refine (leq_any _ _ _ [x0, x1, x2] [max (max x0 y0) z0, max (max x1 y1) z1, max (max x2 y2) z2] sx sm (by simp) (by simp)).mono ?_
  rintro e w14 ⟨rfl, c14⟩
  rw [show leqV [x0, x1, x2] [max (max x0 y0) z0, max (max x1 y1) z1, max (max x2 y2) z2] = true from leqV3 (by omega) (by omega) (by omega)]
  have b14 := step0 b13 c14
  replace sx := sx.below c14
  replace sy := sy.below c14
  replace sz := sz.below c14
  replace sm := sm.below c14
  clear c14 b13
  go_wp2_with fail
  refine (leq_any _ _ _ [y0, y1, y2] [max (max x0 y0) z0, max (max x1 y1) z1, max (max x2 y2) z2] sy sm (by simp) (by simp)).mono ?_
  rintro e w15 ⟨rfl, c15⟩
  rw [show leqV [y0, y1, y2] [max (max x0 y0) z0, max (max x1 y1) z1, max (max x2 y2) z2] = true from leqV3 (by omega) (by omega) (by omega)]
  have b15 := step0 b14 c15
  replace sx := sx.below c15
  replace sy := sy.below c15
  replace sz := sz.below c15
  replace sm := sm.below c15
  clear c15 b14
  go_wp2_with fail
  refine (leq_any _ _ _ [z0, z1, z2] [max (max x0 y0) z0, max (max x1 y1) z1, max (max x2 y2) z2] sz sm (by simp) (by simp)).mono ?_
  rintro e w16 ⟨rfl, c16⟩
  rw [show leqV [z0, z1, z2] [max (max x0 y0) z0, max (max x1 y1) z1, max (max x2 y2) z2] = true from leqV3 (by omega) (by omega) (by omega)]
  have b16 := step0 b15 c16
  replace sx := sx.below c16
  replace sy := sy.below c16
  replace sz := sz.below c16
  replace sm := sm.below c16
  clear c16 b15
  go_wp2_with fail
  refine (goes_any _).mono ?_
  rintro e w17 ⟨rfl, c17⟩
  have b17 := step0 b16 c17
  clear c17 b16
  go_wp2
  go_ret
  exact ⟨rfl, b17⟩

open Go.ChangeShapes Go.WideShapes Go.ChangeAt Go.RowKit
open Go.ChangeMaps (open_string shut_string)
theorem own_vectorThree : ownKnob Try.prog.godebug = none := by kernel_rfl
theorem laidOut_vectorThree : laidOutB Try.prog = true := by kernel_rfl
set_option maxRecDepth 100000 in
theorem lifted_vectorThree (os : Os) (started : os.Started) (H : Type) (enc : TypeId × Value → H) :
    ReturnsInHanded {} Try.checked os 7 .any (Rows.vectorThreeSpec.pre6 enc Try.prog Try.f7 Rows.vectorThreeRow.domain false) (Rows.vectorThreeSpec.post enc Try.prog Try.f7 false true false false) := by
  refine returnsInHanded_of_change (C := Try.checked) own_vectorThree started (by kernel_rfl) Try.func7
    (ChangeSpec.witness6 (enc := enc) (C := Try.checked) false ⟨#[], #[.slice none 0 0, .slice none 0 0, .slice none 0 0], []⟩ 8 (by kernel_rfl) (by kernel_rfl) (by kernel_rfl) (by kernel_rfl)) ?_
  intro W base args ds gs before hval0 hW hcnd _
  have hval : ∀ (j : Nat) t v, Try.f7.params[j]? = some t → args[j]? = some v → Value.okWide Try.prog W .any base t v := hval0
  have hW' := hW
  obtain ⟨p, q, hA0, hV, rfl, hfz, hnd⟩ := hW
  have hA : DataW.TrodAll enc Try.prog W 0 (fun _ => true) true Try.f7.params.toList args.toList ds p := hA0
  rw [Try.params7] at hA hval
  obtain ⟨v0, vs0, d0, ds0, p0, q0, hargs, rfl, rfl, k0, r0⟩ := trodAll_cons hA
  obtain ⟨v1, vs1, d1, ds1, p1, q1, rfl, rfl, rfl, k1, r1⟩ := trodAll_cons r0
  obtain ⟨v2, vs2, d2, ds2, p2, q2, rfl, rfl, rfl, k2, r2⟩ := trodAll_cons r1
  obtain ⟨rfl, rfl, rfl⟩ := trodAll_nil r2
  obtain rfl : args = #[v0, v1, v2] := by cases args; simp_all
  obtain ⟨rfl, rfl⟩ := trodVars_none hV
  have lt0 : ∀ x ∈ p0, x.block < W.heap.size := by obtain ⟨m, hm⟩ := k0; exact DataW.trod_lt m _ _ _ hm
  have lt1 : ∀ x ∈ p1, x.block < W.heap.size := by obtain ⟨m, hm⟩ := k1; exact DataW.trod_lt m _ _ _ hm
  have lt2 : ∀ x ∈ p2, x.block < W.heap.size := by obtain ⟨m, hm⟩ := k2; exact DataW.trod_lt m _ _ _ hm
  obtain ⟨l0, s0, w0, f0⟩ := open_nums Try.underlying22 Try.underlying23 (by kernel_rfl) (hval 0 22 v0 rfl rfl) k0
  obtain ⟨l1, s1, w1, f1⟩ := open_nums Try.underlying22 Try.underlying23 (by kernel_rfl) (hval 1 22 v1 rfl rfl) k1
  obtain ⟨l2, s2, w2, f2⟩ := open_nums Try.underlying22 Try.underlying23 (by kernel_rfl) (hval 2 22 v2 rfl rfl) k2
  clear hA0 hval0
  refine (three_walk W v0 v1 v2 l0 l1 l2 s0 s1 s2 w0 w1 w2  ).mono fun e W' ⟨he, bel⟩ => ?_
  subst he
  exact ⟨_, rfl, _, _, _, [], _, [], hW', trodAll_mk1 (shut_bool Try.underlying4 _), (trodAll_cons_mk (Below.trod laidOut_vectorThree (by kernel_rfl) (of_decide_eq_true (by kernel_rfl)) k0 bel lt0) (trodAll_cons_mk (Below.trod laidOut_vectorThree (by kernel_rfl) (of_decide_eq_true (by kernel_rfl)) k1 bel lt1) (trodAll_cons_mk (Below.trod laidOut_vectorThree (by kernel_rfl) (of_decide_eq_true (by kernel_rfl)) k2 bel lt2) trodAll_mk0))), rfl, bel.frame _, fun h => by cases h⟩

theorem over_vectorThree : Rows.vectorThreeRow.holds Try.pinned (OpenSpec.ofChange Rows.vectorThreeSpec) :=
  OpenClaim.holds_of_wide 7 Try.f7 rfl rfl rfl rfl rfl rfl rfl ⟨rfl, rfl, rfl, rfl, rfl⟩ rfl rfl rfl rfl rfl (by kernel_rfl) Try.func7 (by kernel_rfl)
    (of_decide_eq_true (by kernel_rfl)) (by unfold Func.isWrapper; first | (rw [if_pos (by decide +kernel)]; kernel_rfl) | (rw [if_neg (by decide +kernel)]; exact ⟨rfl, rfl⟩))
    (fun os started H enc _ => lifted_vectorThree os started H enc)

theorem vectorThree_proved : Rows.VectorThreeSaid := over_vectorThree
#print axioms vectorThree_proved
end Go.Proofs.Ytomhiodabnpfoaa
