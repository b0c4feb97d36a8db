/-
  VectorKnown: the chapter's examples, and limits. Closed: no conditions.
-/
import Derived.Test.YtomhiodabnpfoaaVec
set_option linter.unusedVariables false
namespace Go.Proofs.Ytomhiodabnpfoaa
open Go.RowKit

theorem known_walk (w : World) : Calls Try.prog 6 #[] w fun e w' => e = .returned (.bool true) ∧ Below w.heap.size w w' := by
  go_enter Try.func6, Try.ntmps6
  go_wp2_with fail
  refine (leq_any _ _ _ [1] [1, 1] (sl_lit1 _ [.int .u64 1] [1] rfl _ _ rfl rfl _) (sl_lit _ [.int .u64 1, .int .u64 1] [1, 1] rfl _ _ rfl (World.size_alloc _ _).symm) (by decide) (by decide)).mono ?_
  rintro e w1 ⟨rfl, c1⟩
  rw [show leqV [1] [1, 1] = false from by decide]
  have b1 := step2 (Below.refl _ w) c1
  clear c1
  go_wp2_with fail
  refine (max_any _ _ _ [1] [1, 1] (sl_lit1 _ [.int .u64 1] [1] rfl _ _ rfl rfl _) (sl_lit _ [.int .u64 1, .int .u64 1] [1, 1] rfl _ _ rfl (World.size_alloc _ _).symm) (by decide) (by decide)).mono ?_
  rintro e w2 ⟨v2, rfl, o2, c2⟩
  rw [show maxV [1] [1, 1] = [] from by decide] at o2
  have b2 := step2 b1 c2
  clear b1 c2
  obtain ⟨a2, cc2, rfl⟩ := o2.shape
  rw [show (nums []).length = 0 from rfl]
  clear o2
  go_wp2_with fail
  refine (inc_any _ _ [1, 2] (2) (sl_lit _ [.int .u64 1, .int .u64 2] [1, 2] rfl _ _ rfl rfl) (by decide) (by decide) (by decide)).mono ?_
  rintro e w3 ⟨v3, rfl, o3, c3⟩
  rw [show incV [1, 2] (2) = [1, 2] from by decide] at o3
  have b3 := step1 b2 c3
  clear b2 c3
  have s3 := o3.sl
  go_wp2_with fail
  refine (same_any _ _ _ [1, 2] [1, 2] (s3.below (below_a _ _)) (sl_lit _ [.int .u64 1, .int .u64 2] [1, 2] rfl _ _ rfl rfl) (by decide) (by decide)).mono ?_
  rintro e w4 ⟨rfl, c4⟩
  rw [sameV_self]
  clear s3 o3
  have b4 := step1 b3 c4
  clear b3 c4
  go_wp2_with fail
  refine (inc_any _ _ [1, 2] (-1) (sl_lit _ [.int .u64 1, .int .u64 2] [1, 2] rfl _ _ rfl rfl) (by decide) (by decide) (by decide)).mono ?_
  rintro e w5 ⟨v5, rfl, o5, c5⟩
  rw [show incV [1, 2] (-1) = [1, 2] from by decide] at o5
  have b5 := step1 b4 c5
  clear b4 c5
  have s5 := o5.sl
  go_wp2_with fail
  refine (same_any _ _ _ [1, 2] [1, 2] (s5.below (below_a _ _)) (sl_lit _ [.int .u64 1, .int .u64 2] [1, 2] rfl _ _ rfl rfl) (by decide) (by decide)).mono ?_
  rintro e w6 ⟨rfl, c6⟩
  rw [sameV_self]
  clear s5 o5
  have b6 := step1 b5 c6
  clear b5 c6
  go_wp2_with fail
  refine (leq_any _ _ _ [] [] (Sl.nil _ _ _) (Sl.nil _ _ _) (by decide) (by decide)).mono ?_
  rintro e w7 ⟨rfl, c7⟩
  rw [show leqV [] [] = true from by decide]
  have b7 := step0 b6 c7
  clear b6 c7
  go_wp2_with fail
  refine (new_n _ (0)).mono ?_
  rintro e w8 ⟨v8, rfl, o8, c8⟩
  rw [show newV (0) = [] from by decide] at o8
  have b8 := step0 b7 c8
  clear b7 c8
  obtain ⟨a8, cc8, rfl⟩ := o8.shape
  rw [show (nums []).length = 0 from rfl]
  clear o8
  go_wp2_with fail
  refine (new_n _ (-1)).mono ?_
  rintro e w9 ⟨v9, rfl, o9, c9⟩
  rw [show newV (-1) = [] from by decide] at o9
  have b9 := step0 b8 c9
  clear b8 c9
  obtain ⟨a9, cc9, rfl⟩ := o9.shape
  rw [show (nums []).length = 0 from rfl]
  clear o9
  go_wp2_with fail
  refine (new_n _ (4)).mono ?_
  rintro e w10 ⟨v10, rfl, o10, c10⟩
  rw [show newV (4) = [] from by decide] at o10
  have b10 := step0 b9 c10
  clear b9 c10
  obtain ⟨a10, cc10, rfl⟩ := o10.shape
  rw [show (nums []).length = 0 from rfl]
  clear o10
  go_wp2_with fail
  refine (new_n _ (3)).mono ?_
  rintro e w11 ⟨v11, rfl, o11, c11⟩
  rw [show newV (3) = [0, 0, 0] from by decide] at o11
  have b11 := step0 b10 c11
  clear b10 c11
  obtain ⟨a11, cc11, rfl⟩ := o11.shape
  rw [show (nums [0, 0, 0]).length = 3 from rfl]
  clear o11
  go_wp2_with fail
  refine (goes_any _).mono ?_
  rintro e w12 ⟨rfl, c12⟩
  have b12 := step0 b11 c12
  clear b11 c12
  go_wp2
  go_ret
  exact ⟨rfl, b12⟩

open Go.ChangeShapes Go.WideShapes Go.ChangeAt Go.RowKit
open Go.ChangeMaps (open_string shut_string)
theorem own_vectorKnown : ownKnob Try.prog.godebug = none := by kernel_rfl
theorem laidOut_vectorKnown : laidOutB Try.prog = true := by kernel_rfl
set_option maxRecDepth 100000 in
theorem lifted_vectorKnown (os : Os) (started : os.Started) (H : Type) (enc : TypeId × Value → H) :
    ReturnsInHanded {} Try.checked os 6 .any (Rows.vectorKnownSpec.pre6 enc Try.prog Try.f6 Rows.vectorKnownRow.domain false) (Rows.vectorKnownSpec.post enc Try.prog Try.f6 false true false false) := by
  refine returnsInHanded_of_change (C := Try.checked) own_vectorKnown started (by kernel_rfl) Try.func6
    (ChangeSpec.witness6 (enc := enc) (C := Try.checked) false ⟨#[], #[], []⟩ 8 (by kernel_rfl) (by kernel_rfl) (by kernel_rfl) (by kernel_rfl)) ?_
  intro W base args ds gs before hval0 hW hcnd _
  have hval : ∀ (j : Nat) t v, Try.f6.params[j]? = some t → args[j]? = some v → Value.okWide Try.prog W .any base t v := hval0
  have hW' := hW
  obtain ⟨p, q, hA0, hV, rfl, hfz, hnd⟩ := hW
  have hA : DataW.TrodAll enc Try.prog W 0 (fun _ => true) true Try.f6.params.toList args.toList ds p := hA0
  rw [Try.params6] at hA hval
  obtain ⟨rfl, rfl, rfl⟩ := trodAll_none hA
  obtain ⟨rfl, rfl⟩ := trodVars_none hV
  clear hA0 hval0
  simp only [List.append_nil] at hW'
  refine (known_walk W ).mono fun e W' ⟨he, bel⟩ => ?_
  subst he
  exact ⟨_, rfl, _, _, _, [], _, [], hW', trodAll_mk1 (shut_bool Try.underlying4 _), trodAll_mk0, rfl, bel.frame _, fun h => by cases h⟩

theorem over_vectorKnown : Rows.vectorKnownRow.holds Try.pinned (OpenSpec.ofChange Rows.vectorKnownSpec) :=
  OpenClaim.holds_of_wide 6 Try.f6 rfl rfl rfl rfl rfl rfl rfl ⟨rfl, rfl, rfl, rfl, rfl⟩ rfl rfl rfl rfl rfl (by kernel_rfl) Try.func6 (by kernel_rfl)
    (of_decide_eq_true (by kernel_rfl)) (by unfold Func.isWrapper; first | (rw [if_pos (by decide +kernel)]; kernel_rfl) | (rw [if_neg (by decide +kernel)]; exact ⟨rfl, rfl⟩))
    (fun os started H enc _ => lifted_vectorKnown os started H enc)

theorem vectorKnown_proved : Rows.VectorKnownSaid := over_vectorKnown
#print axioms vectorKnown_proved
end Go.Proofs.Ytomhiodabnpfoaa
