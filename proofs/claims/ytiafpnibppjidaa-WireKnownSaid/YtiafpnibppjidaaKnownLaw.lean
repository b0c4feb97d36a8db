/-
  WireKnown: the chapter's examples hold in the program. Closed: no conditions.
-/
import Derived.Test.YtiafpnibppjidaaPuts
set_option linter.unusedVariables false
namespace Go.Proofs.Ytiafpnibppjidaa
open Go.RowKit

theorem below_got {B g : Nat} {w w1 w2 : World} (hb : Below B w w1) (hB : B ≤ w1.heap.size) (hg : w1.grownBy w2 (some g)) (h : B ≤ g) : Below B w w2 :=
  hb.grown hg hB (by rintro k hk; cases hk; exact h)

set_option maxHeartbeats 2000000 in
theorem known_walk (w : World) : Calls Try.prog 9 #[] w fun e w' => e = .returned (.bool true) ∧ Below w.heap.size w w' := by
  go_enter Try.func9, Try.ntmps9
  go_wp2_with fail
  refine (new_any _ [0, 0, 0, 2, 97] _ (Sl.new w [.int .u8 0, .int .u8 0, .int .u8 0, .int .u8 2, .int .u8 97] _ _ _ _ rfl (by decide)) (by decide)).mono ?_
  rintro e w1 ⟨g1, rfl, hr1, hn1⟩
  have b1 : Below w.heap.size w w1 := ((Below.refl _ _).alloc (Nat.le_refl _) _).trans (hn1.mono (by simp))
  have r1 : Rs w1 w.heap.size g1 ([0, 0, 0, 2, 97], false) := Rd.mono hr1 (by simp)
  clear hr1 hn1
  go_wp2_with fail
  refine (get_text _ _ _ _ r1 (by decide)).mono ?_
  rintro e w2 ⟨v2, rfl, ho2, r2, hg2⟩
  have b2 := below_got b1 b1.size hg2 r1.1
  rw [show rText ([0, 0, 0, 2, 97], false) = ([], ([97], true)) from by decide] at ho2 r2
  obtain ⟨a2, c2, rfl⟩ := ho2.shape
  clear r1 hg2 b1 ho2
  go_wp2_with fail
  refine (get_byte _ _ _ _ r2 (by decide)).mono ?_
  rintro e w3 ⟨rfl, r3, hg3⟩
  have b3 := below_got b2 b2.size hg3 r2.1
  rw [show rByte ([97], true) = (0, ([97], true)) from by decide] at r3 ⊢
  clear r2 hg3 b2
  go_wp2_with fail
  refine (get_done _ _ _ _ r3 (by decide)).mono ?_
  rintro e w' ⟨rfl, rfl⟩
  rw [show rDone ([97], true) = 2 from by decide]
  clear r3
  go_wp2_with fail
  refine (uint_any _ [] 3 _ (Sl.nil _ _ _) (by decide) (by decide)).mono ?_
  rintro e w4 ⟨v4, rfl, ho4, hb4⟩
  have b4 := b3.trans (hb4.mono b3.size)
  clear b3 hb4
  go_wp2_with fail
  refine (new_any _ _ _ ho4.sl (by decide)).mono ?_
  rintro e w5 ⟨g5, rfl, hr5, hn5⟩
  have b5 := b4.trans (hn5.mono b4.size)
  have r5 : Rs w5 w.heap.size g5 ([] ++ be 8 3, false) := Rd.mono hr5 b4.size
  clear b4 hr5 hn5 ho4
  go_wp2_with fail
  refine (get_count _ _ _ _ (2) (by decide) r5 (by decide)).mono ?_
  rintro e w6 ⟨rfl, r6, hg6⟩
  have b6 := below_got b5 b5.size hg6 r5.1
  rw [show rCount (2) ([] ++ be 8 3, false) = (0, ([], true)) from by decide] at r6 ⊢
  clear b5 r5 hg6
  go_wp2_with fail
  refine (get_done _ _ _ _ r6 (by decide)).mono ?_
  rintro e w' ⟨rfl, rfl⟩
  rw [show rDone ([], true) = 2 from by decide]
  clear r6
  go_wp2_with fail
  refine (uint_any _ [] 3 _ (Sl.nil _ _ _) (by decide) (by decide)).mono ?_
  rintro e w7 ⟨v7, rfl, ho7, hb7⟩
  have b7 := b6.trans (hb7.mono b6.size)
  clear b6 hb7
  go_wp2_with fail
  refine (new_any _ _ _ ho7.sl (by decide)).mono ?_
  rintro e w8 ⟨g8, rfl, hr8, hn8⟩
  have b8 := b7.trans (hn8.mono b7.size)
  have r8 : Rs w8 w.heap.size g8 ([] ++ be 8 3, false) := Rd.mono hr8 b7.size
  clear b7 hr8 hn8 ho7
  go_wp2_with fail
  refine (get_count _ _ _ _ (3) (by decide) r8 (by decide)).mono ?_
  rintro e w9 ⟨rfl, r9, hg9⟩
  have b9 := below_got b8 b8.size hg9 r8.1
  rw [show rCount (3) ([] ++ be 8 3, false) = (3, ([], false)) from by decide] at r9 ⊢
  clear b8 r8 hg9
  go_wp2_with fail
  refine (get_done _ _ _ _ r9 (by decide)).mono ?_
  rintro e w' ⟨rfl, rfl⟩
  rw [show rDone ([], false) = 0 from by decide]
  clear r9
  go_wp2_with fail
  refine (uint_any _ [] 0 _ (Sl.nil _ _ _) (by decide) (by decide)).mono ?_
  rintro e w10 ⟨v10, rfl, ho10, hb10⟩
  have b10 := b9.trans (hb10.mono b9.size)
  clear b9 hb10
  go_wp2_with fail
  refine (new_any _ _ _ ho10.sl (by decide)).mono ?_
  rintro e w11 ⟨g11, rfl, hr11, hn11⟩
  have b11 := b10.trans (hn11.mono b10.size)
  have r11 : Rs w11 w.heap.size g11 ([] ++ be 8 0, false) := Rd.mono hr11 b10.size
  clear b10 hr11 hn11 ho10
  go_wp2_with fail
  refine (get_count _ _ _ _ (-1) (by decide) r11 (by decide)).mono ?_
  rintro e w12 ⟨rfl, r12, hg12⟩
  have b12 := below_got b11 b11.size hg12 r11.1
  rw [show rCount (-1) ([] ++ be 8 0, false) = (0, ([], true)) from by decide] at r12 ⊢
  clear b11 r11 hg12
  go_wp2_with fail
  refine (get_done _ _ _ _ r12 (by decide)).mono ?_
  rintro e w' ⟨rfl, rfl⟩
  rw [show rDone ([], true) = 2 from by decide]
  clear r12
  go_wp2_with fail
  refine (new_any _ [] _ (Sl.nil _ _ _) (by decide)).mono ?_
  rintro e w13 ⟨g13, rfl, hr13, hn13⟩
  have b13 := b12.trans (hn13.mono b12.size)
  have r13 : Rs w13 w.heap.size g13 ([], false) := Rd.mono hr13 b12.size
  clear b12 hr13 hn13
  go_wp2_with fail
  refine (get_done _ _ _ _ r13 (by decide)).mono ?_
  rintro e w' ⟨rfl, rfl⟩
  rw [show rDone ([], false) = 0 from by decide]
  clear r13
  go_wp2_with fail
  refine (int_any _ [] (-1) _ (Sl.nil _ _ _) (by decide)).mono ?_
  rintro e w14 ⟨v14, rfl, ho14, hb14⟩
  have b14 := b13.trans (hb14.mono b13.size)
  rw [show ([] ++ be 8 (u64 (-1)) : List UInt8) = [255, 255, 255, 255, 255, 255, 255, 255] from by decide] at ho14
  have c14 := run_string_sl (P := Try.prog) 23 5 9 Try.underlying23 Try.underlying5 Try.underlying9 ho14.sl
  clear b13 hb14 ho14
  go_wp2_with fail
  refine (text_any _ _ [] [] _ (Sl.nil _ _ _) (Sl.nil _ _ _) (by decide) (by decide)).mono ?_
  rintro e w15 ⟨v15, rfl, ho15, hb15⟩
  have b15 := b14.trans (hb15.mono b14.size)
  rw [show ([] ++ be 4 ([] : List UInt8).length ++ [] : List UInt8) = [0, 0, 0, 0] from by decide] at ho15
  clear c14 b14 hb15
  have c15 := run_string_sl (P := Try.prog) 23 5 9 Try.underlying23 Try.underlying5 Try.underlying9 ho15.sl
  clear ho15
  go_wp2_with fail
  refine (puts_any _).mono ?_
  rintro e w' ⟨rfl, hb'⟩
  go_wp2_with fail
  go_ret
  exact ⟨rfl, b15.trans (hb'.mono b15.size)⟩

open Go.ChangeShapes Go.WideShapes Go.ChangeAt Go.RowKit
open Go.ChangeMaps (open_string shut_string)
theorem own_wireKnown : ownKnob Try.prog.godebug = none := by kernel_rfl
theorem laidOut_wireKnown : laidOutB Try.prog = true := by kernel_rfl
set_option maxRecDepth 100000 in
theorem lifted_wireKnown (os : Os) (started : os.Started) (H : Type) (enc : TypeId × Value → H) :
    ReturnsInHanded {} Try.checked os 9 .any (Rows.wireKnownSpec.pre6 enc Try.prog Try.f9 Rows.wireKnownRow.domain false) (Rows.wireKnownSpec.post enc Try.prog Try.f9 false true false false) := by
  refine returnsInHanded_of_change (C := Try.checked) own_wireKnown started (by kernel_rfl) Try.func9
    (ChangeSpec.witness6 (enc := enc) (C := Try.checked) false ⟨#[], #[], []⟩ 8 (by kernel_rfl) (by kernel_rfl) (by kernel_rfl) (by kernel_rfl)) ?_
  intro W base args ds gs before hval0 hW hcnd _
  have hval : ∀ (j : Nat) t v, Try.f9.params[j]? = some t → args[j]? = some v → Value.okWide Try.prog W .any base t v := hval0
  have hW' := hW
  obtain ⟨p, q, hA0, hV, rfl, hfz, hnd⟩ := hW
  have hA : DataW.TrodAll enc Try.prog W 0 (fun _ => true) true Try.f9.params.toList args.toList ds p := hA0
  rw [Try.params9] at hA hval
  obtain ⟨rfl, rfl, rfl⟩ := trodAll_none hA
  obtain ⟨rfl, rfl⟩ := trodVars_none hV
  clear hA0 hval0
  simp only [List.append_nil] at hW'
  refine (known_walk W ).mono fun e W' ⟨he, bel⟩ => ?_
  subst he
  exact ⟨_, rfl, _, _, _, [], _, [], hW', trodAll_mk1 (shut_bool Try.underlying4 _), trodAll_mk0, rfl, bel.frame _, fun h => by cases h⟩

theorem over_wireKnown : Rows.wireKnownRow.holds Try.pinned (OpenSpec.ofChange Rows.wireKnownSpec) :=
  OpenClaim.holds_of_wide 9 Try.f9 rfl rfl rfl rfl rfl rfl rfl ⟨rfl, rfl, rfl, rfl, rfl⟩ rfl rfl rfl rfl rfl (by kernel_rfl) Try.func9 (by kernel_rfl)
    (of_decide_eq_true (by kernel_rfl)) (by unfold Func.isWrapper; first | (rw [if_pos (by decide +kernel)]; kernel_rfl) | (rw [if_neg (by decide +kernel)]; exact ⟨rfl, rfl⟩))
    (fun os started H enc _ => lifted_wireKnown os started H enc)

theorem wireKnown_proved : Rows.WireKnownSaid := over_wireKnown
#print axioms wireKnown_proved
end Go.Proofs.Ytiafpnibppjidaa
