/-
  CrcKnown: the chapter's known checks hold in the program. Closed: no conditions.
-/
import Derived.Test.YtjomimbclcjkcaaGoes
set_option linter.unusedVariables false
namespace Go.Proofs.Ytjomimbclcjkcaa
open Go.ChangeShapes Go.WideShapes Go.ChangeAt Go.RowKit
open Go.ChangeMaps (open_string shut_string)
open Plain
set_option maxHeartbeats 400000 in
theorem known_walk (w : World) : Calls Try.prog 7 #[] w fun e w' => e = .returned (.bool true) ∧ Below w.heap.size w w' := by
  have kc := fun (w : World) (C : Array Value) (n c : Nat) => Lib.run_convert_bytes_const (P := Try.prog) w 22 5 C n c Try.underlying22 Try.underlying5
  have h01 := crc_01
  go_enter Try.func7, Try.ntmps7
  go_wp2_with fail
  refine (sum_any _ [49, 50, 51, 52, 53, 54, 55, 56, 57] _ (Sl.at _ _ _ _ _ _ _ (by simp) rfl) (by decide)).mono ?_
  rintro e w' ⟨rfl, rfl⟩
  rw [crc_digits]
  go_wp2_with fail
  refine (sum_any _ [] _ (Sl.nil _ _ _) (by decide)).mono ?_
  rintro e w' ⟨rfl, rfl⟩
  rw [crc_empty]
  go_wp2_with fail
  refine (sum_any _ [0] _ (Sl.at _ _ _ _ _ _ _ (by simp) rfl) (by decide)).mono ?_
  rintro e w' ⟨rfl, rfl⟩
  go_wp2_with fail
  refine (sum_any _ [1] _ (Sl.at _ _ _ _ _ _ _ (by simp) rfl) (by decide)).mono ?_
  rintro e w' ⟨rfl, rfl⟩
  go_wp2_with fail
  refine (goes_any _).mono ?_
  rintro e w' ⟨rfl, hb⟩
  go_wp2_with fail
  go_ret
  exact ⟨rfl, Below.trans (by repeat (first | exact Below.refl _ _ | refine Below.drew ?_ | refine Below.alloc ?_ (by simp <;> omega) _)) (hb.mono (by simp <;> omega))⟩

theorem own_crcKnown : ownKnob Try.prog.godebug = none := by kernel_rfl
theorem laidOut_crcKnown : laidOutB Try.prog = true := by kernel_rfl
set_option maxRecDepth 100000 in
theorem lifted_crcKnown (os : Os) (started : os.Started) (H : Type) (enc : TypeId × Value → H) :
    ReturnsInHanded {} Try.checked os 7 .any (Rows.crcKnownSpec.pre6 enc Try.prog Try.f7 Rows.crcKnownRow.domain false) (Rows.crcKnownSpec.post enc Try.prog Try.f7 false true false false) := by
  refine returnsInHanded_of_change (C := Try.checked) own_crcKnown started (by kernel_rfl) Try.func7
    (ChangeSpec.witness6 (enc := enc) (C := Try.checked) false ⟨#[], #[], []⟩ 8 (by kernel_rfl) (by kernel_rfl) (by kernel_rfl) (by kernel_rfl)) ?_
  intro W base args ds gs before hval0 hW hcnd _
  have hval : ∀ (j : Nat) t v, Try.f7.params[j]? = some t → args[j]? = some v → Value.okWide Try.prog W .any base t v := hval0
  have hW' := hW
  obtain ⟨p, q, hA0, hV, rfl, hfz, hnd⟩ := hW
  have hA : DataW.TrodAll enc Try.prog W 0 (fun _ => true) true Try.f7.params.toList args.toList ds p := hA0
  rw [Try.params7] at hA hval
  obtain ⟨rfl, rfl, rfl⟩ := trodAll_none hA
  obtain ⟨rfl, rfl⟩ := trodVars_none hV
  clear hA0 hval0
  simp only [List.append_nil] at hW'
  refine (known_walk W ).mono fun e W' ⟨he, bel⟩ => ?_
  subst he
  exact ⟨_, rfl, _, _, _, [], _, [], hW', trodAll_mk1 (shut_bool Try.underlying4 _), trodAll_mk0, rfl, bel.frame _, fun h => by cases h⟩

theorem over_crcKnown : Rows.crcKnownRow.holds Try.pinned (OpenSpec.ofChange Rows.crcKnownSpec) :=
  OpenClaim.holds_of_wide 7 Try.f7 rfl rfl rfl rfl rfl rfl rfl ⟨rfl, rfl, rfl, rfl, rfl⟩ rfl rfl rfl rfl rfl (by kernel_rfl) Try.func7 (by kernel_rfl)
    (of_decide_eq_true (by kernel_rfl)) (by unfold Func.isWrapper; first | (rw [if_pos (by decide +kernel)]; kernel_rfl) | (rw [if_neg (by decide +kernel)]; exact ⟨rfl, rfl⟩))
    (fun os started H enc _ => lifted_crcKnown os started H enc)

theorem crcKnown_proved : Rows.CrcKnownSaid := over_crcKnown
#print axioms crcKnown_proved
end Go.Proofs.Ytjomimbclcjkcaa
