/-
  The methods of a reader that is nil, and what a bad reader answers.
-/
import Derived.Test.YtclicammiopjlaaRdMeth
set_option linter.unusedVariables false
namespace Go.Proofs.Ytclicammiopjlaa
open Go.RowKit

theorem rTake_bad (n : Nat) (l : List UInt8) : rTake n (l, true) = ([], (l, true)) := by simp [rTake, rdTake, rdLeft, rdBad]
theorem rByte_bad (l : List UInt8) : rByte (l, true) = (0, (l, true)) := by simp [rByte, rTake_bad, val]
theorem rUint_bad (l : List UInt8) : rUint (l, true) = (0, (l, true)) := by simp [rUint, rTake_bad, val]
theorem rText_bad (l : List UInt8) : rText (l, true) = ([], (l, true)) := by simp [rText, rTake_bad]
theorem rCount_bad (m : Int) (l : List UInt8) : rCount m (l, true) = (0, (l, true)) := by
  unfold rCount; rw [rUint_bad]; split <;> rfl
theorem rDone_bad (l : List UInt8) : rDone (l, true) = 2 := rfl

theorem nil_num (w : World) (n : Nat) : Calls Try.prog 43 #[.pointer none, .int .u64 (n : Int), .func (.func 44) #[] #[]] w fun e w' => e = .returned (.int .u64 0) ∧ w = w' := by
  go_enter Try.func43, Try.ntmps43
  go_wp2
  go_ret
  exact ⟨rfl, rfl⟩
theorem nil_bytes (w : World) (n : Nat) : Calls Try.prog 46 #[.pointer none, .int .u64 (n : Int), .func (.func 47) #[] #[]] w fun e w' => e = .returned (.slice none 0 0) ∧ w = w' := by
  go_enter Try.func46, Try.ntmps46
  go_wp2
  go_ret
  exact ⟨rfl, rfl⟩
theorem nil_byte (w : World) : Calls Try.prog 25 #[.pointer none] w fun e w' => e = .returned (.int .u8 0) ∧ w = w' := by
  go_enter Try.func25, Try.ntmps25
  go_wp2_with fail
  refine (nil_num _ 1).mono ?_
  rintro e w1 ⟨rfl, rfl⟩
  go_wp2
  go_ret
  exact ⟨rfl, rfl⟩
theorem nil_uint (w : World) : Calls Try.prog 26 #[.pointer none] w fun e w' => e = .returned (.int .u64 0) ∧ w = w' := by
  go_enter Try.func26, Try.ntmps26
  go_wp2_with fail
  refine (nil_num _ 8).mono ?_
  rintro e w1 ⟨rfl, rfl⟩
  go_wp2
  go_ret
  exact ⟨rfl, rfl⟩
theorem nil_text (w : World) : Calls Try.prog 28 #[.pointer none] w fun e w' => e = .returned (.slice none 0 0) ∧ w = w' := by
  go_enter Try.func28, Try.ntmps28
  go_wp2_with fail
  refine (nil_num _ 4).mono ?_
  rintro e w1 ⟨rfl, rfl⟩
  go_wp2_with fail
  refine (nil_bytes _ 0).mono ?_
  rintro e w1 ⟨rfl, rfl⟩
  go_wp2
  go_ret
  exact ⟨rfl, rfl⟩
theorem nil_bad (w : World) : Calls Try.prog 45 #[.pointer none] w fun e w' => e = .returned (.tuple #[]) ∧ w = w' := by
  go_enter Try.func45, Try.ntmps45
  go_wp2
  go_end0
  exact ⟨rfl, rfl⟩
theorem nil_count (w : World) (k : Nat) (hk : k < 1000) : Calls Try.prog 27 #[.pointer none, .int .i64 (k : Int)] w fun e w' => e = .returned (.int .i64 0) ∧ w = w' := by
  have hwr : IntKind.u64.wrap ((k : Nat) : Int) = ((k : Nat) : Int) := by simp [IntKind.wrap, IntKind.bits, IntKind.signed]; omega
  go_enter Try.func27, Try.ntmps27
  go_wp2_with fail
  refine (nil_uint _).mono ?_
  rintro e w1 ⟨rfl, rfl⟩
  go_wp2
  go_ret
  exact ⟨rfl, rfl⟩
theorem nil_done (w : World) : Calls Try.prog 29 #[.pointer none] w fun e w' => e = .returned (.int .i64 8) ∧ w = w' := by
  go_enter Try.func29, Try.ntmps29
  go_wp2
  go_ret
  exact ⟨rfl, rfl⟩
end Go.Proofs.Ytclicammiopjlaa
