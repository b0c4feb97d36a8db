/-
  The walk of the known case 'goes', and of CrcKnown.
-/
import Derived.Test.YtjomimbclcjkcaaSum
import Derived.Lib.SlBytesConst
namespace Go.Proofs.Ytjomimbclcjkcaa
open Go.RowKit Plain

theorem crc_digits : ((crc [49, 50, 51, 52, 53, 54, 55, 56, 57]).toNat : Int) = 11051210869376104954 := by decide +kernel
theorem crc_empty : ((crc []).toNat : Int) = 0 := by decide +kernel
theorem crc_01 : (((crc [0]).toNat : Int) != ((crc [1]).toNat : Int)) = true := by decide +kernel

set_option maxHeartbeats 400000 in
theorem goes_any (w : World) : Calls Try.prog 10 #[] w fun e w' => e = .returned (.bool true) ∧ Below w.heap.size w w' := by
  have kc := fun (w : World) (C : Array Value) (n c : Nat) => Lib.run_convert_bytes_const (P := Try.prog) w 22 5 C n c Try.underlying22 Try.underlying5
  go_enter Try.func10, Try.ntmps10
  go_wp2_with fail
  refine (sum_any _ [49, 50, 51, 52, 53, 54, 55, 56, 57] _ (Sl.new _ _ _ _ _ _ rfl) (by decide)).mono ?_
  rintro e w' ⟨rfl, rfl⟩
  rw [crc_digits]
  go_wp2_with fail
  refine (sum_any _ [] _ (Sl.nil _ _ _) (by decide)).mono ?_
  rintro e w' ⟨rfl, rfl⟩
  rw [crc_empty]
  go_wp2_with fail
  go_ret
  exact ⟨rfl, (Below.refl _ _).alloc (Nat.le_refl _) _⟩
end Go.Proofs.Ytjomimbclcjkcaa
