/-
  vector.Inc.
-/
import Derived.Test.YtpdninnnpoiblaaVecNums
import Derived.WalkLawsBesides
import Derived.WalkSpells
import Derived.Outline
import Derived.Test.YtpdninnnpoiblaaGrow
set_option linter.unusedVariables false
namespace Go.Proofs.Ytpdninnnpoiblaa
open Go.RowKit

def incV (xs : List Nat) (i : Int) : List Nat := if 0 ≤ i ∧ i < xs.length then xs.set i.toNat ((xs[i.toNat]?.getD 0 + 1) % 18446744073709551616) else xs
set_option maxHeartbeats 1000000 in
theorem inc_any (w : World) (va : Value) (xs : List Nat) (i : Int) (ha : Sl w va (nums xs)) (hx : xs.length ≤ 1000000) (hi1 : -9223372036854775808 ≤ i) (hi2 : i ≤ 9223372036854775807) :
    Calls Try.prog 17 #[va, .int .i64 i] w (RetNums w (incV xs i)) := by
  by_cases hin : 0 ≤ i ∧ i < xs.length
  · obtain ⟨k, rfl⟩ := Int.eq_ofNat_of_zero_le hin.1
    have hk : k < xs.length := by omega
    obtain ⟨c0, hc0⟩ : ∃ c, xs[k]? = some c := ⟨_, List.getElem?_eq_getElem hk⟩
    have hv : incV xs ((k : Nat) : Int) = xs.set k ((c0 + 1) % 18446744073709551616) := by unfold incV; rw [if_pos hin]; simp [hc0]
    rw [hv]
    clear hv
    go_enter Try.func17, Try.ntmps17
    go_wp2_with fail
    refine (clone_n _ xs _ ha hx).mono ?_
    rintro e w1 ⟨v1, rfl, ho1, b1⟩
    obtain ⟨g, cap, rfl, hg1, hg2, hcap⟩ := ho1.formN (by omega)
    have cg := ho1.cellN k c0 hc0
    have fg := ho1.frozenN k
    have hos := ho1.storeN k ((c0 + 1) % 18446744073709551616)
    have hce : (((c0 + 1) % 18446744073709551616 : Nat) : Int) = ((c0 : Int) + 1) % 18446744073709551616 := by omega
    rw [hce] at hos
    have HOS := Lib.hid hos
    clear ho1 hos hce hc0 ha
    go_wp2
    go_ret
    exact ⟨_, rfl, HOS.out, b1.setCell (p := ⟨g, k, none⟩) hg1 _⟩
  · have hv : incV xs i = xs := by unfold incV; rw [if_neg hin]
    rw [hv]
    go_enter Try.func17, Try.ntmps17
    go_wp2_with fail
    refine (clone_n _ xs _ ha hx).mono ?_
    rintro e w1 ⟨v1, rfl, ho1, b1⟩
    obtain ⟨a1, c1, rfl⟩ := ho1.shape
    have hl := nums_length xs
    rw [hl] at ho1
    rcases Int.lt_or_le i 0 with h0 | h0
    · go_wp2
      all_goals (go_ret; exact ⟨_, rfl, ho1, b1⟩)
    · have h1 : (xs.length : Int) ≤ i := by omega
      go_wp2
      all_goals (go_ret; exact ⟨_, rfl, ho1, b1⟩)

end Go.Proofs.Ytpdninnnpoiblaa
