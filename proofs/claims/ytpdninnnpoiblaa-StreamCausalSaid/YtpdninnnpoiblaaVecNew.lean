/-
  vector.New.
-/
import Derived.Test.YtpdninnnpoiblaaVecNums
import Derived.WalkLawsBesides
import Derived.WalkSpells
import Derived.Outline
import Derived.Test.YtpdninnnpoiblaaGrow
set_option linter.unusedVariables false
namespace Go.Proofs.Ytpdninnnpoiblaa
open Go.RowKit

def newV (i : Int) : List Nat := if 0 ≤ i ∧ i ≤ 3 then List.replicate i.toNat 0 else []
theorem new_n (w : World) (i : Int) : Calls Try.prog 19 #[.int .i64 i] w (RetNums w (newV i)) := by
  by_cases hin : 0 ≤ i ∧ i ≤ 3
  · obtain ⟨k, rfl⟩ := Int.eq_ofNat_of_zero_le hin.1
    have hv : newV ((k : Nat) : Int) = List.replicate k 0 := by unfold newV; rw [if_pos hin]; rfl
    rw [hv]
    obtain ⟨w1, hr, ho, hb⟩ := run_make_n w k (by omega)
    have h3 : (k : Int) ≤ 3 := hin.2
    go_enter Try.func19, Try.ntmps19
    go_wp2
    go_ret
    exact ⟨_, rfl, ho, hb⟩
  · have hv : newV i = [] := by unfold newV; rw [if_neg hin]
    rw [hv]
    rcases Int.lt_or_le i 0 with h0 | h0
    · go_enter Try.func19, Try.ntmps19
      go_wp2
      all_goals (go_ret; exact ⟨_, rfl, Own.nil0 _ _ _, Below.refl _ _⟩)
    · have h1 : (3 : Int) < i := by omega
      go_enter Try.func19, Try.ntmps19
      go_wp2
      all_goals (go_ret; exact ⟨_, rfl, Own.nil0 _ _ _, Below.refl _ _⟩)

end Go.Proofs.Ytpdninnnpoiblaa
