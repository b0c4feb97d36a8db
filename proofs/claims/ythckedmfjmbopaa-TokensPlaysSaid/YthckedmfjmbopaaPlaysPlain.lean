/-
  Acts, plainly.
-/
import Derived.Test.YthckedmfjmbopaaTokGoes
import Derived.Test.YthckedmfjmbopaaTokRow
set_option linter.unusedVariables false
namespace Go.Proofs.Ythckedmfjmbopaa
open Go.RowKit

/-- An act's answer is what the token of its region says. -/
theorem doesV_in (T : Nat → Tok) (x : ActD) (n k : Nat) (hk : k < n) (hr : x.r = (k : Int)) : doesV n T x = (updT T k (if x.d % 2 = 0 then inTok x.e x.f x.v (T k) else outTok x.e x.v (T k)).1, (if x.d % 2 = 0 then inTok x.e x.f x.v (T k) else outTok x.e x.v (T k)).2) := by
  have hin : 0 ≤ x.r ∧ x.r < n := by omega
  have e : x.r.toNat = k := by omega
  unfold doesV atR
  split <;> simp [e]
theorem doesV_out (T : Nat → Tok) (x : ActD) (n : Nat) (hr : x.r < 0 ∨ (n : Int) ≤ x.r) : doesV n T x = (T, 1) := by
  have hin : ¬ (0 ≤ x.r ∧ x.r < n) := by omega
  unfold doesV atR
  split <;> simp
def Own1 (v : Value) (j : Nat) : Prop := v.ownBlock = some j

end Go.Proofs.Ythckedmfjmbopaa
