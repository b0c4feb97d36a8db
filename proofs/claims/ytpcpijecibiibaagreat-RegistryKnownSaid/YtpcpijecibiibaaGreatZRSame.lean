/-
  Of the document: the same nodes, effects, items, operations, entries.
-/
import Derived.Test.YtpcpijecibiibaaGreatZEnRow
import Derived.Test.YtpcpijecibiibaaGreatZEnLeq
import Derived.Deep.DeepCutAuto
set_option linter.unusedVariables false
set_option linter.unusedSimpArgs false
set_option maxRecDepth 100000
namespace Go.Proofs.YtpcpijecibiibaaGreat
open Go.RowKit
/-- The call answers a Boolean which is true just where the word is. -/
def Says (p : Prop) (w : World) (e : Ending) (w' : World) : Prop := ∃ z : Bool, e = .returned (.bool z) ∧ (z = true ↔ p) ∧ Gr w w'
theorem says {p : Prop} {w w' : World} (z : Bool) (h : z = true ↔ p) (g : Gr w w') : Says p w (.returned (.bool z)) w' := ⟨z, rfl, h, g⟩
theorem says_no {p : Prop} {w w' : World} (h : ¬ p) (g : Gr w w') : Says p w (.returned (.bool false)) w' := ⟨false, rfl, by simp [h], g⟩
theorem says_yes {p : Prop} {w w' : World} (h : p) (g : Gr w w') : Says p w (.returned (.bool true)) w' := ⟨true, rfl, by simp [h], g⟩
theorem says_by {p : Prop} {w w' : World} (z : Bool) (b : Bool) (h : z = b) (hb : b = true ↔ p) (g : Gr w w') : Says p w (.returned (.bool z)) w' := ⟨z, rfl, by rw [h]; exact hb, g⟩
end Go.Proofs.YtpcpijecibiibaaGreat
