/-
  Package entry: tell, and whether a part is not allowed.
-/
import Derived.Test.YtgilijkmmcpfjaaZEnKinds
import Derived.Test.YtgilijkmmcpfjaaZEnPartG
set_option linter.unusedVariables false
set_option maxRecDepth 100000
namespace Go.Proofs.Ytgilijkmmcpfjaa
open Go.RowKit
/-- A function of the program's own: it is entered. -/
def Ent (f : FuncId) : Prop := ∀ (xs : Array Value) (w : World), (callFunc f xs).run Try.prog w = .ok (.enter f xs) w
theorem partsFlat_le (x : EntD) (big : EntBig x) (ps : List PartK) (k : Nat) (hps : ps.length ≤ 4) : ((ps.take k).flatMap (partB x)).length ≤ 400000000 := by
  have : ∀ l : List PartK, ((l.flatMap (partB x)).length ≤ l.length * 100000000) := by
    intro l
    induction l with
    | nil => simp
    | cons p l ih => rw [List.flatMap_cons, List.length_append, List.length_cons]; have := partB_le big p; omega
  have h := this (ps.take k)
  rw [List.length_take] at h
  omega
def IdxOf (x : EntD) (ps : List PartK) (w : World) (e : Ending) (w' : World) : Prop := ∃ z : Int, e = .returned (.int .i64 z) ∧ decide (0 ≤ z) = !(ps.all (mayPart x)) ∧ Gr w w'
theorem all_take_succ (f : PartK → Bool) (ps : List PartK) (k : Nat) (hk : k < ps.length) (h : (ps.take k).all f = true) : (ps.take (k + 1)).all f = f ps[k] := by
  rw [List.take_add_one, List.getElem?_eq_getElem hk, List.all_append, h]; simp
theorem all_not (f : PartK → Bool) (ps : List PartK) (k : Nat) (hk : k < ps.length) (h : f ps[k] = false) : ps.all f = false := by
  rw [List.all_eq_false]
  exact ⟨_, List.getElem_mem hk, by rw [h]; decide⟩
end Go.Proofs.Ytgilijkmmcpfjaa
