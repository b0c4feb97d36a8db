/-
  Package entry: what reads operations.
-/
import Derived.Test.YtgilijkmmcpfjaaZEnGetJ
set_option linter.unusedVariables false
set_option maxRecDepth 100000
namespace Go.Proofs.Ytgilijkmmcpfjaa
open Go.RowKit
def OpIs (B : Nat) (o : OpD) (v : Value) (W : World) : Prop := ∃ dv pv, v = .agg (opCells o.h dv pv).toArray ∧ OpP (From B) W o dv pv
def stO (a b c d e f h : RS) : Nat → RS
  | 0 => a
  | 1 => b
  | 2 => c
  | 3 => d
  | 4 => e
  | 5 => f
  | _ => h
theorem Own.ne_cells {w : World} {base : Nat} {e t : TypeId} {v : Value} {xs : List Value} {b : Nat} {cs : List Value} (h : Own w base e v xs) (k : CellsAt w b cs t) (hne : e ≠ t) (j : Nat) (hj : v.ownBlock = some j) : j ≠ b := by
  rintro rfl
  rcases h.2 with ⟨rfl, _⟩ | ⟨g, cap, cur, rfl, _, hh, _⟩
  · cases hj
  · injection hj with hj
    subst hj
    unfold CellsAt at k
    rw [k] at hh
    injection hh with hh
    injection hh with _ hh
    exact hne hh.symm
theorem OpsP.mono {P Q : Nat → Prop} {w : World} {v : Value} {ps : List OpD} (h : OpsP P w v ps) (hq : ∀ k, P k → Q k) : OpsP Q w v ps := by
  obtain ⟨R, D, Qq, h2, h3, h4⟩ := h
  exact ⟨R, D, Qq, h2.mono hq, fun i hi => (h3 i hi).mono hq, h4⟩
theorem left_head : Left rHead := fun s => Nat.le_trans (left_flag _) (Nat.le_trans (left_flag _) (Nat.le_trans (rUint_left _) (Nat.le_trans (left_text 64 _) (Nat.le_trans (left_text 64 _) (rByte_left s)))))
theorem left_op0 : Left rOp0 := fun s => by unfold rOp0; exact Nat.le_trans (rCount_left 0 _) (left_head s)
theorem left_op : Left rOp := fun s => by unfold rOp; exact Nat.le_trans (left_list left_op0 6 _) (left_head s)
def OpIs0 (B : Nat) (o : OpD) (v : Value) (W : World) : Prop := ∃ dv, (∃ a c, v = .agg (opCells o.h dv (.slice a 0 c)).toArray) ∧ SlP (From B) W dv (bytes o.h.data)
end Go.Proofs.Ytgilijkmmcpfjaa
