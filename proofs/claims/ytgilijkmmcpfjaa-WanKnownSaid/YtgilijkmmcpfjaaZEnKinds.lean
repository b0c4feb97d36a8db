/-
  Package entry: which parts each kind of entries has.
-/
import Derived.Test.YtgilijkmmcpfjaaZEnPartG
import Derived.Test.YtgilijkmmcpfjaaZMaps
import Derived.Deep.DeepCutAuto
import Derived.Laws.EntriesVeiled
set_option linter.unusedVariables false
set_option maxRecDepth 100000
namespace Go.Proofs.Ytgilijkmmcpfjaa
open Go.RowKit
open Go.Maps (Keyed keyOf_int_mk int_keyed)
def slD (b n c : Nat) : DataW Unit := .agg [.lit (.int .u64 (b : Int)), .lit (.int .u64 (n : Int)), .lit (.int .u64 (c : Int))]
theorem slD_inj {b n c b' n' c' : Nat} (h : slD b n c = slD b' n' c') : b = b' ∧ n = n' ∧ c = c' := by
  unfold slD at h
  injection h with h
  injection h with h1 h
  injection h with h2 h
  injection h with h3 _
  injection h1 with h1; injection h1 with _ h1
  injection h2 with h2; injection h2 with _ h2
  injection h3 with h3; injection h3 with _ h3
  exact ⟨by omega, by omega, by omega⟩
def R0 (v : Value) : Option (DataW Unit × List MemPlace) :=
  match v with
  | .slice (some ⟨b, 0, none⟩) n c => some (slD b n c, [])
  | _ => none
theorem R0_mk (b n c : Nat) : R0 (.slice (some ⟨b, 0, none⟩) n c) = some (slD b n c, []) := rfl
theorem R0_inv {v : Value} {b n c : Nat} {ps : List MemPlace} (h : R0 v = some (slD b n c, ps)) : v = .slice (some ⟨b, 0, none⟩) n c := by
  unfold R0 at h
  split at h
  · injection h with h
    injection h with h _
    obtain ⟨h1, h2, h3⟩ := slD_inj h
    subst h1 h2 h3
    rfl
  · cases h
theorem K5 : Keyed Try.prog 5 := int_keyed Try.underlying5
theorem key5 (n : Nat) (hn : n < 256) : keyOf Try.prog 5 (.int .u8 (n : Int)) = some (.int .u8 (n : Int)) := by
  refine keyOf_int_mk Try.underlying5 ?_
  simp [Lit.wf, IntKind.min, IntKind.max, IntKind.bits, IntKind.signed]; omega
theorem kindP_nil {n : Nat} (h : kindK n = false) : kindP n = [] := by
  have : n = 0 ∨ 9 < n := by simp [kindK] at h; omega
  rcases this with rfl | h
  · rfl
  · unfold kindP; split <;> first | omega | rfl
theorem run_makeMap' (t : TypeId) (w : World) : (Instr.makeMap t none).run Try.prog w = .ok (.map (some w.heap.size)) (w.alloc (.map #[] 0)) := rfl
end Go.Proofs.Ytgilijkmmcpfjaa
