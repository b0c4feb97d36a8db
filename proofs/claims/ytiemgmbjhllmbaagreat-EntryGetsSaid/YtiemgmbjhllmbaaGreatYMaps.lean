/-
  Maps that the call made: a block read as a function of the key.
-/
import Derived.Test.YtiemgmbjhllmbaaGreatRows
import Derived.Test.YtiemgmbjhllmbaaGreatYA
import Derived.Maps.OwnOps
import Derived.Maps.Views
set_option linter.unusedVariables false
namespace Go.Proofs.YtiemgmbjhllmbaaGreat
open Go.RowKit
open Go.Maps (Keyed keyOf_int_mk int_keyed string_keyed)
/-! ### Maps of any elements: what there is at a key -/
def MapO (w : World) (k : TypeId) (R : Value → Option (DataW Unit × List MemPlace)) (b n : Nat) (g : Lit → Option (DataW Unit)) : Prop :=
  ∃ D : DataW Unit, w.ownsMap Tryz.prog k R b n D ∧ Go.Maps.IsMap D ∧ ∀ l zd, D.atKey l zd = (g l).getD zd
theorem MapO.made (w : World) (k : TypeId) (R : Value → Option (DataW Unit × List MemPlace)) : MapO (w.alloc (.map #[] 0)) k R w.heap.size 0 (fun _ => none) :=
  ⟨.map [], World.ownsMap_made w _ _ _, ⟨[], rfl⟩, fun _ _ => rfl⟩
section
variable {w w' : World} {k : TypeId} {R : Value → Option (DataW Unit × List MemPlace)} {b n : Nat} {g : Lit → Option (DataW Unit)}
theorem MapO.lt (h : MapO w k R b n g) : b < w.heap.size := by obtain ⟨D, h1, _⟩ := h; exact h1.lt
theorem MapO.block (h : MapO w k R b n g) (hb : w'.heap[b]? = w.heap[b]?) : MapO w' k R b n g := by
  obtain ⟨D, ⟨es, clock, e1, e2⟩, h2⟩ := h; exact ⟨D, ⟨es, clock, hb.trans e1, e2⟩, h2⟩
theorem MapO.below (h : MapO w k R b n g) (hg : Below w.heap.size w w') : MapO w' k R b n g := h.block (hg.block b h.lt)
end
theorem MapO.update (w : World) {t k el : TypeId} {R : Value → Option (DataW Unit × List MemPlace)} {b n : Nat} {d : DataW Unit} {ps : List MemPlace} {g : Lit → Option (DataW Unit)} (K : Keyed Tryz.prog k) (ht : Tryz.prog.underlying t = some (.map k el))
    (h : MapO w k R b n g) (hn : n < maxLen) {key val : Value} {kl : Lit} (hkey : keyOf Tryz.prog k key = some kl) (hv : R val = some (d, ps)) :
    ∃ w' g', (Instr.mapUpdate t (.map (some b)) key val).run Tryz.prog w = .ok () w' ∧ MapO w' k R b (n + 1) g' ∧ g' kl = some d ∧ (∀ l, l ≠ kl → g' l = g l) ∧ w.grownBy w' (some b) := by
  classical
  obtain ⟨D, h1, hm, hf⟩ := h
  obtain ⟨w', hrun, r1, r2⟩ := h1.update K ht hn hkey hv
  refine ⟨w', fun l => if l = kl then some d else g l, hrun, ⟨_, r1, hm.put _ _, fun l zd => ?_⟩, if_pos rfl, fun l hl => if_neg hl, r2⟩
  by_cases hl : l = kl
  · subst hl
    simp only [if_true]
    rw [Go.Maps.atKey_put_same hm (K.key hkey)]
    rfl
  · simp only [hl, if_false]
    rw [Go.Maps.atKey_put_other hl]
    exact hf l zd
/-- 'v, ok := m[k]' -/
theorem MapO.look (w : World) {t k el : TypeId} {R : Value → Option (DataW Unit × List MemPlace)} {b n : Nat} {g : Lit → Option (DataW Unit)} (K : Keyed Tryz.prog k) (ht : Tryz.prog.underlying t = some (.map k el)) {z : Value} (hz : (zeroValue el).run Tryz.prog w = .ok z w)
    (h : MapO w k R b n g) {key : Value} {kl : Lit} (hkey : keyOf Tryz.prog k key = some kl) :
    (g kl = none → (Instr.lookup t (.map (some b)) key true).run Tryz.prog w = .ok (.tuple #[z, .bool false]) w) ∧
    ∀ d, g kl = some d → ∃ v ps, R v = some (d, ps) ∧ (Instr.lookup t (.map (some b)) key true).run Tryz.prog w = .ok (.tuple #[v, .bool true]) w := by
  obtain ⟨D, ⟨es, clock, hb, F, _, rfl⟩, _, hf⟩ := h
  rcases Maps.fit_look true K ht hz hb F hkey with ⟨hrun, _, hat⟩ | ⟨e0, y, _, _, hrun, hRv, hat, _⟩
  · refine ⟨fun _ => hrun, fun d hd => ?_⟩
    have h1 := (hat (.lit (.bool true))).symm.trans (hf kl (.lit (.bool true)))
    have h2 := (hat (.lit (.bool false))).symm.trans (hf kl (.lit (.bool false)))
    rw [hd] at h1 h2
    have : (DataW.lit (Lit.bool true) : DataW Unit) = .lit (.bool false) := h1.trans h2.symm
    exact Bool.noConfusion (Lit.bool.inj (DataW.lit.inj this))
  · refine ⟨fun hn => ?_, fun d hd => ?_⟩
    · have h1 := (hat (.lit (.bool true))).symm.trans (hf kl (.lit (.bool true)))
      have h2 := (hat (.lit (.bool false))).symm.trans (hf kl (.lit (.bool false)))
      rw [hn] at h1 h2
      have : (DataW.lit (Lit.bool true) : DataW Unit) = .lit (.bool false) := h1.symm.trans h2
      exact Bool.noConfusion (Lit.bool.inj (DataW.lit.inj this))
    · have h1 := (hat (.lit (.bool true))).symm.trans (hf kl (.lit (.bool true)))
      rw [hd] at h1
      exact ⟨e0.val, y.2, by rw [hRv]; exact congrArg some (Prod.ext h1 rfl), hrun⟩
section
variable {w w' : World} {ops : Array Oper} {rest : List Oper} {o : Oper} {a : Act} {Q : Exit → Act → World → Prop}
end
end Go.Proofs.YtiemgmbjhllmbaaGreat
