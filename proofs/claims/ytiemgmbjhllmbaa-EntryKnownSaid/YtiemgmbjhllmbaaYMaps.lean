/-
  Maps that the call made: a block read as a function of the key.
-/
import Derived.Test.YtiemgmbjhllmbaaRows
import Derived.Test.YtiemgmbjhllmbaaYA
import Derived.Maps.OwnOps
import Derived.Maps.Views
set_option linter.unusedVariables false
namespace Go.Proofs.Ytiemgmbjhllmbaa
open Go.RowKit
open Go.Maps (Keyed keyOf_int_mk int_keyed string_keyed)
/-- Block b is a map of at most n entries, with keys of type k and elements of type el, whose element at a key is what f says; z: what the zero value reads as. -/
def MapIs (w : World) (k el : TypeId) (b n : Nat) (z : Lit) (f : Lit → Lit) : Prop :=
  ∃ D : DataW Unit, w.ownsMap Try.prog k (plainElem Try.prog el) b n D ∧ Go.Maps.IsMap D ∧ ∀ l, D.atKey l (.lit z) = .lit (f l)
theorem MapIs.made (w : World) (k el : TypeId) (z : Lit) : MapIs (w.alloc (.map #[] 0)) k el w.heap.size 0 z (fun _ => z) :=
  ⟨.map [], World.ownsMap_made w _ _ _, ⟨[], rfl⟩, fun _ => rfl⟩
theorem MapIs.lt {w : World} {k el : TypeId} {b n : Nat} {z : Lit} {f : Lit → Lit} (h : MapIs w k el b n z f) : b < w.heap.size := by
  obtain ⟨D, h1, _⟩ := h; exact h1.lt
theorem MapIs.mono {w : World} {k el : TypeId} {b n n' : Nat} {z : Lit} {f : Lit → Lit} (h : MapIs w k el b n z f) (hn : n ≤ n') : MapIs w k el b n' z f := by
  obtain ⟨D, h1, h2⟩ := h; exact ⟨D, h1.mono hn, h2⟩
/-- It stays while other blocks are written. -/
theorem MapIs.kept {w w' : World} {k el : TypeId} {b n : Nat} {z : Lit} {f : Lit → Lit} {row : Option Nat} (h : MapIs w k el b n z f) (hg : w.grownBy w' row) (hne : some b ≠ row) : MapIs w' k el b n z f := by
  obtain ⟨D, h1, h2⟩ := h; exact ⟨D, h1.kept hg hne, h2⟩
theorem MapIs.block {w w' : World} {k el : TypeId} {b n : Nat} {z : Lit} {f : Lit → Lit} (h : MapIs w k el b n z f) (hb : w'.heap[b]? = w.heap[b]?) : MapIs w' k el b n z f := by
  obtain ⟨D, ⟨es, clock, e1, e2⟩, h2⟩ := h; exact ⟨D, ⟨es, clock, hb.trans e1, e2⟩, h2⟩
theorem MapIs.below {w w' : World} {k el : TypeId} {b n : Nat} {z : Lit} {f : Lit → Lit} (h : MapIs w k el b n z f) (hg : Below w.heap.size w w') : MapIs w' k el b n z f :=
  h.block (hg.block b h.lt)
theorem atKey_lit_bool {D : DataW Unit} {z : Bool} {f : Lit → Bool} (h : ∀ l, D.atKey l (.lit (.bool z)) = .lit (.bool (f l))) : ∀ l, D.atKey l (.lit (.bool z)) = .lit ((fun l => Lit.bool (f l)) l) := h
theorem plainElem_bool_inv {H : Type} {P : Program} {e : TypeId} (he : P.underlying e = some .bool) {v : Value} {z : DataW H × List MemPlace} (h : plainElem P e v = some z) : ∃ a, v = .bool a ∧ z = (.lit (.bool a), []) := by
  unfold plainElem at h
  rw [he] at h
  cases v <;> simp at h
  exact ⟨_, rfl, h.symm⟩
/-- A bool looked up. -/
theorem run_lookup_bool (w : World) {t k el : TypeId} {b n : Nat} {f : Lit → Lit} (K : Keyed Try.prog k) (ht : Try.prog.underlying t = some (.map k el)) (he : Try.prog.underlying el = some .bool) (hz : (zeroValue el).run Try.prog w = .ok (.bool false) w)
    (h : MapIs w k el b n (.bool false) f) {key : Value} {kl : Lit} (hkey : keyOf Try.prog k key = some kl) :
    ∃ c, f kl = .bool c ∧ (Instr.lookup t (.map (some b)) key false).run Try.prog w = .ok (.bool c) w := by
  obtain ⟨D, h1, _, hf⟩ := h
  obtain ⟨v, ps, hrun, hv⟩ := h1.lookup K ht hz (plainElem_bool he false) hkey
  obtain ⟨c, rfl, e⟩ := plainElem_bool_inv he hv
  rw [hf] at e
  injection e with e1 e2
  exact ⟨c, by injection e1, hrun⟩
/-- An integer looked up. -/
theorem run_lookup_int (w : World) {t k el : TypeId} {q : IntKind} {b n : Nat} {f : Lit → Lit} (K : Keyed Try.prog k) (ht : Try.prog.underlying t = some (.map k el)) (he : Try.prog.underlying el = some (.int q)) (hz : (zeroValue el).run Try.prog w = .ok (.int q 0) w)
    (h : MapIs w k el b n (.int q 0) f) {key : Value} {kl : Lit} (hkey : keyOf Try.prog k key = some kl) :
    ∃ c, f kl = .int q c ∧ (Instr.lookup t (.map (some b)) key false).run Try.prog w = .ok (.int q c) w := by
  obtain ⟨D, h1, _, hf⟩ := h
  obtain ⟨c, hrun, hat, _⟩ := h1.lookup_int K ht he hz hkey
  rw [hf] at hat
  injection hat with hat
  exact ⟨c, hat, hrun⟩
/-- One entry more. -/
theorem run_update (w : World) {t k el : TypeId} {b n : Nat} {z d : Lit} {f : Lit → Lit} (K : Keyed Try.prog k) (ht : Try.prog.underlying t = some (.map k el))
    (h : MapIs w k el b n z f) (hn : n < maxLen) {key val : Value} {kl : Lit} (hkey : keyOf Try.prog k key = some kl) (hv : plainElem (H := Unit) Try.prog el val = some (.lit d, [])) :
    ∃ w' f', (Instr.mapUpdate t (.map (some b)) key val).run Try.prog w = .ok () w' ∧ MapIs w' k el b (n + 1) z f' ∧ f' kl = d ∧ (∀ l, l ≠ kl → f' l = f l) ∧ w.grownBy w' (some b) := by
  classical
  obtain ⟨D, h1, hm, hf⟩ := h
  obtain ⟨w', hrun, r1, r2⟩ := h1.update K ht hn hkey hv
  refine ⟨w', fun l => if l = kl then d else f l, hrun, ⟨_, r1, ?_, fun l => ?_⟩, if_pos rfl, fun l hl => if_neg hl, r2⟩
  · exact hm.put _ _
  · by_cases hl : l = kl
    · subst hl
      simp only [if_true]
      rw [Go.Maps.atKey_put_same hm (K.key hkey)]
    · simp only [hl, if_false]
      rw [Go.Maps.atKey_put_other hl]
      exact hf l
/-! ### Maps of any elements: what there is at a key -/
def MapO (w : World) (k : TypeId) (R : Value → Option (DataW Unit × List MemPlace)) (b n : Nat) (g : Lit → Option (DataW Unit)) : Prop :=
  ∃ D : DataW Unit, w.ownsMap Try.prog k R b n D ∧ Go.Maps.IsMap D ∧ ∀ l zd, D.atKey l zd = (g l).getD zd
theorem MapO.made (w : World) (k : TypeId) (R : Value → Option (DataW Unit × List MemPlace)) : MapO (w.alloc (.map #[] 0)) k R w.heap.size 0 (fun _ => none) :=
  ⟨.map [], World.ownsMap_made w _ _ _, ⟨[], rfl⟩, fun _ _ => rfl⟩
section
variable {w w' : World} {k : TypeId} {R : Value → Option (DataW Unit × List MemPlace)} {b n : Nat} {g : Lit → Option (DataW Unit)}
theorem MapO.lt (h : MapO w k R b n g) : b < w.heap.size := by obtain ⟨D, h1, _⟩ := h; exact h1.lt
theorem MapO.block (h : MapO w k R b n g) (hb : w'.heap[b]? = w.heap[b]?) : MapO w' k R b n g := by
  obtain ⟨D, ⟨es, clock, e1, e2⟩, h2⟩ := h; exact ⟨D, ⟨es, clock, hb.trans e1, e2⟩, h2⟩
theorem MapO.below (h : MapO w k R b n g) (hg : Below w.heap.size w w') : MapO w' k R b n g := h.block (hg.block b h.lt)
theorem MapO.mono {n' : Nat} (h : MapO w k R b n g) (hn : n ≤ n') : MapO w k R b n' g := by obtain ⟨D, h1, h2⟩ := h; exact ⟨D, h1.mono hn, h2⟩
end
theorem MapO.update (w : World) {t k el : TypeId} {R : Value → Option (DataW Unit × List MemPlace)} {b n : Nat} {d : DataW Unit} {ps : List MemPlace} {g : Lit → Option (DataW Unit)} (K : Keyed Try.prog k) (ht : Try.prog.underlying t = some (.map k el))
    (h : MapO w k R b n g) (hn : n < maxLen) {key val : Value} {kl : Lit} (hkey : keyOf Try.prog k key = some kl) (hv : R val = some (d, ps)) :
    ∃ w' g', (Instr.mapUpdate t (.map (some b)) key val).run Try.prog w = .ok () w' ∧ MapO w' k R b (n + 1) g' ∧ g' kl = some d ∧ (∀ l, l ≠ kl → g' l = g l) ∧ w.grownBy w' (some b) := by
  classical
  obtain ⟨D, h1, hm, hf⟩ := h
  obtain ⟨w', hrun, r1, r2⟩ := h1.update K ht hn hkey hv
  refine ⟨w', fun l => if l = kl then some d else g l, hrun, ⟨_, r1, hm.put _ _, fun l zd => ?_⟩, if_pos rfl, fun l hl => if_neg hl, r2⟩
  by_cases hl : l = kl
  · subst hl
    simp only [if_true]
    rw [Go.Maps.atKey_put_same hm (K.key hkey)]
    rfl
  · simp only [hl, if_false]
    rw [Go.Maps.atKey_put_other hl]
    exact hf l zd
/-- 'v, ok := m[k]' -/
theorem MapO.look (w : World) {t k el : TypeId} {R : Value → Option (DataW Unit × List MemPlace)} {b n : Nat} {g : Lit → Option (DataW Unit)} (K : Keyed Try.prog k) (ht : Try.prog.underlying t = some (.map k el)) {z : Value} (hz : (zeroValue el).run Try.prog w = .ok z w)
    (h : MapO w k R b n g) {key : Value} {kl : Lit} (hkey : keyOf Try.prog k key = some kl) :
    (g kl = none → (Instr.lookup t (.map (some b)) key true).run Try.prog w = .ok (.tuple #[z, .bool false]) w) ∧
    ∀ d, g kl = some d → ∃ v ps, R v = some (d, ps) ∧ (Instr.lookup t (.map (some b)) key true).run Try.prog w = .ok (.tuple #[v, .bool true]) w := by
  obtain ⟨D, ⟨es, clock, hb, F, _, rfl⟩, _, hf⟩ := h
  rcases Maps.fit_look true K ht hz hb F hkey with ⟨hrun, _, hat⟩ | ⟨e0, y, _, _, hrun, hRv, hat, _⟩
  · refine ⟨fun _ => hrun, fun d hd => ?_⟩
    have h1 := (hat (.lit (.bool true))).symm.trans (hf kl (.lit (.bool true)))
    have h2 := (hat (.lit (.bool false))).symm.trans (hf kl (.lit (.bool false)))
    rw [hd] at h1 h2
    have : (DataW.lit (Lit.bool true) : DataW Unit) = .lit (.bool false) := h1.trans h2.symm
    exact Bool.noConfusion (Lit.bool.inj (DataW.lit.inj this))
  · refine ⟨fun hn => ?_, fun d hd => ?_⟩
    · have h1 := (hat (.lit (.bool true))).symm.trans (hf kl (.lit (.bool true)))
      have h2 := (hat (.lit (.bool false))).symm.trans (hf kl (.lit (.bool false)))
      rw [hn] at h1 h2
      have : (DataW.lit (Lit.bool true) : DataW Unit) = .lit (.bool false) := h1.symm.trans h2
      exact Bool.noConfusion (Lit.bool.inj (DataW.lit.inj this))
    · have h1 := (hat (.lit (.bool true))).symm.trans (hf kl (.lit (.bool true)))
      rw [hd] at h1
      exact ⟨e0.val, y.2, by rw [hRv]; exact congrArg some (Prod.ext h1 rfl), hrun⟩
section
variable {w w' : World} {ops : Array Oper} {rest : List Oper} {o : Oper} {a : Act} {Q : Exit → Act → World → Prop}
/-- A look-up whose run is known. -/
theorem wpList_run_lookup {t : TypeId} {b : Nat} {key c : Value} (hr : (Instr.lookup t (.map (some b)) key false).run Try.prog w = .ok c w) (hg : o.guard = none) (m x : Operand) (hop : o.op = Op.lookup t m x false)
    (hm : a.eval m = .map (some b)) (hx : a.eval x = key) (hK : wpList Try.prog ops Q rest (a.put o.dst c) w) : wpList Try.prog ops Q (o :: rest) a w := by
  refine wpList_plain hg fun K' hK' => ?_
  unfold Oper.wp
  simp [execOp, hop, hm, hx, hr, Result.andThen]
  exact hK' _ _ hK
theorem wpList_run_update {t : TypeId} {b : Nat} {key val : Value} (hr : (Instr.mapUpdate t (.map (some b)) key val).run Try.prog w = .ok () w') (hg : o.guard = none) (m x v : Operand) (hop : o.op = Op.mapUpdate t m x v)
    (hm : a.eval m = .map (some b)) (hx : a.eval x = key) (hv : a.eval v = val) (hK : wpList Try.prog ops Q rest (a.put o.dst undef) w') : wpList Try.prog ops Q (o :: rest) a w := by
  refine wpList_plain hg fun K' hK' => ?_
  unfold Oper.wp
  simp [execOp, hop, hm, hx, hv, hr, Result.andThen]
  exact hK' _ _ hK
end
end Go.Proofs.Ytiemgmbjhllmbaa
