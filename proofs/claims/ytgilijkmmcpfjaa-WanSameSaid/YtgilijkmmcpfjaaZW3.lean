/-
  Messages of package wan by one triple of slices.
-/
import Derived.Test.YtgilijkmmcpfjaaZWHeavy
set_option linter.unusedVariables false
namespace Go.Proofs.Ytgilijkmmcpfjaa
open Go.RowKit
abbrev W3 := Value × Value × Value
def wP (P : Nat → Prop) (w : World) (x : WanD) (q : W3) : Prop := WanP P w x q.1 q.2.1 q.2.2
def wC (x : WanD) (q : W3) : List Value := wanCells x q.1 q.2.1 q.2.2
def zeroWQ : W3 := (.slice none 0 0, .slice none 0 0, .slice none 0 0)
theorem wP.gr {P : Nat → Prop} {w w' : World} {x : WanD} {q : W3} (h : wP P w x q) (g : Gr w w') : wP P w' x q := WanP.gr h g
theorem wP.keep {P : Nat → Prop} {w w' : World} {x : WanD} {q : W3} (h : wP P w x q) (g : Keep P w w') : wP P w' x q := WanP.keep h g
theorem wP.mono {P Q : Nat → Prop} {w : World} {x : WanD} {q : W3} (h : wP P w x q) (hq : ∀ k, P k → Q k) : wP Q w x q := WanP.mono h hq
theorem wP.one {P : Nat → Prop} {w : World} {x : WanD} {q : W3} (h : wP P w x q) : oneAll (wC x q) := wan_one h
theorem wP.zero (P : Nat → Prop) (w : World) : wP P w zeroW zeroWQ := ⟨SlP.nil _ _ _ _, ItemsP.nil _ _ _ _, SlP.nil _ _ _ _⟩
theorem wC_len (x : WanD) (q : W3) : (wC x q).length = 7 := rfl
theorem retGetW3 {W W' : World} {l : List UInt8} {e : Ending} (h : RetGetW W l e W') : ∃ q : W3, e = .returned (.tuple #[.agg (wC (getW l).1 q).toArray, .int .i64 (getW l).2]) ∧ wP (From W.heap.size) W' (getW l).1 q ∧ Gr W W' := by
  obtain ⟨a, b, c, h1, h2, h3⟩ := h
  exact ⟨(a, b, c), h1, h2, h3⟩
theorem MayW.short {x : WanD} (m : MayW x) : WanShort x :=
  ⟨Nat.le_trans m.vec_le (by decide), Nat.le_trans m.items_le (by decide), Nat.le_trans m.fro_le (by decide), fun y hy => by
    have h := m.all y hy
    unfold mayItem at h
    simp only [Bool.and_eq_true, decide_eq_true_eq] at h
    exact ⟨by omega, by omega⟩⟩
theorem MayW.len {x : WanD} (m : MayW x) : WanLen x := ⟨Nat.le_trans m.items_le (by decide), fun y hy => by
    have h := m.all y hy
    unfold mayItem at h
    simp only [Bool.and_eq_true, decide_eq_true_eq] at h
    exact Nat.le_trans h.2.1 (by decide)⟩
theorem zeroW_short : WanShort zeroW := ⟨Nat.zero_le _, Nat.zero_le _, Nat.zero_le _, fun y hy => by cases hy⟩
theorem zeroW_ok : WanOk zeroW := ⟨by decide, by unfold I64 zeroW; simp, fun k hk => (by cases hk), fun k hk => (by cases hk), by unfold I64 zeroW; simp, by decide, fun k hk => (by cases hk)⟩
theorem zeroW_len : WanLen zeroW := ⟨by decide, fun y hy => by cases hy⟩
theorem getW_all (l : List UInt8) : WanShort (getW l).1 ∧ WanOk (getW l).1 ∧ WanLen (getW l).1 := by
  by_cases h : (getW l).2 = 0
  · obtain ⟨h1, h2, h3⟩ := getW_good h
    exact ⟨h2.short, h1, h2.len⟩
  · rw [getW_bad h]
    exact ⟨zeroW_short, zeroW_ok, zeroW_len⟩
end Go.Proofs.Ytgilijkmmcpfjaa
