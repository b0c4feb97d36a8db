/-
  Of the document: the same items, operations, entries.
  Of the document: the same operations, entries.
  Of the document: the same entries.
-/
import Derived.Test.YtpcpijecibiibaaGreatZRSame
section
set_option linter.unusedVariables false
set_option linter.unusedSimpArgs false
set_option maxRecDepth 100000
namespace Go.Proofs.YtpcpijecibiibaaGreat
open Go.RowKit
theorem pairAt_fst (xs ys : List Nat) (j : Nat) (h1 : j < xs.length) : (pairAt xs ys j).1 = xs[j] := by simp [pairAt, h1]
theorem pairAt_snd (xs ys : List Nat) (j : Nat) (h1 : j < ys.length) : (pairAt xs ys j).2 = ys[j] := by simp [pairAt, h1]
theorem sameV_iff (xs ys : List Nat) : sameV xs ys = true ↔ xs = ys := by
  constructor
  · intro h
    unfold sameV at h
    rw [Bool.and_eq_true] at h
    by_cases hl : xs.length = ys.length
    · rw [leqV_iff _ _ hl, leqV_iff _ _ hl.symm] at h
      refine List.ext_getElem hl fun j h1 h2 => ?_
      have a := h.1 j h1
      have b := h.2 j h2
      rw [pairAt_fst _ _ _ h1, pairAt_snd _ _ _ h2] at a
      rw [pairAt_fst _ _ _ h2, pairAt_snd _ _ _ h1] at b
      omega
    · rw [leqV_ne _ _ hl] at h; cases h.1
  · rintro rfl; exact sameV_self xs
theorem nums_says (w : World) (va vb : Value) (xs ys : List Nat) (ha : Sl w va (nums xs)) (hb : Sl w vb (nums ys)) (hx : xs.length ≤ 1000000) (hy : ys.length ≤ 1000000) :
    Calls Tryz.prog 32 #[va, vb] w (Says (xs = ys) w) := by
  refine (same_any w va vb xs ys ha hb hx hy).mono ?_
  intro e w' h
  obtain ⟨rfl, g⟩ := h
  exact ⟨_, rfl, sameV_iff xs ys, g⟩
end Go.Proofs.YtpcpijecibiibaaGreat
end
section
set_option linter.unusedVariables false
set_option linter.unusedSimpArgs false
set_option maxRecDepth 100000
namespace Go.Proofs.YtpcpijecibiibaaGreat
open Go.RowKit
/-- No part of an operation has parts. -/
def Flat (o : OpD) : Prop := ∀ p ∈ o.parts, p.parts = []
theorem opTy : RowTy Tryz.prog 38 7 := ⟨⟨_, Tryz.underlying38⟩, by kernel_rfl⟩
theorem word_of {h : OpH} {la lb : List OpD} {F : Prop} (n : ¬ (la = lb ∧ F)) : ¬ (OpD.mk h la = OpD.mk h lb ∧ F) := fun e => n ⟨by have := e.1; injection this, e.2⟩
theorem op_eq {o o' : OpD} : o = o' ↔ o.h = o'.h ∧ o.parts = o'.parts := by
  obtain ⟨h, ps⟩ := o
  obtain ⟨h', ps'⟩ := o'
  exact ⟨fun e => ⟨by rw [e], by rw [e]⟩, fun ⟨a, b⟩ => by
    replace a : h = h' := a
    replace b : ps = ps' := b
    rw [a, b]⟩
end Go.Proofs.YtpcpijecibiibaaGreat
end
section
set_option linter.unusedVariables false
set_option linter.unusedSimpArgs false
set_option maxRecDepth 100000
namespace Go.Proofs.YtpcpijecibiibaaGreat
open Go.RowKit
/-- An entry of which no list is long. -/
structure EntShort (x : EntD) : Prop where
  parts : x.op.parts.length ≤ 1000000
  stamp : x.item.stamp.length ≤ 1000000
  effs : x.item.effs.length ≤ 1000000
  frontier : x.frontier.length ≤ 1000000
end Go.Proofs.YtpcpijecibiibaaGreat
end
