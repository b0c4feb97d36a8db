/-
  Parts that are put are read back: the plain law. No program in sight.
-/
import Derived.Test.YtiafpnibppjidaaRdBack
set_option linter.unusedVariables false
namespace Go.Proofs.Ytiafpnibppjidaa
open Go.RowKit

/-- A part: its kind, its number, its text. -/
structure PartOf where
  d : Nat
  v : Nat
  s : List UInt8

def pPut (p : PartOf) : List UInt8 :=
  if p.d % 4 = 0 then be 1 (p.v % 256) else if p.d % 4 = 1 then be 8 p.v else if p.d % 4 = 2 then be 8 p.v else be 4 p.s.length ++ p.s
def pGot (p : PartOf) (s : RS) : Bool × RS :=
  if p.d % 4 = 0 then (decide ((rByte s).1 = p.v % 256), (rByte s).2) else if p.d % 4 = 1 then (decide ((rUint s).1 = p.v), (rUint s).2)
  else if p.d % 4 = 2 then (decide ((rUint s).1 = p.v), (rUint s).2) else (decide ((rText s).1 = p.s), (rText s).2)
def PartOf.ok (p : PartOf) : Prop := p.v < 2 ^ 64 ∧ p.s.length < 2 ^ 32

def pAll (ps : List PartOf) : List UInt8 := ps.flatMap pPut
def gAll (ps : List PartOf) (s : RS) : RS := ps.foldl (fun s p => (pGot p s).2) s

theorem pPut_pos (p : PartOf) : 0 < (pPut p).length := by
  unfold pPut; split
  · simp [be_length]
  · split
    · simp [be_length]
    · split <;> simp [be_length]
      omega
theorem pPut_le (p : PartOf) (h : p.s.length ≤ 200) : (pPut p).length ≤ 204 := by
  unfold pPut; split
  · simp [be_length]
  · split
    · simp [be_length]
    · split <;> simp [be_length]
      omega
theorem pGot_left (p : PartOf) (s : RS) : (pGot p s).2.1.length ≤ s.1.length := by
  unfold pGot; split
  · exact rByte_left s
  · split
    · exact rUint_left s
    · split
      · exact rUint_left s
      · exact rText_left s
theorem pGot_put (p : PartOf) (hp : p.ok) (r : List UInt8) : pGot p (pPut p ++ r, false) = (true, (r, false)) := by
  unfold pGot pPut
  split
  · rw [rByte_be _ _ (by omega)]; simp
  · split
    · rw [rUint_be _ _ hp.1]; simp
    · split
      · rw [rUint_be _ _ hp.1]; simp
      · rw [List.append_assoc, rText_be _ _ hp.2]; simp
theorem pGot_bad (p : PartOf) (l : List UInt8) : (pGot p (l, true)).2 = (l, true) := by
  unfold pGot; simp only [rByte_bad, rUint_bad, rText_bad]
  split
  · rfl
  · split
    · rfl
    · split <;> rfl
theorem pGot_short (p : PartOf) (hp : p.ok) (l : List UInt8) (h : l.length < (pPut p).length) (hl : l <+: pPut p) : ∃ l', (pGot p (l, false)).2 = (l', true) := by
  revert h hl
  unfold pGot pPut
  split
  · intro h _; rw [be_length] at h; exact ⟨l, by rw [rByte_short _ h]⟩
  · split
    · intro h _; rw [be_length] at h; exact ⟨l, by rw [rUint_short _ h]⟩
    · split
      · intro h _; rw [be_length] at h; exact ⟨l, by rw [rUint_short _ h]⟩
      · intro h hl
        rw [List.length_append, be_length] at h
        obtain ⟨l', h'⟩ := rText_short p.s l hp.2 h hl
        exact ⟨l', by rw [h']⟩
theorem gAll_bad (ps : List PartOf) (l : List UInt8) : gAll ps (l, true) = (l, true) := by
  induction ps with
  | nil => rfl
  | cons p ps ih => unfold gAll at ih ⊢; rw [List.foldl_cons, pGot_bad]; exact ih
theorem gAll_put (ps : List PartOf) (hp : ∀ p ∈ ps, p.ok) (r : List UInt8) : gAll ps (pAll ps ++ r, false) = (r, false) := by
  induction ps with
  | nil => rfl
  | cons p ps ih =>
    have h1 : pAll (p :: ps) ++ r = pPut p ++ (pAll ps ++ r) := by simp [pAll]
    rw [h1]
    unfold gAll at ih ⊢
    rw [List.foldl_cons, pGot_put p (hp p (by simp))]
    exact ih fun q hq => hp q (by simp [hq])
theorem gAll_short (ps : List PartOf) (hp : ∀ p ∈ ps, p.ok) : ∀ l : List UInt8, l.length < (pAll ps).length → l <+: pAll ps → ∃ l', gAll ps (l, false) = (l', true) := by
  induction ps with
  | nil => intro l h; simp [pAll] at h
  | cons p ps ih =>
    intro l h hl
    have h1 : pAll (p :: ps) = pPut p ++ pAll ps := by simp [pAll]
    rw [h1] at h hl
    by_cases hs : l.length < (pPut p).length
    · have : l <+: pPut p := List.prefix_of_prefix_length_le hl (List.prefix_append _ _) (by omega)
      obtain ⟨l', h'⟩ := pGot_short p (hp p (by simp)) l hs this
      refine ⟨l', ?_⟩
      have := gAll_bad ps l'
      unfold gAll at this ⊢
      rw [List.foldl_cons, h']; exact this
    · have hpre : pPut p <+: l := List.prefix_of_prefix_length_le (List.prefix_append _ _) hl (by omega)
      obtain ⟨t, rfl⟩ := hpre
      have ht : t <+: pAll ps := (List.prefix_append_right_inj _).1 hl
      simp only [List.length_append] at h
      obtain ⟨l', h'⟩ := ih (fun q hq => hp q (by simp [hq])) t (by omega) ht
      refine ⟨l', ?_⟩
      unfold gAll at h' ⊢
      rw [List.foldl_cons, pGot_put p (hp p (by simp))]; exact h'
end Go.Proofs.Ytiafpnibppjidaa
