/-
  Of the statements of package entry, plain: no entry's bytes begin another's; unlike entries have unlike bytes.
-/
import Derived.Test.YtiemgmbjhllmbaaGreatZO
set_option linter.unusedVariables false
namespace Go.Proofs.YtiemgmbjhllmbaaGreat
open Go.RowKit
theorem dEnt_rest (x : EntD) (h : EntOk x) (hm : mayX x) (r : List UInt8) : dEnt (tellB x ++ r) = (x, (r, false)) := by
  obtain ⟨h1, h2, h3⟩ := hm
  have hk : dParts x.kind = kindP x.kind := by
    unfold dParts
    unfold kindK at h1
    simp only [Bool.and_eq_true, decide_eq_true_eq] at h1
    rw [if_pos h1.2]
  have et : tellB x ++ r = be 1 x.kind ++ ((kindP x.kind).flatMap (partB x) ++ r) := by rw [← List.append_assoc]; rfl
  have e := rKind_put x ((kindP x.kind).flatMap (partB x) ++ r) h.kind
  unfold dEnt rKind
  rw [et, e, hk]
  have := dParts_put x h r (kindP x.kind) { zeroX with kind := x.kind } h2
  simp only
  rw [this]
  exact Prod.ext h3 rfl
theorem tell_pre {x y : EntD} (hx : EntOk x) (mx : mayX x) (hy : EntOk y) (my : mayX y) (c : UInt8) (h : tellB x = tellB y ++ [c]) : False := by
  have e1 := dEnt_rest x hx mx []
  rw [List.append_nil, h, dEnt_rest y hy my [c]] at e1
  injection e1 with _ e2
  injection e2 with e3 _
  cases e3
theorem tellB_ne (x : EntD) : tellB x ≠ [] := by
  intro h
  have : (tellB x).length = 0 := by rw [h]; rfl
  unfold tellB at this
  rw [List.length_append, be_length] at this
  omega
theorem get_less {x : EntD} (hx : EntOk x) (mx : mayX x) : (getV ((tellB x).take ((tellB x).length - 1))).2 = 2 := by
  by_cases h : (getV ((tellB x).take ((tellB x).length - 1))).2 = 0
  · exfalso
    obtain ⟨h1, h2, h3, _⟩ := getV_good h
    have hn := tellB_ne x
    have e : tellB x = (tellB x).take ((tellB x).length - 1) ++ [(tellB x).getLast hn] := by
      rw [← List.dropLast_eq_take]; exact (List.dropLast_concat_getLast hn).symm
    rw [← h3] at e
    exact tell_pre hx mx h1 h2 _ e
  · rw [getV_bad h]
theorem get_more {x : EntD} (hx : EntOk x) (mx : mayX x) : (getV (tellB x ++ [0])).2 = 2 := by
  by_cases h : (getV (tellB x ++ [0])).2 = 0
  · exfalso
    obtain ⟨h1, h2, h3, _⟩ := getV_good h
    exact tell_pre h1 h2 hx mx _ h3
  · rw [getV_bad h]
theorem tell_apart {x y : EntD} (hx : EntOk x) (mx : mayX x) (hy : EntOk y) (my : mayX y) (h : tellB x = tellB y) : x = y := by
  have e1 := dEnt_rest x hx mx []
  rw [h, dEnt_rest y hy my []] at e1
  injection e1 with e2 _
  exact e2.symm
end Go.Proofs.YtiemgmbjhllmbaaGreat
