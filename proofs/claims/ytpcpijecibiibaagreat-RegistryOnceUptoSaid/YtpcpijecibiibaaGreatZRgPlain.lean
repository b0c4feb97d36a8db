/-
  Package registry, plain: what Apply does, token by token.
-/
import Derived.Test.YtpcpijecibiibaaGreatZRgEnts
set_option linter.unusedVariables false
set_option linter.unusedSimpArgs false
set_option maxRecDepth 100000
namespace Go.Proofs.YtpcpijecibiibaaGreat
open Go.RowKit
def stepP (n : Int) (x : EntD) (t : Tok) : Tok := if 0 ≤ x.site ∧ x.site < n then afterT (doT x t) t else t
theorem inG_set {r : RegD} {i j : Int} {k : Nat} {t : Tok} : inG { r with l := r.l.set k t } j = inG r j := by unfold inG; simp
theorem atG_set {r : RegD} {i : Int} (hi : inG r i = true) (j : Int) (t : Tok) : atG { r with l := r.l.set i.toNat t } j = if j = i then t else atG r j := by
  obtain ⟨hl, _, h0, h1⟩ := atG_at hi
  unfold atG
  rw [inG_set (i := i)]
  by_cases e : j = i
  · subst e
    rw [hi, if_pos rfl, if_pos rfl, List.getD_eq_getElem?_getD, List.getElem?_set_self hl]; rfl
  · rw [if_neg e]
    by_cases hj : inG r j = true
    · obtain ⟨hl2, _, h2, h3⟩ := atG_at hj
      rw [hj, if_pos rfl, if_pos rfl, List.getD_eq_getElem?_getD, List.getElem?_set_ne (by omega), ← List.getD_eq_getElem?_getD]
    · rw [if_neg hj, if_neg hj]
theorem set_same {l : List Tok} {k : Nat} (h : k < l.length) : l.set k l[k] = l := List.set_getElem_self h
theorem applyX_form (r : RegD) (x : EntD) : applyX r x = if inG r x.region = true then { r with l := r.l.set x.region.toNat (stepP r.sites x (atG r x.region)) } else r := by
  unfold applyX stepP
  by_cases h1 : inG r x.region = true
  · obtain ⟨hl, ha, _, _⟩ := atG_at h1
    rw [if_pos h1]
    by_cases h2 : 0 ≤ x.site ∧ x.site < r.sites
    · rw [if_pos ⟨h1, h2⟩, if_pos h2]
      unfold afterT
      cases hd : doT x (atG r x.region) with
      | some t => rfl
      | none => show r = { r with l := r.l.set x.region.toNat (atG r x.region) }; rw [ha, set_same hl]
    · rw [if_neg (fun k => h2 k.2), if_neg h2, ha, set_same hl]
  · rw [if_neg (fun k => h1 k.1), if_neg h1]
theorem applyX_size (r : RegD) (x : EntD) : (applyX r x).sites = r.sites ∧ (applyX r x).l.length = r.l.length := by
  rw [applyX_form]
  split <;> simp
theorem applyX_at (r : RegD) (x : EntD) (j : Int) : atG (applyX r x) j = if x.region = j ∧ inG r j = true then stepP r.sites x (atG r j) else atG r j := by
  rw [applyX_form]
  by_cases h : inG r x.region = true
  · rw [if_pos h, atG_set h]
    by_cases e : j = x.region
    · subst e; rw [if_pos rfl, if_pos ⟨rfl, h⟩]
    · rw [if_neg e, if_neg (fun k => e k.1.symm)]
  · rw [if_neg h, if_neg (fun (k : x.region = j ∧ inG r j = true) => h (k.1 ▸ k.2))]
/-- What an entry's bytes do to a token. -/
def Tells (x : EntD) : Prop := mayX x ∧ (tellB x).length ≤ 4096
theorem applyP_form (r : RegD) {x : EntD} (ok : EntOk x) (big : EntBig x) : (Tells x ∧ applyG r (putV x).1 = applyX r x) ∨ (¬ Tells x ∧ applyG r (putV x).1 = r) := by
  by_cases hm : mayX x
  · by_cases hl : (tellB x).length ≤ 4096
    · exact .inl ⟨⟨hm, hl⟩, applyP_may ok big hm hl⟩
    · refine .inr ⟨fun h => hl h.2, ?_⟩
      have e : putV x = ([], 3) := by rw [putV_may ok big.fit (by decide) hm, if_pos (by omega)]
      rw [e]
      show (if (getV []).2 = 0 then applyX r (getV []).1 else r) = _
      rw [getV_nil]; rfl
  · exact .inr ⟨fun h => hm h.1, applyP_not ok big hm⟩
theorem applyP_sites (r : RegD) {x : EntD} (ok : EntOk x) (big : EntBig x) : (applyG r (putV x).1).sites = r.sites ∧ (applyG r (putV x).1).l.length = r.l.length := by
  rcases applyP_form r ok big with ⟨_, h⟩ | ⟨_, h⟩ <;> rw [h]
  · exact applyX_size r x
  · exact ⟨rfl, rfl⟩
/-- Two registries of the same sites and size, alike at a token, are alike there behind any entry. -/
theorem applyP_alike {r s : RegD} {x : EntD} {j : Int} (ok : EntOk x) (big : EntBig x) (h1 : r.sites = s.sites) (h2 : r.l.length = s.l.length) (h3 : atG r j = atG s j) : atG (applyG r (putV x).1) j = atG (applyG s (putV x).1) j := by
  have hin : inG r j = inG s j := by unfold inG; rw [h2]
  rcases applyP_form r ok big with ⟨t1, e1⟩ | ⟨t1, e1⟩ <;> rcases applyP_form s ok big with ⟨t2, e2⟩ | ⟨t2, e2⟩
  · rw [e1, e2, applyX_at, applyX_at, h1, hin, h3]
  · exact absurd t1 t2
  · exact absurd t2 t1
  · rw [e1, e2, h3]
/-- An entry of another region does nothing to a token. -/
theorem applyP_other {r : RegD} {x : EntD} {j : Int} (ok : EntOk x) (big : EntBig x) (h : x.region ≠ j) : atG (applyG r (putV x).1) j = atG r j := by
  rcases applyP_form r ok big with ⟨_, e1⟩ | ⟨_, e1⟩ <;> rw [e1]
  rw [applyX_at, if_neg (fun k => h k.1)]
def foldP (r : RegD) (xs : List EntD) : RegD := xs.foldl (fun r x => applyG r (putV x).1) r
theorem foldP_step (r : RegD) (xs : List EntD) (k : Nat) (hk : k < xs.length) : foldP r (xs.take (k + 1)) = applyG (foldP r (xs.take k)) (putV xs[k]).1 := by
  unfold foldP
  rw [List.take_succ_eq_append_getElem hk, List.foldl_append]; rfl
end Go.Proofs.YtpcpijecibiibaaGreat
