/-
  Package registry: two registries beside one another.
-/
import Derived.Test.YtpcpijecibiibaaGreatZRgPlain
set_option linter.unusedVariables false
set_option linter.unusedSimpArgs false
set_option maxRecDepth 100000
namespace Go.Proofs.YtpcpijecibiibaaGreat
open Go.RowKit
structure Two (w W : World) (ga : Value) (Pa : Nat → Prop) (ra : RegD) (gb : Value) (Pb : Nat → Prop) (rb : RegD) : Prop where
  a : RegN w W ga Pa ra
  b : RegN w W gb Pb rb
  off : ∀ k, Pa k → ¬ Pb k
theorem RegN.lt {w W : World} {gv : Value} {P : Nat → Prop} {r : RegD} (h : RegN w W gv P r) : ∀ k, P k → k < W.heap.size := by
  obtain ⟨g, _, h1, _⟩ := h
  exact h1.2.1
theorem Two.gr {w W W' : World} {ga gb : Value} {Pa Pb : Nat → Prop} {ra rb : RegD} (h : Two w W ga Pa ra gb Pb rb) (g : Gr W W') : Two w W' ga Pa ra gb Pb rb := ⟨h.a.gr g, h.b.gr g, h.off⟩
theorem Two.appA {w W W' : World} {ga gb : Value} {Pa Pa' Pb : Nat → Prop} {ra ra' rb : RegD} (h : Two w W ga Pa ra gb Pb rb) (n : RegN w W' ga Pa' ra') (hn : ∀ k, Pa' k → Pa k ∨ W.heap.size ≤ k) (c : Ch Pa W W') : Two w W' ga Pa' ra' gb Pb rb :=
  ⟨n, h.b.keep c (fun k hk e => h.off k e hk), fun k hk e => (hn k hk).elim (fun h1 => h.off k h1 e) (fun h1 => by have := h.b.lt k e; omega)⟩
theorem Two.appB {w W W' : World} {ga gb : Value} {Pa Pb Pb' : Nat → Prop} {ra rb rb' : RegD} (h : Two w W ga Pa ra gb Pb rb) (n : RegN w W' gb Pb' rb') (hn : ∀ k, Pb' k → Pb k ∨ W.heap.size ≤ k) (c : Ch Pb W W') : Two w W' ga Pa ra gb Pb' rb' :=
  ⟨h.a.keep c (fun k hk e => h.off k hk e), n, fun k hk e => (hn k e).elim (fun h1 => h.off k hk h1) (fun h1 => by have := h.a.lt k hk; omega)⟩
/-- The second is made behind the first. -/
theorem Two.made {w W W' : World} {ga gb : Value} {Pa Pb : Nat → Prop} {ra rb : RegD} (a : RegN w W ga Pa ra) (b : RegN W W' gb Pb rb) (G : Gr w W) (g : Gr W W') : Two w W' ga Pa ra gb Pb rb := by
  refine ⟨a.gr g, ?_, fun k hk e => ?_⟩
  · obtain ⟨gg, e, h1, h2, h3⟩ := b
    exact ⟨gg, e, h1, fun k hk => Nat.le_trans G.size (h2 k hk), h3⟩
  · obtain ⟨gg, _, h1, h2, h3⟩ := b
    have := a.lt k hk
    have := h2 k e
    omega
/-- An entry of a slice: a row at a place, and its bytes. -/
theorem EntsP.row {w : World} {v : Value} {xs : List EntD} (h : EntsP Any w v xs) (ok : ∀ x ∈ xs, EntOk x ∧ EntBig x) (k : Nat) (hk : k < xs.length) :
    ∃ B o c E, v = .slice (some ⟨B, o, none⟩) xs.length c ∧ B < w.heap.size ∧ E.length = 23 ∧ CellsFrom w B (o + k * 23) E ∧ IsEnt w E.toArray xs[k] ∧ E[0]? = some (.int .u8 (xs[k].kind : Int)) ∧ E[20]? = some (.int .i64 xs[k].region) := by
  obtain ⟨B, o, c, q, e, hB, hp, hc⟩ := h.at k hk
  have := ok xs[k] (List.getElem_mem hk)
  exact ⟨B, o, c, entCells xs[k] q, e, hB, rfl, hc, isEnt hp this.1 this.2, rfl, rfl⟩
theorem fold_alike (j : Int) : ∀ (xs : List EntD), (∀ x ∈ xs, EntOk x ∧ EntBig x) → ∀ r s : RegD, r.sites = s.sites → r.l.length = s.l.length → atG r j = atG s j → atG (foldP r xs) j = atG (foldP s (xs.filter fun x => decide (x.region = j))) j
  | [], _, _, _, _, _, h => h
  | x :: xs, ok, r, s, h1, h2, h3 => by
    obtain ⟨o1, o2⟩ := ok x (.head _)
    have ok' : ∀ y ∈ xs, EntOk y ∧ EntBig y := fun y hy => ok y (.tail _ hy)
    have ra := applyP_sites r o1 o2
    show atG (foldP (applyG r (putV x).1) xs) j = _
    by_cases h : x.region = j
    · rw [List.filter_cons_of_pos (by simpa using h)]
      have sa := applyP_sites s o1 o2
      exact fold_alike j xs ok' _ (applyG s (putV x).1) (by rw [ra.1, sa.1, h1]) (by rw [ra.2, sa.2, h2]) (applyP_alike o1 o2 h1 h2 h3)
    · rw [List.filter_cons_of_neg (by simpa using h)]
      exact fold_alike j xs ok' _ s (by rw [ra.1, h1]) (by rw [ra.2, h2]) ((applyP_other o1 o2 h).trans h3)
theorem foldP_ok (xs : List EntD) : ∀ r : RegD, RegOk r → RegOk (foldP r xs) := by
  induction xs with
  | nil => exact fun r h => h
  | cons x xs ih => exact fun r h => ih _ (applyG_ok h _)
end Go.Proofs.YtpcpijecibiibaaGreat
