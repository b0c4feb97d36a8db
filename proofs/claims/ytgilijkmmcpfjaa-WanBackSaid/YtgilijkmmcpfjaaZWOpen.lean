/-
  Messages of package wan as arguments: what they read as.
-/
import Derived.Test.YtgilijkmmcpfjaaZEOpen2
import Derived.Test.YtgilijkmmcpfjaaZU
set_option linter.unusedVariables false
set_option linter.unusedSimpArgs false
set_option maxRecDepth 100000
namespace Go.Proofs.Ytgilijkmmcpfjaa
open Go.RowKit
section
open Go.ChangeShapes Go.WideShapes Go.ChangeAt Go.Deep
variable {H : Type} {enc : TypeId × Value → H} {w : World}
theorem cell_items {m : Nat} {v : Value} {y : DataW H × List MemPlace} (h : DataW.trod enc Try.prog w 0 (fun _ => true) true m 23 [v] = some y) :
    ∃ es : List ItemD, ItemsP Any w v es ∧ ∀ e ∈ es, ItemOk e := by
  obtain ⟨len, R, Bf, hR, hs, hlb, hl, hc⟩ := cell_rowsKB (k := 7) Try.underlying23 (by kernel_rfl) (by decide) h
  have each : ∀ i, i < len → ∃ x : ItemD, ItemOk x ∧ ItemP Any w x (R i 4) (R i 5) ∧ ∀ j u, (itemCells x (R i 4) (R i 5))[j]? = some u → R i j = u := fun i hi => by
    obtain ⟨m', y', h', hb⟩ := hc i hi
    obtain ⟨x, h1, h2, _, h4⟩ := cell_item h'
    exact ⟨x, h1, h2, h4⟩
  obtain ⟨X, hX⟩ := Go.Deep.choose_lt each
  have hlen : ((List.range len).map X).length = len := by simp
  refine ⟨(List.range len).map X, ⟨R, ⟨by rw [hlen]; exact hR, .inr fun _ _ => trivial⟩, fun i hi => ?_⟩, fun e he => ?_⟩
  · have hi' : i < len := by simpa using hi
    obtain ⟨_, h3, h4⟩ := hX i hi'
    exact ⟨R i 4, R i 5, by simpa using h3, by simpa using h4⟩
  · obtain ⟨i, hi, rfl⟩ := List.mem_map.1 he
    exact (hX i (by simpa using hi)).1
theorem cell_wan {m : Nat} {c : Nat → Value} {y : DataW H × List MemPlace} (h : DataW.trod enc Try.prog w 0 (fun _ => true) true m 26 ((List.range 7).map c) = some y) :
    ∃ x : WanD, WanOk x ∧ WanP Any w x (c 2) (c 3) (c 6) ∧ ∀ j u, (wanCells x (c 2) (c 3) (c 6))[j]? = some u → c j = u := by
  obtain ⟨ys, hy, hl, hf⟩ := trod_all Try.underlying26 h
  obtain ⟨m0, y0, g0, q0⟩ := hf 0 _ rfl
  obtain ⟨m1, y1, g1, q1⟩ := hf 1 _ rfl
  obtain ⟨m2, y2, g2, q2⟩ := hf 2 _ rfl
  obtain ⟨m3, y3, g3, q3⟩ := hf 3 _ rfl
  obtain ⟨m4, y4, g4, q4⟩ := hf 4 _ rfl
  obtain ⟨m5, y5, g5, q5⟩ := hf 5 _ rfl
  obtain ⟨m6, y6, g6, q6⟩ := hf 6 _ rfl
  obtain ⟨k, e0, l0⟩ := cell_nat (v := c 0) (k := .u8) rfl Try.underlying5 g0
  obtain ⟨s, e1, l1⟩ := cell_int (v := c 1) Try.underlying3 g1
  obtain ⟨v, s2, _, l2⟩ := cell_numsB (v := c 2) Try.underlying22 Try.underlying24 (by kernel_rfl) g2
  obtain ⟨es, s3, l3⟩ := cell_items (v := c 3) g3
  obtain ⟨r, e4, l4⟩ := cell_int (v := c 4) Try.underlying3 g4
  obtain ⟨p, e5, l5⟩ := cell_nat (v := c 5) (k := .u64) rfl Try.underlying24 g5
  obtain ⟨f, s6, _, l6⟩ := cell_numsB (v := c 6) Try.underlying22 Try.underlying24 (by kernel_rfl) g6
  refine ⟨⟨k, s, v, es, r, p, f⟩, ⟨l0, l1, l2, l3, l4, l5, l6⟩, ⟨⟨s2, .inr fun _ _ => trivial⟩, s3, ⟨s6, .inr fun _ _ => trivial⟩⟩, fun j u hu => ?_⟩
  match j, hu with
  | 0, hu => rw [e0]; simpa [wanCells] using hu
  | 1, hu => rw [e1]; simpa [wanCells] using hu
  | 2, hu => simpa [wanCells] using hu
  | 3, hu => simpa [wanCells] using hu
  | 4, hu => rw [e4]; simpa [wanCells] using hu
  | 5, hu => rw [e5]; simpa [wanCells] using hu
  | 6, hu => simpa [wanCells] using hu
  | j + 7, hu => simp [wanCells] at hu
/-- An argument that is a message. -/
theorem open_wan {r : Reach} {b0 : Nat} {v : Value} {d : DataW H} {ps : List MemPlace}
    (hval : Value.okWide Try.prog w r b0 26 v) (hd : DataW.Trod enc Try.prog w 0 (fun _ => true) true 26 v d ps) :
    ∃ (x : WanD) (vv iv fv : Value), v = .agg (wanCells x vv iv fv).toArray ∧ WanOk x ∧ WanP Any w x vv iv fv := by
  have hval' := hval
  simp only [Value.okWide, Try.underlying26] at hval'
  obtain ⟨cs, rfl, hsz, _⟩ := hval'
  obtain ⟨fuel, h⟩ := hd
  have h7 : cs.size = 7 := by
    obtain ⟨cs', e, hs, _⟩ := open_struct Try.underlying26 hval ⟨fuel, h⟩
    have e2 : cs = cs' := by injection e
    subst e2
    exact hs.trans (by kernel_rfl)
  simp only [Value.cells] at h
  have e : (List.range 7).map (fun j => cs.getD j (.bool false)) = cs.toList := by
    apply List.ext_getElem
    · simp [h7]
    · intro j hj1 hj2
      have : j < cs.size := by simpa using hj2
      simp [this]
  rw [← e] at h
  obtain ⟨x, h1, h2, h4⟩ := cell_wan h
  refine ⟨x, _, _, _, ?_, h1, h2⟩
  congr 1
  apply Array.ext
  · simp [h7, wanCells]
  · intro j hj1 hj2
    have hj3 : j < (wanCells x (cs.getD 2 (.bool false)) (cs.getD 3 (.bool false)) (cs.getD 6 (.bool false))).length := by simpa using hj2
    have := h4 j _ (List.getElem?_eq_getElem hj3)
    simpa [hj1] using this
end
end Go.Proofs.Ytgilijkmmcpfjaa
