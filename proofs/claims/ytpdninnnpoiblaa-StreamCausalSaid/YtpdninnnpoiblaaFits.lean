/-
  Arguments within the form's own reach: what lies down in them is within it, too.
-/
import Derived.Test.YtpdninnnpoiblaaCells
import Derived.SizedLaws
set_option linter.unusedVariables false
namespace Go.Proofs.Ytpdninnnpoiblaa
open Go.RowKit
section
open Go.ChangeShapes Go.WideShapes Go.ChangeAt Go.Deep
variable {H : Type} {enc : TypeId × Value → H} {P : Program} {w : World}
/-- Each string and each slice in what was read is within the reach. -/
def Fit (P : Program) (t : TypeId) (d : DataW H) : Prop := ∀ x ∈ DataW.weights P t d, x ≤ reachBytes
theorem fit_arg {ts : List TypeId} {ds : List (DataW H)} (h : (DataW.weightsEach P ts ds).all (· ≤ reachBytes) = true) (j : Nat) (t : TypeId) (d : DataW H) (ht : ts[j]? = some t) (hd : ds[j]? = some d) : Fit P t d := fun x hx => by
  simpa using List.all_eq_true.1 h x (DataW.weights_mem_each ht hd x hx)
theorem weightsAll_of {e : TypeId} : ∀ {ds : List (DataW H)} {d : DataW H}, d ∈ ds → ∀ x ∈ DataW.weights P e d, x ∈ DataW.weightsAll P e ds
  | d0 :: ds, d, hd, x, hx => by
    simp only [DataW.weightsAll, List.mem_append]
    rcases List.mem_cons.1 hd with rfl | hd
    · exact .inl hx
    · exact .inr (weightsAll_of hd x hx)
theorem trod_atW {t : TypeId} {fs : Array Field} {m : Nat} {cs : List Value} {y : DataW H × List MemPlace} (ht : P.underlying t = some (.struct fs)) (h : DataW.trod enc P w 0 (fun _ => true) true m t cs = some y) (hw : Fit P t y.1) (j : Nat) (f : Field) (hj : fs[j]? = some f) :
    ∃ m y', DataW.trod enc P w 0 (fun _ => true) true m f.type ((cs.drop f.offset).take (P.cellsOf f.type)) = some y' ∧ Fit P f.type y'.1 := by
  obtain ⟨ys, n', hn', hy, hlen, hyl, hff⟩ := DataW.trod_struct ht h
  have hjl : j < fs.size := (Array.getElem?_eq_some_iff.1 hj).1
  have h1 := hff j f hj
  rw [List.getElem?_eq_getElem (by omega)] at h1
  refine ⟨n', _, h1, fun x hx => hw x ?_⟩
  rw [hy]
  simp only [DataW.weights, ht]
  refine DataW.weights_mem_each (j := j) (t := f.type) (d := (ys[j]'(by omega)).1) ?_ ?_ x hx
  · rw [List.getElem?_map, Array.getElem?_toList, hj]; rfl
  · rw [List.getElem?_map, List.getElem?_eq_getElem (by omega)]; rfl
theorem cell_rowsKW {t e : TypeId} {k mm : Nat} {v : Value} {y : DataW H × List MemPlace} (ht : P.underlying t = some (.slice e)) (hC : P.cellsOf e = k) (hpos : 0 < k)
    (hf : DataW.trod enc P w 0 (fun _ => true) true mm t [v] = some y) (hw : Fit P t y.1) :
    ∃ (len : Nat) (R : Nat → Nat → Value), Rows w v len k R ∧ len ≤ maxLen ∧ len * P.bytesOf e ≤ reachBytes ∧
      ∀ i, i < len → ∃ m y, DataW.trod enc P w 0 (fun _ => true) true m e ((List.range k).map (R i)) = some y ∧ Fit P e y.1 := by
  rcases Go.Deep.open_slice ht hf with ⟨hcs, _⟩ | ⟨x, len, cap, m, n, D, Pl, hcs, _, hl, hm, hmm, hy, hi⟩
  · obtain rfl : v = .slice none 0 0 := by simpa using hcs
    exact ⟨0, fun _ _ => .bool false, ⟨none, 0, rfl, Nat.le_refl _, .inl rfl⟩, Nat.zero_le _, by simp, fun i hi => absurd hi (Nat.not_lt_zero _)⟩
  · obtain rfl : v = .slice (some x) len cap := by simpa using hcs
    simp only [if_true] at hmm
    have hbytes : len * P.bytesOf e ≤ reachBytes := by
      have : (len + (m - len)) * P.bytesOf e ≤ reachBytes := hw _ (by rw [hy]; simp [DataW.weights, ht])
      exact Nat.le_trans (Nat.mul_le_mul_right _ (by omega)) this
    have each : ∀ i, i < len → ∃ cs' : List Value, cs'.length = k ∧ (∀ j (h : j < cs'.length), w.cell? ((x.add (i * k)).add j) = some cs'[j]) ∧
        ∃ m y, DataW.trod enc P w 0 (fun _ => true) true m e cs' = some y ∧ Fit P e y.1 := by
      intro i hil
      obtain ⟨cs', hc, ht'⟩ := hi i (by omega)
      rw [hC] at hc
      obtain ⟨_, hcl, hat⟩ := World.cells?_some hc
      refine ⟨cs', hcl, fun j hj => by rw [hat j (by omega), List.getElem?_eq_getElem hj], n, _, ht', fun z hz => hw z ?_⟩
      rw [hy]
      simp only [DataW.weights, ht, List.mem_cons, List.mem_append]
      exact .inr (.inl (weightsAll_of (d := D i) (List.mem_map.2 ⟨i, List.mem_range.2 hil, rfl⟩) z hz))
    by_cases h0 : len = 0
    · subst h0
      exact ⟨0, fun _ _ => .bool false, ⟨_, _, rfl, by omega, .inl rfl⟩, Nat.zero_le _, by simp, fun i hi => absurd hi (Nat.not_lt_zero _)⟩
    · obtain ⟨b, off, sp⟩ := x
      have hsp : sp = none ∧ b < w.heap.size := by
        obtain ⟨cs', hl', hcell, _⟩ := each 0 (by omega)
        have h1 := hcell 0 (by omega)
        have h2 : sp = none := by simpa [Addr.add] using World.cell?_spot h1
        subst h2
        rw [addr_add, addr_add] at h1
        exact ⟨rfl, cell_block_lt h1⟩
      obtain ⟨rfl, hlt⟩ := hsp
      obtain ⟨C, hC'⟩ := Go.Deep.choose_lt each
      refine ⟨len, fun i j => (C i).getD j (.bool false), ⟨_, _, rfl, hl, .inr ⟨b, off, rfl, hlt, fun i hil j hj => ?_⟩⟩, by omega, hbytes, fun i hil => ?_⟩
      · obtain ⟨h1, h2, _⟩ := hC' i hil
        have h3 := h2 j (by omega)
        rw [addr_add, addr_add] at h3
        rw [h3]
        simp [List.getD, List.getElem?_eq_getElem (show j < (C i).length by omega)]
      · obtain ⟨h1, _, m', y', h2, h3⟩ := hC' i hil
        refine ⟨m', y', ?_, h3⟩
        have : (List.range k).map (fun j => (C i).getD j (.bool false)) = C i := by
          apply List.ext_getElem
          · simp [h1]
          · intro j hj1 hj2; simp [List.getD, List.getElem?_eq_getElem hj2]
        rw [this]; exact h2
theorem open_rowsKW {r : Reach} {b0 : Nat} {t e : TypeId} {k : Nat} {v : Value} {d : DataW H} {ps : List MemPlace} (ht : P.underlying t = some (.slice e)) (hC : P.cellsOf e = k) (hpos : 0 < k)
    (hval : Value.okWide P w r b0 t v) (hd : DataW.Trod enc P w 0 (fun _ => true) true t v d ps) (hw : Fit P t d) :
    ∃ (len : Nat) (R : Nat → Nat → Value), Rows w v len k R ∧ len ≤ maxLen ∧ len * P.bytesOf e ≤ reachBytes ∧
      ∀ i, i < len → ∃ m y, DataW.trod enc P w 0 (fun _ => true) true m e ((List.range k).map (R i)) = some y ∧ Fit P e y.1 := by
  obtain ⟨a, len, cap, rfl⟩ := okWide_slice ht hval
  obtain ⟨fuel, hf⟩ := hd
  exact cell_rowsKW ht hC hpos (y := (d, ps)) (by simpa [Value.cells] using hf) hw
/-- A cell that reads as bytes. -/
theorem cell_bytesW {t e : TypeId} {m : Nat} {v : Value} {y : DataW H × List MemPlace} (ht : P.underlying t = some (.slice e)) (he : P.underlying e = some (.int .u8)) (hc : P.cellsOf e = 1) (hby : P.bytesOf e = 1)
    (h : DataW.trod enc P w 0 (fun _ => true) true m t [v] = some y) (hw : Fit P t y.1) : ∃ l : List UInt8, Sl w v (bytes l) ∧ l.length ≤ reachBytes := by
  obtain ⟨l, hl, hlm⟩ := cell_bytes ht he hc h
  refine ⟨l, hl, ?_⟩
  obtain ⟨len, R, ⟨a, cap, e1, _⟩, _, h3, _⟩ := cell_rowsKW ht hc (by decide) h hw
  obtain ⟨a', cap', e2, _⟩ := hl.bytes
  rw [hby] at h3
  rw [e1] at e2
  injection e2 with _ e2 _
  omega
end
end Go.Proofs.Ytpdninnnpoiblaa
