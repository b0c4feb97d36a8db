/-
  A slice of structs whose fields may be structs: rows of cells; what a row reads as.
-/
import Derived.Test.YtpcpijecibiibaaGreatZD
set_option linter.unusedVariables false
namespace Go.Proofs.YtpcpijecibiibaaGreat
open Go.RowKit
section
open Go.ChangeShapes Go.WideShapes Go.ChangeAt Go.Deep
variable {H : Type} {enc : TypeId × Value → H} {P : Program} {w : World}
/-- One field of what reads as a struct. -/
theorem trod_at {t : TypeId} {fs : Array Field} {m : Nat} {cs : List Value} {y : DataW H × List MemPlace} (ht : P.underlying t = some (.struct fs)) (h : DataW.trod enc P w 0 (fun _ => true) true m t cs = some y) (j : Nat) (f : Field) (hj : fs[j]? = some f) :
    ∃ m y, DataW.trod enc P w 0 (fun _ => true) true m f.type ((cs.drop f.offset).take (P.cellsOf f.type)) = some y := by
  obtain ⟨ys, n', hn', hy, hlen, hyl, hff⟩ := DataW.trod_struct ht h
  have hjl : j < fs.size := (Array.getElem?_eq_some_iff.1 hj).1
  have h1 := hff j f hj
  rw [List.getElem?_eq_getElem (by omega)] at h1
  exact ⟨n', _, h1⟩
/-- A cell that reads as a slice of elements of k cells. -/
theorem cell_rowsK {t e : TypeId} {k mm : Nat} {v : Value} {y : DataW H × List MemPlace} (ht : P.underlying t = some (.slice e)) (hC : P.cellsOf e = k) (hpos : 0 < k)
    (hf : DataW.trod enc P w 0 (fun _ => true) true mm t [v] = some y) :
    ∃ (len : Nat) (R : Nat → Nat → Value), Rows w v len k R ∧ len ≤ maxLen ∧
      ∀ i, i < len → ∃ m y, DataW.trod enc P w 0 (fun _ => true) true m e ((List.range k).map (R i)) = some y := by
  rcases Go.Deep.open_slice ht hf with ⟨hcs, _⟩ | ⟨x, len, cap, m, n, D, Pl, hcs, _, hl, hm, hmm, _, hi⟩
  · obtain rfl : v = .slice none 0 0 := by simpa using hcs
    exact ⟨0, fun _ _ => .bool false, ⟨none, 0, rfl, Nat.le_refl _, .inl rfl⟩, Nat.zero_le _, fun i hi => absurd hi (Nat.not_lt_zero _)⟩
  · obtain rfl : v = .slice (some x) len cap := by simpa using hcs
    simp only [if_true] at hmm
    have each : ∀ i, i < len → ∃ cs' : List Value, cs'.length = k ∧ (∀ j (h : j < cs'.length), w.cell? ((x.add (i * k)).add j) = some cs'[j]) ∧
        ∃ m y, DataW.trod enc P w 0 (fun _ => true) true m e cs' = some y := by
      intro i hil
      obtain ⟨cs', hc, ht'⟩ := hi i (by omega)
      rw [hC] at hc
      obtain ⟨_, hcl, hat⟩ := World.cells?_some hc
      exact ⟨cs', hcl, fun j hj => by rw [hat j (by omega), List.getElem?_eq_getElem hj], n, _, ht'⟩
    by_cases h0 : len = 0
    · subst h0
      exact ⟨0, fun _ _ => .bool false, ⟨_, _, rfl, by omega, .inl rfl⟩, Nat.zero_le _, fun i hi => absurd hi (Nat.not_lt_zero _)⟩
    · obtain ⟨b, off, sp⟩ := x
      have hsp : sp = none ∧ b < w.heap.size := by
        obtain ⟨cs', hl', hcell, _⟩ := each 0 (by omega)
        have h1 := hcell 0 (by omega)
        have h2 : sp = none := by simpa [Addr.add] using World.cell?_spot h1
        subst h2
        rw [addr_add, addr_add] at h1
        exact ⟨rfl, cell_block_lt h1⟩
      obtain ⟨rfl, hlt⟩ := hsp
      obtain ⟨C, hC'⟩ := Go.Deep.choose_lt each
      refine ⟨len, fun i j => (C i).getD j (.bool false), ⟨_, _, rfl, hl, .inr ⟨b, off, rfl, hlt, fun i hil j hj => ?_⟩⟩, by omega, fun i hil => ?_⟩
      · obtain ⟨h1, h2, _⟩ := hC' i hil
        have h3 := h2 j (by omega)
        rw [addr_add, addr_add] at h3
        rw [h3]
        simp [List.getD, List.getElem?_eq_getElem (show j < (C i).length by omega)]
      · obtain ⟨h1, _, m', y', h4⟩ := hC' i hil
        have e : (List.range k).map (fun j => (C i).getD j (.bool false)) = C i := by
          apply List.ext_getElem
          · simp [h1]
          · intro j hj1 hj2
            simp [List.getD, List.getElem?_eq_getElem hj2]
        rw [e]
        exact ⟨m', y', h4⟩
/-- The same of an argument. -/
theorem open_rowsK {r : Reach} {b0 k : Nat} {t e : TypeId} {v : Value} {d : DataW H} {ps : List MemPlace} (ht : P.underlying t = some (.slice e)) (hC : P.cellsOf e = k) (hpos : 0 < k)
    (hval : Value.okWide P w r b0 t v) (hd : DataW.Trod enc P w 0 (fun _ => true) true t v d ps) :
    ∃ (len : Nat) (R : Nat → Nat → Value), Rows w v len k R ∧ len ≤ maxLen ∧
      ∀ i, i < len → ∃ m y, DataW.trod enc P w 0 (fun _ => true) true m e ((List.range k).map (R i)) = some y := by
  obtain ⟨a, len, cap, rfl⟩ := okWide_slice ht hval
  obtain ⟨fuel, hf⟩ := hd
  exact cell_rowsK ht hC hpos (by simpa [Value.cells] using hf)
/-- A struct by value, all its cells. -/
theorem open_struct {r : Reach} {b0 : Nat} {t : TypeId} {fs : Array Field} {v : Value} {d : DataW H} {ps : List MemPlace} (ht : P.underlying t = some (.struct fs))
    (hval : Value.okWide P w r b0 t v) (hd : DataW.Trod enc P w 0 (fun _ => true) true t v d ps) :
    ∃ cs : Array Value, v = .agg cs ∧ cs.size = P.cellsOf t ∧ ∃ m y, DataW.trod enc P w 0 (fun _ => true) true m t cs.toList = some y := by
  simp only [Value.okWide, ht] at hval
  obtain ⟨cs, rfl, hsz, _⟩ := hval
  obtain ⟨fuel, hf⟩ := hd
  obtain ⟨ys, n', hn', hy, hlen, hyl, hff⟩ := DataW.trod_struct ht hf
  simp only [Value.cells] at hlen hf
  exact ⟨cs, rfl, by simpa using hlen, fuel, _, by simpa [Value.cells] using hf⟩
/-- A cell that reads as numbers of 64 bits. -/
theorem cell_nums64 {t e : TypeId} {m : Nat} {v : Value} {y : DataW H × List MemPlace} (ht : P.underlying t = some (.slice e)) (he : P.underlying e = some (.int .u64)) (hc : P.cellsOf e = 1)
    (h : DataW.trod enc P w 0 (fun _ => true) true m t [v] = some y) : ∃ zs : List Int, Sl w v (zs.map (Value.int .u64)) ∧ zs.length ≤ maxLen ∧ ∀ z ∈ zs, 0 ≤ z ∧ z < 2 ^ 64 := by
  obtain ⟨len, R, ⟨a, cap, hv, hcap, hc1⟩, hl, hr⟩ := cell_rowsK (k := 1) ht hc (by decide) h
  have each : ∀ i, i < len → ∃ z : Int, R i 0 = .int .u64 z ∧ 0 ≤ z ∧ z < 2 ^ 64 := by
    intro i hi
    obtain ⟨m', y', h'⟩ := hr i hi
    obtain ⟨z, hz, _, hw⟩ := DataW.trod_int he h'
    refine ⟨z, by simpa using hz, ?_⟩
    simp [Lit.wf, IntKind.min, IntKind.max, IntKind.bits, IntKind.signed] at hw
    omega
  obtain ⟨Z, hZ⟩ := Go.Deep.choose_lt each
  refine ⟨(List.range len).map Z, ⟨a, cap, by simpa using hv, by simpa using hcap, ?_⟩, by simpa using hl, fun z hz => ?_⟩
  · rcases hc1 with h0 | ⟨b, off, rfl, hb, hcell⟩
    · left; simp [h0]
    · refine .inr ⟨b, off, rfl, hb, fun i hi => ?_⟩
      have hi' : i < len := by simpa using hi
      have := hcell i hi' 0 (by decide)
      rw [show off + i * 1 + 0 = off + i by omega, (hZ i hi').1] at this
      simpa using this
  · obtain ⟨i, hi, rfl⟩ := List.mem_map.1 hz
    exact (hZ i (by simpa using hi)).2
end
end Go.Proofs.YtpcpijecibiibaaGreat
