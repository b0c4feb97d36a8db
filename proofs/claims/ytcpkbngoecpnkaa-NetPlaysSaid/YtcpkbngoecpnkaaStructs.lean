/-
  Arguments that are slices of structs of one-cell fields.
-/
import Derived.Test.YtcpkbngoecpnkaaBase
import Derived.Deep.Slices
import Derived.Deep.Fields
import Derived.ChangeSame
set_option linter.unusedVariables false
namespace Go.Proofs.Ytcpkbngoecpnkaa
open Go.ChangeShapes Go.WideShapes Go.ChangeAt Go.RowKit Go.Deep

/-- The slice value v holds len structs of n cells; R i j is the cell j of struct i. -/
def Rows (w : World) (v : Value) (len n : Nat) (R : Nat → Nat → Value) : Prop :=
  ∃ a cap, v = .slice a len cap ∧ len ≤ cap ∧ (len = 0 ∨ ∃ B o, a = some ⟨B, o, none⟩ ∧ B < w.heap.size ∧ ∀ i, i < len → ∀ j, j < n → w.cell? ⟨B, o + i * n + j, none⟩ = some (R i j))

theorem Rows.below {w w' : World} {v : Value} {len n : Nat} {R : Nat → Nat → Value} (h : Rows w v len n R) (hb : Below w.heap.size w w') : Rows w' v len n R := by
  obtain ⟨a, cap, rfl, hcap, h⟩ := h
  refine ⟨a, cap, rfl, hcap, ?_⟩
  rcases h with h | ⟨b, off, rfl, hlt, h⟩
  · exact .inl h
  · exact .inr ⟨b, off, rfl, Nat.lt_of_lt_of_le hlt hb.size, fun i hi j hj => by rw [hb.cell (p := ⟨b, off + i * n + j, none⟩) hlt]; exact h i hi j hj⟩

section
variable {H : Type} {enc : TypeId × Value → H} {P : Program} {w : World}
theorem open_rows {r : Reach} {b0 : Nat} {t e : TypeId} {fs : Array Field} {v : Value} {d : DataW H} {ps : List MemPlace} (ht : P.underlying t = some (.slice e)) (he : P.underlying e = some (.struct fs))
    (hone : oneCellFields P fs = true) (hC : P.cellsOf e = fs.size) (hpos : 0 < fs.size)
    (hval : Value.okWide P w r b0 t v) (hd : DataW.Trod enc P w 0 (fun _ => true) true t v d ps) :
    ∃ (len : Nat) (R : Nat → Nat → Value), Rows w v len fs.size R ∧ len ≤ maxLen ∧
      ∀ i, i < len → ∀ (j : Nat) (f : Field), fs[j]? = some f → ∃ m y, DataW.trod enc P w 0 (fun _ => true) true m f.type [R i j] = some y := by
  obtain ⟨a, len, cap, rfl⟩ := okWide_slice ht hval
  obtain ⟨fuel, hf⟩ := hd
  rcases Go.Deep.open_slice ht hf with ⟨hcs, _⟩ | ⟨x, l, c, m, n, D, Pl, hcs, _, hl, hm, hmm, _, hi⟩
  · simp [Value.cells] at hcs
    obtain ⟨rfl, rfl, rfl⟩ := hcs
    exact ⟨0, fun _ _ => .bool false, ⟨none, 0, rfl, Nat.le_refl _, .inl rfl⟩, Nat.zero_le _, fun i hi => absurd hi (Nat.not_lt_zero _)⟩
  · simp [Value.cells] at hcs
    obtain ⟨rfl, rfl, rfl⟩ := hcs
    simp only [if_true] at hmm
    have each : ∀ i, i < len → ∃ cs' : List Value, cs'.length = fs.size ∧ (∀ j (h : j < cs'.length), w.cell? ((x.add (i * fs.size)).add j) = some cs'[j]) ∧
        ∀ (j : Nat) (f : Field), fs[j]? = some f → ∃ (h : j < cs'.length) (m : Nat) (y : _), DataW.trod enc P w 0 (fun _ => true) true m f.type [cs'[j]] = some y := by
      intro i hil
      obtain ⟨cs', hc, ht'⟩ := hi i (by omega)
      rw [hC] at hc
      obtain ⟨ys, n', hn', hy, hlen, hyl, hff⟩ := DataW.trod_struct he ht'
      obtain ⟨_, hcl, hat⟩ := World.cells?_some hc
      refine ⟨cs', hcl, fun j hj => ?_, fun j f hj => ?_⟩
      · rw [hat j (by omega), List.getElem?_eq_getElem hj]
      · obtain ⟨ho, hk⟩ := hone_of hone j f hj
        have hjl : j < fs.size := (Array.getElem?_eq_some_iff.1 hj).1
        have h1 := hff j f hj
        rw [ho, hk, List.drop_eq_getElem_cons (by omega)] at h1
        refine ⟨by omega, n', ys[j]'(by omega), ?_⟩
        rw [List.getElem?_eq_getElem (by omega)] at h1
        exact h1
    by_cases h0 : len = 0
    · subst h0
      exact ⟨0, fun _ _ => .bool false, ⟨_, _, rfl, by omega, .inl rfl⟩, Nat.zero_le _, fun i hi => absurd hi (Nat.not_lt_zero _)⟩
    · obtain ⟨b, off, sp⟩ := x
      have hsp : sp = none ∧ b < w.heap.size := by
        obtain ⟨cs', hl', hcell, _⟩ := each 0 (by omega)
        have h1 := hcell 0 (by omega)
        have h2 : sp = none := by simpa [Addr.add] using World.cell?_spot h1
        subst h2
        have hadd : ∀ b o i, (⟨b, o, none⟩ : Addr).add i = ⟨b, o + i, none⟩ := by intro b o i; unfold Addr.add; split <;> simp_all
        rw [hadd, hadd] at h1
        exact ⟨rfl, cell_block_lt h1⟩
      obtain ⟨rfl, hlt⟩ := hsp
      have pick : ∃ C : Nat → List Value, ∀ i, i < len → (C i).length = fs.size ∧ (∀ j (h : j < (C i).length), w.cell? ((Addr.add ⟨b, off, none⟩ (i * fs.size)).add j) = some (C i)[j]) ∧
          ∀ (j : Nat) (f : Field), fs[j]? = some f → ∃ (h : j < (C i).length) (m : Nat) (y : _), DataW.trod enc P w 0 (fun _ => true) true m f.type [(C i)[j]] = some y := by
        refine ⟨fun i => if h : i < len then (each i h).choose else [], fun i hil => ?_⟩
        simp only [hil, dif_pos]
        exact (each i hil).choose_spec
      obtain ⟨C, hC'⟩ := pick
      refine ⟨len, fun i j => (C i).getD j (.bool false), ⟨_, _, rfl, hl, .inr ⟨b, off, rfl, hlt, fun i hil j hj => ?_⟩⟩, by omega, fun i hil j f hj => ?_⟩
      · obtain ⟨h1, h2, _⟩ := hC' i hil
        have h3 := h2 j (by omega)
        have hadd : ∀ b o i, (⟨b, o, none⟩ : Addr).add i = ⟨b, o + i, none⟩ := by intro b o i; unfold Addr.add; split <;> simp_all
        rw [hadd, hadd] at h3
        rw [h3]
        simp [List.getD, List.getElem?_eq_getElem (show j < (C i).length by omega)]
      · obtain ⟨h1, _, h2⟩ := hC' i hil
        obtain ⟨h3, m', y, h4⟩ := h2 j f hj
        exact ⟨m', y, by simpa [List.getD, List.getElem?_eq_getElem h3] using h4⟩

/-- A cell that reads as a number. -/
theorem cell_nat {t : TypeId} {k : IntKind} {m : Nat} {v : Value} {y : DataW H × List MemPlace} (hk : k.signed = false) (ht : P.underlying t = some (.int k))
    (h : DataW.trod enc P w 0 (fun _ => true) true m t [v] = some y) : ∃ n : Nat, v = .int k (n : Int) ∧ n < 2 ^ k.bits := by
  obtain ⟨z, hz, _, hw⟩ := DataW.trod_int ht h
  obtain rfl : v = .int k z := by simpa using hz
  have : 0 ≤ z ∧ z < 2 ^ k.bits := by
    cases k <;> simp [IntKind.signed] at hk <;> simp [Lit.wf, IntKind.min, IntKind.max, IntKind.bits, IntKind.signed] at hw ⊢ <;> omega
  refine ⟨z.toNat, by rw [Int.toNat_of_nonneg this.1], ?_⟩
  have h2 := this.2
  have : ((2 ^ k.bits : Nat) : Int) = 2 ^ k.bits := by simp
  omega
theorem cell_int {t : TypeId} {m : Nat} {v : Value} {y : DataW H × List MemPlace} (ht : P.underlying t = some (.int .i64))
    (h : DataW.trod enc P w 0 (fun _ => true) true m t [v] = some y) : ∃ z : Int, v = .int .i64 z ∧ -9223372036854775808 ≤ z ∧ z ≤ 9223372036854775807 := by
  obtain ⟨z, hz, _, hw⟩ := DataW.trod_int ht h
  refine ⟨z, by simpa using hz, ?_⟩
  simp [Lit.wf, IntKind.min, IntKind.max, IntKind.bits, IntKind.signed] at hw
  omega
/-- A cell that reads as bytes. -/
theorem cell_bytes {t e : TypeId} {m : Nat} {v : Value} {y : DataW H × List MemPlace} (ht : P.underlying t = some (.slice e)) (he : P.underlying e = some (.int .u8)) (hc : P.cellsOf e = 1)
    (h : DataW.trod enc P w 0 (fun _ => true) true m t [v] = some y) : ∃ l : List UInt8, Sl w v (bytes l) ∧ l.length ≤ maxLen := by
  rcases open_ints ht he hc h with ⟨hcs, _⟩ | ⟨x, l, c, zs, hcs, _, hl, hm, hz, _, hcell, hwz⟩
  · obtain rfl : v = .slice none 0 0 := by simpa using hcs
    exact ⟨[], Sl.nil _ _ _, by simp⟩
  · obtain rfl : v = .slice (some x) l c := by simpa using hcs
    simp only [if_true] at hz
    have hlen : (zs.take l).length = l := by simp; omega
    refine ⟨(zs.take l).map fun z => UInt8.ofNat z.toNat, ?_, by rw [List.length_map, hlen]; omega⟩
    rw [← bytes_of_ints _ (fun z hzm => hwz z (List.mem_of_mem_take hzm))]
    refine ⟨some x, c, by rw [List.length_map, hlen], by rw [List.length_map, hlen]; omega, ?_⟩
    by_cases h0 : l = 0
    · left; subst h0; simp
    · right
      obtain ⟨b, off, sp⟩ := x
      have h1 := hcell 0 (by omega)
      have hsp : sp = none := by simpa [Addr.add] using World.cell?_spot h1
      subst hsp
      have hadd : ∀ i, (⟨b, off, none⟩ : Addr).add i = ⟨b, off + i, none⟩ := by intro i; unfold Addr.add; split <;> simp_all
      refine ⟨b, off, rfl, ?_, fun i hi => ?_⟩
      · rw [hadd] at h1; exact cell_block_lt h1
      · simp only [List.length_map] at hi
        rw [hlen] at hi
        have := hcell i (by omega)
        rw [hadd] at this
        rw [this]
        simp [List.getD, List.getElem?_eq_getElem (show i < zs.length by omega)]
end
end Go.Proofs.Ytcpkbngoecpnkaa
