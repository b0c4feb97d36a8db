/-
  Entries, operations, items as arguments of a bounded bulk: what they read as, and how much there is of them.
-/
import Derived.Test.YtgilijkmmcpfjaaZCells
import Derived.Test.YtgilijkmmcpfjaaZEnRow
import Derived.Test.YtgilijkmmcpfjaaZRSame
set_option linter.unusedVariables false
namespace Go.Proofs.Ytgilijkmmcpfjaa
open Go.RowKit
section
open Go.ChangeShapes Go.WideShapes Go.ChangeAt Go.Deep
variable {H : Type} {enc : TypeId × Value → H} {P : Program} {w : World}
theorem bulk_one (d : DataW H) : 1 ≤ Rows.uptoBulk d := by
  cases d with
  | lit l => cases l <;> simp [Rows.uptoBulk]
  | nil => simp [Rows.uptoBulk]
  | ptr d => simp [Rows.uptoBulk]
  | slice elems spare => simp [Rows.uptoBulk]
  | agg parts => simp [Rows.uptoBulk]
  | iface t d => simp [Rows.uptoBulk]
  | map entries => simp [Rows.uptoBulk]
  | held h => simp [Rows.uptoBulk]
theorem bulkAll_sum : ∀ l : List (DataW H), Rows.uptoBulkAll l = (l.map Rows.uptoBulk).sum
  | [] => by simp [Rows.uptoBulkAll]
  | d :: l => by simp [Rows.uptoBulkAll, bulkAll_sum l]
theorem sum_ge_len : ∀ (n : Nat) (f : Nat → Nat), (∀ i, i < n → 1 ≤ f i) → n ≤ ((List.range n).map f).sum
  | 0, f, _ => Nat.zero_le _
  | n + 1, f, h => by
    have := sum_ge_len n f (fun i hi => h i (by omega))
    have := h n (by omega)
    rw [List.range_succ, List.map_append, List.sum_append]; simp; omega
/-- All fields of what reads as a struct. -/
theorem trod_all {t : TypeId} {fs : Array Field} {m : Nat} {cs : List Value} {y : DataW H × List MemPlace} (ht : P.underlying t = some (.struct fs)) (h : DataW.trod enc P w 0 (fun _ => true) true m t cs = some y) :
    ∃ ys : List (DataW H), y.1 = .agg ys ∧ ys.length = fs.size ∧ ∀ (j : Nat) (f : Field), fs[j]? = some f → ∃ m y', DataW.trod enc P w 0 (fun _ => true) true m f.type ((cs.drop f.offset).take (P.cellsOf f.type)) = some y' ∧ ys[j]? = some y'.1 := by
  obtain ⟨ys, n', hn', hy, hlen, hyl, hff⟩ := DataW.trod_struct ht h
  refine ⟨ys.map (·.1), by rw [hy], by simp [hyl], fun j f hj => ?_⟩
  have hjl : j < fs.size := (Array.getElem?_eq_some_iff.1 hj).1
  have h1 := hff j f hj
  rw [List.getElem?_eq_getElem (by omega)] at h1
  exact ⟨n', _, h1, by rw [List.getElem?_map, List.getElem?_eq_getElem (by omega)]; rfl⟩
/-- A cell that reads as a slice of elements of k cells, with the bulk of each. -/
theorem cell_rowsKB {t e : TypeId} {k mm : Nat} {v : Value} {y : DataW H × List MemPlace} (ht : P.underlying t = some (.slice e)) (hC : P.cellsOf e = k) (hpos : 0 < k)
    (hf : DataW.trod enc P w 0 (fun _ => true) true mm t [v] = some y) :
    ∃ (len : Nat) (R : Nat → Nat → Value) (Bf : Nat → Nat), Rows w v len k R ∧ ((List.range len).map Bf).sum + 1 ≤ Rows.uptoBulk y.1 ∧ len + 1 ≤ Rows.uptoBulk y.1 ∧ len ≤ maxLen ∧
      ∀ i, i < len → ∃ m y, DataW.trod enc P w 0 (fun _ => true) true m e ((List.range k).map (R i)) = some y ∧ Rows.uptoBulk y.1 = Bf i := by
  rcases Go.Deep.open_slice ht hf with ⟨hcs, _⟩ | ⟨x, len, cap, m, n, D, Pl, hcs, _, hl, hm, hmm, hy, hi⟩
  · obtain rfl : v = .slice none 0 0 := by simpa using hcs
    exact ⟨0, fun _ _ => .bool false, fun _ => 0, ⟨none, 0, rfl, Nat.le_refl _, .inl rfl⟩, by simpa using bulk_one y.1, by simpa using bulk_one y.1, Nat.zero_le _, fun i hi => absurd hi (Nat.not_lt_zero _)⟩
  · obtain rfl : v = .slice (some x) len cap := by simpa using hcs
    simp only [if_true] at hmm
    have hb : ((List.range len).map (fun i => Rows.uptoBulk (D i))).sum + 1 ≤ Rows.uptoBulk y.1 := by
      rw [hy]
      simp only [Rows.uptoBulk]
      rw [bulkAll_sum, List.map_map]
      have : (Rows.uptoBulk ∘ D) = fun i => Rows.uptoBulk (D i) := rfl
      rw [this]
      omega
    have hlb : len + 1 ≤ Rows.uptoBulk y.1 := by
      have := sum_ge_len len (fun i => Rows.uptoBulk (D i)) (fun i _ => bulk_one _)
      omega
    have each : ∀ i, i < len → ∃ cs' : List Value, cs'.length = k ∧ (∀ j (h : j < cs'.length), w.cell? ((x.add (i * k)).add j) = some cs'[j]) ∧
        ∃ m y, DataW.trod enc P w 0 (fun _ => true) true m e cs' = some y ∧ Rows.uptoBulk y.1 = Rows.uptoBulk (D i) := by
      intro i hil
      obtain ⟨cs', hc, ht'⟩ := hi i (by omega)
      rw [hC] at hc
      obtain ⟨_, hcl, hat⟩ := World.cells?_some hc
      exact ⟨cs', hcl, fun j hj => by rw [hat j (by omega), List.getElem?_eq_getElem hj], n, _, ht', rfl⟩
    by_cases h0 : len = 0
    · subst h0
      exact ⟨0, fun _ _ => .bool false, fun _ => 0, ⟨_, _, rfl, by omega, .inl rfl⟩, by simpa using bulk_one y.1, by simpa using bulk_one y.1, Nat.zero_le _, fun i hi => absurd hi (Nat.not_lt_zero _)⟩
    · obtain ⟨b, off, sp⟩ := x
      have hsp : sp = none ∧ b < w.heap.size := by
        obtain ⟨cs', hl', hcell, _⟩ := each 0 (by omega)
        have h1 := hcell 0 (by omega)
        have h2 : sp = none := by simpa [Addr.add] using World.cell?_spot h1
        subst h2
        rw [addr_add, addr_add] at h1
        exact ⟨rfl, cell_block_lt h1⟩
      obtain ⟨rfl, hlt⟩ := hsp
      obtain ⟨C, hC'⟩ := Go.Deep.choose_lt each
      refine ⟨len, fun i j => (C i).getD j (.bool false), fun i => Rows.uptoBulk (D i), ⟨_, _, rfl, hl, .inr ⟨b, off, rfl, hlt, fun i hil j hj => ?_⟩⟩, hb, hlb, by omega, fun i hil => ?_⟩
      · obtain ⟨h1, h2, _⟩ := hC' i hil
        have h3 := h2 j (by omega)
        rw [addr_add, addr_add] at h3
        rw [h3]
        simp [List.getD, List.getElem?_eq_getElem (show j < (C i).length by omega)]
      · obtain ⟨h1, _, m', y', h4, h5⟩ := hC' i hil
        have e : (List.range k).map (fun j => (C i).getD j (.bool false)) = C i := by
          apply List.ext_getElem
          · simp [h1]
          · intro j hj1 hj2
            simp [List.getD, List.getElem?_eq_getElem hj2]
        rw [e]
        exact ⟨m', y', h4, h5⟩
theorem cell_bytesB {t e : TypeId} {m : Nat} {v : Value} {y : DataW H × List MemPlace} (ht : P.underlying t = some (.slice e)) (he : P.underlying e = some (.int .u8)) (hc : P.cellsOf e = 1)
    (h : DataW.trod enc P w 0 (fun _ => true) true m t [v] = some y) : ∃ l : List UInt8, Sl w v (bytes l) ∧ l.length + 1 ≤ Rows.uptoBulk y.1 := by
  obtain ⟨l, hl, _⟩ := cell_bytes ht he hc h
  refine ⟨l, hl, ?_⟩
  obtain ⟨len, R, Bf, ⟨a, cap, e1, _⟩, _, h3, _⟩ := cell_rowsKB ht hc (by decide) h
  obtain ⟨a', cap', e2, _⟩ := hl.bytes
  rw [e1] at e2
  injection e2 with _ e2 _
  omega
theorem nums_of_wf (zs : List Int) (h : ∀ z ∈ zs, 0 ≤ z ∧ z < 2 ^ 64) : zs.map (Value.int .u64) = nums (zs.map Int.toNat) := by
  unfold nums
  rw [List.map_map]
  refine List.map_congr_left fun z hz => ?_
  have := h z hz
  simp only [Function.comp, num64]
  congr 1
  omega
theorem cell_numsB {t e : TypeId} {m : Nat} {v : Value} {y : DataW H × List MemPlace} (ht : P.underlying t = some (.slice e)) (he : P.underlying e = some (.int .u64)) (hc : P.cellsOf e = 1)
    (h : DataW.trod enc P w 0 (fun _ => true) true m t [v] = some y) : ∃ l : List Nat, Sl w v (nums l) ∧ l.length + 1 ≤ Rows.uptoBulk y.1 ∧ ∀ k ∈ l, k < 2 ^ 64 := by
  obtain ⟨zs, h1, h2, h3⟩ := cell_nums64 ht he hc h
  refine ⟨zs.map Int.toNat, by rw [← nums_of_wf zs h3]; exact h1, ?_, fun k hk => ?_⟩
  · obtain ⟨len, R, Bf, ⟨a, cap, e1, _⟩, _, h4, _⟩ := cell_rowsKB ht hc (by decide) h
    obtain ⟨a', cap', e2, _⟩ := h1
    rw [e1] at e2
    injection e2 with _ e2 _
    simp at e2
    rw [List.length_map]; omega
  · obtain ⟨z, hz, rfl⟩ := List.mem_map.1 hk
    have := h3 z hz
    omega
theorem cell_stringB {t : TypeId} {m : Nat} {v : Value} {y : DataW H × List MemPlace} (ht : P.underlying t = some .string) (h : DataW.trod enc P w 0 (fun _ => true) true m t [v] = some y) : ∃ l : List UInt8, v = .string ⟨l.toArray⟩ ∧ l.length + 1 ≤ Rows.uptoBulk y.1 := by
  obtain ⟨s, hs, hy, hl⟩ := DataW.trod_string ht h
  refine ⟨s.data.toList, by rw [(List.cons.inj hs).1], ?_⟩
  rw [hy]
  simp [Rows.uptoBulk]
theorem cell_boolB {t : TypeId} {m : Nat} {v : Value} {y : DataW H × List MemPlace} (ht : P.underlying t = some .bool) (h : DataW.trod enc P w 0 (fun _ => true) true m t [v] = some y) : ∃ b : Bool, v = .bool b := by
  obtain ⟨b, hb, _⟩ := DataW.trod_bool ht h
  exact ⟨b, by simpa using hb⟩
theorem bulk_agg3 {a b c : DataW H} : Rows.uptoBulk (.agg [a, b, c]) = Rows.uptoBulk a + Rows.uptoBulk b + Rows.uptoBulk c + 1 := by simp [Rows.uptoBulk, Rows.uptoBulkAll]; omega
theorem bulk_agg7 {a b c d e f g : DataW H} : Rows.uptoBulk (.agg [a, b, c, d, e, f, g]) = Rows.uptoBulk a + Rows.uptoBulk b + Rows.uptoBulk c + Rows.uptoBulk d + Rows.uptoBulk e + Rows.uptoBulk f + Rows.uptoBulk g + 1 := by simp [Rows.uptoBulk, Rows.uptoBulkAll]; omega
theorem len3 {α : Type} {l : List α} (h : l.length = 3) : ∃ a b c, l = [a, b, c] := by
  match l, h with
  | [a, b, c], _ => exact ⟨a, b, c, rfl⟩
theorem len7 {α : Type} {l : List α} (h : l.length = 7) : ∃ a b c d e f g, l = [a, b, c, d, e, f, g] := by
  match l, h with
  | [a, b, c, d, e, f, g], _ => exact ⟨a, b, c, d, e, f, g, rfl⟩
theorem len8 {α : Type} {l : List α} (h : l.length = 8) : ∃ a b c d e f g i, l = [a, b, c, d, e, f, g, i] := by
  match l, h with
  | [a, b, c, d, e, f, g, i], _ => exact ⟨a, b, c, d, e, f, g, i, rfl⟩
theorem len10 {α : Type} {l : List α} (h : l.length = 10) : ∃ a b c d e f g i j k, l = [a, b, c, d, e, f, g, i, j, k] := by
  match l, h with
  | [a, b, c, d, e, f, g, i, j, k], _ => exact ⟨a, b, c, d, e, f, g, i, j, k, rfl⟩
theorem nat32 {n : Nat} (h : (n : Int) < 2 ^ 32) : n < 2 ^ 32 := by omega
end
end Go.Proofs.Ytgilijkmmcpfjaa
