/-
  Entries, operations, items as arguments of a bounded bulk: what they read as, and how much there is of them.
  Entries as arguments of a bounded bulk: what they read as, and how much there is of them.
-/
import Derived.Test.YtpcpijecibiibaaGreatZCells
import Derived.Test.YtpcpijecibiibaaGreatZEnRow
import Derived.Test.YtpcpijecibiibaaGreatZRSame
section
set_option linter.unusedVariables false
namespace Go.Proofs.YtpcpijecibiibaaGreat
open Go.RowKit
section
open Go.ChangeShapes Go.WideShapes Go.ChangeAt Go.Deep
variable {H : Type} {enc : TypeId × Value → H} {P : Program} {w : World}
theorem bulk_one (d : DataW H) : 1 ≤ Rows.uptoBulk d := by
  cases d with
  | lit l => cases l <;> simp [Rows.uptoBulk]
  | nil => simp [Rows.uptoBulk]
  | ptr d => simp [Rows.uptoBulk]
  | slice elems spare => simp [Rows.uptoBulk]
  | agg parts => simp [Rows.uptoBulk]
  | iface t d => simp [Rows.uptoBulk]
  | map entries => simp [Rows.uptoBulk]
  | held h => simp [Rows.uptoBulk]
theorem bulkAll_sum : ∀ l : List (DataW H), Rows.uptoBulkAll l = (l.map Rows.uptoBulk).sum
  | [] => by simp [Rows.uptoBulkAll]
  | d :: l => by simp [Rows.uptoBulkAll, bulkAll_sum l]
theorem sum_ge_len : ∀ (n : Nat) (f : Nat → Nat), (∀ i, i < n → 1 ≤ f i) → n ≤ ((List.range n).map f).sum
  | 0, f, _ => Nat.zero_le _
  | n + 1, f, h => by
    have := sum_ge_len n f (fun i hi => h i (by omega))
    have := h n (by omega)
    rw [List.range_succ, List.map_append, List.sum_append]; simp; omega
/-- All fields of what reads as a struct. -/
theorem trod_all {t : TypeId} {fs : Array Field} {m : Nat} {cs : List Value} {y : DataW H × List MemPlace} (ht : P.underlying t = some (.struct fs)) (h : DataW.trod enc P w 0 (fun _ => true) true m t cs = some y) :
    ∃ ys : List (DataW H), y.1 = .agg ys ∧ ys.length = fs.size ∧ ∀ (j : Nat) (f : Field), fs[j]? = some f → ∃ m y', DataW.trod enc P w 0 (fun _ => true) true m f.type ((cs.drop f.offset).take (P.cellsOf f.type)) = some y' ∧ ys[j]? = some y'.1 := by
  obtain ⟨ys, n', hn', hy, hlen, hyl, hff⟩ := DataW.trod_struct ht h
  refine ⟨ys.map (·.1), by rw [hy], by simp [hyl], fun j f hj => ?_⟩
  have hjl : j < fs.size := (Array.getElem?_eq_some_iff.1 hj).1
  have h1 := hff j f hj
  rw [List.getElem?_eq_getElem (by omega)] at h1
  exact ⟨n', _, h1, by rw [List.getElem?_map, List.getElem?_eq_getElem (by omega)]; rfl⟩
/-- A cell that reads as a slice of elements of k cells, with the bulk of each. -/
theorem cell_rowsKB {t e : TypeId} {k mm : Nat} {v : Value} {y : DataW H × List MemPlace} (ht : P.underlying t = some (.slice e)) (hC : P.cellsOf e = k) (hpos : 0 < k)
    (hf : DataW.trod enc P w 0 (fun _ => true) true mm t [v] = some y) :
    ∃ (len : Nat) (R : Nat → Nat → Value) (Bf : Nat → Nat), Rows w v len k R ∧ ((List.range len).map Bf).sum + 1 ≤ Rows.uptoBulk y.1 ∧ len + 1 ≤ Rows.uptoBulk y.1 ∧ len ≤ maxLen ∧
      ∀ i, i < len → ∃ m y, DataW.trod enc P w 0 (fun _ => true) true m e ((List.range k).map (R i)) = some y ∧ Rows.uptoBulk y.1 = Bf i := by
  rcases Go.Deep.open_slice ht hf with ⟨hcs, _⟩ | ⟨x, len, cap, m, n, D, Pl, hcs, _, hl, hm, hmm, hy, hi⟩
  · obtain rfl : v = .slice none 0 0 := by simpa using hcs
    exact ⟨0, fun _ _ => .bool false, fun _ => 0, ⟨none, 0, rfl, Nat.le_refl _, .inl rfl⟩, by simpa using bulk_one y.1, by simpa using bulk_one y.1, Nat.zero_le _, fun i hi => absurd hi (Nat.not_lt_zero _)⟩
  · obtain rfl : v = .slice (some x) len cap := by simpa using hcs
    simp only [if_true] at hmm
    have hb : ((List.range len).map (fun i => Rows.uptoBulk (D i))).sum + 1 ≤ Rows.uptoBulk y.1 := by
      rw [hy]
      simp only [Rows.uptoBulk]
      rw [bulkAll_sum, List.map_map]
      have : (Rows.uptoBulk ∘ D) = fun i => Rows.uptoBulk (D i) := rfl
      rw [this]
      omega
    have hlb : len + 1 ≤ Rows.uptoBulk y.1 := by
      have := sum_ge_len len (fun i => Rows.uptoBulk (D i)) (fun i _ => bulk_one _)
      omega
    have each : ∀ i, i < len → ∃ cs' : List Value, cs'.length = k ∧ (∀ j (h : j < cs'.length), w.cell? ((x.add (i * k)).add j) = some cs'[j]) ∧
        ∃ m y, DataW.trod enc P w 0 (fun _ => true) true m e cs' = some y ∧ Rows.uptoBulk y.1 = Rows.uptoBulk (D i) := by
      intro i hil
      obtain ⟨cs', hc, ht'⟩ := hi i (by omega)
      rw [hC] at hc
      obtain ⟨_, hcl, hat⟩ := World.cells?_some hc
      exact ⟨cs', hcl, fun j hj => by rw [hat j (by omega), List.getElem?_eq_getElem hj], n, _, ht', rfl⟩
    by_cases h0 : len = 0
    · subst h0
      exact ⟨0, fun _ _ => .bool false, fun _ => 0, ⟨_, _, rfl, by omega, .inl rfl⟩, by simpa using bulk_one y.1, by simpa using bulk_one y.1, Nat.zero_le _, fun i hi => absurd hi (Nat.not_lt_zero _)⟩
    · obtain ⟨b, off, sp⟩ := x
      have hsp : sp = none ∧ b < w.heap.size := by
        obtain ⟨cs', hl', hcell, _⟩ := each 0 (by omega)
        have h1 := hcell 0 (by omega)
        have h2 : sp = none := by simpa [Addr.add] using World.cell?_spot h1
        subst h2
        rw [addr_add, addr_add] at h1
        exact ⟨rfl, cell_block_lt h1⟩
      obtain ⟨rfl, hlt⟩ := hsp
      obtain ⟨C, hC'⟩ := Go.Deep.choose_lt each
      refine ⟨len, fun i j => (C i).getD j (.bool false), fun i => Rows.uptoBulk (D i), ⟨_, _, rfl, hl, .inr ⟨b, off, rfl, hlt, fun i hil j hj => ?_⟩⟩, hb, hlb, by omega, fun i hil => ?_⟩
      · obtain ⟨h1, h2, _⟩ := hC' i hil
        have h3 := h2 j (by omega)
        rw [addr_add, addr_add] at h3
        rw [h3]
        simp [List.getD, List.getElem?_eq_getElem (show j < (C i).length by omega)]
      · obtain ⟨h1, _, m', y', h4, h5⟩ := hC' i hil
        have e : (List.range k).map (fun j => (C i).getD j (.bool false)) = C i := by
          apply List.ext_getElem
          · simp [h1]
          · intro j hj1 hj2
            simp [List.getD, List.getElem?_eq_getElem hj2]
        rw [e]
        exact ⟨m', y', h4, h5⟩
theorem cell_bytesB {t e : TypeId} {m : Nat} {v : Value} {y : DataW H × List MemPlace} (ht : P.underlying t = some (.slice e)) (he : P.underlying e = some (.int .u8)) (hc : P.cellsOf e = 1)
    (h : DataW.trod enc P w 0 (fun _ => true) true m t [v] = some y) : ∃ l : List UInt8, Sl w v (bytes l) ∧ l.length + 1 ≤ Rows.uptoBulk y.1 := by
  obtain ⟨l, hl, _⟩ := cell_bytes ht he hc h
  refine ⟨l, hl, ?_⟩
  obtain ⟨len, R, Bf, ⟨a, cap, e1, _⟩, _, h3, _⟩ := cell_rowsKB ht hc (by decide) h
  obtain ⟨a', cap', e2, _⟩ := hl.bytes
  rw [e1] at e2
  injection e2 with _ e2 _
  omega
theorem nums_of_wf (zs : List Int) (h : ∀ z ∈ zs, 0 ≤ z ∧ z < 2 ^ 64) : zs.map (Value.int .u64) = nums (zs.map Int.toNat) := by
  unfold nums
  rw [List.map_map]
  refine List.map_congr_left fun z hz => ?_
  have := h z hz
  simp only [Function.comp, num64]
  congr 1
  omega
theorem cell_numsB {t e : TypeId} {m : Nat} {v : Value} {y : DataW H × List MemPlace} (ht : P.underlying t = some (.slice e)) (he : P.underlying e = some (.int .u64)) (hc : P.cellsOf e = 1)
    (h : DataW.trod enc P w 0 (fun _ => true) true m t [v] = some y) : ∃ l : List Nat, Sl w v (nums l) ∧ l.length + 1 ≤ Rows.uptoBulk y.1 ∧ ∀ k ∈ l, k < 2 ^ 64 := by
  obtain ⟨zs, h1, h2, h3⟩ := cell_nums64 ht he hc h
  refine ⟨zs.map Int.toNat, by rw [← nums_of_wf zs h3]; exact h1, ?_, fun k hk => ?_⟩
  · obtain ⟨len, R, Bf, ⟨a, cap, e1, _⟩, _, h4, _⟩ := cell_rowsKB ht hc (by decide) h
    obtain ⟨a', cap', e2, _⟩ := h1
    rw [e1] at e2
    injection e2 with _ e2 _
    simp at e2
    rw [List.length_map]; omega
  · obtain ⟨z, hz, rfl⟩ := List.mem_map.1 hk
    have := h3 z hz
    omega
theorem cell_stringB {t : TypeId} {m : Nat} {v : Value} {y : DataW H × List MemPlace} (ht : P.underlying t = some .string) (h : DataW.trod enc P w 0 (fun _ => true) true m t [v] = some y) : ∃ l : List UInt8, v = .string ⟨l.toArray⟩ ∧ l.length + 1 ≤ Rows.uptoBulk y.1 := by
  obtain ⟨s, hs, hy, hl⟩ := DataW.trod_string ht h
  refine ⟨s.data.toList, by rw [(List.cons.inj hs).1], ?_⟩
  rw [hy]
  simp [Rows.uptoBulk]
theorem cell_boolB {t : TypeId} {m : Nat} {v : Value} {y : DataW H × List MemPlace} (ht : P.underlying t = some .bool) (h : DataW.trod enc P w 0 (fun _ => true) true m t [v] = some y) : ∃ b : Bool, v = .bool b := by
  obtain ⟨b, hb, _⟩ := DataW.trod_bool ht h
  exact ⟨b, by simpa using hb⟩
theorem bulk_agg3 {a b c : DataW H} : Rows.uptoBulk (.agg [a, b, c]) = Rows.uptoBulk a + Rows.uptoBulk b + Rows.uptoBulk c + 1 := by simp [Rows.uptoBulk, Rows.uptoBulkAll]; omega
theorem bulk_agg7 {a b c d e f g : DataW H} : Rows.uptoBulk (.agg [a, b, c, d, e, f, g]) = Rows.uptoBulk a + Rows.uptoBulk b + Rows.uptoBulk c + Rows.uptoBulk d + Rows.uptoBulk e + Rows.uptoBulk f + Rows.uptoBulk g + 1 := by simp [Rows.uptoBulk, Rows.uptoBulkAll]; omega
theorem len3 {α : Type} {l : List α} (h : l.length = 3) : ∃ a b c, l = [a, b, c] := by
  match l, h with
  | [a, b, c], _ => exact ⟨a, b, c, rfl⟩
theorem len7 {α : Type} {l : List α} (h : l.length = 7) : ∃ a b c d e f g, l = [a, b, c, d, e, f, g] := by
  match l, h with
  | [a, b, c, d, e, f, g], _ => exact ⟨a, b, c, d, e, f, g, rfl⟩
theorem len8 {α : Type} {l : List α} (h : l.length = 8) : ∃ a b c d e f g i, l = [a, b, c, d, e, f, g, i] := by
  match l, h with
  | [a, b, c, d, e, f, g, i], _ => exact ⟨a, b, c, d, e, f, g, i, rfl⟩
theorem len10 {α : Type} {l : List α} (h : l.length = 10) : ∃ a b c d e f g i j k, l = [a, b, c, d, e, f, g, i, j, k] := by
  match l, h with
  | [a, b, c, d, e, f, g, i, j, k], _ => exact ⟨a, b, c, d, e, f, g, i, j, k, rfl⟩
theorem nat32 {n : Nat} (h : (n : Int) < 2 ^ 32) : n < 2 ^ 32 := by omega
end
end Go.Proofs.YtpcpijecibiibaaGreat
end
section
set_option linter.unusedVariables false
set_option linter.unusedSimpArgs false
set_option maxRecDepth 100000
namespace Go.Proofs.YtpcpijecibiibaaGreat
open Go.RowKit
section
open Go.ChangeShapes Go.WideShapes Go.ChangeAt Go.Deep
variable {H : Type} {enc : TypeId × Value → H} {w : World}
theorem some_in {α : Type} {a b : α} (h : some a = some b) : b = a := by injection h with h; exact h.symm
/-- Eleven cells of an effect. -/
theorem cell_eff {m : Nat} {c : Nat → Value} {y : DataW H × List MemPlace} (h : DataW.trod enc Tryz.prog w 0 (fun _ => true) true m 147 ((List.range 11).map c) = some y) :
    ∃ x : EffD, EffOk x ∧ effW x ≤ 66 * Rows.uptoBulk y.1 ∧ Sl w (c 2) (bytes x.node.data) ∧ ∀ j u, (effCells x (c 2))[j]? = some u → c j = u := by
  obtain ⟨ys, hy, hl, hf⟩ := trod_all Tryz.underlying147 h
  obtain ⟨a, b, d, rfl⟩ := len3 hl
  obtain ⟨m0, y0, g0, q0⟩ := hf 0 _ rfl
  obtain ⟨m1, y1, g1, q1⟩ := hf 1 _ rfl
  obtain ⟨m2, y2, g2, q2⟩ := hf 2 _ rfl
  have g2' : DataW.trod enc Tryz.prog w 0 (fun _ => true) true m2 145 [c 2, c 3, c 4, c 5, c 6, c 7, c 8, c 9, c 10] = some y2 := g2
  obtain ⟨zs, hz, hzl, hzf⟩ := trod_all Tryz.underlying145 g2'
  obtain ⟨k0, z0, f0, p0⟩ := hzf 0 _ rfl
  obtain ⟨k1, z1, f1, -⟩ := hzf 1 _ rfl
  obtain ⟨k2, z2, f2, -⟩ := hzf 2 _ rfl
  obtain ⟨k3, z3, f3, -⟩ := hzf 3 _ rfl
  obtain ⟨k4, z4, f4, -⟩ := hzf 4 _ rfl
  obtain ⟨k5, z5, f5, -⟩ := hzf 5 _ rfl
  obtain ⟨k6, z6, f6, -⟩ := hzf 6 _ rfl
  obtain ⟨k7, z7, f7, -⟩ := hzf 7 _ rfl
  have f4' : DataW.trod enc Tryz.prog w 0 (fun _ => true) true k4 35 [c 6, c 7] = some z4 := f4
  obtain ⟨i0, x0, o0⟩ := trod_at Tryz.underlying35 f4' 0 _ rfl
  obtain ⟨i1, x1, o1⟩ := trod_at Tryz.underlying35 f4' 1 _ rfl
  obtain ⟨p, hp, hpl⟩ := cell_stringB (v := c 0) Tryz.underlying9 g0
  obtain ⟨bo, hb⟩ := cell_boolB (v := c 1) Tryz.underlying4 g1
  obtain ⟨l, hsl, hll⟩ := cell_bytesB (v := c 2) Tryz.underlying31 Tryz.underlying5 (by kernel_rfl) f0
  obtain ⟨n1, e1, b1⟩ := cell_nat (v := c 3) (k := .u32) rfl Tryz.underlying33 f1
  obtain ⟨n2, e2, b2⟩ := cell_nat (v := c 4) (k := .u32) rfl Tryz.underlying33 f2
  obtain ⟨n3, e3, b3⟩ := cell_nat (v := c 5) (k := .u32) rfl Tryz.underlying33 f3
  obtain ⟨n5, e5, b5⟩ := cell_nat (v := c 8) (k := .u64) rfl Tryz.underlying39 f5
  obtain ⟨n6, e6, b6⟩ := cell_nat (v := c 9) (k := .u64) rfl Tryz.underlying39 f6
  obtain ⟨n7, e7, b7⟩ := cell_nat (v := c 10) (k := .u64) rfl Tryz.underlying39 f7
  obtain ⟨s0, d0, r0⟩ := cell_int (v := c 6) Tryz.underlying3 o0
  obtain ⟨s1, d1, r1⟩ := cell_nat (v := c 7) (k := .u32) rfl Tryz.underlying33 o1
  have B1 : Rows.uptoBulk y0.1 + Rows.uptoBulk y2.1 + 1 ≤ Rows.uptoBulk y.1 := by
    rw [hy, bulk_agg3]
    have h0 : a = y0.1 := by simpa using q0
    have h2 : d = y2.1 := by simpa using q2
    rw [h0, h2]; omega
  have B2 : Rows.uptoBulk z0.1 + 1 ≤ Rows.uptoBulk y2.1 := by
    rw [hz]
    simp only [Rows.uptoBulk]
    have hm : z0.1 ∈ zs := List.mem_of_getElem? p0
    clear hzf hz p0
    induction zs with
    | nil => cases hm
    | cons z zs ih =>
      have hsz : ∀ (l : List (DataW H)) (x : DataW H), x ∈ l → Rows.uptoBulk x ≤ Rows.uptoBulkAll l := by
        intro l
        induction l with
        | nil => intro x hx; cases hx
        | cons u l ih => intro x hx; simp only [Rows.uptoBulkAll]; rcases List.mem_cons.1 hx with rfl | hx; omega; have := ih x hx; omega
      have := hsz _ _ hm
      omega
  refine ⟨⟨p, bo, ⟨l, n1, n2, n3, s0, s1, n5, n6, n7⟩⟩, ⟨b1, b2, b3, r0, r1, b5, b6, b7⟩, ?_, hsl, fun j u hu => ?_⟩
  · unfold effW; simp only; omega
  · match j, hu with
    | 0, hu => rw [hp]; simpa [effCells, nodeCells] using hu
    | 1, hu => rw [hb]; simpa [effCells, nodeCells] using hu
    | 2, hu => simpa [effCells, nodeCells] using hu
    | 3, hu => rw [e1]; simpa [effCells, nodeCells] using hu
    | 4, hu => rw [e2]; simpa [effCells, nodeCells] using hu
    | 5, hu => rw [e3]; simpa [effCells, nodeCells] using hu
    | 6, hu => rw [d0]; simpa [effCells, nodeCells] using hu
    | 7, hu => rw [d1]; simpa [effCells, nodeCells] using hu
    | 8, hu => rw [e5]; simpa [effCells, nodeCells] using hu
    | 9, hu => rw [e6]; simpa [effCells, nodeCells] using hu
    | 10, hu => rw [e7]; simpa [effCells, nodeCells] using hu
    | j + 11, hu => simp [effCells, nodeCells] at hu
theorem effs_sum (X : Nat → EffD) (Bf : Nat → Nat) : ∀ n, (∀ i, i < n → effW (X i) ≤ 66 * Bf i) → (((List.range n).map X).flatMap effB).length ≤ 66 * ((List.range n).map Bf).sum
  | 0, _ => by simp
  | n + 1, h => by
    have h1 := effs_sum X Bf n (fun i hi => h i (by omega))
    have h2 := h n (by omega)
    have h3 : (effB (X n)).length ≤ effW (X n) := by rw [effB_length]; unfold effW; split <;> omega
    rw [List.range_succ, List.map_append, List.map_append, List.flatMap_append, List.sum_append, List.length_append]
    simp only [List.map_cons, List.map_nil, List.flatMap_cons, List.flatMap_nil, List.append_nil, List.sum_cons, List.sum_nil]
    omega
theorem le_sum (Bf : Nat → Nat) (n i : Nat) (hi : i < n) : Bf i ≤ ((List.range n).map Bf).sum := by
  induction n with
  | zero => omega
  | succ n ih =>
    rw [List.range_succ, List.map_append, List.sum_append]
    simp only [List.map_cons, List.map_nil, List.sum_cons, List.sum_nil]
    by_cases h : i < n
    · have := ih h; omega
    · obtain rfl : i = n := by omega
      omega
theorem cell_effs {m : Nat} {v : Value} {y : DataW H × List MemPlace} (h : DataW.trod enc Tryz.prog w 0 (fun _ => true) true m 40 [v] = some y) :
    ∃ es : List EffD, EffsP Any w v es ∧ (∀ e ∈ es, EffOk e) ∧ (es.flatMap effB).length ≤ 66 * Rows.uptoBulk y.1 ∧ (∀ e ∈ es, effW e ≤ 66 * Rows.uptoBulk y.1) ∧ es.length ≤ Rows.uptoBulk y.1 := by
  obtain ⟨len, R, Bf, hR, hs, hlb, hl, hc⟩ := cell_rowsKB (k := 11) Tryz.underlying40 (by kernel_rfl) (by decide) h
  have each : ∀ i, i < len → ∃ x : EffD, EffOk x ∧ effW x ≤ 66 * Bf i ∧ Sl w (R i 2) (bytes x.node.data) ∧ ∀ j u, (effCells x (R i 2))[j]? = some u → R i j = u := fun i hi => by
    obtain ⟨m', y', h', hb⟩ := hc i hi
    obtain ⟨x, h1, h2, h3, h4⟩ := cell_eff h'
    exact ⟨x, h1, by rw [← hb]; exact h2, h3, h4⟩
  obtain ⟨X, hX⟩ := Go.Deep.choose_lt each
  have hlen : ((List.range len).map X).length = len := by simp
  refine ⟨(List.range len).map X, ⟨R, ⟨by rw [hlen]; exact hR, .inr fun _ _ => trivial⟩, fun i hi => ?_⟩, fun e he => ?_, ?_, fun e he => ?_, by omega⟩
  · have hi' : i < len := by simpa using hi
    obtain ⟨_, _, h3, h4⟩ := hX i hi'
    exact ⟨R i 2, ⟨by simpa using h3, .inr fun _ _ => trivial⟩, by simpa using h4⟩
  · obtain ⟨i, hi, rfl⟩ := List.mem_map.1 he
    exact (hX i (by simpa using hi)).1
  · have := effs_sum X Bf len (fun i hi => (hX i hi).2.1)
    omega
  · obtain ⟨i, hi, rfl⟩ := List.mem_map.1 he
    have hi' : i < len := by simpa using hi
    have := (hX i hi').2.1
    have := le_sum Bf len i hi'
    omega
/-- How much there is of an item. -/
structure ItemBulk (x : ItemD) (B : Nat) : Prop where
  all : (itemB x).length ≤ 66 * B
  effs : ∀ e ∈ x.effs, effW e ≤ 66 * B
  elen : x.effs.length ≤ B
  slen : x.stamp.length ≤ B
theorem cell_item {m : Nat} {c : Nat → Value} {y : DataW H × List MemPlace} (h : DataW.trod enc Tryz.prog w 0 (fun _ => true) true m 42 ((List.range 7).map c) = some y) :
    ∃ x : ItemD, ItemOk x ∧ ItemP Any w x (c 4) (c 5) ∧ ItemBulk x (Rows.uptoBulk y.1) ∧ ∀ j u, (itemCells x (c 4) (c 5))[j]? = some u → c j = u := by
  obtain ⟨ys, hy, hl, hf⟩ := trod_all Tryz.underlying42 h
  obtain ⟨a0, a1, a2, a3, a4, a5, a6, rfl⟩ := len7 hl
  obtain ⟨m0, y0, g0, q0⟩ := hf 0 _ rfl
  obtain ⟨m1, y1, g1, q1⟩ := hf 1 _ rfl
  obtain ⟨m2, y2, g2, q2⟩ := hf 2 _ rfl
  obtain ⟨m3, y3, g3, q3⟩ := hf 3 _ rfl
  obtain ⟨m4, y4, g4, q4⟩ := hf 4 _ rfl
  obtain ⟨m5, y5, g5, q5⟩ := hf 5 _ rfl
  obtain ⟨m6, y6, g6, q6⟩ := hf 6 _ rfl
  obtain ⟨o, e0, l0⟩ := cell_int (v := c 0) Tryz.underlying3 g0
  obtain ⟨s, e1, l1⟩ := cell_nat (v := c 1) (k := .u64) rfl Tryz.underlying39 g1
  obtain ⟨r, e2, l2⟩ := cell_int (v := c 2) Tryz.underlying3 g2
  obtain ⟨p, e3, l3⟩ := cell_nat (v := c 3) (k := .u64) rfl Tryz.underlying39 g3
  obtain ⟨t, s4, l4, l4'⟩ := cell_numsB (v := c 4) Tryz.underlying26 Tryz.underlying39 (by kernel_rfl) g4
  obtain ⟨es, s5, l5, n5, w5, k5⟩ := cell_effs (v := c 5) g5
  obtain ⟨k, e6, l6⟩ := cell_nat (v := c 6) (k := .u32) rfl Tryz.underlying33 g6
  have hb : Rows.uptoBulk y4.1 + Rows.uptoBulk y5.1 + 6 ≤ Rows.uptoBulk y.1 := by
    rw [hy, bulk_agg7]
    have h4 : a4 = y4.1 := by simpa using q4
    have h5 : a5 = y5.1 := by simpa using q5
    have := bulk_one a0; have := bulk_one a1; have := bulk_one a2; have := bulk_one a3; have := bulk_one a6
    rw [h4, h5]; omega
  refine ⟨⟨o, s, r, p, t, es, k⟩, ⟨l0, l1, l2, l3, l4', l5, l6⟩, ⟨⟨s4, .inr fun _ _ => trivial⟩, s5⟩, ⟨?_, fun e he => ?_, by show es.length ≤ _; omega, by show t.length ≤ _; omega⟩, fun j u hu => ?_⟩
  · rw [itemB_length]; simp only; omega
  · have := w5 e he; omega
  · match j, hu with
    | 0, hu => rw [e0]; simpa [itemCells] using hu
    | 1, hu => rw [e1]; simpa [itemCells] using hu
    | 2, hu => rw [e2]; simpa [itemCells] using hu
    | 3, hu => rw [e3]; simpa [itemCells] using hu
    | 4, hu => simpa [itemCells] using hu
    | 5, hu => simpa [itemCells] using hu
    | 6, hu => rw [e6]; simpa [itemCells] using hu
    | j + 7, hu => simp [itemCells] at hu
theorem ops_sum (X : Nat → OpD) (Bf : Nat → Nat) : ∀ n, (∀ i, i < n → (opB (X i)).length ≤ 27 * Bf i) → (opsB ((List.range n).map X)).length ≤ 27 * ((List.range n).map Bf).sum
  | 0, _ => by simp [opsB_nil]
  | n + 1, h => by
    have h1 := ops_sum X Bf n (fun i hi => h i (by omega))
    have h2 := h n (by omega)
    rw [List.range_succ, List.map_append, List.map_append, opsB_append, List.sum_append, List.length_append]
    simp only [List.map_cons, List.map_nil, opsB_cons, opsB_nil, List.append_nil, List.sum_cons, List.sum_nil]
    omega
theorem cell_op : ∀ (B m : Nat) (c : Nat → Value) (y : DataW H × List MemPlace), Rows.uptoBulk y.1 ≤ B → DataW.trod enc Tryz.prog w 0 (fun _ => true) true m 38 ((List.range 7).map c) = some y →
    ∃ o : OpD, OpOk o ∧ OpP Any w o (c 2) (c 6) ∧ (opB o).length ≤ 27 * Rows.uptoBulk y.1 ∧ o.parts.length ≤ Rows.uptoBulk y.1 ∧ ∀ j u, (opCells o.h (c 2) (c 6))[j]? = some u → c j = u := by
  intro B
  induction B with
  | zero => intro m c y hB; have := bulk_one y.1; omega
  | succ B ih =>
    intro m c y hB h
    obtain ⟨ys, hy, hl, hf⟩ := trod_all Tryz.underlying38 h
    obtain ⟨a0, a1, a2, a3, a4, a5, a6, rfl⟩ := len7 hl
    obtain ⟨m0, y0, g0, q0⟩ := hf 0 _ rfl
    obtain ⟨m1, y1, g1, q1⟩ := hf 1 _ rfl
    obtain ⟨m2, y2, g2, q2⟩ := hf 2 _ rfl
    obtain ⟨m3, y3, g3, q3⟩ := hf 3 _ rfl
    obtain ⟨m4, y4, g4, q4⟩ := hf 4 _ rfl
    obtain ⟨m5, y5, g5, q5⟩ := hf 5 _ rfl
    obtain ⟨m6, y6, g6, q6⟩ := hf 6 _ rfl
    obtain ⟨kd, e0, l0⟩ := cell_nat (v := c 0) (k := .u8) rfl Tryz.underlying5 g0
    obtain ⟨pa, e1, l1⟩ := cell_stringB (v := c 1) Tryz.underlying9 g1
    obtain ⟨da, s2, l2⟩ := cell_bytesB (v := c 2) Tryz.underlying31 Tryz.underlying5 (by kernel_rfl) g2
    obtain ⟨ve, e3, l3⟩ := cell_int (v := c 3) Tryz.underlying2 g3
    obtain ⟨sq, e4⟩ := cell_boolB (v := c 4) Tryz.underlying4 g4
    obtain ⟨ep, e5⟩ := cell_boolB (v := c 5) Tryz.underlying4 g5
    obtain ⟨len, R, Bf, hR, hs, hlb, hlm, hc⟩ := cell_rowsKB (k := 7) Tryz.underlying36 (by kernel_rfl) (by decide) (show DataW.trod enc Tryz.prog w 0 (fun _ => true) true m6 36 [c 6] = some y6 from g6)
    have hb : Rows.uptoBulk y1.1 + Rows.uptoBulk y2.1 + Rows.uptoBulk y6.1 + 5 ≤ Rows.uptoBulk y.1 := by
      rw [hy, bulk_agg7]
      have h1 : a1 = y1.1 := by simpa using q1
      have h2 : a2 = y2.1 := by simpa using q2
      have h6 : a6 = y6.1 := by simpa using q6
      have := bulk_one a0; have := bulk_one a3; have := bulk_one a4; have := bulk_one a5
      rw [h1, h2, h6]; omega
    have each : ∀ i, i < len → ∃ o : OpD, OpOk o ∧ OpP Any w o (R i 2) (R i 6) ∧ (opB o).length ≤ 27 * Bf i ∧ ∀ j u, (opCells o.h (R i 2) (R i 6))[j]? = some u → R i j = u := fun i hi => by
      obtain ⟨m', y', h', hbi⟩ := hc i hi
      have h9 := le_sum Bf len i hi
      obtain ⟨o, h1, h2, h3, _, h4⟩ := ih m' (R i) y' (by rw [hbi]; omega) h'
      exact ⟨o, h1, h2, by rw [← hbi]; exact h3, h4⟩
    obtain ⟨X, hX⟩ := Go.Deep.choose_lt each
    have hlen : ((List.range len).map X).length = len := by simp
    refine ⟨.mk ⟨kd, pa, da, ve, sq, ep⟩ ((List.range len).map X), ?_, ?_, ?_, ?_, fun j u hu => ?_⟩
    · simp only [OpOk]
      exact ⟨⟨l0, l3⟩, OpsOk.of fun o ho => by obtain ⟨i, hi, rfl⟩ := List.mem_map.1 ho; exact (hX i (by simpa using hi)).1⟩
    · refine .mk _ _ _ _ R (fun i => R i 2) (fun i => R i 6) ⟨s2, .inr fun _ _ => trivial⟩ ⟨by rw [hlen]; exact hR, .inr fun _ _ => trivial⟩ (fun i hi => ?_) (fun i hi j u hu => ?_)
      · have hi' : i < len := by simpa using hi
        simpa using (hX i hi').2.1
      · have hi' : i < len := by simpa using hi
        exact (hX i hi').2.2.2 j u (by simpa using hu)
    · rw [opB_mk]
      have := ops_sum X Bf len (fun i hi => (hX i hi).2.2.1)
      simp only [List.length_append, be_length, headB_length]
      omega
    · show ((List.range len).map X).length ≤ _
      rw [hlen]; omega
    · match j, hu with
      | 0, hu => rw [e0]; simpa [opCells, OpD.h] using hu
      | 1, hu => rw [e1]; simpa [opCells, OpD.h] using hu
      | 2, hu => simpa [opCells, OpD.h] using hu
      | 3, hu => rw [e3]; simpa [opCells, OpD.h] using hu
      | 4, hu => rw [e4]; simpa [opCells, OpD.h] using hu
      | 5, hu => rw [e5]; simpa [opCells, OpD.h] using hu
      | 6, hu => simpa [opCells, OpD.h] using hu
      | j + 7, hu => simp [opCells, OpD.h] at hu
/-- How much there is of an entry. -/
structure EntBulk (x : EntD) (B : Nat) : Prop where
  op : (opB x.op).length ≤ 27 * B
  parts : x.op.parts.length ≤ B
  item : ItemBulk x.item B
  frontier : x.frontier.length ≤ B
theorem EntBulk.big {x : EntD} {B : Nat} (h : EntBulk x B) (hB : B ≤ 1048576) : EntBig x :=
  ⟨by have := h.op; omega, ⟨by have := h.item.all; omega, fun e he => by have := h.item.effs e he; omega⟩, by have := h.frontier; omega⟩
theorem cell_ent {m : Nat} {c : Nat → Value} {y : DataW H × List MemPlace} (h : DataW.trod enc Tryz.prog w 0 (fun _ => true) true m 44 ((List.range 23).map c) = some y) :
    ∃ x : EntD, EntOk x ∧ EntP Any w x ⟨c 7, c 11, c 16, c 17, c 22⟩ ∧ EntBulk x (Rows.uptoBulk y.1) ∧ ∀ j u, (entCells x ⟨c 7, c 11, c 16, c 17, c 22⟩)[j]? = some u → c j = u := by
  obtain ⟨ys, hy, hl, hf⟩ := trod_all Tryz.underlying44 h
  obtain ⟨a0, a1, a2, a3, a4, a5, a6, a7, a8, a9, rfl⟩ := len10 hl
  obtain ⟨m0, y0, g0, q0⟩ := hf 0 _ rfl
  obtain ⟨m1, y1, g1, q1⟩ := hf 1 _ rfl
  obtain ⟨m2, y2, g2, q2⟩ := hf 2 _ rfl
  obtain ⟨m3, y3, g3, q3⟩ := hf 3 _ rfl
  obtain ⟨m4, y4, g4, q4⟩ := hf 4 _ rfl
  obtain ⟨m5, y5, g5, q5⟩ := hf 5 _ rfl
  obtain ⟨m6, y6, g6, q6⟩ := hf 6 _ rfl
  obtain ⟨m7, y7, g7, q7⟩ := hf 7 _ rfl
  obtain ⟨m8, y8, g8, q8⟩ := hf 8 _ rfl
  obtain ⟨m9, y9, g9, q9⟩ := hf 9 _ rfl
  obtain ⟨kd, e0, l0⟩ := cell_nat (v := c 0) (k := .u8) rfl Tryz.underlying5 g0
  obtain ⟨cl, e1, l1⟩ := cell_nat (v := c 1) (k := .u32) rfl Tryz.underlying33 g1
  obtain ⟨rq, e2, l2⟩ := cell_nat (v := c 2) (k := .u32) rfl Tryz.underlying33 g2
  have g3' : DataW.trod enc Tryz.prog w 0 (fun _ => true) true m3 35 [c 3, c 4] = some y3 := g3
  obtain ⟨i0, x0, o0⟩ := trod_at Tryz.underlying35 g3' 0 _ rfl
  obtain ⟨i1, x1, o1⟩ := trod_at Tryz.underlying35 g3' 1 _ rfl
  obtain ⟨os, e3, l3⟩ := cell_int (v := c 3) Tryz.underlying3 o0
  obtain ⟨on, e4, l4⟩ := cell_nat (v := c 4) (k := .u32) rfl Tryz.underlying33 o1
  have g4' : DataW.trod enc Tryz.prog w 0 (fun _ => true) true m4 38 ((List.range 7).map (fun j => c (5 + j))) = some y4 := g4
  obtain ⟨o, ok4, p4, b4, n4, f4⟩ := cell_op _ _ _ _ (Nat.le_refl _) g4'
  have g5' : DataW.trod enc Tryz.prog w 0 (fun _ => true) true m5 42 ((List.range 7).map (fun j => c (12 + j))) = some y5 := g5
  obtain ⟨it, ok5, p5, b5, f5⟩ := cell_item g5'
  obtain ⟨si, e6, l6⟩ := cell_int (v := c 19) Tryz.underlying3 g6
  obtain ⟨re, e7, l7⟩ := cell_int (v := c 20) Tryz.underlying3 g7
  obtain ⟨ep, e8, l8⟩ := cell_nat (v := c 21) (k := .u64) rfl Tryz.underlying39 g8
  obtain ⟨fr, s9, b9, l9⟩ := cell_numsB (v := c 22) Tryz.underlying26 Tryz.underlying39 (by kernel_rfl) g9
  have hb : Rows.uptoBulk y4.1 + Rows.uptoBulk y5.1 + Rows.uptoBulk y9.1 ≤ Rows.uptoBulk y.1 := by
    rw [hy]
    have h4 : a4 = y4.1 := by simpa using q4
    have h5 : a5 = y5.1 := by simpa using q5
    have h9 : a9 = y9.1 := by simpa using q9
    rw [h4, h5, h9]
    simp only [Rows.uptoBulk, Rows.uptoBulkAll]; omega
  refine ⟨⟨kd, cl, rq, os, on, o, it, si, re, ep, fr⟩, ⟨l0, l1, l2, l3, l4, ok4, ok5, l6, l7, l8, l9⟩, ⟨p4, p5, ⟨s9, .inr fun _ _ => trivial⟩⟩, ⟨?_, ?_, ⟨?_, fun e he => ?_, ?_, ?_⟩, ?_⟩, fun j u hu => ?_⟩
  · have h1 : (opB o).length ≤ 27 * Rows.uptoBulk y4.1 := b4
    show (opB o).length ≤ _; omega
  · show o.parts.length ≤ _; omega
  · have := b5.all; show (itemB it).length ≤ _; omega
  · have := b5.effs e he; omega
  · have := b5.elen; show it.effs.length ≤ _; omega
  · have := b5.slen; show it.stamp.length ≤ _; omega
  · show fr.length ≤ _; omega
  · match j, hu with
    | 0, hu => rw [e0]; simpa [entCells] using hu
    | 1, hu => rw [e1]; simpa [entCells] using hu
    | 2, hu => rw [e2]; simpa [entCells] using hu
    | 3, hu => rw [e3]; simpa [entCells] using hu
    | 4, hu => rw [e4]; simpa [entCells] using hu
    | 5, hu => exact f4 0 u (by simpa [entCells, opCells] using hu)
    | 6, hu => exact f4 1 u (by simpa [entCells, opCells] using hu)
    | 7, hu => simpa [entCells] using hu
    | 8, hu => exact f4 3 u (by simpa [entCells, opCells] using hu)
    | 9, hu => exact f4 4 u (by simpa [entCells, opCells] using hu)
    | 10, hu => exact f4 5 u (by simpa [entCells, opCells] using hu)
    | 11, hu => simpa [entCells] using hu
    | 12, hu => exact f5 0 u (by simpa [entCells, itemCells] using hu)
    | 13, hu => exact f5 1 u (by simpa [entCells, itemCells] using hu)
    | 14, hu => exact f5 2 u (by simpa [entCells, itemCells] using hu)
    | 15, hu => exact f5 3 u (by simpa [entCells, itemCells] using hu)
    | 16, hu => simpa [entCells] using hu
    | 17, hu => simpa [entCells] using hu
    | 18, hu => exact f5 6 u (by simpa [entCells, itemCells] using hu)
    | 19, hu => rw [e6]; simpa [entCells] using hu
    | 20, hu => rw [e7]; simpa [entCells] using hu
    | 21, hu => rw [e8]; simpa [entCells] using hu
    | 22, hu => simpa [entCells] using hu
    | j + 23, hu => simp [entCells] at hu
/-- An argument that is an entry. -/
theorem open_ent {r : Reach} {b0 : Nat} {v : Value} {d : DataW H} {ps : List MemPlace}
    (hval : Value.okWide Tryz.prog w r b0 44 v) (hd : DataW.Trod enc Tryz.prog w 0 (fun _ => true) true 44 v d ps) :
    ∃ (x : EntD) (q : EntV), v = .agg (entCells x q).toArray ∧ EntOk x ∧ EntP Any w x q ∧ EntBulk x (Rows.uptoBulk d) := by
  have hval' := hval
  simp only [Value.okWide, Tryz.underlying44] at hval'
  obtain ⟨cs, rfl, hsz, _⟩ := hval'
  obtain ⟨fuel, h⟩ := hd
  have h23 : cs.size = 23 := by
    obtain ⟨cs', e, hs, _⟩ := open_struct Tryz.underlying44 hval ⟨fuel, h⟩
    have e2 : cs = cs' := by injection e
    subst e2
    exact hs.trans (by kernel_rfl)
  simp only [Value.cells] at h
  have e : (List.range 23).map (fun j => cs.getD j (.bool false)) = cs.toList := by
    apply List.ext_getElem
    · simp [h23]
    · intro j hj1 hj2
      have : j < cs.size := by simpa using hj2
      simp [this]
  rw [← e] at h
  obtain ⟨x, h1, h2, h3, h4⟩ := cell_ent h
  refine ⟨x, _, ?_, h1, h2, h3⟩
  congr 1
  apply Array.ext
  · simp [h23, entCells]
  · intro j hj1 hj2
    have hj3 : j < (entCells x ⟨cs.getD 7 (.bool false), cs.getD 11 (.bool false), cs.getD 16 (.bool false), cs.getD 17 (.bool false), cs.getD 22 (.bool false)⟩).length := by simpa using hj2
    have := h4 j _ (List.getElem?_eq_getElem hj3)
    simpa [hj1] using this
end
end Go.Proofs.YtpcpijecibiibaaGreat
end
