/-
  Entries as arguments of a bounded bulk: what they read as, and how much there is of them.
-/
import Derived.Test.YtgilijkmmcpfjaaZEOpen
set_option linter.unusedVariables false
set_option linter.unusedSimpArgs false
set_option maxRecDepth 100000
namespace Go.Proofs.Ytgilijkmmcpfjaa
open Go.RowKit
section
open Go.ChangeShapes Go.WideShapes Go.ChangeAt Go.Deep
variable {H : Type} {enc : TypeId × Value → H} {w : World}
theorem some_in {α : Type} {a b : α} (h : some a = some b) : b = a := by injection h with h; exact h.symm
/-- Eleven cells of an effect. -/
theorem cell_eff {m : Nat} {c : Nat → Value} {y : DataW H × List MemPlace} (h : DataW.trod enc Try.prog w 0 (fun _ => true) true m 43 ((List.range 11).map c) = some y) :
    ∃ x : EffD, EffOk x ∧ effW x ≤ 66 * Rows.uptoBulk y.1 ∧ Sl w (c 2) (bytes x.node.data) ∧ ∀ j u, (effCells x (c 2))[j]? = some u → c j = u := by
  obtain ⟨ys, hy, hl, hf⟩ := trod_all Try.underlying43 h
  obtain ⟨a, b, d, rfl⟩ := len3 hl
  obtain ⟨m0, y0, g0, q0⟩ := hf 0 _ rfl
  obtain ⟨m1, y1, g1, q1⟩ := hf 1 _ rfl
  obtain ⟨m2, y2, g2, q2⟩ := hf 2 _ rfl
  have g2' : DataW.trod enc Try.prog w 0 (fun _ => true) true m2 41 [c 2, c 3, c 4, c 5, c 6, c 7, c 8, c 9, c 10] = some y2 := g2
  obtain ⟨zs, hz, hzl, hzf⟩ := trod_all Try.underlying41 g2'
  obtain ⟨k0, z0, f0, p0⟩ := hzf 0 _ rfl
  obtain ⟨k1, z1, f1, -⟩ := hzf 1 _ rfl
  obtain ⟨k2, z2, f2, -⟩ := hzf 2 _ rfl
  obtain ⟨k3, z3, f3, -⟩ := hzf 3 _ rfl
  obtain ⟨k4, z4, f4, -⟩ := hzf 4 _ rfl
  obtain ⟨k5, z5, f5, -⟩ := hzf 5 _ rfl
  obtain ⟨k6, z6, f6, -⟩ := hzf 6 _ rfl
  obtain ⟨k7, z7, f7, -⟩ := hzf 7 _ rfl
  have f4' : DataW.trod enc Try.prog w 0 (fun _ => true) true k4 39 [c 6, c 7] = some z4 := f4
  obtain ⟨i0, x0, o0⟩ := trod_at Try.underlying39 f4' 0 _ rfl
  obtain ⟨i1, x1, o1⟩ := trod_at Try.underlying39 f4' 1 _ rfl
  obtain ⟨p, hp, hpl⟩ := cell_stringB (v := c 0) Try.underlying9 g0
  obtain ⟨bo, hb⟩ := cell_boolB (v := c 1) Try.underlying4 g1
  obtain ⟨l, hsl, hll⟩ := cell_bytesB (v := c 2) Try.underlying28 Try.underlying5 (by kernel_rfl) f0
  obtain ⟨n1, e1, b1⟩ := cell_nat (v := c 3) (k := .u32) rfl Try.underlying37 f1
  obtain ⟨n2, e2, b2⟩ := cell_nat (v := c 4) (k := .u32) rfl Try.underlying37 f2
  obtain ⟨n3, e3, b3⟩ := cell_nat (v := c 5) (k := .u32) rfl Try.underlying37 f3
  obtain ⟨n5, e5, b5⟩ := cell_nat (v := c 8) (k := .u64) rfl Try.underlying24 f5
  obtain ⟨n6, e6, b6⟩ := cell_nat (v := c 9) (k := .u64) rfl Try.underlying24 f6
  obtain ⟨n7, e7, b7⟩ := cell_nat (v := c 10) (k := .u64) rfl Try.underlying24 f7
  obtain ⟨s0, d0, r0⟩ := cell_int (v := c 6) Try.underlying3 o0
  obtain ⟨s1, d1, r1⟩ := cell_nat (v := c 7) (k := .u32) rfl Try.underlying37 o1
  have B1 : Rows.uptoBulk y0.1 + Rows.uptoBulk y2.1 + 1 ≤ Rows.uptoBulk y.1 := by
    rw [hy, bulk_agg3]
    have h0 : a = y0.1 := by simpa using q0
    have h2 : d = y2.1 := by simpa using q2
    rw [h0, h2]; omega
  have B2 : Rows.uptoBulk z0.1 + 1 ≤ Rows.uptoBulk y2.1 := by
    rw [hz]
    simp only [Rows.uptoBulk]
    have hm : z0.1 ∈ zs := List.mem_of_getElem? p0
    clear hzf hz p0
    induction zs with
    | nil => cases hm
    | cons z zs ih =>
      have hsz : ∀ (l : List (DataW H)) (x : DataW H), x ∈ l → Rows.uptoBulk x ≤ Rows.uptoBulkAll l := by
        intro l
        induction l with
        | nil => intro x hx; cases hx
        | cons u l ih => intro x hx; simp only [Rows.uptoBulkAll]; rcases List.mem_cons.1 hx with rfl | hx; omega; have := ih x hx; omega
      have := hsz _ _ hm
      omega
  refine ⟨⟨p, bo, ⟨l, n1, n2, n3, s0, s1, n5, n6, n7⟩⟩, ⟨b1, b2, b3, r0, r1, b5, b6, b7⟩, ?_, hsl, fun j u hu => ?_⟩
  · unfold effW; simp only; omega
  · match j, hu with
    | 0, hu => rw [hp]; simpa [effCells, nodeCells] using hu
    | 1, hu => rw [hb]; simpa [effCells, nodeCells] using hu
    | 2, hu => simpa [effCells, nodeCells] using hu
    | 3, hu => rw [e1]; simpa [effCells, nodeCells] using hu
    | 4, hu => rw [e2]; simpa [effCells, nodeCells] using hu
    | 5, hu => rw [e3]; simpa [effCells, nodeCells] using hu
    | 6, hu => rw [d0]; simpa [effCells, nodeCells] using hu
    | 7, hu => rw [d1]; simpa [effCells, nodeCells] using hu
    | 8, hu => rw [e5]; simpa [effCells, nodeCells] using hu
    | 9, hu => rw [e6]; simpa [effCells, nodeCells] using hu
    | 10, hu => rw [e7]; simpa [effCells, nodeCells] using hu
    | j + 11, hu => simp [effCells, nodeCells] at hu
theorem effs_sum (X : Nat → EffD) (Bf : Nat → Nat) : ∀ n, (∀ i, i < n → effW (X i) ≤ 66 * Bf i) → (((List.range n).map X).flatMap effB).length ≤ 66 * ((List.range n).map Bf).sum
  | 0, _ => by simp
  | n + 1, h => by
    have h1 := effs_sum X Bf n (fun i hi => h i (by omega))
    have h2 := h n (by omega)
    have h3 : (effB (X n)).length ≤ effW (X n) := by rw [effB_length]; unfold effW; split <;> omega
    rw [List.range_succ, List.map_append, List.map_append, List.flatMap_append, List.sum_append, List.length_append]
    simp only [List.map_cons, List.map_nil, List.flatMap_cons, List.flatMap_nil, List.append_nil, List.sum_cons, List.sum_nil]
    omega
theorem le_sum (Bf : Nat → Nat) (n i : Nat) (hi : i < n) : Bf i ≤ ((List.range n).map Bf).sum := by
  induction n with
  | zero => omega
  | succ n ih =>
    rw [List.range_succ, List.map_append, List.sum_append]
    simp only [List.map_cons, List.map_nil, List.sum_cons, List.sum_nil]
    by_cases h : i < n
    · have := ih h; omega
    · obtain rfl : i = n := by omega
      omega
theorem cell_effs {m : Nat} {v : Value} {y : DataW H × List MemPlace} (h : DataW.trod enc Try.prog w 0 (fun _ => true) true m 44 [v] = some y) :
    ∃ es : List EffD, EffsP Any w v es ∧ (∀ e ∈ es, EffOk e) ∧ (es.flatMap effB).length ≤ 66 * Rows.uptoBulk y.1 ∧ (∀ e ∈ es, effW e ≤ 66 * Rows.uptoBulk y.1) ∧ es.length ≤ Rows.uptoBulk y.1 := by
  obtain ⟨len, R, Bf, hR, hs, hlb, hl, hc⟩ := cell_rowsKB (k := 11) Try.underlying44 (by kernel_rfl) (by decide) h
  have each : ∀ i, i < len → ∃ x : EffD, EffOk x ∧ effW x ≤ 66 * Bf i ∧ Sl w (R i 2) (bytes x.node.data) ∧ ∀ j u, (effCells x (R i 2))[j]? = some u → R i j = u := fun i hi => by
    obtain ⟨m', y', h', hb⟩ := hc i hi
    obtain ⟨x, h1, h2, h3, h4⟩ := cell_eff h'
    exact ⟨x, h1, by rw [← hb]; exact h2, h3, h4⟩
  obtain ⟨X, hX⟩ := Go.Deep.choose_lt each
  have hlen : ((List.range len).map X).length = len := by simp
  refine ⟨(List.range len).map X, ⟨R, ⟨by rw [hlen]; exact hR, .inr fun _ _ => trivial⟩, fun i hi => ?_⟩, fun e he => ?_, ?_, fun e he => ?_, by omega⟩
  · have hi' : i < len := by simpa using hi
    obtain ⟨_, _, h3, h4⟩ := hX i hi'
    exact ⟨R i 2, ⟨by simpa using h3, .inr fun _ _ => trivial⟩, by simpa using h4⟩
  · obtain ⟨i, hi, rfl⟩ := List.mem_map.1 he
    exact (hX i (by simpa using hi)).1
  · have := effs_sum X Bf len (fun i hi => (hX i hi).2.1)
    omega
  · obtain ⟨i, hi, rfl⟩ := List.mem_map.1 he
    have hi' : i < len := by simpa using hi
    have := (hX i hi').2.1
    have := le_sum Bf len i hi'
    omega
/-- How much there is of an item. -/
structure ItemBulk (x : ItemD) (B : Nat) : Prop where
  all : (itemB x).length ≤ 66 * B
  effs : ∀ e ∈ x.effs, effW e ≤ 66 * B
  elen : x.effs.length ≤ B
  slen : x.stamp.length ≤ B
theorem cell_item {m : Nat} {c : Nat → Value} {y : DataW H × List MemPlace} (h : DataW.trod enc Try.prog w 0 (fun _ => true) true m 46 ((List.range 7).map c) = some y) :
    ∃ x : ItemD, ItemOk x ∧ ItemP Any w x (c 4) (c 5) ∧ ItemBulk x (Rows.uptoBulk y.1) ∧ ∀ j u, (itemCells x (c 4) (c 5))[j]? = some u → c j = u := by
  obtain ⟨ys, hy, hl, hf⟩ := trod_all Try.underlying46 h
  obtain ⟨a0, a1, a2, a3, a4, a5, a6, rfl⟩ := len7 hl
  obtain ⟨m0, y0, g0, q0⟩ := hf 0 _ rfl
  obtain ⟨m1, y1, g1, q1⟩ := hf 1 _ rfl
  obtain ⟨m2, y2, g2, q2⟩ := hf 2 _ rfl
  obtain ⟨m3, y3, g3, q3⟩ := hf 3 _ rfl
  obtain ⟨m4, y4, g4, q4⟩ := hf 4 _ rfl
  obtain ⟨m5, y5, g5, q5⟩ := hf 5 _ rfl
  obtain ⟨m6, y6, g6, q6⟩ := hf 6 _ rfl
  obtain ⟨o, e0, l0⟩ := cell_int (v := c 0) Try.underlying3 g0
  obtain ⟨s, e1, l1⟩ := cell_nat (v := c 1) (k := .u64) rfl Try.underlying24 g1
  obtain ⟨r, e2, l2⟩ := cell_int (v := c 2) Try.underlying3 g2
  obtain ⟨p, e3, l3⟩ := cell_nat (v := c 3) (k := .u64) rfl Try.underlying24 g3
  obtain ⟨t, s4, l4, l4'⟩ := cell_numsB (v := c 4) Try.underlying22 Try.underlying24 (by kernel_rfl) g4
  obtain ⟨es, s5, l5, n5, w5, k5⟩ := cell_effs (v := c 5) g5
  obtain ⟨k, e6, l6⟩ := cell_nat (v := c 6) (k := .u32) rfl Try.underlying37 g6
  have hb : Rows.uptoBulk y4.1 + Rows.uptoBulk y5.1 + 6 ≤ Rows.uptoBulk y.1 := by
    rw [hy, bulk_agg7]
    have h4 : a4 = y4.1 := by simpa using q4
    have h5 : a5 = y5.1 := by simpa using q5
    have := bulk_one a0; have := bulk_one a1; have := bulk_one a2; have := bulk_one a3; have := bulk_one a6
    rw [h4, h5]; omega
  refine ⟨⟨o, s, r, p, t, es, k⟩, ⟨l0, l1, l2, l3, l4', l5, l6⟩, ⟨⟨s4, .inr fun _ _ => trivial⟩, s5⟩, ⟨?_, fun e he => ?_, by show es.length ≤ _; omega, by show t.length ≤ _; omega⟩, fun j u hu => ?_⟩
  · rw [itemB_length]; simp only; omega
  · have := w5 e he; omega
  · match j, hu with
    | 0, hu => rw [e0]; simpa [itemCells] using hu
    | 1, hu => rw [e1]; simpa [itemCells] using hu
    | 2, hu => rw [e2]; simpa [itemCells] using hu
    | 3, hu => rw [e3]; simpa [itemCells] using hu
    | 4, hu => simpa [itemCells] using hu
    | 5, hu => simpa [itemCells] using hu
    | 6, hu => rw [e6]; simpa [itemCells] using hu
    | j + 7, hu => simp [itemCells] at hu
theorem ops_sum (X : Nat → OpD) (Bf : Nat → Nat) : ∀ n, (∀ i, i < n → (opB (X i)).length ≤ 27 * Bf i) → (opsB ((List.range n).map X)).length ≤ 27 * ((List.range n).map Bf).sum
  | 0, _ => by simp [opsB_nil]
  | n + 1, h => by
    have h1 := ops_sum X Bf n (fun i hi => h i (by omega))
    have h2 := h n (by omega)
    rw [List.range_succ, List.map_append, List.map_append, opsB_append, List.sum_append, List.length_append]
    simp only [List.map_cons, List.map_nil, opsB_cons, opsB_nil, List.append_nil, List.sum_cons, List.sum_nil]
    omega
/-- How much there is of an entry. -/
structure EntBulk (x : EntD) (B : Nat) : Prop where
  op : (opB x.op).length ≤ 27 * B
  parts : x.op.parts.length ≤ B
  item : ItemBulk x.item B
  frontier : x.frontier.length ≤ B
theorem EntBulk.big {x : EntD} {B : Nat} (h : EntBulk x B) (hB : B ≤ 1048576) : EntBig x :=
  ⟨by have := h.op; omega, ⟨by have := h.item.all; omega, fun e he => by have := h.item.effs e he; omega⟩, by have := h.frontier; omega⟩
end
end Go.Proofs.Ytgilijkmmcpfjaa
