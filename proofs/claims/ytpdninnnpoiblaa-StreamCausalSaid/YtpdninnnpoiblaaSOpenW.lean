/-
  Items as arguments: what they read as.
-/
import Derived.Test.YtpdninnnpoiblaaFits
import Derived.Test.YtpdninnnpoiblaaItems
import Derived.Test.YtpdninnnpoiblaaSReadyS
set_option linter.unusedVariables false
namespace Go.Proofs.Ytpdninnnpoiblaa
open Go.RowKit

instance : Inhabited EffD := ⟨⟨[], false, [], []⟩⟩
instance : Inhabited ItemD := ⟨⟨0, 0, 0, 0, [], [], 0⟩⟩
/-- What an effect's last cells are. -/
def EffF (x : EffD) : Prop := ∃ a b c : Nat, ∃ d : Int, ∃ e f g h : Nat, x.rest = [.int .u32 (a : Int), .int .u32 (b : Int), .int .u32 (c : Int), .int .i64 d, .int .u32 (e : Int), .int .u64 (f : Int), .int .u64 (g : Int), .int .u64 (h : Int)]
theorem EffF.ok {x : EffD} (h : EffF x) (hl : x.data.length ≤ 140737488351232) : EffOk x := by
  obtain ⟨a, b, c, d, e, f, g, h, hr⟩ := h
  refine ⟨by rw [hr]; rfl, fun u hu => ?_, hl⟩
  rw [hr] at hu
  simp only [List.mem_cons, List.not_mem_nil, or_false] at hu
  rcases hu with rfl | rfl | rfl | rfl | rfl | rfl | rfl | rfl <;> rfl
def EffsL (w : World) (v : Value) (es : List EffD) : Prop :=
  ∃ R, Rows w v es.length 11 R ∧ ∀ i (h : i < es.length), EffF es[i] ∧ es[i].data.length ≤ 140737488351232 ∧ Sl w (R i 2) (bytes es[i].data) ∧ ∀ j u, (effRow es[i] (R i 2))[j]? = some u → R i j = u
theorem EffsL.effs {w : World} {v : Value} {es : List EffD} (h : EffsL w v es) (hl : ∀ e ∈ es, e.data.length ≤ 140737488351232) : Effs w v es := by
  obtain ⟨R, h1, h2⟩ := h
  exact ⟨R, h1, fun i hi => ⟨(h2 i hi).1.ok (hl _ (List.getElem_mem hi)), (h2 i hi).2.2⟩⟩
theorem EffsL.shape {w : World} {v : Value} {es : List EffD} (h : EffsL w v es) : ∃ a cap, v = .slice a es.length cap := by
  obtain ⟨R, ⟨a, cap, e, _⟩, _⟩ := h; exact ⟨a, cap, e⟩
theorem EffsL.below {w w' : World} {v : Value} {es : List EffD} (h : EffsL w v es) (g : Gr w w') : EffsL w' v es := by
  obtain ⟨R, h1, h2⟩ := h
  exact ⟨R, h1.below g, fun i hi => ⟨(h2 i hi).1, (h2 i hi).2.1, (h2 i hi).2.2.1.below g, (h2 i hi).2.2.2⟩⟩
structure ItemNum (x : ItemD) : Prop where
  n : NumOk x
  region : -9223372036854775808 ≤ x.region ∧ x.region ≤ 9223372036854775807
  epoch : x.epoch < 2 ^ 64
  closed : x.closed < 2 ^ 32
  stamp : ∀ k ∈ x.stamp, k < 2 ^ 64
  len : x.stamp.length ≤ maxLen
  elen : x.effs.length ≤ maxLen
section
open Go.ChangeShapes Go.WideShapes Go.ChangeAt Go.Deep
variable {H : Type} {enc : TypeId × Value → H} {w : World}
theorem nums_of_wf (zs : List Int) (h : ∀ z ∈ zs, 0 ≤ z ∧ z < 2 ^ 64) : zs.map (Value.int .u64) = nums (zs.map Int.toNat) := by
  unfold nums
  rw [List.map_map]
  refine List.map_congr_left fun z hz => ?_
  have := h z hz
  simp only [Function.comp, num64]
  congr 1
  omega
theorem cell_nums {t e : TypeId} {P : Program} {m : Nat} {v : Value} {y : DataW H × List MemPlace} (ht : P.underlying t = some (.slice e)) (he : P.underlying e = some (.int .u64)) (hc : P.cellsOf e = 1)
    (h : DataW.trod enc P w 0 (fun _ => true) true m t [v] = some y) : ∃ l : List Nat, Sl w v (nums l) ∧ l.length ≤ maxLen ∧ ∀ k ∈ l, k < 2 ^ 64 := by
  obtain ⟨zs, h1, h2, h3⟩ := cell_nums64 ht he hc h
  refine ⟨zs.map Int.toNat, by rw [← nums_of_wf zs h3]; exact h1, by simpa using h2, fun k hk => ?_⟩
  obtain ⟨z, hz, rfl⟩ := List.mem_map.1 hk
  have := h3 z hz
  omega
theorem open_nums {r : Reach} {b0 : Nat} {t e : TypeId} {P : Program} {v : Value} {d : DataW H} {ps : List MemPlace} (ht : P.underlying t = some (.slice e)) (he : P.underlying e = some (.int .u64)) (hc : P.cellsOf e = 1)
    (hval : Value.okWide P w r b0 t v) (hd : DataW.Trod enc P w 0 (fun _ => true) true t v d ps) : ∃ l : List Nat, Sl w v (nums l) ∧ l.length ≤ maxLen ∧ ∀ k ∈ l, k < 2 ^ 64 := by
  obtain ⟨a, len, cap, rfl⟩ := okWide_slice ht hval
  obtain ⟨fuel, hf⟩ := hd
  exact cell_nums ht he hc (by simpa [Value.cells] using hf)
theorem cell_string {P : Program} {t : TypeId} {m : Nat} {v : Value} {y : DataW H × List MemPlace} (ht : P.underlying t = some .string) (h : DataW.trod enc P w 0 (fun _ => true) true m t [v] = some y) : ∃ l : List UInt8, v = .string ⟨l.toArray⟩ ∧ l.length ≤ maxLen := by
  obtain ⟨s, hs, _, hl⟩ := DataW.trod_string ht h
  exact ⟨s.data.toList, by rw [(List.cons.inj hs).1], by rw [Array.length_toList]; exact hl⟩
theorem cell_bool {P : Program} {t : TypeId} {m : Nat} {v : Value} {y : DataW H × List MemPlace} (ht : P.underlying t = some .bool) (h : DataW.trod enc P w 0 (fun _ => true) true m t [v] = some y) : ∃ b : Bool, v = .bool b := by
  obtain ⟨b, hb, _⟩ := DataW.trod_bool ht h
  exact ⟨b, by simpa using hb⟩
/-- A row of an effect. -/
theorem cell_eff {m : Nat} {c : Nat → Value} {y : DataW H × List MemPlace} (h : DataW.trod enc Try.prog w 0 (fun _ => true) true m 45 ((List.range 11).map c) = some y) (hw : Fit Try.prog 45 y.1) :
    ∃ x : EffD, EffF x ∧ x.data.length ≤ 140737488351232 ∧ Sl w (c 2) (bytes x.data) ∧ ∀ j u, (effRow x (c 2))[j]? = some u → c j = u := by
  obtain ⟨m0, y0, g0⟩ := trod_at Try.underlying45 h 0 _ rfl
  obtain ⟨m1, y1, g1⟩ := trod_at Try.underlying45 h 1 _ rfl
  obtain ⟨m2, y2, g2, w2⟩ := trod_atW Try.underlying45 h hw 2 _ rfl
  have g2' : DataW.trod enc Try.prog w 0 (fun _ => true) true m2 43 [c 2, c 3, c 4, c 5, c 6, c 7, c 8, c 9, c 10] = some y2 := g2
  obtain ⟨k0, z0, f0, w0⟩ := trod_atW Try.underlying43 g2' w2 0 _ rfl
  obtain ⟨k1, z1, f1⟩ := trod_at Try.underlying43 g2' 1 _ rfl
  obtain ⟨k2, z2, f2⟩ := trod_at Try.underlying43 g2' 2 _ rfl
  obtain ⟨k3, z3, f3⟩ := trod_at Try.underlying43 g2' 3 _ rfl
  obtain ⟨k4, z4, f4⟩ := trod_at Try.underlying43 g2' 4 _ rfl
  obtain ⟨k5, z5, f5⟩ := trod_at Try.underlying43 g2' 5 _ rfl
  obtain ⟨k6, z6, f6⟩ := trod_at Try.underlying43 g2' 6 _ rfl
  obtain ⟨k7, z7, f7⟩ := trod_at Try.underlying43 g2' 7 _ rfl
  have f4' : DataW.trod enc Try.prog w 0 (fun _ => true) true k4 41 [c 6, c 7] = some z4 := f4
  obtain ⟨q0, x0, o0⟩ := trod_at Try.underlying41 f4' 0 _ rfl
  obtain ⟨q1, x1, o1⟩ := trod_at Try.underlying41 f4' 1 _ rfl
  obtain ⟨p, hp, _⟩ := cell_string (v := c 0) Try.underlying9 g0
  obtain ⟨b, hb⟩ := cell_bool (v := c 1) Try.underlying4 g1
  obtain ⟨l, hl, hlm⟩ := cell_bytesW (v := c 2) Try.underlying39 Try.underlying5 (by kernel_rfl) (by kernel_rfl) f0 w0
  obtain ⟨n1, e1, _⟩ := cell_nat (v := c 3) (k := .u32) rfl Try.underlying31 f1
  obtain ⟨n2, e2, _⟩ := cell_nat (v := c 4) (k := .u32) rfl Try.underlying31 f2
  obtain ⟨n3, e3, _⟩ := cell_nat (v := c 5) (k := .u32) rfl Try.underlying31 f3
  obtain ⟨n5, e5, _⟩ := cell_nat (v := c 8) (k := .u64) rfl Try.underlying23 f5
  obtain ⟨n6, e6, _⟩ := cell_nat (v := c 9) (k := .u64) rfl Try.underlying23 f6
  obtain ⟨n7, e7, _⟩ := cell_nat (v := c 10) (k := .u64) rfl Try.underlying23 f7
  obtain ⟨i0, d0, _⟩ := cell_int (v := c 6) Try.underlying3 o0
  obtain ⟨i1, d1, _⟩ := cell_nat (v := c 7) (k := .u32) rfl Try.underlying31 o1
  refine ⟨⟨p, b, l, [c 3, c 4, c 5, c 6, c 7, c 8, c 9, c 10]⟩, ⟨n1, n2, n3, i0, i1, n5, n6, n7, by rw [e1, e2, e3, e5, e6, e7, d0, d1]⟩, hlm, hl, fun j u hu => ?_⟩
  match j, hu with
  | 0, hu => rw [hp]; simpa [effRow] using hu
  | 1, hu => rw [hb]; simpa [effRow] using hu
  | 2, hu => simpa [effRow] using hu
  | 3, hu => simpa [effRow] using hu
  | 4, hu => simpa [effRow] using hu
  | 5, hu => simpa [effRow] using hu
  | 6, hu => simpa [effRow] using hu
  | 7, hu => simpa [effRow] using hu
  | 8, hu => simpa [effRow] using hu
  | 9, hu => simpa [effRow] using hu
  | 10, hu => simpa [effRow] using hu
  | j + 11, hu => simp [effRow] at hu
theorem cell_effs {m : Nat} {v : Value} {y : DataW H × List MemPlace} (h : DataW.trod enc Try.prog w 0 (fun _ => true) true m 30 [v] = some y) (hw : Fit Try.prog 30 y.1) : ∃ es, EffsL w v es ∧ es.length ≤ maxLen := by
  obtain ⟨len, R, hR, hl, _, hc⟩ := cell_rowsKW (k := 11) Try.underlying30 (by kernel_rfl) (by decide) h hw
  have each : ∀ i, i < len → ∃ x : EffD, EffF x ∧ x.data.length ≤ 140737488351232 ∧ Sl w (R i 2) (bytes x.data) ∧ ∀ j u, (effRow x (R i 2))[j]? = some u → R i j = u := fun i hi => by
    obtain ⟨m', y', h', w'⟩ := hc i hi
    exact cell_eff h' w'
  obtain ⟨X, hX⟩ := Go.Deep.choose_lt each
  refine ⟨(List.range len).map X, ⟨R, by simpa using hR, fun i hi => ?_⟩, by simpa using hl⟩
  have hi' : i < len := by simpa using hi
  simpa using hX i hi'
/-- Seven cells of an item. -/
theorem cell_item {m : Nat} {c : Nat → Value} {y : DataW H × List MemPlace} (h : DataW.trod enc Try.prog w 0 (fun _ => true) true m 33 ((List.range 7).map c) = some y) (hw : Fit Try.prog 33 y.1) :
    ∃ (x : ItemD), (∀ j u, (itemCells x (c 4) (c 5))[j]? = some u → c j = u) ∧ ItemNum x ∧ Sl w (c 4) (nums x.stamp) ∧ EffsL w (c 5) x.effs := by
  obtain ⟨m0, y0, g0⟩ := trod_at Try.underlying33 h 0 _ rfl
  obtain ⟨m1, y1, g1⟩ := trod_at Try.underlying33 h 1 _ rfl
  obtain ⟨m2, y2, g2⟩ := trod_at Try.underlying33 h 2 _ rfl
  obtain ⟨m3, y3, g3⟩ := trod_at Try.underlying33 h 3 _ rfl
  obtain ⟨m4, y4, g4⟩ := trod_at Try.underlying33 h 4 _ rfl
  obtain ⟨m5, y5, g5, w5⟩ := trod_atW Try.underlying33 h hw 5 _ rfl
  obtain ⟨m6, y6, g6⟩ := trod_at Try.underlying33 h 6 _ rfl
  obtain ⟨o, e0, l0⟩ := cell_int (v := c 0) Try.underlying3 g0
  obtain ⟨s, e1, l1⟩ := cell_nat (v := c 1) (k := .u64) rfl Try.underlying23 g1
  obtain ⟨r, e2, l2⟩ := cell_int (v := c 2) Try.underlying3 g2
  obtain ⟨p, e3, l3⟩ := cell_nat (v := c 3) (k := .u64) rfl Try.underlying23 g3
  obtain ⟨t, s4, l4, l4'⟩ := cell_nums (v := c 4) Try.underlying24 Try.underlying23 (by kernel_rfl) g4
  obtain ⟨es, s5, l5⟩ := cell_effs (v := c 5) g5 w5
  obtain ⟨k, e6, l6⟩ := cell_nat (v := c 6) (k := .u32) rfl Try.underlying31 g6
  refine ⟨⟨o, s, r, p, t, es, k⟩, fun j u hu => ?_, ⟨⟨l1, l0⟩, l2, l3, l6, l4', l4, l5⟩, s4, s5⟩
  match j, hu with
  | 0, hu => rw [e0]; simpa [itemCells] using hu
  | 1, hu => rw [e1]; simpa [itemCells] using hu
  | 2, hu => rw [e2]; simpa [itemCells] using hu
  | 3, hu => rw [e3]; simpa [itemCells] using hu
  | 4, hu => simpa [itemCells] using hu
  | 5, hu => simpa [itemCells] using hu
  | 6, hu => rw [e6]; simpa [itemCells] using hu
  | j + 7, hu => simp [itemCells] at hu
/-- An argument that is a slice of items. -/
def ItemsL (w : World) (v : Value) (xs : List ItemD) : Prop :=
  ∃ R, Rows w v xs.length 7 R ∧ ∀ i (h : i < xs.length), ItemNum xs[i] ∧ (∀ j u, (itemCells xs[i] (R i 4) (R i 5))[j]? = some u → R i j = u) ∧ Sl w (R i 4) (nums xs[i].stamp) ∧ EffsL w (R i 5) xs[i].effs
theorem open_items {r : Reach} {b0 : Nat} {v : Value} {d : DataW H} {ps : List MemPlace}
    (hval : Value.okWide Try.prog w r b0 22 v) (hd : DataW.Trod enc Try.prog w 0 (fun _ => true) true 22 v d ps) (hw : Fit Try.prog 22 d) : ∃ xs : List ItemD, ItemsL w v xs ∧ xs.length ≤ maxLen := by
  obtain ⟨len, R, hR, hl, _, hc⟩ := open_rowsKW (k := 7) Try.underlying22 (by kernel_rfl) (by decide) hval hd hw
  have each : ∀ i, i < len → ∃ x : ItemD, ItemNum x ∧ (∀ j u, (itemCells x (R i 4) (R i 5))[j]? = some u → R i j = u) ∧ Sl w (R i 4) (nums x.stamp) ∧ EffsL w (R i 5) x.effs := fun i hi => by
    obtain ⟨m', y', h', w'⟩ := hc i hi
    obtain ⟨x, h1, h2, h3, h4⟩ := cell_item h' w'
    exact ⟨x, h2, h1, h3, h4⟩
  obtain ⟨X, hX⟩ := Go.Deep.choose_lt each
  refine ⟨(List.range len).map X, ⟨R, by simpa using hR, fun i hi => ?_⟩, by simpa using hl⟩
  have hi' : i < len := by simpa using hi
  simpa using hX i hi'
end
end Go.Proofs.Ytpdninnnpoiblaa
