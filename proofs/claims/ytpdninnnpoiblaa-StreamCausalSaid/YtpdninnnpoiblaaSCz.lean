/-
  StreamCausal: what the sites own, have and know, in memory.
-/
import Derived.Test.YtpdninnnpoiblaaSAll
import Derived.Test.YtpdninnnpoiblaaCausal
import Derived.Laws.Tables
import Derived.Test.YtpdninnnpoiblaaTurnTail
set_option linter.unusedVariables false
namespace Go.Proofs.Ytpdninnnpoiblaa
open Go.RowKit

def StillT (t : TypeId) : Prop := t = 23 ∨ t = 45 ∨ t = 5
/-- Blocks of numbers, of effects and of bytes are as they were. -/
def KeepT (w w' : World) : Prop := ∀ (j : Nat) (cs : Array Value) (t : TypeId) (fr : Nat × Nat), StillT t → w.heap[j]? = some (.cells cs t fr) → w'.heap[j]? = w.heap[j]?
theorem KeepT.gr {w w' : World} (g : Gr w w') : KeepT w w' := fun j _ _ _ _ h => g.block j (Array.getElem?_eq_some_iff.1 h).1
theorem Own.blockT {w w' : World} {base : Nat} {e : TypeId} {v : Value} {xs : List Value} (h : Own w base e v xs) (hb : ∀ j cs fr, w.heap[j]? = some (.cells cs e fr) → v.ownBlock = some j → w'.heap[j]? = w.heap[j]?) : Own w' base e v xs := by
  refine ⟨h.1, ?_⟩
  rcases h.2 with hn | ⟨g, cap, cur, rfl, h1, h2, rest⟩
  · exact .inl hn
  · exact .inr ⟨g, cap, cur, rfl, h1, (hb g _ _ h2 rfl).trans h2, rest⟩
theorem OwnR.blockT {w w' : World} {base k : Nat} {e : TypeId} {v : Value} {rs : List (List Value)} (h : OwnR w base e k v rs) (hb : ∀ j cs fr, w.heap[j]? = some (.cells cs e fr) → v.ownBlock = some j → w'.heap[j]? = w.heap[j]?) : OwnR w' base e k v rs := by
  refine ⟨h.1, ?_⟩
  rcases h.2 with hn | ⟨g, cap, cur, rfl, h1, h2, rest⟩
  · exact .inl hn
  · exact .inr ⟨g, cap, cur, rfl, h1, (hb g _ _ h2 rfl).trans h2, rest⟩
theorem Own.keepT {w w' : World} {base : Nat} {e : TypeId} {v : Value} {xs : List Value} (h : Own w base e v xs) (he : StillT e) (hk : KeepT w w') : Own w' base e v xs := h.blockT fun j cs fr hc _ => hk j cs e fr he hc
theorem ItemR.keepT {w w' : World} {B : Nat} {x : ItemD} {sv ev : Value} (h : ItemR w B x sv ev) (hk : KeepT w w') : ItemR w' B x sv ev := by
  obtain ⟨h1, rs, q1, q2, q3⟩ := h
  refine ⟨h1.keepT (.inl rfl) hk, rs, q1.blockT fun j cs fr hc _ => hk j cs 45 fr (.inr (.inl rfl)) hc, q2, fun i hi => ?_⟩
  obtain ⟨ok, dv, p1, p2, p3⟩ := q3 i hi
  exact ⟨ok, dv, p1, fun hk' => ⟨(p2 hk').1.keepT (.inr (.inr rfl)) hk, (p2 hk').2⟩, fun hk' => absurd hk' (by omega)⟩
/-- A row of items of the call's own. -/
def ItemsT (w : World) (B : Nat) (v : Value) (xs : List ItemD) : Prop :=
  ∃ rs : List (List Value), OwnR w B 33 7 v rs ∧ rs.length = xs.length ∧ ∀ (i : Nat) (h : i < xs.length), ∃ sv ev, rs[i]? = some (itemCells xs[i] sv ev).toList ∧ ItemR w B xs[i] sv ev
theorem ItemsT.nil (w : World) (B : Nat) : ItemsT w B (.slice none 0 0) [] := ⟨[], OwnR.nil w B 33 7, rfl, fun i h => absurd h (Nat.not_lt_zero _)⟩
theorem ItemsT.shape {w : World} {B : Nat} {v : Value} {xs : List ItemD} (h : ItemsT w B v xs) : ∃ a cap, v = .slice a xs.length cap := by
  obtain ⟨rs, h1, h2, _⟩ := h; rw [← h2]; exact h1.shape
theorem ItemsT.lt {w : World} {B : Nat} {v : Value} {xs : List ItemD} (h : ItemsT w B v xs) : ∀ j, v.ownBlock = some j → B ≤ j ∧ j < w.heap.size := by
  obtain ⟨rs, h1, _⟩ := h; exact h1.lt
theorem ItemsT.cells {w : World} {B : Nat} {v : Value} {xs : List ItemD} (h : ItemsT w B v xs) : ∀ j, v.ownBlock = some j → ∃ cs, w.heap[j]? = some (.cells cs 33 (0, 0)) := by
  obtain ⟨rs, h1, _⟩ := h
  intro j hj
  rcases h1.2 with ⟨rfl, _⟩ | ⟨g, cap, cur, rfl, _, hg, _⟩
  · cases hj
  · injection hj with hj; subst hj; exact ⟨_, hg⟩
theorem ItemsT.keep {w w' : World} {B : Nat} {v : Value} {xs : List ItemD} (h : ItemsT w B v xs) (hk : KeepT w w') (ho : ∀ j, v.ownBlock = some j → w'.heap[j]? = w.heap[j]?) : ItemsT w' B v xs := by
  obtain ⟨rs, h1, h2, h3⟩ := h
  refine ⟨rs, h1.blockT fun j cs fr hc hv => ho j hv, h2, fun i hi => ?_⟩
  obtain ⟨sv, ev, q1, q2⟩ := h3 i hi
  exact ⟨sv, ev, q1, q2.keepT hk⟩
theorem ItemsT.of {w : World} {B B' : Nat} {v : Value} {xs : List ItemD} (h : ItemsR w B' v xs) (hb : B ≤ B') : ItemsT w B v xs := by
  obtain ⟨rs, h1, h2, h3⟩ := h
  refine ⟨rs, h1.mono hb, h2, fun i hi => ?_⟩
  obtain ⟨sv, ev, q1, q2⟩ := h3 i hi
  exact ⟨sv, ev, q1, q2.r.mono hb⟩
theorem ItemsT.items {w : World} {B : Nat} {v : Value} {xs : List ItemD} (h : ItemsT w B v xs) (hok : ∀ x ∈ xs, ItemOk x) : Items w v xs := by
  obtain ⟨rs, h1, h2, h3⟩ := h
  refine ⟨_, by rw [← h2]; exact h1.rows, fun i hi => ⟨hok _ (List.getElem_mem hi), ?_⟩⟩
  obtain ⟨sv, ev, q1, q2⟩ := h3 i hi
  refine ⟨sv, ev, fun j u hu => ?_, q2.is⟩
  have e : rs.getD i [] = (itemCells xs[i] sv ev).toList := by rw [List.getD_eq_getElem?_getD, q1]; rfl
  show (rs.getD i []).getD j (.bool false) = u
  rw [e, List.getD_eq_getElem?_getD, Array.getElem?_toList, hu]
  rfl
/-- One of them. -/
theorem ItemsT.at {w : World} {B : Nat} {v : Value} {xs : List ItemD} (h : ItemsT w B v xs) (k : Nat) (hk : k < xs.length) :
    ∃ g cap sv ev, v = .slice (some ⟨g, 0, Option.none⟩) xs.length cap ∧ g < w.heap.size ∧ w.cell? ⟨g, k * 7, Option.none⟩ = some (.int .i64 xs[k].origin) ∧ w.cell? ⟨g, k * 7 + 1, Option.none⟩ = some (.int .u64 (xs[k].seq : Int)) ∧ w.cell? ⟨g, k * 7 + 2, Option.none⟩ = some (.int .i64 xs[k].region) ∧
      w.cell? ⟨g, k * 7 + 3, Option.none⟩ = some (.int .u64 (xs[k].epoch : Int)) ∧ w.cell? ⟨g, k * 7 + 4, Option.none⟩ = some sv ∧ w.cell? ⟨g, k * 7 + 5, Option.none⟩ = some ev ∧ w.cell? ⟨g, k * 7 + 6, Option.none⟩ = some (.int .u32 (xs[k].closed : Int)) ∧ ItemR w B xs[k] sv ev := by
  obtain ⟨rs, h1, h2, h3⟩ := h
  obtain ⟨sv, ev, q1, q2⟩ := h3 k hk
  obtain ⟨g, cap, rfl, hb, hg, _, hc⟩ := h1.formN (by omega)
  have hr : rs[k]'(by omega) = (itemCells xs[k] sv ev).toList := by rw [List.getElem?_eq_getElem (by omega)] at q1; exact Option.some.inj q1
  have c : ∀ j u, j < 7 → (itemCells xs[k] sv ev)[j]? = some u → w.cell? ⟨g, k * 7 + j, Option.none⟩ = some u := fun j u hj hu => by
    have hl : j < (rs[k]'(by omega)).length := by rw [hr]; exact hj
    rw [hc k (by omega) j hl]
    have : (rs[k]'(by omega))[j]? = some u := by rw [hr, Array.getElem?_toList]; exact hu
    rw [List.getElem?_eq_getElem hl] at this
    exact this
  exact ⟨g, cap, sv, ev, by rw [h2], hg, c 0 _ (by decide) rfl, c 1 _ (by decide) rfl, c 2 _ (by decide) rfl, c 3 _ (by decide) rfl, c 4 _ (by decide) rfl, c 5 _ (by decide) rfl, c 6 _ (by decide) rfl, q2⟩
/-- One item more. -/
theorem run_append_T (w : World) (B : Nat) (v y sv ev : Value) (xs : List ItemD) (x : ItemD) (h : ItemsT w B v xs) (R : Nat → Nat → Value) (hy : Rows w y 1 7 R) (hR : ∀ j u, (itemCells x sv ev)[j]? = some u → R 0 j = u)
    (hx : ItemR w B x sv ev) (hl : xs.length ≤ 10000) (hB : B ≤ w.heap.size) :
    ∃ a c w', (Builtin.append_ #[22, 22] 22 #[v, y]).run Try.prog w = .ok (.slice a (xs.length + 1) c) w' ∧ ItemsT w' B (.slice a (xs.length + 1) c) (xs ++ [x]) ∧ w.grownBy w' v.ownBlock ∧ ((Value.slice a (xs.length + 1) c).ownBlock = v.ownBlock ∨ ∃ j, (Value.slice a (xs.length + 1) c).ownBlock = some j ∧ w.heap.size ≤ j) ∧ KeepT w w' ∧
      ((∃ g cap, v = .slice (some ⟨g, 0, Option.none⟩) xs.length cap ∧ xs.length + 1 ≤ cap ∧ Value.slice a (xs.length + 1) c = .slice (some ⟨g, 0, Option.none⟩) (xs.length + 1) cap) ∨ ((∀ a n cap, v = .slice a n cap → cap < xs.length + 1) ∧ w.grownBy w' none ∧ ∃ j, (Value.slice a (xs.length + 1) c).ownBlock = some j ∧ w.heap.size ≤ j)) := by
  obtain ⟨i0, hi0, hz0, hz1, hz2⟩ := info_parts info_item
  have hcs := h.cells
  obtain ⟨rs, o1, o2, o3⟩ := h
  have hsv : ∃ a n c, sv = .slice a n c := by obtain ⟨a, c, e⟩ := hx.1.shape; exact ⟨a, _, c, e⟩
  have hev : ∃ a n c, ev = .slice a n c := by obtain ⟨a, c, e⟩ := hx.2.shape; exact ⟨a, _, c, e⟩
  obtain ⟨v', w', hr, p1, p2, p3, p5⟩ := run_append_rows (P := Try.prog) w B 22 22 33 i0 _ 7 88 Try.underlying22 hi0 hz0 hz1 hz2 (by rfl) v y rs [(itemCells x sv ev).toList] o1 R hy
    (by
      intro i hi
      obtain rfl : i = 0 := by simp at hi; omega
      refine ⟨rfl, fun j hj => ?_⟩
      have hj' : j < (itemCells x sv ev).toList.length := hj
      have h9 : (itemCells x sv ev)[j]? = some ((itemCells x sv ev).toList[j]) := by rw [← Array.getElem?_toList]; exact List.getElem?_eq_getElem hj'
      exact (hR j _ h9).symm)
    (by
      intro r hr u hu
      obtain rfl : r = (itemCells x sv ev).toList := by simpa using hr
      obtain ⟨a1, n1, c1, rfl⟩ := hsv
      obtain ⟨a2, n2, c2, rfl⟩ := hev
      simp only [itemCells, List.mem_cons, List.not_mem_nil, or_false] at hu
      rcases hu with rfl | rfl | rfl | rfl | rfl | rfl | rfl <;> rfl)
    (by rw [o2]; unfold maxLen; simp; omega) (by rw [o2]; simp; omega) hB
  have hk : KeepT w w' := fun j cs t fr ht hc => p2.block j (Array.getElem?_eq_some_iff.1 hc).1 (fun e => by
    obtain ⟨cs', hc'⟩ := hcs j e.symm
    rw [hc'] at hc
    injection hc with hc
    injection hc with _ hc _
    subst hc
    rcases ht with h | h | h <;> cases h)
  have hs : ItemsT w' B v' (xs ++ [x]) := by
    refine ⟨_, p1, by simp [o2], fun i hi => ?_⟩
    by_cases hlt : i < xs.length
    · obtain ⟨su, eu, q1, q2⟩ := o3 i hlt
      rw [List.getElem_append_left hlt, List.getElem?_append_left (by omega)]
      exact ⟨su, eu, q1, q2.keepT hk⟩
    · obtain rfl : i = xs.length := by simp at hi; omega
      refine ⟨sv, ev, ?_, ?_⟩
      · rw [List.getElem?_append_right (by omega)]
        simp [o2]
      · simpa using hx.keepT hk
  obtain ⟨a, c, rfl⟩ := hs.shape
  simp only [List.length_append, List.length_singleton] at hr hs p3 p5
  refine ⟨a, c, w', hr, hs, p2, p3, hk, ?_⟩
  rcases p5 (by decide) with ⟨g, cap, h1, h2, h3⟩ | ⟨h1, h2, h3⟩
  · exact .inl ⟨g, cap, by rw [← o2]; exact h1, by rw [← o2]; exact h2, by rw [← o2] at h3 ⊢; exact h3⟩
  · exact .inr ⟨fun a n cap e => by rw [← o2]; exact h1 a n cap e, h2, h3⟩

/-- Seven rows of the call's own, each in a block of its own. -/
def RowsT (w : World) (B : Nat) (f : Nat → Value × List ItemD) : Prop :=
  (∀ i, i < 7 → ItemsT w B (f i).1 (f i).2) ∧ ∀ i j, i < 7 → j < 7 → i ≠ j → ∀ g, (f i).1.ownBlock = some g → (f j).1.ownBlock ≠ some g
theorem RowsT.keep {w w' : World} {B : Nat} {f : Nat → Value × List ItemD} (h : RowsT w B f) (hk : KeepT w w') (ho : ∀ i j, i < 7 → (f i).1.ownBlock = some j → w'.heap[j]? = w.heap[j]?) : RowsT w' B f :=
  ⟨fun i hi => (h.1 i hi).keep hk fun j hj => ho i j hi hj, h.2⟩
theorem RowsT.upd {w w' : World} {B : Nat} {f : Nat → Value × List ItemD} (h : RowsT w B f) (hk : KeepT w w') (i : Nat) (hi : i < 7) (v : Value) (xs : List ItemD) (hv : ItemsT w' B v xs)
    (ho : ∀ q j, q < 7 → q ≠ i → (f q).1.ownBlock = some j → w'.heap[j]? = w.heap[j]?) (hb : v.ownBlock = (f i).1.ownBlock ∨ ∀ j, v.ownBlock = some j → w.heap.size ≤ j) : RowsT w' B (upd f i (v, xs)) := by
  refine ⟨fun q hq => ?_, fun a b ha hb' hab g hg => ?_⟩
  · by_cases e : q = i
    · subst e; rw [upd_self]; exact hv
    · rw [upd_ne _ _ _ _ e]; exact (h.1 q hq).keep hk fun j hj => ho q j hq e hj
  · by_cases ea : a = i
    · subst ea
      rw [upd_self] at hg
      rw [upd_ne _ _ _ _ (fun e => hab e.symm)]
      rcases hb with hb | hb
      · exact h.2 a b ha hb' hab g (hb ▸ hg)
      · intro e
        have := (h.1 b hb').lt g e
        have := hb g hg
        omega
    · rw [upd_ne _ _ _ _ ea] at hg
      by_cases eb : b = i
      · subst eb
        rw [upd_self]
        rcases hb with hb | hb
        · show v.ownBlock ≠ some g
          rw [hb]; exact h.2 a b ha hb' hab g hg
        · intro e
          have := (h.1 a ha).lt g hg
          have := hb g e
          omega
      · rw [upd_ne _ _ _ _ eb]; exact h.2 a b ha hb' hab g hg
def Tab (W : World) (b : Nat) (t : TypeId) (a : Nat → Value) : Prop := W.heap[b]? = some (.cells #[a 0, a 1, a 2] t (0, 0))
theorem Tab.lt {W : World} {b : Nat} {t : TypeId} {a : Nat → Value} (h : Tab W b t a) : b < W.heap.size := (Array.getElem?_eq_some_iff.1 h).1
theorem Tab.cell {W : World} {b : Nat} {t : TypeId} {a : Nat → Value} (h : Tab W b t a) (i : Nat) (hi : i < 3) : W.cell? ⟨b, i, Option.none⟩ = some (a i) := by
  unfold Tab at h
  match i, hi with
  | 0, _ => simp [World.cell?, h]
  | 1, _ => simp [World.cell?, h]
  | 2, _ => simp [World.cell?, h]
theorem Tab.frozen {W : World} {b : Nat} {t : TypeId} {a : Nat → Value} (h : Tab W b t a) (i : Nat) : W.frozen? ⟨b, i, Option.none⟩ = false := frozen_of_row W b i _ t h
theorem Tab.set {W : World} {b : Nat} {t : TypeId} {a : Nat → Value} (h : Tab W b t a) (i : Nat) (hi : i < 3) (v : Value) : Tab (W.setCell ⟨b, i, Option.none⟩ v) b t (upd a i v) := by
  unfold Tab at h ⊢
  obtain ⟨hb, hg⟩ := Array.getElem?_eq_some_iff.1 h
  match i, hi with
  | 0, _ => simp [World.setCell, Array.getElem_modify, hg, hb, upd]
  | 1, _ => simp [World.setCell, Array.getElem_modify, hg, hb, upd]
  | 2, _ => simp [World.setCell, Array.getElem_modify, hg, hb, upd]
structure CzF (W : World) (B O H V : Nat) (f : Nat → Value × List ItemD) (u : Nat → Value) (v : Nat → List Nat) : Prop where
  rows : RowsT W B f
  vec : ∀ i, i < 3 → Own W B 23 (u i) (nums (v i))
  o : Tab W O 22 (fun i => (f i).1)
  h : Tab W H 22 (fun i => (f (i + 3)).1)
  t : Tab W V 24 u
  bo : B ≤ O
  bh : B ≤ H
  bv : B ≤ V
  ne : O ≠ H
theorem CzF.keep {W W' : World} {B O H V : Nat} {f : Nat → Value × List ItemD} {u : Nat → Value} {v : Nat → List Nat} (c : CzF W B O H V f u v) (hk : ∀ (j : Nat) (cs : Array Value) (t : TypeId) (fr : Nat × Nat), t ≠ 54 → W.heap[j]? = some (.cells cs t fr) → W'.heap[j]? = W.heap[j]?) : CzF W' B O H V f u v :=
  ⟨c.rows.keep (fun j cs t fr ht hc => hk j cs t fr (fun e => by subst e; rcases ht with h | h | h <;> cases h) hc) (fun i j hi hj => by obtain ⟨cs, hc⟩ := (c.rows.1 i hi).cells j hj; exact hk j cs 33 _ (by decide) hc),
    fun i hi => (c.vec i hi).blockT fun j cs fr hc _ => hk j cs 23 fr (by decide) hc, (hk _ _ 22 _ (by decide) c.o).trans c.o, (hk _ _ 22 _ (by decide) c.h).trans c.h, (hk _ _ 24 _ (by decide) c.t).trans c.t, c.bo, c.bh, c.bv, c.ne⟩
theorem CzF.gr {W W' : World} {B O H V : Nat} {f : Nat → Value × List ItemD} {u : Nat → Value} {v : Nat → List Nat} (c : CzF W B O H V f u v) (g : Gr W W') : CzF W' B O H V f u v :=
  c.keep fun j _ _ _ _ hc => g.block j (Array.getElem?_eq_some_iff.1 hc).1
theorem CzF.congr {W : World} {B O H V : Nat} {f f' : Nat → Value × List ItemD} {u u' : Nat → Value} {v v' : Nat → List Nat} (c : CzF W B O H V f u v) (hf : ∀ i, i < 7 → f' i = f i) (hu : ∀ i, i < 3 → u' i = u i) (hv : ∀ i, i < 3 → v' i = v i) : CzF W B O H V f' u' v' where
  rows := ⟨fun i hi => by rw [hf i hi]; exact c.rows.1 i hi, fun i j hi hj hij g => by rw [hf i hi, hf j hj]; exact c.rows.2 i j hi hj hij g⟩
  vec := fun i hi => by rw [hu i hi, hv i hi]; exact c.vec i hi
  o := by have := c.o; unfold Tab at this ⊢; simp only [hf 0 (by decide), hf 1 (by decide), hf 2 (by decide)]; exact this
  h := by have := c.h; unfold Tab at this ⊢; simp only [Nat.zero_add, Nat.reduceAdd, hf 3 (by decide), hf 4 (by decide), hf 5 (by decide)] at this ⊢; exact this
  t := by have := c.t; unfold Tab at this ⊢; simp only [hu 0 (by decide), hu 1 (by decide), hu 2 (by decide)]; exact this
  bo := c.bo
  bh := c.bh
  bv := c.bv
  ne := c.ne
theorem heap_setCell_ne {W : World} {b i j : Nat} {v : Value} (h : j ≠ b) : (W.setCell ⟨b, i, Option.none⟩ v).heap[j]? = W.heap[j]? := by
  simp only [World.setCell]
  rw [Array.getElem?_modify, if_neg (Ne.symm h)]
theorem cells_type {W : World} {j : Nat} {cs cs' : Array Value} {t t' : TypeId} {fr fr' : Nat × Nat} (h : W.heap[j]? = some (.cells cs t fr)) (h' : W.heap[j]? = some (.cells cs' t' fr')) : t = t' := by
  rw [h] at h'; injection h' with h'; injection h'
/-- A number's row stored. -/
theorem CzF.setV {W : World} {B O H V : Nat} {f : Nat → Value × List ItemD} {u : Nat → Value} {v : Nat → List Nat} (c : CzF W B O H V f u v) (i : Nat) (hi : i < 3) (u' : Value) (l : List Nat) (hu : Own W B 23 u' (nums l)) : CzF (W.setCell ⟨V, i, Option.none⟩ u') B O H V f (upd u i u') (upd v i l) := by
  have hk : KeepT W (W.setCell ⟨V, i, Option.none⟩ u') := fun j cs t fr ht hc => heap_setCell_ne fun e => by
    subst e
    have := cells_type hc c.t
    subst this
    rcases ht with h | h | h <;> cases h
  refine ⟨c.rows.keep hk (fun q j hq hj => heap_setCell_ne fun e => by
      subst e
      obtain ⟨cs, hc⟩ := (c.rows.1 q hq).cells _ hj
      have := cells_type hc c.t
      cases this), fun q hq => ?_, ?_, ?_, c.t.set i hi u', c.bo, c.bh, c.bv, c.ne⟩
  · by_cases e : q = i
    · subst e; rw [upd_self, upd_self]; exact hu.keepT (.inl rfl) hk
    · rw [upd_ne _ _ _ _ e, upd_ne _ _ _ _ e]; exact (c.vec q hq).keepT (.inl rfl) hk
  · exact (heap_setCell_ne fun e => by have := cells_type (by rw [e]; exact c.t) c.o; cases this).trans c.o
  · exact (heap_setCell_ne fun e => by have := cells_type (by rw [e]; exact c.t) c.h; cases this).trans c.h
/-- Behind an append to a row of the table: its store. -/
theorem CzF.putO {W W2 : World} {B O H V : Nat} {f : Nat → Value × List ItemD} {u : Nat → Value} {v : Nat → List Nat} (c : CzF W B O H V f u v) (i : Nat) (hi : i < 3) {v' : Value} {ys : List ItemD} (p1 : ItemsT W2 B v' ys)
    (p2 : ∀ j, j < W.heap.size → (f (i)).1.ownBlock ≠ some j → W2.heap[j]? = W.heap[j]?) (hbl : v'.ownBlock = (f (i)).1.ownBlock ∨ ∀ j, v'.ownBlock = some j → W.heap.size ≤ j) (w : World) (hw : Below B w W2) :
      W2.cell? ⟨O, i, Option.none⟩ = some (f (i)).1 ∧ W2.frozen? ⟨O, i, Option.none⟩ = false ∧
      CzF (W2.setCell ⟨O, i, Option.none⟩ v') B O H V (upd f (i) (v', ys)) u v ∧ Below B w (W2.setCell ⟨O, i, Option.none⟩ v') ∧ KeepT W (W2.setCell ⟨O, i, Option.none⟩ v') ∧
      ∀ X, X < W.heap.size → X ≠ O → (∀ q, q < 7 → (f q).1.ownBlock ≠ some X) → (W2.setCell ⟨O, i, Option.none⟩ v').heap[X]? = W.heap[X]? ∧ ∀ q, q < 7 → (upd f (i) (v', ys) q).1.ownBlock ≠ some X := by
  have typ : ∀ (j : Nat) (cs : Array Value) (t : TypeId) (fr : Nat × Nat), t ≠ 33 → W.heap[j]? = some (.cells cs t fr) → W2.heap[j]? = W.heap[j]? := fun j cs t fr ht hc =>
    p2 j (Array.getElem?_eq_some_iff.1 hc).1 (fun e => by obtain ⟨cs', hc'⟩ := (c.rows.1 _ (by omega)).cells j e; exact ht (cells_type hc hc'))
  have tto : Tab W2 O 22 (fun i => (f i).1) := (typ _ _ _ _ (by decide) c.o).trans c.o
  have th : Tab W2 H 22 (fun i => (f (i + 3)).1) := (typ _ _ _ _ (by decide) c.h).trans c.h
  have tv : Tab W2 V 24 u := (typ _ _ _ _ (by decide) c.t).trans c.t
  have hk3 : KeepT W2 (W2.setCell ⟨O, i, Option.none⟩ v') := fun j cs t fr ht hc => heap_setCell_ne fun e => by
    subst e
    have := cells_type hc tto
    subst this
    rcases ht with h | h | h <;> cases h
  have hk : KeepT W (W2.setCell ⟨O, i, Option.none⟩ v') := fun j cs t fr ht hc => by
    have h2 := typ j cs t fr (fun e => by subst e; rcases ht with h | h | h <;> cases h) hc
    exact (hk3 j cs t fr ht (h2.trans hc)).trans h2
  have row2 : ∀ q j, q < 7 → q ≠ i → (f q).1.ownBlock = some j → (W2.setCell ⟨O, i, Option.none⟩ v').heap[j]? = W.heap[j]? := fun q j hq hne hj => by
    obtain ⟨cs, hc⟩ := (c.rows.1 q hq).cells j hj
    rw [heap_setCell_ne (fun e => by rw [e] at hc; have := cells_type hc c.o; cases this)]
    exact p2 j (Array.getElem?_eq_some_iff.1 hc).1 (c.rows.2 q _ hq (by omega) hne j hj)
  have hv3 : ItemsT (W2.setCell ⟨O, i, Option.none⟩ v') B v' ys := p1.keep hk3 fun j hj => heap_setCell_ne fun e => by
    obtain ⟨cs, hc⟩ := p1.cells j hj
    rw [e] at hc
    have := cells_type hc tto
    cases this
  refine ⟨tto.cell i hi, tto.frozen i, ⟨?_, fun q hq => ((c.vec q hq).keepT (.inl rfl) hk), ?_, ?_, ?_, c.bo, c.bh, c.bv, c.ne⟩, ?_, hk, fun X hX hXT hXq => ⟨?_, fun q hq e => ?_⟩⟩
  · exact c.rows.upd hk (i) (by omega) v' _ hv3 row2 hbl
  · refine (tto.set i hi v').trans ?_
    congr 1
    all_goals match i, hi with
    | 0, _ => rfl
    | 1, _ => rfl
    | 2, _ => rfl
  · refine ((heap_setCell_ne c.ne.symm).trans th).trans ?_
    congr 2
    all_goals match i, hi with
    | 0, _ => rfl
    | 1, _ => rfl
    | 2, _ => rfl
  · exact (heap_setCell_ne fun e => by have := cells_type (by rw [e]; exact tto) tv; cases this).trans tv
  · exact Below.setCell hw c.bo _
  · rw [heap_setCell_ne hXT, p2 X hX (hXq _ (by omega))]
  · by_cases e2 : q = i
    · subst e2
      rw [upd_self] at e
      rcases hbl with hbl | hbl
      · exact hXq _ hq (hbl ▸ e)
      · have := hbl X e; omega
    · rw [upd_ne _ _ _ _ e2] at e
      exact hXq q hq e
/-- Behind an append to a row of the table: its store. -/
theorem CzF.putH {W W2 : World} {B O H V : Nat} {f : Nat → Value × List ItemD} {u : Nat → Value} {v : Nat → List Nat} (c : CzF W B O H V f u v) (i : Nat) (hi : i < 3) {v' : Value} {ys : List ItemD} (p1 : ItemsT W2 B v' ys)
    (p2 : ∀ j, j < W.heap.size → (f (i + 3)).1.ownBlock ≠ some j → W2.heap[j]? = W.heap[j]?) (hbl : v'.ownBlock = (f (i + 3)).1.ownBlock ∨ ∀ j, v'.ownBlock = some j → W.heap.size ≤ j) (w : World) (hw : Below B w W2) :
      W2.cell? ⟨H, i, Option.none⟩ = some (f (i + 3)).1 ∧ W2.frozen? ⟨H, i, Option.none⟩ = false ∧
      CzF (W2.setCell ⟨H, i, Option.none⟩ v') B O H V (upd f (i + 3) (v', ys)) u v ∧ Below B w (W2.setCell ⟨H, i, Option.none⟩ v') ∧ KeepT W (W2.setCell ⟨H, i, Option.none⟩ v') ∧
      ∀ X, X < W.heap.size → X ≠ H → (∀ q, q < 7 → (f q).1.ownBlock ≠ some X) → (W2.setCell ⟨H, i, Option.none⟩ v').heap[X]? = W.heap[X]? ∧ ∀ q, q < 7 → (upd f (i + 3) (v', ys) q).1.ownBlock ≠ some X := by
  have typ : ∀ (j : Nat) (cs : Array Value) (t : TypeId) (fr : Nat × Nat), t ≠ 33 → W.heap[j]? = some (.cells cs t fr) → W2.heap[j]? = W.heap[j]? := fun j cs t fr ht hc =>
    p2 j (Array.getElem?_eq_some_iff.1 hc).1 (fun e => by obtain ⟨cs', hc'⟩ := (c.rows.1 _ (by omega)).cells j e; exact ht (cells_type hc hc'))
  have tto : Tab W2 O 22 (fun i => (f i).1) := (typ _ _ _ _ (by decide) c.o).trans c.o
  have th : Tab W2 H 22 (fun i => (f (i + 3)).1) := (typ _ _ _ _ (by decide) c.h).trans c.h
  have tv : Tab W2 V 24 u := (typ _ _ _ _ (by decide) c.t).trans c.t
  have hk3 : KeepT W2 (W2.setCell ⟨H, i, Option.none⟩ v') := fun j cs t fr ht hc => heap_setCell_ne fun e => by
    subst e
    have := cells_type hc th
    subst this
    rcases ht with h | h | h <;> cases h
  have hk : KeepT W (W2.setCell ⟨H, i, Option.none⟩ v') := fun j cs t fr ht hc => by
    have h2 := typ j cs t fr (fun e => by subst e; rcases ht with h | h | h <;> cases h) hc
    exact (hk3 j cs t fr ht (h2.trans hc)).trans h2
  have row2 : ∀ q j, q < 7 → q ≠ i + 3 → (f q).1.ownBlock = some j → (W2.setCell ⟨H, i, Option.none⟩ v').heap[j]? = W.heap[j]? := fun q j hq hne hj => by
    obtain ⟨cs, hc⟩ := (c.rows.1 q hq).cells j hj
    rw [heap_setCell_ne (fun e => by rw [e] at hc; have := cells_type hc c.h; cases this)]
    exact p2 j (Array.getElem?_eq_some_iff.1 hc).1 (c.rows.2 q _ hq (by omega) hne j hj)
  have hv3 : ItemsT (W2.setCell ⟨H, i, Option.none⟩ v') B v' ys := p1.keep hk3 fun j hj => heap_setCell_ne fun e => by
    obtain ⟨cs, hc⟩ := p1.cells j hj
    rw [e] at hc
    have := cells_type hc th
    cases this
  refine ⟨th.cell i hi, th.frozen i, ⟨?_, fun q hq => ((c.vec q hq).keepT (.inl rfl) hk), ?_, ?_, ?_, c.bo, c.bh, c.bv, c.ne⟩, ?_, hk, fun X hX hXT hXq => ⟨?_, fun q hq e => ?_⟩⟩
  · exact c.rows.upd hk (i + 3) (by omega) v' _ hv3 row2 hbl
  · refine ((heap_setCell_ne c.ne).trans tto).trans ?_
    congr 2
    all_goals match i, hi with
    | 0, _ => rfl
    | 1, _ => rfl
    | 2, _ => rfl
  · refine (th.set i hi v').trans ?_
    congr 1
    all_goals match i, hi with
    | 0, _ => rfl
    | 1, _ => rfl
    | 2, _ => rfl
  · exact (heap_setCell_ne fun e => by have := cells_type (by rw [e]; exact th) tv; cases this).trans tv
  · exact Below.setCell hw c.bh _
  · rw [heap_setCell_ne hXT, p2 X hX (hXq _ (by omega))]
  · by_cases e2 : q = i + 3
    · subst e2
      rw [upd_self] at e
      rcases hbl with hbl | hbl
      · exact hXq _ hq (hbl ▸ e)
      · have := hbl X e; omega
    · rw [upd_ne _ _ _ _ e2] at e
      exact hXq q hq e

theorem chc {W W' : World} {g b i : Nat} {v : Value} (hW : Ch (fun j => j = g) W.drew W') (h : W.cell? ⟨b, i, Option.none⟩ = some v) (hne : b ≠ g) : W'.cell? ⟨b, i, Option.none⟩ = some v := by
  have hb : b < W.heap.size := by
    rcases Nat.lt_or_ge b W.heap.size with h1 | h1
    · exact h1
    · simp [World.cell?, Array.getElem?_eq_none h1] at h
  exact (hW.cell (p := ⟨b, i, Option.none⟩) hb hne).trans h
theorem exec_append {P : Program} {W w' : World} {o : Oper} {a : Act} {t : TypeId} {v y v' : Value} (hr : (Builtin.append_ #[t, t] o.type #[v, y]).run P W = .ok v' w') (s x : Operand)
    (ho : o.op = .call { callee := .builtin .append, args := #[s, x], argTypes := #[t, t] }) (hs : a.eval s = v) (hx : a.eval x = y) : (execOp a.eval o).run P W = .ok (.value v') w' := by
  unfold execOp
  simp only [ho, resolve, invoke, builtin, Sem.run_bind, Sem.run_pure, Result.andThen_ok, List.map_toArray, List.map_cons, List.map_nil, hs, hx, hr]
theorem opG_run_append {P : Program} {W w' : World} {ops : Array Oper} {o : Oper} {a : Act} {V : Sp} {t : TypeId} {v y v' : Value} (hr : (Builtin.append_ #[t, t] o.type #[v, y]).run P W = .ok v' w') (hgd : o.guard = none) (s x : Operand)
    (ho : o.op = .call { callee := .builtin .append, args := #[s, x], argTypes := #[t, t] }) (hs : a.eval s = v) (hx : a.eval x = y) (h1 : Gr W w') (h2 : V v' w') : opG P ops o a W V := by
  unfold opG
  rw [if_pos (by simp [Region.wanted, hgd]), exec_append hr s x ho hs hx]
  exact ⟨h1, h2⟩
theorem opT_run_append {P : Program} {R : World → World → Prop} {W w' : World} {ops : Array Oper} {o : Oper} {a : Act} {V : Sp} {t : TypeId} {v y v' : Value} (hr : (Builtin.append_ #[t, t] o.type #[v, y]).run P W = .ok v' w') (hgd : o.guard = none) (s x : Operand)
    (ho : o.op = .call { callee := .builtin .append, args := #[s, x], argTypes := #[t, t] }) (hs : a.eval s = v) (hx : a.eval x = y) (h1 : R W w') (h2 : V v' w') : opT P R ops o a W V := by
  unfold opT
  rw [if_pos (by simp [Region.wanted, hgd]), exec_append hr s x ho hs hx]
  exact ⟨h1, h2⟩
/-- The word on a new row of one item. -/
def NewRow (N : Nat) (x : ItemD) (su eu : Value) (r : Value) (W : World) : Prop := ∃ Y, r = .slice (some ⟨Y, 0, Option.none⟩) 1 1 ∧ N ≤ Y ∧ CellsAt W Y (itemCells x su eu) 33
theorem NewRow.mono (N : Nat) (x : ItemD) (su eu : Value) : MonoSp (NewRow N x su eu) := fun _ _ _ g ⟨Y, e, h1, h2⟩ => ⟨Y, e, h1, h2.gr g⟩
theorem NewRow.monoT (N g : Nat) (hg : g < N) (x : ItemD) (su eu : Value) : MonoT (fun j => j = g) (NewRow N x su eu) := fun _ _ _ h ⟨Y, e, h1, h2⟩ => ⟨Y, e, h1, (h.block Y h2.lt (by show ¬ Y = g; omega)).trans h2⟩
/-- The word on a row that was made anew, one item longer. -/
def LongRow (N B m : Nat) (xs : List ItemD) (r : Value) (W : World) : Prop := ∃ a c, r = .slice a m c ∧ ItemsT W B r xs ∧ ∀ j, r.ownBlock = some j → N ≤ j
theorem LongRow.mono (N B m : Nat) (xs : List ItemD) : MonoSp (LongRow N B m xs) := fun _ _ _ g ⟨a, c, e, h1, h2⟩ => ⟨a, c, e, h1.keep (KeepT.gr g) (fun j hj => g.block j (h1.lt j hj).2), h2⟩
/-- The append of one item, whatever the world that came of the region's own start. -/
theorem app_room {W0 W : World} {B g cap : Nat} {v su eu : Value} {xs : List ItemD} {x : ItemD} {y : Value} (h0 : ItemsT W0 B v xs) (hW : Ch (fun j => j = g) W0.drew W) (hg : W.heap[g]? = W0.heap[g]?) (ev : v = .slice (some ⟨g, 0, Option.none⟩) xs.length cap) (hcap : xs.length + 1 ≤ cap)
    (hy : NewRow W0.heap.size x su eu y W) (hx : ItemR W0 B x su eu) (hl : xs.length ≤ 10000) (hB : B ≤ W0.heap.size) :
    ∃ w', (Builtin.append_ #[22, 22] 22 #[v, y]).run Try.prog W = .ok (.slice (some ⟨g, 0, Option.none⟩) (xs.length + 1) cap) w' ∧ ItemsT w' B (.slice (some ⟨g, 0, Option.none⟩) (xs.length + 1) cap) (xs ++ [x]) ∧ Ch (fun j => j = g) W w' := by
  have hk : KeepT W0 W := fun j cs t fr ht hc => by
    by_cases e : j = g
    · subst e; exact hg
    · exact hW.block j (Array.getElem?_eq_some_iff.1 hc).1 e
  obtain ⟨Y, rfl, h1, h2⟩ := hy
  obtain ⟨a, c, w', hr, p1, p2, p3, p4, p5⟩ := run_append_T W B v _ su eu xs x (h0.keep hk (fun j hj => by rw [ev] at hj; injection hj with hj; subst hj; exact hg)) (rowF (itemCells x su eu)) (rows_one _ _ 7 _ 33 (0, 0) h2 rfl)
    (fun j u hu => by show ((itemCells x su eu)[j]?).getD (.bool false) = u; rw [hu]; rfl) (hx.keepT hk) hl (Nat.le_trans hB hW.size)
  rcases p5 with ⟨g', cap', q1, q2, q3⟩ | ⟨q1, _, _⟩
  · rw [ev] at q1
    injection q1 with q1 _ q4
    injection q1 with q1
    injection q1 with q1
    subst q1 q4
    rw [q3] at hr p1
    exact ⟨w', hr, p1, Ch.of_grownBy p2 (fun k hk => by rw [ev] at hk; injection hk with hk; exact hk.symm)⟩
  · have := q1 _ _ _ ev
    omega
theorem app_new {W0 W : World} {B : Nat} {v su eu : Value} {xs : List ItemD} {x : ItemD} {y : Value} (h0 : ItemsT W0 B v xs) (hW : Gr W0.drew W) (hno : ¬ ∃ g cap, v = .slice (some ⟨g, 0, Option.none⟩) xs.length cap ∧ xs.length + 1 ≤ cap)
    (hy : NewRow W0.heap.size x su eu y W) (hx : ItemR W0 B x su eu) (hl : xs.length ≤ 10000) (hB : B ≤ W0.heap.size) :
    ∃ v' w', (Builtin.append_ #[22, 22] 22 #[v, y]).run Try.prog W = .ok v' w' ∧ LongRow W0.heap.size B (xs.length + 1) (xs ++ [x]) v' w' ∧ Gr W w' := by
  have g0 : Gr W0 W := Gr.trans ((Gr.refl W0).drew) hW
  obtain ⟨Y, rfl, h1, h2⟩ := hy
  obtain ⟨a, c, w', hr, p1, p2, p3, p4, p5⟩ := run_append_T W B v _ su eu xs x (h0.keep (KeepT.gr g0) (fun j hj => g0.block j (h0.lt j hj).2)) (rowF (itemCells x su eu)) (rows_one _ _ 7 _ 33 (0, 0) h2 rfl)
    (fun j u hu => by show ((itemCells x su eu)[j]?).getD (.bool false) = u; rw [hu]; rfl) (hx.keepT (KeepT.gr g0)) hl (Nat.le_trans hB g0.size)
  rcases p5 with ⟨g', cap', q1, q2, q3⟩ | ⟨q1, q2, j, q3, q4⟩
  · exact absurd ⟨g', cap', q1, q2⟩ hno
  · exact ⟨_, w', hr, ⟨a, c, rfl, p1, fun j' hj' => by rw [q3] at hj'; injection hj' with hj'; have := g0.size; omega⟩, grownBy_below q2 (Nat.le_refl _) (by intro k hk; cases hk)⟩
/-- A block of another item was written. -/
theorem CzF.keepX {W W' : World} {B O H V X : Nat} {f : Nat → Value × List ItemD} {u : Nat → Value} {v : Nat → List Nat} (c : CzF W B O H V f u v) {cs : Array Value} (hX : CellsAt W X cs 33) (hq : ∀ q, q < 7 → (f q).1.ownBlock ≠ some X) (hk : ∀ j, j ≠ X → W'.heap[j]? = W.heap[j]?) : CzF W' B O H V f u v := by
  have h33 : ∀ (j : Nat) (cs : Array Value) (t : TypeId) (fr : Nat × Nat), t ≠ 33 → W.heap[j]? = some (.cells cs t fr) → W'.heap[j]? = W.heap[j]? := fun j cs t fr ht hc => hk j (fun e => by subst e; exact ht (cells_type hc hX))
  exact ⟨c.rows.keep (fun j cs t fr ht hc => h33 j cs t fr (fun e => by subst e; rcases ht with h | h | h <;> cases h) hc) (fun i j hi hj => hk j (fun e => hq i hi (e ▸ hj))),
    fun i hi => (c.vec i hi).blockT fun j cs fr hc _ => h33 j cs 23 fr (by decide) hc, (h33 _ _ 22 _ (by decide) c.o).trans c.o, (h33 _ _ 22 _ (by decide) c.h).trans c.h, (h33 _ _ 24 _ (by decide) c.t).trans c.t, c.bo, c.bh, c.bv, c.ne⟩
def zItem : Array Value := #[.int .i64 0, .int .u64 0, .int .i64 0, .int .u64 0, .slice none 0 0, .slice none 0 0, .int .u32 0]
theorem store_item {W : World} {X : Nat} (h : CellsAt W X zItem 33) (x : ItemD) (sv ev : Value) (hs : ∃ a n c, sv = .slice a n c) (he : ∃ a n c, ev = .slice a n c) :
    ∃ W', (storeCells ⟨X, 0, none⟩ (itemCells x sv ev).toList).run Try.prog W = .ok () W' ∧ CellsAt W' X (itemCells x sv ev) 33 ∧ (∀ j, j ≠ X → W'.heap[j]? = W.heap[j]?) ∧ W'.heap.size = W.heap.size ∧ ∀ B w, Below B w W → B ≤ X → Below B w W' := by
  have hr := Go.run_storeCells_from (P := Try.prog) X 33 (itemCells x sv ev).toList 0 zItem W h rfl (fun r hr => by
    obtain ⟨a1, n1, c1, rfl⟩ := hs
    obtain ⟨a2, n2, c2, rfl⟩ := he
    simp only [itemCells, List.mem_cons, List.not_mem_nil, or_false] at hr
    rcases hr with rfl | rfl | rfl | rfl | rfl | rfl | rfl <;> rfl)
  obtain ⟨hlt, hg⟩ := Array.getElem?_eq_some_iff.1 h
  refine ⟨_, hr, ?_, fun j hj => ?_, ?_, fun B w hb hX => hb.trans ⟨rfl, rfl, rfl, ?_, fun k hk => ?_⟩⟩
  · unfold CellsAt; simp [World.setRow, Array.getElem_modify, hg, hlt]
  · simp only [World.setRow, Array.getElem?_modify]; rw [if_neg (Ne.symm hj)]
  · simp [World.setRow]
  · simp [World.setRow]
  · simp only [World.setRow, Array.getElem?_modify]; rw [if_neg (by omega)]
/-- Row 6 is another. -/
theorem CzF.next {W : World} {B O H V : Nat} {f : Nat → Value × List ItemD} {u : Nat → Value} {v : Nat → List Nat} (c : CzF W B O H V f u v) {W' : World} (g : Gr W W') (nv : Value) (ys : List ItemD) (hn : ItemsT W' B nv ys) (hb : ∀ j, nv.ownBlock = some j → W.heap.size ≤ j) : CzF W' B O H V (upd f 6 (nv, ys)) u v := by
  have c' := c.gr g
  exact ⟨c.rows.upd (KeepT.gr g) 6 (by decide) nv ys hn (fun q j hq _ hj => g.block j ((c.rows.1 q hq).lt j hj).2) (.inr hb), c'.vec, c'.o, c'.h, c'.t, c.bo, c.bh, c.bv, c.ne⟩
end Go.Proofs.Ytpdninnnpoiblaa
