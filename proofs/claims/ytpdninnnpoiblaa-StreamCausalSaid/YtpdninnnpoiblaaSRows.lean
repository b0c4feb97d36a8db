/-
  Rows of items of the call's own.
-/
import Derived.Test.YtpdninnnpoiblaaSChosen
set_option linter.unusedVariables false
namespace Go.Proofs.Ytpdninnnpoiblaa
open Go.RowKit Go.Shelf

/-- The blocks of cells from B on, but v's own, are as they were. -/
def KeepC (B : Nat) (v : Value) (w w' : World) : Prop := w.heap.size ≤ w'.heap.size ∧ ∀ j cs t fr, B ≤ j → v.ownBlock ≠ some j → w.heap[j]? = some (.cells cs t fr) → w'.heap[j]? = w.heap[j]?
theorem Own.blockC {w w' : World} {base : Nat} {e : TypeId} {v : Value} {xs : List Value} (h : Own w base e v xs) (hb : ∀ j cs t fr, base ≤ j → w.heap[j]? = some (.cells cs t fr) → v.ownBlock = some j → w'.heap[j]? = w.heap[j]?) : Own w' base e v xs := by
  refine ⟨h.1, ?_⟩
  rcases h.2 with hn | ⟨g, cap, cur, rfl, h1, h2, rest⟩
  · exact .inl hn
  · exact .inr ⟨g, cap, cur, rfl, h1, (hb g _ _ _ h1 h2 rfl).trans h2, rest⟩
theorem OwnR.blockC {w w' : World} {base k : Nat} {e : TypeId} {v : Value} {rs : List (List Value)} (h : OwnR w base e k v rs) (hb : ∀ j cs t fr, base ≤ j → w.heap[j]? = some (.cells cs t fr) → v.ownBlock = some j → w'.heap[j]? = w.heap[j]?) : OwnR w' base e k v rs := by
  refine ⟨h.1, ?_⟩
  rcases h.2 with hn | ⟨g, cap, cur, rfl, h1, h2, rest⟩
  · exact .inl hn
  · exact .inr ⟨g, cap, cur, rfl, h1, (hb g _ _ _ h1 h2 rfl).trans h2, rest⟩
theorem ItemR.blocksC {w w' : World} {B : Nat} {x : ItemD} {sv ev : Value} (h : ItemR w B x sv ev) (hb : ∀ j cs t fr, B ≤ j → w.heap[j]? = some (.cells cs t fr) → w'.heap[j]? = w.heap[j]?) : ItemR w' B x sv ev := by
  obtain ⟨h1, rs, q1, q2, q3⟩ := h
  refine ⟨h1.blockC fun j cs t fr hj hc _ => hb j cs t fr hj hc, rs, q1.blockC fun j cs t fr hj hc _ => hb j cs t fr hj hc, q2, fun i hi => ?_⟩
  obtain ⟨ok, dv, p1, p2, p3⟩ := q3 i hi
  exact ⟨ok, dv, p1, fun hk => ⟨(p2 hk).1.blockC fun j cs t fr hj hc _ => hb j cs t fr hj hc, (p2 hk).2⟩, fun hk => absurd hk (by omega)⟩
/-- An item stays whatever becomes of the block of v. -/
def ItemS (w : World) (B : Nat) (v : Value) (x : ItemD) (sv ev : Value) : Prop := ∀ w', KeepC B v w w' → ItemR w' B x sv ev
theorem KeepC.refl (B : Nat) (v : Value) (w : World) : KeepC B v w w := ⟨Nat.le_refl _, fun _ _ _ _ _ _ _ => rfl⟩
theorem KeepC.trans {B : Nat} {v : Value} {a b c : World} (h : KeepC B v a b) (k : KeepC B v b c) : KeepC B v a c :=
  ⟨Nat.le_trans h.1 k.1, fun j cs t fr hj hv hc => (k.2 j cs t fr hj hv ((h.2 j cs t fr hj hv hc).trans hc)).trans (h.2 j cs t fr hj hv hc)⟩
theorem ItemS.r {w : World} {B : Nat} {v : Value} {x : ItemD} {sv ev : Value} (h : ItemS w B v x sv ev) : ItemR w B x sv ev := h w (KeepC.refl _ _ _)
/-- A row of items of the call's own. -/
def ItemsR (w : World) (B : Nat) (v : Value) (xs : List ItemD) : Prop :=
  ∃ rs : List (List Value), OwnR w B 33 7 v rs ∧ rs.length = xs.length ∧ ∀ (i : Nat) (h : i < xs.length), ∃ sv ev, rs[i]? = some (itemCells xs[i] sv ev).toList ∧ ItemS w B v xs[i] sv ev
theorem ItemsR.nil (w : World) (B : Nat) : ItemsR w B (.slice none 0 0) [] := ⟨[], OwnR.nil w B 33 7, rfl, fun i h => absurd h (Nat.not_lt_zero _)⟩
theorem ItemsR.shape {w : World} {B : Nat} {v : Value} {xs : List ItemD} (h : ItemsR w B v xs) : ∃ a cap, v = .slice a xs.length cap := by
  obtain ⟨rs, h1, h2, _⟩ := h; rw [← h2]; exact h1.shape
theorem ItemsR.lt {w : World} {B : Nat} {v : Value} {xs : List ItemD} (h : ItemsR w B v xs) : ∀ j, v.ownBlock = some j → B ≤ j ∧ j < w.heap.size := by
  obtain ⟨rs, h1, _⟩ := h; exact h1.lt
theorem ItemsR.cells {w : World} {B : Nat} {v : Value} {xs : List ItemD} (h : ItemsR w B v xs) : ∀ j, v.ownBlock = some j → ∃ cs t fr, w.heap[j]? = some (.cells cs t fr) := by
  obtain ⟨rs, h1, _⟩ := h
  intro j hj
  rcases h1.2 with ⟨rfl, _⟩ | ⟨g, cap, cur, rfl, _, hg, _⟩
  · cases hj
  · injection hj with hj; subst hj; exact ⟨_, _, _, hg⟩
/-- All blocks of cells from B on stay. -/
theorem ItemsR.keep {w w' : World} {B : Nat} {v : Value} {xs : List ItemD} (h : ItemsR w B v xs) (hs : w.heap.size ≤ w'.heap.size) (hb : ∀ j cs t fr, B ≤ j → w.heap[j]? = some (.cells cs t fr) → w'.heap[j]? = w.heap[j]?) : ItemsR w' B v xs := by
  obtain ⟨rs, h1, h2, h3⟩ := h
  refine ⟨rs, h1.blockC fun j cs t fr hj hc _ => hb j cs t fr hj hc, h2, fun i hi => ?_⟩
  obtain ⟨sv, ev, q1, q2⟩ := h3 i hi
  exact ⟨sv, ev, q1, fun w'' hk => q2 w'' (KeepC.trans ⟨hs, fun j cs t fr hj _ hc => hb j cs t fr hj hc⟩ hk)⟩
theorem ItemsR.mono {w : World} {B B' : Nat} {v : Value} {xs : List ItemD} (h : ItemsR w B v xs) (hb : B' ≤ B) : ItemsR w B' v xs := by
  obtain ⟨rs, h1, h2, h3⟩ := h
  exact ⟨rs, h1.mono hb, h2, fun i hi => by obtain ⟨sv, ev, q1, q2⟩ := h3 i hi; exact ⟨sv, ev, q1, fun w' hk => (q2 w' ⟨hk.1, fun j cs t fr hj hv hc => hk.2 j cs t fr (Nat.le_trans hb hj) hv hc⟩).mono hb⟩⟩
theorem ItemsR.gr {w w' : World} {B : Nat} {v : Value} {xs : List ItemD} (h : ItemsR w B v xs) (g : Gr w w') : ItemsR w' B v xs :=
  h.keep g.size fun j cs t fr _ hc => g.block j (Array.getElem?_eq_some_iff.1 hc).1

/-- One item more. -/
theorem run_append_item (w : World) (B b0 : Nat) (v y sv ev : Value) (xs : List ItemD) (x : ItemD) (h : ItemsR w B v xs) (R : Nat → Nat → Value) (hy : Rows w y 1 7 R) (hR : ∀ j u, (itemCells x sv ev)[j]? = some u → R 0 j = u)
    (hx : ItemR w b0 x sv ev) (hb0 : B ≤ b0) (hvb : ∀ k, v.ownBlock = some k → k < b0) (hl : xs.length ≤ 1000) (hB : B ≤ w.heap.size) :
    ∃ v' w', (Builtin.append_ #[22, 22] 22 #[v, y]).run Try.prog w = .ok v' w' ∧ ItemsR w' B v' (xs ++ [x]) ∧ w.grownBy w' v.ownBlock ∧ (v'.ownBlock = v.ownBlock ∨ ∃ j, v'.ownBlock = some j ∧ w.heap.size ≤ j) := by
  obtain ⟨i0, hi0, hz0, hz1, hz2⟩ := info_parts info_item
  obtain ⟨rs, o1, o2, o3⟩ := h
  have hsv : ∃ a n c, sv = .slice a n c := by obtain ⟨a, c, e⟩ := hx.1.shape; exact ⟨a, _, c, e⟩
  have hev : ∃ a n c, ev = .slice a n c := by obtain ⟨a, c, e⟩ := hx.2.shape; exact ⟨a, _, c, e⟩
  obtain ⟨v', w', hr, p1, p2, p3, _⟩ := run_append_rows (P := Try.prog) w B 22 22 33 i0 _ 7 88 Try.underlying22 hi0 hz0 hz1 hz2 (by rfl) v y rs [(itemCells x sv ev).toList] o1 R hy
    (by
      intro i hi
      obtain rfl : i = 0 := by simp at hi; omega
      refine ⟨rfl, fun j hj => ?_⟩
      have hj' : j < (itemCells x sv ev).toList.length := hj
      have h9 : (itemCells x sv ev)[j]? = some ((itemCells x sv ev).toList[j]) := by rw [← Array.getElem?_toList]; exact List.getElem?_eq_getElem hj'
      exact (hR j _ h9).symm)
    (by
      intro r hr u hu
      obtain rfl : r = (itemCells x sv ev).toList := by simpa using hr
      obtain ⟨a1, n1, c1, rfl⟩ := hsv
      obtain ⟨a2, n2, c2, rfl⟩ := hev
      simp only [itemCells, List.mem_cons, List.not_mem_nil, or_false] at hu
      rcases hu with rfl | rfl | rfl | rfl | rfl | rfl | rfl <;> rfl)
    (by rw [o2]; unfold maxLen; simp; omega) (by rw [o2]; simp; omega) hB
  have step : ∀ j cs t fr, v.ownBlock ≠ some j → w.heap[j]? = some (.cells cs t fr) → w'.heap[j]? = w.heap[j]? ∧ v'.ownBlock ≠ some j := by
    intro j cs t fr hv hc
    have hj := (Array.getElem?_eq_some_iff.1 hc).1
    refine ⟨p2.block j hj (fun e => hv e.symm), fun e => ?_⟩
    rcases p3 with p3 | ⟨g, p3, hg⟩
    · exact hv (p3 ▸ e)
    · rw [p3] at e; injection e with e; omega
  have up : ∀ w'', KeepC B v' w' w'' → KeepC B v w w'' := fun w'' hk => ⟨Nat.le_trans p2.size hk.1, fun j cs t fr hj hv hc => by
    obtain ⟨s1, s2⟩ := step j cs t fr hv hc
    exact (hk.2 j cs t fr hj s2 (s1.trans hc)).trans s1⟩
  refine ⟨v', w', hr, ⟨_, p1, by simp [o2], fun i hi => ?_⟩, p2, p3⟩
  by_cases hlt : i < xs.length
  · obtain ⟨su, eu, q1, q2⟩ := o3 i hlt
    rw [List.getElem_append_left hlt, List.getElem?_append_left (by omega)]
    exact ⟨su, eu, q1, fun w'' hk => q2 w'' (up w'' hk)⟩
  · obtain rfl : i = xs.length := by simp at hi; omega
    refine ⟨sv, ev, ?_, fun w'' hk => ?_⟩
    · rw [List.getElem?_append_right (by omega)]
      simp [o2]
    · have : ItemR w'' b0 x sv ev := hx.blocksC fun j cs t fr hj hc => (up w'' hk).2 j cs t fr (Nat.le_trans hb0 hj) (fun e => by have := hvb j e; omega) hc
      simpa using this.mono hb0
end Go.Proofs.Ytpdninnnpoiblaa
