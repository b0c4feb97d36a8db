/-
  A row of the document's tokens, in a block of the call's own.
-/
import Derived.Test.YthckedmfjmbopaaTokRef
set_option linter.unusedVariables false
namespace Go.Proofs.Ythckedmfjmbopaa
open Go.RowKit

def RTok (w : World) (base : Nat → Prop) (c : Array Value) (r : Nat) (t : Tok) : Prop :=
  ∃ fv, c[r * 4]? = some (.int .u64 (t.e : Int)) ∧ c[r * 4 + 1]? = some fv ∧ c[r * 4 + 2]? = some (.bool t.held) ∧ c[r * 4 + 3]? = some (.bool t.out) ∧
    Sl w fv (nums t.f) ∧ (∀ k, fv.ownBlock = some k → base k) ∧ t.f.length ≤ 1000000
def RefT (w : World) (base : Nat → Prop) (g n : Nat) (T : Nat → Tok) : Prop :=
  ¬ base g ∧ (∀ k, base k → k < w.heap.size) ∧ ∃ c, w.heap[g]? = some (.cells c 34 (0, 0)) ∧ c.size = n * 4 ∧ ∀ r, r < n → RTok w base c r (T r)
theorem RefT.lt {w : World} {base : Nat → Prop} {g n : Nat} {T : Nat → Tok} (h : RefT w base g n T) : g < w.heap.size := by
  obtain ⟨_, _, c, hb, _⟩ := h; exact (Array.getElem?_eq_some_iff.1 hb).1
theorem RefT.ch {w w' : World} {base : Nat → Prop} {g n : Nat} {T : Nat → Tok} {ρ : Nat → Prop} (h : RefT w base g n T) (hc : Ch ρ w w') (hg : ¬ ρ g) (hb : ∀ k, base k → ¬ ρ k) : RefT w' base g n T := by
  have hl := h.lt
  obtain ⟨h0, h1, c, hT, hs, ht⟩ := h
  refine ⟨h0, fun k hk => Nat.lt_of_lt_of_le (h1 k hk) hc.size, c, (hc.block g hl hg).trans hT, hs, fun r hr => ?_⟩
  obtain ⟨fv, a1, a2, a3, a4, a5, a6, a7⟩ := ht r hr
  exact ⟨fv, a1, a2, a3, a4, a5.ch hc fun k hk => hb k (a6 k hk), a6, a7⟩
theorem RefT.below {w w' : World} {base : Nat → Prop} {g n : Nat} {T : Nat → Tok} (h : RefT w base g n T) (hb : Below w.heap.size w w') : RefT w' base g n T :=
  h.ch (ρ := fun _ => False) (Ch.of_gr hb) (fun h => h) (fun _ _ h => h)
/-- One of them, as cells. -/
theorem RefT.row {w : World} {base : Nat → Prop} {g n : Nat} {T : Nat → Tok} (h : RefT w base g n T) (r : Nat) (hr : r < n) :
    ∃ fa fc, w.cell? ⟨g, r * 4, none⟩ = some (.int .u64 ((T r).e : Int)) ∧ w.cell? ⟨g, r * 4 + 1, none⟩ = some (.slice fa (T r).f.length fc) ∧ w.cell? ⟨g, r * 4 + 2, none⟩ = some (.bool (T r).held) ∧ w.cell? ⟨g, r * 4 + 3, none⟩ = some (.bool (T r).out) ∧
      Sl w (.slice fa (T r).f.length fc) (nums (T r).f) ∧ (∀ k, (Value.slice fa (T r).f.length fc).ownBlock = some k → base k) ∧ (T r).f.length ≤ 1000000 ∧ ∀ i, w.frozen? ⟨g, i, none⟩ = false := by
  obtain ⟨_, _, c, hT, hs, ht⟩ := h
  obtain ⟨fv, a1, a2, a3, a4, a5, a6, a7⟩ := ht r hr
  obtain ⟨fa, fc, rfl⟩ := a5.oneCells
  rw [nums_length] at a2 a5 a6
  have hc : ∀ i, w.cell? ⟨g, i, none⟩ = c[i]? := fun i => by simp [World.cell?, hT]
  exact ⟨fa, fc, by rw [hc]; exact a1, by rw [hc]; exact a2, by rw [hc]; exact a3, by rw [hc]; exact a4, a5, a6, a7, fun i => by simp [World.frozen?, hT]⟩
/-- One of them stored. -/
theorem RefT.set {w : World} {base : Nat → Prop} {g n r : Nat} {T : Nat → Tok} {x : Tok} {u : Value} (h : RefT w base g n T) (hr : r < n) (su : Sl w u (nums x.f)) (hu : ∀ k, u.ownBlock = some k → k ≠ g ∧ k < w.heap.size) (hl : x.f.length ≤ 1000000) :
    Ch (fun k => k = g) w ((((w.setCell ⟨g, r * 4, none⟩ (.int .u64 (x.e : Int))).setCell ⟨g, r * 4 + 1, none⟩ u).setCell ⟨g, r * 4 + 2, none⟩ (.bool x.held)).setCell ⟨g, r * 4 + 3, none⟩ (.bool x.out)) ∧
    RefT ((((w.setCell ⟨g, r * 4, none⟩ (.int .u64 (x.e : Int))).setCell ⟨g, r * 4 + 1, none⟩ u).setCell ⟨g, r * 4 + 2, none⟩ (.bool x.held)).setCell ⟨g, r * 4 + 3, none⟩ (.bool x.out)) (fun k => base k ∨ u.ownBlock = some k) g n (updT T r x) := by
  have hc : Ch (fun k => k = g) w ((((w.setCell ⟨g, r * 4, none⟩ (.int .u64 (x.e : Int))).setCell ⟨g, r * 4 + 1, none⟩ u).setCell ⟨g, r * 4 + 2, none⟩ (.bool x.held)).setCell ⟨g, r * 4 + 3, none⟩ (.bool x.out)) := by
    refine ⟨rfl, rfl, rfl, by simp, fun k _ hn => ?_⟩
    rw [Below.heap_setCell _ ⟨g, _, none⟩ _ k (fun e => hn e), Below.heap_setCell _ ⟨g, _, none⟩ _ k (fun e => hn e), Below.heap_setCell _ ⟨g, _, none⟩ _ k (fun e => hn e), Below.heap_setCell _ ⟨g, _, none⟩ _ k (fun e => hn e)]
  refine ⟨hc, ?_⟩
  obtain ⟨h0, h1, c, hT, hs, ht⟩ := h
  refine ⟨?_, ?_, (((c.setIfInBounds (r * 4) (.int .u64 (x.e : Int))).setIfInBounds (r * 4 + 1) u).setIfInBounds (r * 4 + 2) (.bool x.held)).setIfInBounds (r * 4 + 3) (.bool x.out), ?_, by simpa using hs, fun j hj => ?_⟩
  · rintro (hk | hk)
    · exact h0 hk
    · exact (hu g hk).1 rfl
  · intro k hk
    rw [show ((((w.setCell ⟨g, r * 4, none⟩ (.int .u64 (x.e : Int))).setCell ⟨g, r * 4 + 1, none⟩ u).setCell ⟨g, r * 4 + 2, none⟩ (.bool x.held)).setCell ⟨g, r * 4 + 3, none⟩ (.bool x.out)).heap.size = w.heap.size from by simp]
    rcases hk with hk | hk
    · exact h1 k hk
    · exact (hu k hk).2
  · simp [World.setCell, Array.getElem?_modify, hT]
  · by_cases hjr : j = r
    · subst hjr
      have eu : updT T j x j = x := by simp [updT]
      rw [eu]
      refine ⟨u, ?_, ?_, ?_, ?_, su.ch hc (fun k hk e => (hu k hk).1 e), fun k hk => .inr hk, hl⟩
      · rw [Array.getElem?_setIfInBounds_ne (by omega), Array.getElem?_setIfInBounds_ne (by omega), Array.getElem?_setIfInBounds_ne (by omega), Array.getElem?_setIfInBounds_self_of_lt (by omega)]
      · rw [Array.getElem?_setIfInBounds_ne (by omega), Array.getElem?_setIfInBounds_ne (by omega), Array.getElem?_setIfInBounds_self_of_lt (by simp; omega)]
      · rw [Array.getElem?_setIfInBounds_ne (by omega), Array.getElem?_setIfInBounds_self_of_lt (by simp; omega)]
      · rw [Array.getElem?_setIfInBounds_self_of_lt (by simp; omega)]
    · obtain ⟨fv, a1, a2, a3, a4, a5, a6, a7⟩ := ht j hj
      have eu : updT T r x j = T j := by simp [updT, hjr]
      rw [eu]
      refine ⟨fv, ?_, ?_, ?_, ?_, a5.ch hc (fun k hk e => by subst e; exact h0 (a6 _ hk)), fun k hk => .inl (a6 k hk), a7⟩
      all_goals rw [Array.getElem?_setIfInBounds_ne (by omega), Array.getElem?_setIfInBounds_ne (by omega), Array.getElem?_setIfInBounds_ne (by omega), Array.getElem?_setIfInBounds_ne (by omega)]; assumption

theorem info_tok : (Try.prog.info? 34).map (fun i => (i.zero, i.size, i.bytes)) = some (some (.agg #[.int .u64 0, .slice none 0 0, .bool false, .bool false]), 4, 40) := by kernel_rfl
theorem run_make_tok (w : World) (n : Nat) (hn : n ≤ 4) :
    ∃ w', (Instr.makeSlice 26 (.int .i64 (n : Int)) (.int .i64 (n : Int))).run Try.prog w = .ok (.slice (some ⟨w.heap.size, 0, none⟩) n n) w' ∧ RefT w' (fun _ => False) w.heap.size n (fun _ => tok0) ∧ Gr w w' := by
  obtain ⟨i0, hi0, hz0, hz1, hz2⟩ := info_parts info_tok
  obtain ⟨w', h1, h2, h3⟩ := run_make_full (P := Try.prog) w w.heap.size 26 34 i0 _ 4 Try.underlying26 hi0 hz0 hz1 .i64 .i64 n (by rw [hz2]; omega) (by unfold maxLen; omega) (Nat.le_refl _)
  refine ⟨w', h1, ?_, grownBy_below h3 (Nat.le_refl _) (by intro k hk; cases hk)⟩
  obtain ⟨hl, h2⟩ := h2
  rcases h2 with ⟨h2, _⟩ | ⟨g, cap, cur, he, _, hh, _, _, hcs, hcur⟩
  · cases h2
  · injection he with e1 e2 e3
    injection e1 with e1
    injection e1 with e4 _
    subst e3 e4
    refine ⟨fun h => h, fun _ h => h.elim, cur, hh, hcs, fun r hr => ⟨.slice none 0 0, ?_, ?_, ?_, ?_, Sl.nil _ _ _, (fun k hk => (by cases hk)), (by simp [tok0])⟩⟩
    all_goals
      have hget : ∀ i, i < n * 4 → cur[i]? = (madeCells (Value.agg #[.int .u64 0, .slice none 0 0, .bool false, .bool false]).cells (n * 4))[i]? := by
        intro i hi
        have h4 : cur.toList[i]? = (cur.toList.take (n * 4))[i]? := by rw [List.getElem?_take_of_lt hi]
        rw [← Array.getElem?_toList, h4, hcur, Array.getElem?_toList]
      rw [hget _ (by omega)]
      simp only [madeCells, Value.cells, Array.getElem?_map, Array.getElem?_range]
      rw [if_pos (by omega)]
      simp [Nat.add_mod, Nat.mul_mod_left, tok0]
end Go.Proofs.Ythckedmfjmbopaa
