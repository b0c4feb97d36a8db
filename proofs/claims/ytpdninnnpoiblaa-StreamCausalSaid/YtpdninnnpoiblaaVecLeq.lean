/-
  vector.Leq.
-/
import Derived.Test.YtpdninnnpoiblaaVecBoth
set_option linter.unusedVariables false
namespace Go.Proofs.Ytpdninnnpoiblaa
open Go.RowKit Go.Shelf
attribute [local go_sem] Oper.semAt_some

/-- Is one stamp no more than another one? -/
def leqV (xs ys : List Nat) : Bool := (List.range (min xs.length ys.length)).all (fun j => decide ((pairAt xs ys j).1 ≤ (pairAt xs ys j).2)) && decide (xs.length = ys.length)

theorem Nums.mono {S S' : Nat → Prop} {W : World} {sv : Value} {zs : List Nat} (h : ∀ k, S k → S' k) : Nums S W sv zs → Nums S' W sv zs
  | ⟨a, cap, e, .inl h0⟩ => ⟨a, cap, e, .inl h0⟩
  | ⟨a, cap, e, .inr ⟨b, off, e2, hb, hc⟩⟩ => ⟨a, cap, e, .inr ⟨b, off, e2, h _ hb, hc⟩⟩

set_option maxRecDepth 100000 in
set_option maxHeartbeats 2000000 in
theorem leq_in (F : Fence) (n : Nat) (h4 : F.fn 18) (h6 : F.fn 26) (h8 : F.fn 32) (hro : F.round = none) (hn : 3 ≤ n) (a b : Option Addr) (ca cb : Nat) (xs ys : List Nat) (hx : xs.length ≤ 1000000) (hy : ys.length ≤ 1000000) (w : World)
    (ha : Nums (fun k => k < w.heap.size) w (.slice a xs.length ca) xs) (hb : Nums (fun k => k < w.heap.size) w (.slice b ys.length cb) ys) :
    CallsIn F n Try.prog 18 #[.slice a xs.length ca, .slice b ys.length cb] w fun e W' => e = .returned (.bool (leqV xs ys)) ∧ Below w.heap.size w W' := by
  have h1 : 1 ≤ n := by omega
  refine callsIn_of_wp_marks Try.func18 rfl h4 ?_ hro
  simp only [Try.ntmps18, List.size_toArray, List.length_cons, List.length_nil, Nat.reduceAdd, Nat.reduceSub, Array.replicate_succ, Array.replicate_zero, List.push_toArray, List.append_toArray, List.nil_append, List.cons_append]
  gi_wp2_with (gi_at_call 26; refine (both_in F (n - 1) h6 hro _ _ _ _ _ _ _).mono ?_; rintro e w' ⟨rfl, rfl⟩)
  have bR := Boxed.new w 4 (.bool false)
  have bA := Boxed.new (w.alloc (.cells #[.bool false] 4)) 24 (.slice a xs.length ca)
  have bB := Boxed.new ((w.alloc (.cells #[.bool false] 4)).alloc (.cells #[.slice a xs.length ca] 24)) 24 (.slice b ys.length cb)
  rw [World.size_alloc] at bA
  rw [World.size_alloc, World.size_alloc] at bB
  have hB0 : Below w.heap.size w (((w.alloc (.cells #[.bool false] 4)).alloc (.cells #[.slice a xs.length ca] 24)).alloc (.cells #[.slice b ys.length cb] 24)) := (((Below.refl _ w).alloc (Nat.le_refl _) _).alloc (by simp) _).alloc (by simp; omega) _
  have hS : ∀ k, (k < w.heap.size ∨ k = w.heap.size + 1 ∨ k = w.heap.size + 1 + 1) → k < (((w.alloc (.cells #[.bool false] 4)).alloc (.cells #[.slice a xs.length ca] 24)).alloc (.cells #[.slice b ys.length cb] 24)).heap.size := by intro k hk; simp; omega
  refine wpIn_rangeFunc_ownG hro h1 (gf := 32) (lb := #[.pointer (some ⟨w.heap.size + 1, 0, none⟩), .pointer (some ⟨w.heap.size + 1 + 1, 0, none⟩)]) rfl h8 (enters_of Try.func32 (by kernel_rfl) rfl)
    (both_stops F (n - 1) h8 hro (by omega) (w.heap.size + 1) (w.heap.size + 1 + 1) (fun k => k < w.heap.size ∨ k = w.heap.size + 1 ∨ k = w.heap.size + 1 + 1) _ _ xs ys hx hy _ hS (.inr (.inl rfl)) (.inr (.inr rfl)) (bA.alloc _).cell bB.cell
      ((ha.stay (Stay.below hB0 fun _ h => h)).mono fun _ h => .inl h) ((hb.stay (Stay.below hB0 fun _ h => h)).mono fun _ h => .inl h)) (fun h k => h.trans k) (stay_b hS) (Below.refl _ _) (fun _ => rfl)
    (fun pre W => ((∀ p ∈ pre, p.1 ≤ p.2) ∧ W.cell? ⟨w.heap.size, 0, none⟩ = some (.bool false) ∧ W.frozen? ⟨w.heap.size, 0, none⟩ = false) ∧ Below w.heap.size w W)
    (fun c pre W => (c = .ret ∧ ∃ ini last, pre = ini ++ [last] ∧ last.2 < last.1 ∧ W.cell? ⟨w.heap.size, 0, none⟩ = some (.bool false)) ∧ Below w.heap.size w W)
    (OwnFrom.and (Own.from (fun s A B row hs hg hr => ⟨hs.1, cell_kept hs.2.1 hg hr, (frozen_kept hs.2.1 hg hr).trans hs.2.2⟩) _) (ownFrom_below (Nat.le_refl _) (by simp; omega)))
    (fun c => OwnFrom.and (Own.from (fun s A B row hs hg hr => by obtain ⟨hc, ini, last, e1, e2, e4⟩ := hs; exact ⟨hc, ini, last, e1, e2, cell_kept e4 hg hr⟩) _) (ownFrom_below (Nat.le_refl _) (by simp; omega)))
    ⟨⟨by simp, ((bR.alloc _).alloc _).cell, ((bR.alloc _).alloc _).frozen⟩, hB0⟩
    (fun x => { tmps := #[.slice a xs.length ca, .slice b ys.length cb, undef, undef, .pointer (some ⟨w.heap.size, 0, none⟩), .int .u64 (x.1 : Int), .int .u64 (x.2 : Int), .slice a xs.length ca, .slice b ys.length cb, .func (.func 32) #[] #[.pointer (some ⟨w.heap.size + 1, 0, none⟩), .pointer (some ⟨w.heap.size + 1 + 1, 0, none⟩)], .int .u64 (x.1 : Int), .int .u64 (x.2 : Int), undef, undef, undef, undef, undef, undef, undef, undef], defers := [] }) ?assign ?body ?done ?stop
  case assign =>
    intro l x W K hK
    gi_wp2
    exact hK
  case body =>
    rintro l pre x W ⟨⟨hp, hcr, hfr⟩, hB⟩ _
    gi_wp2
    · have hx : x.2 < x.1 := by omega
      exact ⟨(KeepsOthers.setCell _ _ _).from _, ⟨rfl, pre, x, rfl, hx, World.cell?_setCell_same' _ _ _ (by rw [hcr]; rfl)⟩, hB.setCell (p := ⟨w.heap.size, 0, none⟩) (Nat.le_refl _) _⟩
    · have hx : x.1 ≤ x.2 := by omega
      exact ⟨KeepsFrom.refl _ _, Stay.refl _ _, ⟨fun p hp' => (List.mem_append.1 hp').elim (hp p) (fun e => by simp at e; subst e; exact hx), hcr, hfr⟩, hB⟩
  case done =>
    rintro D zs W hD rfl ⟨⟨hne, hcr, hfr⟩, hB⟩ hK
    have hall : leqV xs ys = decide (xs.length = ys.length) := by
      unfold leqV
      rw [List.all_eq_true.2, Bool.true_and]
      intro j hj
      have := hne (pairAt xs ys j) (List.mem_map.2 ⟨j, hj, rfl⟩)
      simpa using this
    gi_wp2
    have hK' := (KeepsOthers.setCell W ⟨w.heap.size, 0, none⟩ (.bool ((xs.length : Int) == (ys.length : Int)))).same D _ hK rfl
    refine ⟨by simp, .inl ⟨_, _, rfl, run_takeDeferred hK', ?_⟩⟩
    have hc5 := cell_kept (World.cell?_setCell_same' W ⟨w.heap.size, 0, none⟩ (.bool ((xs.length : Int) == (ys.length : Int))) (by rw [hcr]; rfl)) (grownBy_putObj' _ D (.deferred none)) (fun r e => by cases e; exact ⟨_, hK', rfl⟩)
    refine ⟨.bool ((xs.length : Int) == (ys.length : Int)), ?_, ?_, (hB.setCell (p := ⟨w.heap.size, 0, none⟩) (Nat.le_refl _) _).trans (belowK_b (w := w) (Nat.le_refl _) _ D _ _ (by simp at hD; omega) hK' rfl rfl)⟩
    · simp [results, Try.f18, go_sem, hc5]
    · rw [hall]; congr 2; rw [Bool.eq_iff_iff]; simp; omega
  case stop =>
    rintro D c pre W hD ⟨k, hk, rfl⟩ ⟨⟨rfl, ini, last, e1, e3, hcr⟩, hB⟩ hK
    gi_wp2
    refine ⟨by simp, .inl ⟨_, _, rfl, run_takeDeferred hK, ?_⟩⟩
    have hc5 := cell_kept hcr (grownBy_putObj' _ D (.deferred none)) (fun r e => by cases e; exact ⟨_, hK, rfl⟩)
    have hno : leqV xs ys = false := by
      have hm : last ∈ upto (pairAt xs ys) k := by rw [e1]; simp
      obtain ⟨j, hj, rfl⟩ := List.mem_map.1 hm
      have hj' := List.mem_range.1 hj
      unfold leqV
      rw [Bool.and_eq_false_iff]
      left
      rw [List.all_eq_false]
      exact ⟨j, List.mem_range.2 (by omega), by simp; exact e3⟩
    refine ⟨.bool false, ?_, by rw [hno], hB.trans (belowK_b (w := w) (Nat.le_refl _) W D _ _ (by simp at hD; omega) hK rfl rfl)⟩
    simp [results, Try.f18, go_sem, hc5]
end Go.Proofs.Ytpdninnnpoiblaa
