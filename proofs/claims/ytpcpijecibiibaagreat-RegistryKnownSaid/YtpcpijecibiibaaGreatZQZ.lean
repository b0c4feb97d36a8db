/-
  vector.Max.
  vector.New.
-/
import Derived.Test.YtpcpijecibiibaaGreatZQY
import Derived.Maps.AppendAt
import Derived.Deep.Onto
import Derived.WalkLawsBesides
import Derived.WalkSpells
import Derived.Outline
import Derived.Test.YtpcpijecibiibaaGreatZA
section
set_option linter.unusedVariables false
namespace Go.Proofs.YtpcpijecibiibaaGreat
open Go.RowKit Go.Shelf
attribute [local go_sem] Oper.semAt_some
/-- The greatest, number by number. -/
def maxAt (xs ys : List Nat) (j : Nat) : Nat := max (pairAt xs ys j).1 (pairAt xs ys j).2
def maxV (xs ys : List Nat) : List Nat := if xs.length = ys.length then upto (maxAt xs ys) xs.length else []
theorem max_snoc (pre : List (Nat × Nat)) (x : Nat × Nat) : nums ((pre ++ [x]).map fun p => max p.1 p.2) = nums (pre.map fun p => max p.1 p.2) ++ [num64 (max x.1 x.2)] := by simp [nums]
set_option maxRecDepth 100000 in
set_option maxHeartbeats 4000000 in
theorem max_in (F : Fence) (n : Nat) (h4 : F.fn 42) (h6 : F.fn 31) (h8 : F.fn 43) (hro : F.round = none) (hn : 3 ≤ n) (a b : Option Addr) (ca cb : Nat) (xs ys : List Nat) (hx : xs.length ≤ 1000000) (hy : ys.length ≤ 1000000) (w : World)
    (ha : Nums (fun k => k < w.heap.size) w (.slice a xs.length ca) xs) (hb : Nums (fun k => k < w.heap.size) w (.slice b ys.length cb) ys) :
    CallsIn F n Tryz.prog 42 #[.slice a xs.length ca, .slice b ys.length cb] w fun e W' => ∃ v, e = .returned v ∧ W'.ownsRow w.heap.size 39 1 v (maxV xs ys).length (nums (maxV xs ys)) ∧ Below w.heap.size w W' := by
  have h1 : 1 ≤ n := by omega
  obtain ⟨i0, hi, hz0, hz1, hz2⟩ := info_parts info_u64
  refine callsIn_of_wp_marks Tryz.func42 rfl h4 ?_ hro
  simp only [Tryz.ntmps42, List.size_toArray, List.length_cons, List.length_nil, Nat.reduceAdd, Nat.reduceSub, Array.replicate_succ, Array.replicate_zero, List.push_toArray, List.append_toArray, List.nil_append, List.cons_append]
  by_cases hlen : xs.length = ys.length
  · gi_wp2_with (gi_at_call 31; refine (both_in F (n - 1) h6 hro _ _ _ _ _ _ _).mono ?_; rintro e w' ⟨rfl, rfl⟩)
    rw [hlen] at ha
    have bO := Boxed.new w 26 (.slice none 0 0)
    have bA := Boxed.new (w.alloc (.cells #[.slice none 0 0] 26)) 26 (.slice a ys.length ca)
    have bB := Boxed.new ((w.alloc (.cells #[.slice none 0 0] 26)).alloc (.cells #[.slice a ys.length ca] 26)) 26 (.slice b ys.length cb)
    rw [World.size_alloc] at bA
    rw [World.size_alloc, World.size_alloc] at bB
    have hB0 : Below w.heap.size w (((w.alloc (.cells #[.slice none 0 0] 26)).alloc (.cells #[.slice a ys.length ca] 26)).alloc (.cells #[.slice b ys.length cb] 26)) := (((Below.refl _ w).alloc (Nat.le_refl _) _).alloc (by simp) _).alloc (by simp; omega) _
    have hS : ∀ k, (k < w.heap.size ∨ k = w.heap.size + 1 ∨ k = w.heap.size + 1 + 1) → k < (((w.alloc (.cells #[.slice none 0 0] 26)).alloc (.cells #[.slice a ys.length ca] 26)).alloc (.cells #[.slice b ys.length cb] 26)).heap.size := by intro k hk; simp; omega
    have hmin : min xs.length ys.length = ys.length := by omega
    have hst := both_stops F (n - 1) h8 hro (by omega) (w.heap.size + 1) (w.heap.size + 1 + 1) (fun k => k < w.heap.size ∨ k = w.heap.size + 1 ∨ k = w.heap.size + 1 + 1) _ _ xs ys hx hy _ hS (.inr (.inl rfl)) (.inr (.inr rfl)) (bA.alloc _).cell bB.cell
      ((ha.stay (Stay.below hB0 fun _ h => h)).mono fun _ h => .inl h) ((hb.stay (Stay.below hB0 fun _ h => h)).mono fun _ h => .inl h)
    rw [hmin] at hst
    refine wpIn_rangeFunc_ownG hro h1 (gf := 43) (lb := #[.pointer (some ⟨w.heap.size + 1, 0, none⟩), .pointer (some ⟨w.heap.size + 1 + 1, 0, none⟩)]) rfl h8 (enters_of Tryz.func43 (by kernel_rfl) rfl)
      hst (fun h k => h.trans k) (stay_b hS) (Below.refl _ _) (fun _ => rfl)
      (fun pre W => (∃ v, Boxed W w.heap.size 26 v ∧ W.ownsRow (w.heap.size + 3) 39 1 v pre.length (nums (pre.map fun p => max p.1 p.2)) ∧ True) ∧ Below w.heap.size w W ∧ w.heap.size + 3 ≤ W.heap.size)
      (fun _ _ _ => False)
      (OwnFrom.and (Own.from (holdsRow_own (w.heap.size + 3) w.heap.size 26 39 1 (fun pre : List (Nat × Nat) => pre.length) (fun pre => nums (pre.map fun p => max p.1 p.2)) (fun pre v => True)) _) (OwnFrom.and (ownFrom_below (Nat.le_refl _) (by simp; omega)) (fun s A B row hs hg hr => Nat.le_trans hs hg.size)))
      (fun _ _ _ _ _ hs _ _ => hs)
      ⟨⟨_, (bO.alloc _).alloc _, World.ownsRow_nil _ _ _ _, trivial⟩, hB0, by simp⟩
      (fun x => { tmps := #[.slice a ys.length ca, .slice b ys.length cb, undef, undef, .slice none 0 0, .pointer (some ⟨w.heap.size, 0, none⟩), .int .u64 (x.1 : Int), .int .u64 (x.2 : Int), .slice a ys.length ca, .int .i64 (ys.length : Int), .slice b ys.length cb, .int .i64 (ys.length : Int), .bool false, .slice a ys.length ca, .slice b ys.length cb, .func (.func 43) #[] #[.pointer (some ⟨w.heap.size + 1, 0, none⟩), .pointer (some ⟨w.heap.size + 1 + 1, 0, none⟩)], .int .u64 (x.1 : Int), .int .u64 (x.2 : Int), undef, undef, undef, undef, undef, undef, undef], defers := [] }) ?assign ?body ?done ?stop
    case assign =>
      intro l x W K hK
      gi_wp2
      exact hK
    case body =>
      rintro l pre ⟨p, q⟩ W ⟨⟨v, hv, hrow, _⟩, hB, hz⟩ hlt
      dsimp only
      have hc := hv.cell
      have hM : 2000000 ≤ maxLen := by decide
      have hne : ∀ k, (k < w.heap.size ∨ k = w.heap.size + 1 ∨ k = w.heap.size + 1 + 1) → v.ownBlock ≠ some k := by
        intro k hk e
        have := (hrow.lt k e).1
        omega
      have hrow' : W.ownsRow w.heap.size 39 1 v pre.length (nums (pre.map fun p => max p.1 p.2)) := World.ownsRow.mono hrow (by omega)
      rcases Nat.lt_trichotomy q p with hle | hle | hle
      · have hle' : max p q = p := by omega
        gi_wp2_with (gi_at_builtin; refine wpListIn_append_own _ rfl _ _ 26 rfl (w.heap.size + 3) 39 i0 (.int .u64 0) 1 8 Tryz.underlying26 hi hz0 hz1 hz2 rfl (by decide) _ _ _ rfl (hrow.alloc _) ⟨W.heap.size, 0, none⟩ 1 1 [.int .u64 (p : Int)] rfl rfl (cell_one_new _ _ _) (by simp [Value.oneCell']) (by omega) (by omega) (by simp; omega) ?_; intro v' w1 hown' hgrow _; obtain ⟨g', cap', rfl⟩ := ownsRow_succ hown'; obtain ⟨hv1, hv2, hr2, hk2, hb2⟩ := hv.appended (by decide) hrow' hB.size (Nat.le_refl _) (World.ownsRow.mono hown' (show w.heap.size ≤ w.heap.size + 3 by omega)) hgrow; have hc1 := hv1.cell; have hf1 := hv1.frozen)
        have hst : Stay (fun k => k < w.heap.size ∨ k = w.heap.size + 1 ∨ k = w.heap.size + 1 + 1) W (w1.setCell ⟨w.heap.size, 0, none⟩ (.slice (some ⟨g', 0, none⟩) (pre.length + 1) cap')) := by
          intro k hk
          rw [Below.heap_setCell w1 ⟨w.heap.size, 0, none⟩ _ k (by show k ≠ w.heap.size; omega), hgrow.block k (by simp; omega) (fun e => hne k hk e.symm)]
          exact ((Below.refl W.heap.size W).alloc (Nat.le_refl _) _).block k (by omega)
        refine ⟨hk2.from _, hst, ⟨_, hv2, ?_, trivial⟩, hB.trans hb2, ?_⟩
        · have hr3 := hown'.kept (grownBy_setCell' w1 w.heap.size (.slice (some ⟨g', 0, none⟩) (pre.length + 1) cap')) (.inr (hv1.not_row (by decide) hown').symm)
          rw [max_snoc, List.length_append]
          simpa [num64, hle'] using hr3
        · exact Nat.le_trans hz hb2.size
      · subst hle
        have hle' : max q q = q := by omega
        gi_wp2_with (gi_at_builtin; refine wpListIn_append_own _ rfl _ _ 26 rfl (w.heap.size + 3) 39 i0 (.int .u64 0) 1 8 Tryz.underlying26 hi hz0 hz1 hz2 rfl (by decide) _ _ _ rfl (hrow.alloc _) ⟨W.heap.size, 0, none⟩ 1 1 [.int .u64 (q : Int)] rfl rfl (cell_one_new _ _ _) (by simp [Value.oneCell']) (by omega) (by omega) (by simp; omega) ?_; intro v' w1 hown' hgrow _; obtain ⟨g', cap', rfl⟩ := ownsRow_succ hown'; obtain ⟨hv1, hv2, hr2, hk2, hb2⟩ := hv.appended (by decide) hrow' hB.size (Nat.le_refl _) (World.ownsRow.mono hown' (show w.heap.size ≤ w.heap.size + 3 by omega)) hgrow; have hc1 := hv1.cell; have hf1 := hv1.frozen)
        have hst : Stay (fun k => k < w.heap.size ∨ k = w.heap.size + 1 ∨ k = w.heap.size + 1 + 1) W (w1.setCell ⟨w.heap.size, 0, none⟩ (.slice (some ⟨g', 0, none⟩) (pre.length + 1) cap')) := by
          intro k hk
          rw [Below.heap_setCell w1 ⟨w.heap.size, 0, none⟩ _ k (by show k ≠ w.heap.size; omega), hgrow.block k (by simp; omega) (fun e => hne k hk e.symm)]
          exact ((Below.refl W.heap.size W).alloc (Nat.le_refl _) _).block k (by omega)
        refine ⟨hk2.from _, hst, ⟨_, hv2, ?_, trivial⟩, hB.trans hb2, ?_⟩
        · have hr3 := hown'.kept (grownBy_setCell' w1 w.heap.size (.slice (some ⟨g', 0, none⟩) (pre.length + 1) cap')) (.inr (hv1.not_row (by decide) hown').symm)
          rw [max_snoc, List.length_append]
          simpa [num64, hle'] using hr3
        · exact Nat.le_trans hz hb2.size
      · have hle' : max p q = q := by omega
        gi_wp2_with (gi_at_builtin; refine wpListIn_append_own _ rfl _ _ 26 rfl (w.heap.size + 3) 39 i0 (.int .u64 0) 1 8 Tryz.underlying26 hi hz0 hz1 hz2 rfl (by decide) _ _ _ rfl (hrow.alloc _) ⟨W.heap.size, 0, none⟩ 1 1 [.int .u64 (q : Int)] rfl rfl (cell_one_new _ _ _) (by simp [Value.oneCell']) (by omega) (by omega) (by simp; omega) ?_; intro v' w1 hown' hgrow _; obtain ⟨g', cap', rfl⟩ := ownsRow_succ hown'; obtain ⟨hv1, hv2, hr2, hk2, hb2⟩ := hv.appended (by decide) hrow' hB.size (Nat.le_refl _) (World.ownsRow.mono hown' (show w.heap.size ≤ w.heap.size + 3 by omega)) hgrow; have hc1 := hv1.cell; have hf1 := hv1.frozen)
        have hst : Stay (fun k => k < w.heap.size ∨ k = w.heap.size + 1 ∨ k = w.heap.size + 1 + 1) W (w1.setCell ⟨w.heap.size, 0, none⟩ (.slice (some ⟨g', 0, none⟩) (pre.length + 1) cap')) := by
          intro k hk
          rw [Below.heap_setCell w1 ⟨w.heap.size, 0, none⟩ _ k (by show k ≠ w.heap.size; omega), hgrow.block k (by simp; omega) (fun e => hne k hk e.symm)]
          exact ((Below.refl W.heap.size W).alloc (Nat.le_refl _) _).block k (by omega)
        refine ⟨hk2.from _, hst, ⟨_, hv2, ?_, trivial⟩, hB.trans hb2, ?_⟩
        · have hr3 := hown'.kept (grownBy_setCell' w1 w.heap.size (.slice (some ⟨g', 0, none⟩) (pre.length + 1) cap')) (.inr (hv1.not_row (by decide) hown').symm)
          rw [max_snoc, List.length_append]
          simpa [num64, hle'] using hr3
        · exact Nat.le_trans hz hb2.size
    case done =>
      rintro D zs W hD rfl ⟨⟨v, hv, hrow, _⟩, hB, hz⟩ hK
      have hc := hv.cell
      have hm : maxV xs ys = (upto (pairAt xs ys) ys.length).map fun p => max p.1 p.2 := by
        unfold maxV; rw [if_pos hlen, hlen]; simp [upto, maxAt]
      gi_wp2
      refine ⟨by simp, .inl ⟨_, _, rfl, run_takeDeferred hK, ?_⟩⟩
      refine ⟨_, results_tmp rfl _ _ _, v, rfl, ?_, hB.trans (belowK_b (w := w) (Nat.le_refl _) W D _ _ (by simp at hD; omega) hK rfl rfl)⟩
      rw [hm, List.length_map]
      exact ownsRow_putObj (World.ownsRow.mono hrow (show w.heap.size ≤ w.heap.size + 3 by omega)) _ hK rfl
    case stop =>
      rintro D c pre W _ _ h _
      exact h.elim
  · gi_wp2_with (gi_at_call 31; refine (both_in F (n - 1) h6 hro _ _ _ _ _ _ _).mono ?_; rintro e w' ⟨rfl, rfl⟩)
    have : maxV xs ys = [] := by unfold maxV; rw [if_neg hlen]
    rw [this]
    exact ⟨_, results_tmp rfl _ _ _, .slice none 0 0, rfl, World.ownsRow_nil _ _ _ _, Below.refl _ _⟩
theorem max_any (w : World) (va vb : Value) (xs ys : List Nat) (ha : Sl w va (nums xs)) (hb : Sl w vb (nums ys)) (hx : xs.length ≤ 1000000) (hy : ys.length ≤ 1000000) :
    Calls Tryz.prog 42 #[va, vb] w fun e W' => ∃ v, e = .returned v ∧ Own W' w.heap.size 39 v (nums (maxV xs ys)) ∧ Below w.heap.size w W' := by
  obtain ⟨a, ca, rfl, _, na⟩ := ha.nums
  obtain ⟨b, cb, rfl, _, nb⟩ := hb.nums
  refine (callsIn_wide.1 (max_in Fence.wide 3 trivial trivial trivial rfl (Nat.le_refl _) a b ca cb xs ys hx hy w na nb)).mono ?_
  rintro e W' ⟨v, he, ho, hb⟩
  exact ⟨v, he, by rw [← nums_length] at ho; exact ho, hb⟩
end Go.Proofs.YtpcpijecibiibaaGreat
end
section
set_option linter.unusedVariables false
set_option maxRecDepth 100000
namespace Go.Proofs.YtpcpijecibiibaaGreat
open Go.RowKit
def newV (i : Int) : List Nat := if 0 ≤ i ∧ i ≤ 3 then List.replicate i.toNat 0 else []
theorem new_n (w : World) (i : Int) : Calls Tryz.prog 11 #[.int .i64 i] w (RetNums w (newV i)) := by
  by_cases hin : 0 ≤ i ∧ i ≤ 3
  · obtain ⟨k, rfl⟩ := Int.eq_ofNat_of_zero_le hin.1
    have hv : newV ((k : Nat) : Int) = List.replicate k 0 := by unfold newV; rw [if_pos hin]; rfl
    rw [hv]
    obtain ⟨w1, hr, ho, hb⟩ := run_make_n w k (by omega)
    have h3 : (k : Int) ≤ 3 := hin.2
    go_enter Tryz.func11, Tryz.ntmps11
    go_wp2
    go_ret
    exact ⟨_, rfl, ho, hb⟩
  · have hv : newV i = [] := by unfold newV; rw [if_neg hin]
    rw [hv]
    rcases Int.lt_or_le i 0 with h0 | h0
    · go_enter Tryz.func11, Tryz.ntmps11
      go_wp2
      all_goals (go_ret; exact ⟨_, rfl, Own.nil0 _ _ _, Below.refl _ _⟩)
    · have h1 : (3 : Int) < i := by omega
      go_enter Tryz.func11, Tryz.ntmps11
      go_wp2
      all_goals (go_ret; exact ⟨_, rfl, Own.nil0 _ _ _, Below.refl _ _⟩)
end Go.Proofs.YtpcpijecibiibaaGreat
end
