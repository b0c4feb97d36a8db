/-
  vector.both: two stamps, number by number: an iterator's contract.
-/
import Derived.RangeFuncNested
import Derived.RangeFuncBound
import Derived.RangeFuncCalls
import Derived.RangeFuncLeaves
import Derived.RangeFuncBox
import Derived.Shelf.Abstract
import Derived.Shelf.RegionOpen
import Derived.WalkKit
import Derived.OwnWalkIn
import Derived.TacticsInMore
import Derived.LoopNIn
import Derived.LoopIn
import Derived.Test.YtpdninnnpoiblaaRows
import Derived.Test.YtpdninnnpoiblaaBase
import Derived.Test.YtpdninnnpoiblaaHead
import Derived.WalkLawsBesides
import Derived.WalkSpells
import Derived.Outline
set_option linter.unusedVariables false
namespace Go.Proofs.Ytpdninnnpoiblaa
open Go.RowKit Go.Shelf
attribute [local go_sem] Oper.semAt_some

/-- What has come when k rounds are over. -/
def upto {α : Type} (f : Nat → α) (k : Nat) : List α := (List.range k).map f
theorem upto_succ {α : Type} (f : Nat → α) (k : Nat) : upto f (k + 1) = upto f k ++ [f k] := by simp [upto, List.range_succ]
theorem upto_length {α : Type} (f : Nat → α) (k : Nat) : (upto f k).length = k := by simp [upto]

/-- The blocks of S are as they were. -/
def Stay (S : Nat → Prop) (A B : World) : Prop := ∀ k, S k → B.heap[k]? = A.heap[k]?
theorem Stay.refl (S : Nat → Prop) (A : World) : Stay S A A := fun _ _ => rfl
theorem Stay.trans {S : Nat → Prop} {A B C : World} (h : Stay S A B) (k : Stay S B C) : Stay S A C := fun i hi => (k i hi).trans (h i hi)
theorem Stay.drew {S : Nat → Prop} {A B : World} (h : Stay S A B) : Stay S A B.drew := h
theorem Stay.cell {S : Nat → Prop} {A B : World} (h : Stay S A B) {p : Addr} (hp : S p.block) : B.cell? p = A.cell? p := World.cell?_of_block (h p.block hp)
theorem Stay.below {S : Nat → Prop} {A B : World} {n₀ : Nat} (h : Below n₀ A B) (hS : ∀ k, S k → k < n₀) : Stay S A B := fun k hk => h.block k (hS k hk)
theorem stay_b {S : Nat → Prop} {w : World} (hS : ∀ k, S k → k < w.heap.size) (W : World) (l : Nat) (o o' : Obj) (hl : w.heap.size ≤ l) (h : W.heap[l]? = some o) (_ : o.isCells = false) (_ : o.isWalk = false) : Stay S W (W.putObj l o') := by
  intro k hk
  have hb := belowK_b (n₀ := w.heap.size) (w := w) (Nat.le_refl _) W l o o' hl h ‹_› ‹_›
  exact hb.block k (hS k hk)

/-- The slice sv holds the numbers zs, in a block of S (or there are none). -/
def Nums (S : Nat → Prop) (W : World) (sv : Value) (zs : List Nat) : Prop :=
  ∃ a cap, sv = .slice a zs.length cap ∧ (zs = [] ∨ ∃ b off, a = some ⟨b, off, none⟩ ∧ S b ∧ ∀ j, j < zs.length → W.cell? ⟨b, off + j, none⟩ = some (.int .u64 ((zs[j]?.getD 0 : Nat) : Int)))
theorem Nums.stay {S : Nat → Prop} {A B : World} (h : Stay S A B) {sv : Value} {zs : List Nat} : Nums S A sv zs → Nums S B sv zs
  | ⟨a, cap, e, .inl h0⟩ => ⟨a, cap, e, .inl h0⟩
  | ⟨a, cap, e, .inr ⟨b, off, e2, hb, hc⟩⟩ => ⟨a, cap, e, .inr ⟨b, off, e2, hb, fun j hj => (h.cell (p := ⟨b, off + j, none⟩) hb).trans (hc j hj)⟩⟩

def pairAt (xs ys : List Nat) (j : Nat) : Nat × Nat := (xs[j]?.getD 0, ys[j]?.getD 0)

set_option maxRecDepth 100000 in
set_option maxHeartbeats 4000000 in
theorem both1_in (F : Fence) (n : Nat) (h8 : F.fn 32) (hro : F.round = none) (hn : 1 ≤ n) (l Ba Bb : Nat) (S : Nat → Prop) (va vb : Value) (xs ys : List Nat) (hx : xs.length ≤ 1000000) (hy1 : ys.length ≤ 1000000) (J Jx : List (Nat × Nat) → World → Prop)
    (hY : ∀ pre x W, J pre W → pre.length < min xs.length ys.length → YieldAt F (n - 1) Try.prog l #[.int .u64 (x.1 : Int), .int .u64 (x.2 : Int)] W fun e W' =>
      (e = .returned (.bool true) ∧ J (pre ++ [x]) W' ∧ Stay S W W') ∨ (e = .returned (.bool false) ∧ Jx (pre ++ [x]) W'))
    (W : World) (hBa : W.cell? ⟨Ba, 0, none⟩ = some va) (hBb : W.cell? ⟨Bb, 0, none⟩ = some vb) (hba : S Ba) (hbb : S Bb) (ha : Nums S W va xs) (hb : Nums S W vb ys) (hJd : ∀ pre A, J pre A → J pre A.drew) (h0 : J [] W) :
    CallsIn F n Try.prog 32 #[.func (.yield l) #[] #[], .pointer (some ⟨Ba, 0, none⟩), .pointer (some ⟨Bb, 0, none⟩)] W fun e W' => (∃ v, e = .returned v) ∧
      ((∃ zs, zs = upto (pairAt xs ys) (min xs.length ys.length) ∧ J zs W') ∨ (∃ pre, (∃ k, k ≤ min xs.length ys.length ∧ pre = upto (pairAt xs ys) k) ∧ Jx pre W')) := by
  obtain ⟨a, ca, rfl, ha⟩ := ha
  obtain ⟨b, cb, rfl, hb⟩ := hb
  refine callsIn_of_wp Try.func32 rfl h8 ?_ hro
  simp only [Try.ntmps32, List.size_toArray, List.length_cons, List.length_nil, Nat.reduceAdd, Nat.reduceSub, Array.replicate_succ, Array.replicate_zero, List.push_toArray, List.append_toArray, List.nil_append, List.cons_append]
  rcases Nat.lt_or_ge ys.length xs.length with hle | hle
  · rw [Nat.min_eq_right (Nat.le_of_lt hle)] at hY ⊢
    gi_wp2
    gi_loopw [10] (fun i wr => ∃ k : Nat, k ≤ ys.length ∧ i = .int .i64 k ∧ J (upto (pairAt xs ys) k) wr ∧ Stay S W wr) (fun i _ => ys.length - (intOf i).toNat)
    case atStart => exact ⟨0, Nat.zero_le _, rfl, h0, Stay.refl _ _⟩
    case round =>
      obtain ⟨k, hk, rfl, hJs, hnx⟩ := hrel
      have hnx' := hnx.drew
      by_cases hlt : k < ys.length
      · obtain ⟨a1, o1, rfl, ha1, hca⟩ := ha.resolve_left (by intro h; have := congrArg List.length h; simp only [List.length_nil] at this; omega)
        obtain ⟨b1, o2, rfl, hb1, hcb⟩ := hb.resolve_left (by intro h; have := congrArg List.length h; simp only [List.length_nil] at this; omega)
        obtain ⟨px, py, hp⟩ : ∃ px py, pairAt xs ys k = (px, py) := ⟨_, _, rfl⟩
        have cx := (hnx.cell (p := ⟨a1, o1 + k, none⟩) ha1).trans (hca k (by omega))
        have cy := (hnx.cell (p := ⟨b1, o2 + k, none⟩) hb1).trans (hcb k (by omega))
        rw [show xs[k]?.getD 0 = px from congrArg Prod.fst hp] at cx
        rw [show ys[k]?.getD 0 = py from congrArg Prod.snd hp] at cy
        have cA := (hnx.cell (p := ⟨Ba, 0, none⟩) hba).trans hBa
        have cB := (hnx.cell (p := ⟨Bb, 0, none⟩) hbb).trans hBb
        obtain ⟨fn, tmps, assign, body, hy, hR⟩ := hY _ (px, py) wr.drew (hJd _ _ hJs) (by rw [upto_length]; omega)
        dsimp only at hy
        have i1 : (0 : Int) ≤ (k : Int) := by omega
        have i2 : (k : Int) < (xs.length : Int) := by omega
        have i3 : (k : Int) < (ys.length : Int) := by omega
        gi_wp2
        apply wpIn_region_head (_ :: _ :: _ :: _ :: _ :: _ :: _ :: _ :: _ :: []) 9 rfl hro (by kernel_rfl) (by kernel_rfl) (by decide) (by kernel_rfl)
        apply hdW_cons
        · unfold quietAt
          go_simp
          exact rfl
        · intro _; rfl
        simp only [Act.put, List.setIfInBounds_toArray, List.set_cons_zero, List.set_cons_succ]
        apply hdW_cons
        · unfold quietAt
          go_simp
          exact rfl
        · intro _; rfl
        simp only [Act.put, List.setIfInBounds_toArray, List.set_cons_zero, List.set_cons_succ]
        apply hdW_cons
        · unfold quietAt
          go_simp
          exact rfl
        · intro _; rfl
        simp only [Act.put, List.setIfInBounds_toArray, List.set_cons_zero, List.set_cons_succ]
        apply hdW_cons
        · unfold quietAt
          go_simp
          exact rfl
        · intro _; rfl
        simp only [Act.put, List.setIfInBounds_toArray, List.set_cons_zero, List.set_cons_succ]
        apply hdW_cons
        · unfold quietAt
          go_simp
          exact rfl
        · intro _; rfl
        simp only [Act.put, List.setIfInBounds_toArray, List.set_cons_zero, List.set_cons_succ]
        apply hdW_cons
        · unfold quietAt
          go_simp
          exact rfl
        · intro _; rfl
        simp only [Act.put, List.setIfInBounds_toArray, List.set_cons_zero, List.set_cons_succ]
        apply hdW_cons
        · unfold quietAt
          go_simp
          exact rfl
        · intro _; rfl
        simp only [Act.put, List.setIfInBounds_toArray, List.set_cons_zero, List.set_cons_succ]
        apply hdW_cons
        · unfold quietAt
          go_simp
          exact rfl
        · intro _; rfl
        simp only [Act.put, List.setIfInBounds_toArray, List.set_cons_zero, List.set_cons_succ]
        apply hdW_cons
        · unfold quietAt
          go_simp
          exact rfl
        · intro _; rfl
        simp only [Act.put, List.setIfInBounds_toArray, List.set_cons_zero, List.set_cons_succ]
        apply hdW_nil
        refine wpAnyIn_ready (fuel := 1) (rs := [9]) (by kernel_rfl) (by simp) (AllReadyIn.cons rfl (fun K' hK => ?_) AllReadyIn.nil)
        rw [if_pos (by kernel_rfl)]
        dsimp only [List.getElem_toArray, List.getElem_cons_succ, List.getElem_cons_zero]
        unfold Oper.wpIn
        rw [hro, Oper.semAt_none]
        go_simp
        refine hR.mono ?_
        rintro e W3 (⟨rfl, hJ3, hk3⟩ | ⟨rfl, hJx3⟩)
        · apply hK
          refine wpAnyIn_ready (fuel := 0) (rs := [10]) (by kernel_rfl) (by simp) (AllReadyIn.cons rfl (fun K2 hK2 => ?_) AllReadyIn.nil)
          rw [if_pos (by kernel_rfl)]
          dsimp only [List.getElem_toArray, List.getElem_cons_succ, List.getElem_cons_zero]
          unfold Oper.wpIn
          rw [hro, Oper.semAt_none]
          try simp only [Act.put, List.setIfInBounds_toArray, List.set_cons_zero, List.set_cons_succ]
          go_simp
          apply hK2
          refine ⟨by kernel_rfl, ?_⟩
          try simp only [Act.put, List.setIfInBounds_toArray, List.set_cons_zero, List.set_cons_succ]
          gi_wp2
          go_roundw
          case rel => exact ⟨k + 1, by omega, by go_num, by rw [upto_succ, hp]; exact hJ3, hnx'.trans hk3⟩
          case measure => simp [intOf]; omega
        · apply hK
          refine wpAnyIn_ready (fuel := 0) (rs := [10]) (by kernel_rfl) (by simp) (AllReadyIn.cons rfl (fun K2 hK2 => ?_) AllReadyIn.nil)
          rw [if_pos (by kernel_rfl)]
          dsimp only [List.getElem_toArray, List.getElem_cons_succ, List.getElem_cons_zero]
          unfold Oper.wpIn
          rw [hro, Oper.semAt_none]
          try simp only [Act.put, List.setIfInBounds_toArray, List.set_cons_zero, List.set_cons_succ]
          go_simp
          apply hK2
          refine ⟨by kernel_rfl, ?_⟩
          try simp only [Act.put, List.setIfInBounds_toArray, List.set_cons_zero, List.set_cons_succ]
          gi_wp2
          refine bodyPost_ret (results_none rfl _ _ _) rfl ?_
          exact ⟨⟨_, rfl⟩, .inr ⟨_, ⟨k + 1, by omega, by rw [upto_succ, hp]⟩, hJx3⟩⟩
      · obtain rfl : k = ys.length := by omega
        gi_wp2
        go_end0
        exact ⟨⟨_, rfl⟩, .inl ⟨_, rfl, hJs⟩⟩
  · rw [Nat.min_eq_left hle] at hY ⊢
    gi_wp2
    gi_loopw [10] (fun i wr => ∃ k : Nat, k ≤ xs.length ∧ i = .int .i64 k ∧ J (upto (pairAt xs ys) k) wr ∧ Stay S W wr) (fun i _ => xs.length - (intOf i).toNat)
    case atStart => exact ⟨0, Nat.zero_le _, rfl, h0, Stay.refl _ _⟩
    case round =>
      obtain ⟨k, hk, rfl, hJs, hnx⟩ := hrel
      have hnx' := hnx.drew
      by_cases hlt : k < xs.length
      · obtain ⟨a1, o1, rfl, ha1, hca⟩ := ha.resolve_left (by intro h; rw [h] at hlt; exact absurd hlt (Nat.not_lt_zero _))
        obtain ⟨b1, o2, rfl, hb1, hcb⟩ := hb.resolve_left (by intro h; have := congrArg List.length h; simp only [List.length_nil] at this; omega)
        obtain ⟨px, py, hp⟩ : ∃ px py, pairAt xs ys k = (px, py) := ⟨_, _, rfl⟩
        have cx := (hnx.cell (p := ⟨a1, o1 + k, none⟩) ha1).trans (hca k (by omega))
        have cy := (hnx.cell (p := ⟨b1, o2 + k, none⟩) hb1).trans (hcb k (by omega))
        rw [show xs[k]?.getD 0 = px from congrArg Prod.fst hp] at cx
        rw [show ys[k]?.getD 0 = py from congrArg Prod.snd hp] at cy
        have cA := (hnx.cell (p := ⟨Ba, 0, none⟩) hba).trans hBa
        have cB := (hnx.cell (p := ⟨Bb, 0, none⟩) hbb).trans hBb
        obtain ⟨fn, tmps, assign, body, hy, hR⟩ := hY _ (px, py) wr.drew (hJd _ _ hJs) (by rw [upto_length]; omega)
        dsimp only at hy
        have i1 : (0 : Int) ≤ (k : Int) := by omega
        have i2 : (k : Int) < (xs.length : Int) := by omega
        have i3 : (k : Int) < (ys.length : Int) := by omega
        gi_wp2
        apply wpIn_region_head (_ :: _ :: _ :: _ :: _ :: _ :: _ :: _ :: _ :: []) 9 rfl hro (by kernel_rfl) (by kernel_rfl) (by decide) (by kernel_rfl)
        apply hdW_cons
        · unfold quietAt
          go_simp
          exact rfl
        · intro _; rfl
        simp only [Act.put, List.setIfInBounds_toArray, List.set_cons_zero, List.set_cons_succ]
        apply hdW_cons
        · unfold quietAt
          go_simp
          exact rfl
        · intro _; rfl
        simp only [Act.put, List.setIfInBounds_toArray, List.set_cons_zero, List.set_cons_succ]
        apply hdW_cons
        · unfold quietAt
          go_simp
          exact rfl
        · intro _; rfl
        simp only [Act.put, List.setIfInBounds_toArray, List.set_cons_zero, List.set_cons_succ]
        apply hdW_cons
        · unfold quietAt
          go_simp
          exact rfl
        · intro _; rfl
        simp only [Act.put, List.setIfInBounds_toArray, List.set_cons_zero, List.set_cons_succ]
        apply hdW_cons
        · unfold quietAt
          go_simp
          exact rfl
        · intro _; rfl
        simp only [Act.put, List.setIfInBounds_toArray, List.set_cons_zero, List.set_cons_succ]
        apply hdW_cons
        · unfold quietAt
          go_simp
          exact rfl
        · intro _; rfl
        simp only [Act.put, List.setIfInBounds_toArray, List.set_cons_zero, List.set_cons_succ]
        apply hdW_cons
        · unfold quietAt
          go_simp
          exact rfl
        · intro _; rfl
        simp only [Act.put, List.setIfInBounds_toArray, List.set_cons_zero, List.set_cons_succ]
        apply hdW_cons
        · unfold quietAt
          go_simp
          exact rfl
        · intro _; rfl
        simp only [Act.put, List.setIfInBounds_toArray, List.set_cons_zero, List.set_cons_succ]
        apply hdW_cons
        · unfold quietAt
          go_simp
          exact rfl
        · intro _; rfl
        simp only [Act.put, List.setIfInBounds_toArray, List.set_cons_zero, List.set_cons_succ]
        apply hdW_nil
        refine wpAnyIn_ready (fuel := 1) (rs := [9]) (by kernel_rfl) (by simp) (AllReadyIn.cons rfl (fun K' hK => ?_) AllReadyIn.nil)
        rw [if_pos (by kernel_rfl)]
        dsimp only [List.getElem_toArray, List.getElem_cons_succ, List.getElem_cons_zero]
        unfold Oper.wpIn
        rw [hro, Oper.semAt_none]
        go_simp
        refine hR.mono ?_
        rintro e W3 (⟨rfl, hJ3, hk3⟩ | ⟨rfl, hJx3⟩)
        · apply hK
          refine wpAnyIn_ready (fuel := 0) (rs := [10]) (by kernel_rfl) (by simp) (AllReadyIn.cons rfl (fun K2 hK2 => ?_) AllReadyIn.nil)
          rw [if_pos (by kernel_rfl)]
          dsimp only [List.getElem_toArray, List.getElem_cons_succ, List.getElem_cons_zero]
          unfold Oper.wpIn
          rw [hro, Oper.semAt_none]
          try simp only [Act.put, List.setIfInBounds_toArray, List.set_cons_zero, List.set_cons_succ]
          go_simp
          apply hK2
          refine ⟨by kernel_rfl, ?_⟩
          try simp only [Act.put, List.setIfInBounds_toArray, List.set_cons_zero, List.set_cons_succ]
          gi_wp2
          go_roundw
          case rel => exact ⟨k + 1, by omega, by go_num, by rw [upto_succ, hp]; exact hJ3, hnx'.trans hk3⟩
          case measure => simp [intOf]; omega
        · apply hK
          refine wpAnyIn_ready (fuel := 0) (rs := [10]) (by kernel_rfl) (by simp) (AllReadyIn.cons rfl (fun K2 hK2 => ?_) AllReadyIn.nil)
          rw [if_pos (by kernel_rfl)]
          dsimp only [List.getElem_toArray, List.getElem_cons_succ, List.getElem_cons_zero]
          unfold Oper.wpIn
          rw [hro, Oper.semAt_none]
          try simp only [Act.put, List.setIfInBounds_toArray, List.set_cons_zero, List.set_cons_succ]
          go_simp
          apply hK2
          refine ⟨by kernel_rfl, ?_⟩
          try simp only [Act.put, List.setIfInBounds_toArray, List.set_cons_zero, List.set_cons_succ]
          gi_wp2
          refine bodyPost_ret (results_none rfl _ _ _) rfl ?_
          exact ⟨⟨_, rfl⟩, .inr ⟨_, ⟨k + 1, by omega, by rw [upto_succ, hp]⟩, hJx3⟩⟩
      · obtain rfl : k = xs.length := by omega
        gi_wp2
        go_end0
        exact ⟨⟨_, rfl⟩, .inl ⟨_, rfl, hJs⟩⟩

theorem upto_take {α : Type} (f : Nat → α) (k m : Nat) (h : k ≤ m) : upto f k <+: upto f m := by
  have e : upto f k = (upto f m).take k := by unfold upto; rw [← List.map_take, List.take_range, Nat.min_eq_left h]
  rw [e]; exact List.take_prefix _ _

/-- both(a, b): the two slices are boxed; the function value captures the boxes. -/
theorem both_in (F : Fence) (n : Nat) (h5 : F.fn 26) (hro : F.round = none) (a b : Option Addr) (la ca lb cb : Nat) (w : World) :
    CallsIn F n Try.prog 26 #[.slice a la ca, .slice b lb cb] w fun e w' => e = .returned (.func (.func 32) #[] #[.pointer (some ⟨w.heap.size, 0, none⟩), .pointer (some ⟨w.heap.size + 1, 0, none⟩)]) ∧
      w' = (w.alloc (.cells #[.slice a la ca] 24)).alloc (.cells #[.slice b lb cb] 24) := by
  refine callsIn_of_wp Try.func26 rfl h5 ?_ hro
  simp only [Try.ntmps26, List.size_toArray, List.length_cons, List.length_nil, Nat.reduceAdd, Nat.reduceSub, Array.replicate_succ, Array.replicate_zero, List.push_toArray, List.append_toArray, List.nil_append, List.cons_append]
  gi_wp2
  go_ret
  exact ⟨rfl, rfl⟩

theorem both_stops (F : Fence) (n : Nat) (h8 : F.fn 32) (hro : F.round = none) (hn : 1 ≤ n) (Ba Bb : Nat) (S : Nat → Prop) (va vb : Value) (xs ys : List Nat) (hx : xs.length ≤ 1000000) (hy : ys.length ≤ 1000000) (w : World)
    (hS : ∀ k, S k → k < w.heap.size) (hba : S Ba) (hbb : S Bb) (hA : w.cell? ⟨Ba, 0, none⟩ = some va) (hB : w.cell? ⟨Bb, 0, none⟩ = some vb) (ha : Nums S w va xs) (hb : Nums S w vb ys) :
    SeqStopsK F n Try.prog 32 #[.pointer (some ⟨Ba, 0, none⟩), .pointer (some ⟨Bb, 0, none⟩)] (fun x : Nat × Nat => #[Value.int .u64 (x.1 : Int), Value.int .u64 (x.2 : Int)]) (Stay S)
      (fun zs => zs = upto (pairAt xs ys) (min xs.length ys.length)) (fun pre => ∃ k, k ≤ min xs.length ys.length ∧ pre = upto (pairAt xs ys) k) (min xs.length ys.length) w := fun l J Jx W hW hJ _ hY h0 => by
  have hst : Stay S w W := Stay.below hW hS
  exact both1_in F n h8 hro hn l Ba Bb S va vb xs ys hx hy J Jx hY W ((hst.cell (p := ⟨Ba, 0, none⟩) hba).trans hA) ((hst.cell (p := ⟨Bb, 0, none⟩) hbb).trans hB) hba hbb (ha.stay hst) (hb.stay hst)
    (fun pre A hA => hJ pre A A.drew none hA (below_grownBy (below_drewN (Below.refl _ A) 1) none) (by simp)) h0
end Go.Proofs.Ytpdninnnpoiblaa
