/-
  vector.both: two stamps, number by number: an iterator's contract.
  vector.Leq.
  Package vector and the document's answer to it: plain contracts.
-/
import Derived.Test.YtpcpijecibiibaaGreatZEnNums
import Derived.Test.YtpcpijecibiibaaGreatZEnLeq
import Derived.RangeFuncNested
import Derived.RangeFuncBound
import Derived.RangeFuncCalls
import Derived.RangeFuncLeaves
import Derived.RangeFuncBox
import Derived.Shelf.Abstract
import Derived.Shelf.RegionOpen
import Derived.WalkKit
import Derived.OwnWalkIn
import Derived.TacticsInMore
import Derived.LoopNIn
import Derived.LoopIn
import Derived.Test.YtpcpijecibiibaaGreatRows
import Derived.Test.YtpcpijecibiibaaGreatZA
import Derived.Test.YtpcpijecibiibaaGreatZC
import Derived.WalkLawsBesides
import Derived.WalkSpells
import Derived.Outline
section
set_option linter.unusedVariables false
namespace Go.Proofs.YtpcpijecibiibaaGreat
open Go.RowKit Go.Shelf
attribute [local go_sem] Oper.semAt_some
/-- What has come when k rounds are over. -/
def upto {α : Type} (f : Nat → α) (k : Nat) : List α := (List.range k).map f
theorem upto_succ {α : Type} (f : Nat → α) (k : Nat) : upto f (k + 1) = upto f k ++ [f k] := by simp [upto, List.range_succ]
theorem upto_length {α : Type} (f : Nat → α) (k : Nat) : (upto f k).length = k := by simp [upto]
/-- The blocks of S are as they were. -/
def Stay (S : Nat → Prop) (A B : World) : Prop := ∀ k, S k → B.heap[k]? = A.heap[k]?
theorem Stay.refl (S : Nat → Prop) (A : World) : Stay S A A := fun _ _ => rfl
theorem Stay.trans {S : Nat → Prop} {A B C : World} (h : Stay S A B) (k : Stay S B C) : Stay S A C := fun i hi => (k i hi).trans (h i hi)
theorem Stay.drew {S : Nat → Prop} {A B : World} (h : Stay S A B) : Stay S A B.drew := h
theorem Stay.cell {S : Nat → Prop} {A B : World} (h : Stay S A B) {p : Addr} (hp : S p.block) : B.cell? p = A.cell? p := World.cell?_of_block (h p.block hp)
theorem Stay.below {S : Nat → Prop} {A B : World} {n₀ : Nat} (h : Below n₀ A B) (hS : ∀ k, S k → k < n₀) : Stay S A B := fun k hk => h.block k (hS k hk)
theorem stay_b {S : Nat → Prop} {w : World} (hS : ∀ k, S k → k < w.heap.size) (W : World) (l : Nat) (o o' : Obj) (hl : w.heap.size ≤ l) (h : W.heap[l]? = some o) (_ : o.isCells = false) (_ : o.isWalk = false) : Stay S W (W.putObj l o') := by
  intro k hk
  have hb := belowK_b (n₀ := w.heap.size) (w := w) (Nat.le_refl _) W l o o' hl h ‹_› ‹_›
  exact hb.block k (hS k hk)
theorem Nums.stay {S : Nat → Prop} {A B : World} (h : Stay S A B) {sv : Value} {zs : List Nat} : Nums S A sv zs → Nums S B sv zs
  | ⟨a, cap, e, .inl h0⟩ => ⟨a, cap, e, .inl h0⟩
  | ⟨a, cap, e, .inr ⟨b, off, e2, hb, hc⟩⟩ => ⟨a, cap, e, .inr ⟨b, off, e2, hb, fun j hj => (h.cell (p := ⟨b, off + j, none⟩) hb).trans (hc j hj)⟩⟩
set_option maxRecDepth 100000 in
set_option maxHeartbeats 4000000 in
theorem both1_in (F : Fence) (n : Nat) (h8 : F.fn 43) (hro : F.round = none) (hn : 1 ≤ n) (l Ba Bb : Nat) (S : Nat → Prop) (va vb : Value) (xs ys : List Nat) (hx : xs.length ≤ 1000000) (hy1 : ys.length ≤ 1000000) (J Jx : List (Nat × Nat) → World → Prop)
    (hY : ∀ pre x W, J pre W → pre.length < min xs.length ys.length → YieldAt F (n - 1) Tryz.prog l #[.int .u64 (x.1 : Int), .int .u64 (x.2 : Int)] W fun e W' =>
      (e = .returned (.bool true) ∧ J (pre ++ [x]) W' ∧ Stay S W W') ∨ (e = .returned (.bool false) ∧ Jx (pre ++ [x]) W'))
    (W : World) (hBa : W.cell? ⟨Ba, 0, none⟩ = some va) (hBb : W.cell? ⟨Bb, 0, none⟩ = some vb) (hba : S Ba) (hbb : S Bb) (ha : Nums S W va xs) (hb : Nums S W vb ys) (hJd : ∀ pre A, J pre A → J pre A.drew) (h0 : J [] W) :
    CallsIn F n Tryz.prog 43 #[.func (.yield l) #[] #[], .pointer (some ⟨Ba, 0, none⟩), .pointer (some ⟨Bb, 0, none⟩)] W fun e W' => (∃ v, e = .returned v) ∧
      ((∃ zs, zs = upto (pairAt xs ys) (min xs.length ys.length) ∧ J zs W') ∨ (∃ pre, (∃ k, k ≤ min xs.length ys.length ∧ pre = upto (pairAt xs ys) k) ∧ Jx pre W')) := by
  obtain ⟨a, ca, rfl, ha⟩ := ha
  obtain ⟨b, cb, rfl, hb⟩ := hb
  refine callsIn_of_wp Tryz.func43 rfl h8 ?_ hro
  simp only [Tryz.ntmps43, List.size_toArray, List.length_cons, List.length_nil, Nat.reduceAdd, Nat.reduceSub, Array.replicate_succ, Array.replicate_zero, List.push_toArray, List.append_toArray, List.nil_append, List.cons_append]
  rcases Nat.lt_or_ge ys.length xs.length with hle | hle
  · rw [Nat.min_eq_right (Nat.le_of_lt hle)] at hY ⊢
    gi_wp2
    gi_loopw [10] (fun i wr => ∃ k : Nat, k ≤ ys.length ∧ i = .int .i64 k ∧ J (upto (pairAt xs ys) k) wr ∧ Stay S W wr) (fun i _ => ys.length - (intOf i).toNat)
    case atStart => exact ⟨0, Nat.zero_le _, rfl, h0, Stay.refl _ _⟩
    case round =>
      obtain ⟨k, hk, rfl, hJs, hnx⟩ := hrel
      have hnx' := hnx.drew
      by_cases hlt : k < ys.length
      · obtain ⟨a1, o1, rfl, ha1, hca⟩ := ha.resolve_left (by intro h; have := congrArg List.length h; simp only [List.length_nil] at this; omega)
        obtain ⟨b1, o2, rfl, hb1, hcb⟩ := hb.resolve_left (by intro h; have := congrArg List.length h; simp only [List.length_nil] at this; omega)
        obtain ⟨px, py, hp⟩ : ∃ px py, pairAt xs ys k = (px, py) := ⟨_, _, rfl⟩
        have cx := (hnx.cell (p := ⟨a1, o1 + k, none⟩) ha1).trans (hca k (by omega))
        have cy := (hnx.cell (p := ⟨b1, o2 + k, none⟩) hb1).trans (hcb k (by omega))
        rw [show xs[k]?.getD 0 = px from congrArg Prod.fst hp] at cx
        rw [show ys[k]?.getD 0 = py from congrArg Prod.snd hp] at cy
        have cA := (hnx.cell (p := ⟨Ba, 0, none⟩) hba).trans hBa
        have cB := (hnx.cell (p := ⟨Bb, 0, none⟩) hbb).trans hBb
        obtain ⟨fn, tmps, assign, body, hy, hR⟩ := hY _ (px, py) wr.drew (hJd _ _ hJs) (by rw [upto_length]; omega)
        dsimp only at hy
        have i1 : (0 : Int) ≤ (k : Int) := by omega
        have i2 : (k : Int) < (xs.length : Int) := by omega
        have i3 : (k : Int) < (ys.length : Int) := by omega
        gi_wp2
        apply wpIn_region_head (_ :: _ :: _ :: _ :: _ :: _ :: _ :: _ :: _ :: []) 9 rfl hro (by kernel_rfl) (by kernel_rfl) (by decide) (by kernel_rfl)
        apply hdW_cons
        · unfold quietAt
          go_simp
          exact rfl
        · intro _; rfl
        simp only [Act.put, pt1, pt2, pt3]
        apply hdW_cons
        · unfold quietAt
          go_simp
          exact rfl
        · intro _; rfl
        simp only [Act.put, pt1, pt2, pt3]
        apply hdW_cons
        · unfold quietAt
          go_simp
          exact rfl
        · intro _; rfl
        simp only [Act.put, pt1, pt2, pt3]
        apply hdW_cons
        · unfold quietAt
          go_simp
          exact rfl
        · intro _; rfl
        simp only [Act.put, pt1, pt2, pt3]
        apply hdW_cons
        · unfold quietAt
          go_simp
          exact rfl
        · intro _; rfl
        simp only [Act.put, pt1, pt2, pt3]
        apply hdW_cons
        · unfold quietAt
          go_simp
          exact rfl
        · intro _; rfl
        simp only [Act.put, pt1, pt2, pt3]
        apply hdW_cons
        · unfold quietAt
          go_simp
          exact rfl
        · intro _; rfl
        simp only [Act.put, pt1, pt2, pt3]
        apply hdW_cons
        · unfold quietAt
          go_simp
          exact rfl
        · intro _; rfl
        simp only [Act.put, pt1, pt2, pt3]
        apply hdW_cons
        · unfold quietAt
          go_simp
          exact rfl
        · intro _; rfl
        simp only [Act.put, pt1, pt2, pt3]
        apply hdW_nil
        refine wpAnyIn_ready (fuel := 1) (rs := [9]) (by kernel_rfl) (by simp) (AllReadyIn.cons rfl (fun K' hK => ?_) AllReadyIn.nil)
        rw [if_pos (by kernel_rfl)]
        dsimp only [List.getElem_toArray, List.getElem_cons_succ, List.getElem_cons_zero]
        unfold Oper.wpIn
        rw [hro, Oper.semAt_none]
        go_simp
        refine hR.mono ?_
        rintro e W3 (⟨rfl, hJ3, hk3⟩ | ⟨rfl, hJx3⟩)
        · apply hK
          refine wpAnyIn_ready (fuel := 0) (rs := [10]) (by kernel_rfl) (by simp) (AllReadyIn.cons rfl (fun K2 hK2 => ?_) AllReadyIn.nil)
          rw [if_pos (by kernel_rfl)]
          dsimp only [List.getElem_toArray, List.getElem_cons_succ, List.getElem_cons_zero]
          unfold Oper.wpIn
          rw [hro, Oper.semAt_none]
          try simp only [Act.put, pt1, pt2, pt3]
          go_simp
          apply hK2
          refine ⟨by kernel_rfl, ?_⟩
          try simp only [Act.put, pt1, pt2, pt3]
          gi_wp2
          go_roundw
          case rel => exact ⟨k + 1, by omega, by go_num, by rw [upto_succ, hp]; exact hJ3, hnx'.trans hk3⟩
          case measure => simp [intOf]; omega
        · apply hK
          refine wpAnyIn_ready (fuel := 0) (rs := [10]) (by kernel_rfl) (by simp) (AllReadyIn.cons rfl (fun K2 hK2 => ?_) AllReadyIn.nil)
          rw [if_pos (by kernel_rfl)]
          dsimp only [List.getElem_toArray, List.getElem_cons_succ, List.getElem_cons_zero]
          unfold Oper.wpIn
          rw [hro, Oper.semAt_none]
          try simp only [Act.put, pt1, pt2, pt3]
          go_simp
          apply hK2
          refine ⟨by kernel_rfl, ?_⟩
          try simp only [Act.put, pt1, pt2, pt3]
          gi_wp2
          refine bodyPost_ret (results_none rfl _ _ _) rfl ?_
          exact ⟨⟨_, rfl⟩, .inr ⟨_, ⟨k + 1, by omega, by rw [upto_succ, hp]⟩, hJx3⟩⟩
      · obtain rfl : k = ys.length := by omega
        gi_wp2
        go_end0
        exact ⟨⟨_, rfl⟩, .inl ⟨_, rfl, hJs⟩⟩
  · rw [Nat.min_eq_left hle] at hY ⊢
    gi_wp2
    gi_loopw [10] (fun i wr => ∃ k : Nat, k ≤ xs.length ∧ i = .int .i64 k ∧ J (upto (pairAt xs ys) k) wr ∧ Stay S W wr) (fun i _ => xs.length - (intOf i).toNat)
    case atStart => exact ⟨0, Nat.zero_le _, rfl, h0, Stay.refl _ _⟩
    case round =>
      obtain ⟨k, hk, rfl, hJs, hnx⟩ := hrel
      have hnx' := hnx.drew
      by_cases hlt : k < xs.length
      · obtain ⟨a1, o1, rfl, ha1, hca⟩ := ha.resolve_left (by intro h; rw [h] at hlt; exact absurd hlt (Nat.not_lt_zero _))
        obtain ⟨b1, o2, rfl, hb1, hcb⟩ := hb.resolve_left (by intro h; have := congrArg List.length h; simp only [List.length_nil] at this; omega)
        obtain ⟨px, py, hp⟩ : ∃ px py, pairAt xs ys k = (px, py) := ⟨_, _, rfl⟩
        have cx := (hnx.cell (p := ⟨a1, o1 + k, none⟩) ha1).trans (hca k (by omega))
        have cy := (hnx.cell (p := ⟨b1, o2 + k, none⟩) hb1).trans (hcb k (by omega))
        rw [show xs[k]?.getD 0 = px from congrArg Prod.fst hp] at cx
        rw [show ys[k]?.getD 0 = py from congrArg Prod.snd hp] at cy
        have cA := (hnx.cell (p := ⟨Ba, 0, none⟩) hba).trans hBa
        have cB := (hnx.cell (p := ⟨Bb, 0, none⟩) hbb).trans hBb
        obtain ⟨fn, tmps, assign, body, hy, hR⟩ := hY _ (px, py) wr.drew (hJd _ _ hJs) (by rw [upto_length]; omega)
        dsimp only at hy
        have i1 : (0 : Int) ≤ (k : Int) := by omega
        have i2 : (k : Int) < (xs.length : Int) := by omega
        have i3 : (k : Int) < (ys.length : Int) := by omega
        gi_wp2
        apply wpIn_region_head (_ :: _ :: _ :: _ :: _ :: _ :: _ :: _ :: _ :: []) 9 rfl hro (by kernel_rfl) (by kernel_rfl) (by decide) (by kernel_rfl)
        apply hdW_cons
        · unfold quietAt
          go_simp
          exact rfl
        · intro _; rfl
        simp only [Act.put, pt1, pt2, pt3]
        apply hdW_cons
        · unfold quietAt
          go_simp
          exact rfl
        · intro _; rfl
        simp only [Act.put, pt1, pt2, pt3]
        apply hdW_cons
        · unfold quietAt
          go_simp
          exact rfl
        · intro _; rfl
        simp only [Act.put, pt1, pt2, pt3]
        apply hdW_cons
        · unfold quietAt
          go_simp
          exact rfl
        · intro _; rfl
        simp only [Act.put, pt1, pt2, pt3]
        apply hdW_cons
        · unfold quietAt
          go_simp
          exact rfl
        · intro _; rfl
        simp only [Act.put, pt1, pt2, pt3]
        apply hdW_cons
        · unfold quietAt
          go_simp
          exact rfl
        · intro _; rfl
        simp only [Act.put, pt1, pt2, pt3]
        apply hdW_cons
        · unfold quietAt
          go_simp
          exact rfl
        · intro _; rfl
        simp only [Act.put, pt1, pt2, pt3]
        apply hdW_cons
        · unfold quietAt
          go_simp
          exact rfl
        · intro _; rfl
        simp only [Act.put, pt1, pt2, pt3]
        apply hdW_cons
        · unfold quietAt
          go_simp
          exact rfl
        · intro _; rfl
        simp only [Act.put, pt1, pt2, pt3]
        apply hdW_nil
        refine wpAnyIn_ready (fuel := 1) (rs := [9]) (by kernel_rfl) (by simp) (AllReadyIn.cons rfl (fun K' hK => ?_) AllReadyIn.nil)
        rw [if_pos (by kernel_rfl)]
        dsimp only [List.getElem_toArray, List.getElem_cons_succ, List.getElem_cons_zero]
        unfold Oper.wpIn
        rw [hro, Oper.semAt_none]
        go_simp
        refine hR.mono ?_
        rintro e W3 (⟨rfl, hJ3, hk3⟩ | ⟨rfl, hJx3⟩)
        · apply hK
          refine wpAnyIn_ready (fuel := 0) (rs := [10]) (by kernel_rfl) (by simp) (AllReadyIn.cons rfl (fun K2 hK2 => ?_) AllReadyIn.nil)
          rw [if_pos (by kernel_rfl)]
          dsimp only [List.getElem_toArray, List.getElem_cons_succ, List.getElem_cons_zero]
          unfold Oper.wpIn
          rw [hro, Oper.semAt_none]
          try simp only [Act.put, pt1, pt2, pt3]
          go_simp
          apply hK2
          refine ⟨by kernel_rfl, ?_⟩
          try simp only [Act.put, pt1, pt2, pt3]
          gi_wp2
          go_roundw
          case rel => exact ⟨k + 1, by omega, by go_num, by rw [upto_succ, hp]; exact hJ3, hnx'.trans hk3⟩
          case measure => simp [intOf]; omega
        · apply hK
          refine wpAnyIn_ready (fuel := 0) (rs := [10]) (by kernel_rfl) (by simp) (AllReadyIn.cons rfl (fun K2 hK2 => ?_) AllReadyIn.nil)
          rw [if_pos (by kernel_rfl)]
          dsimp only [List.getElem_toArray, List.getElem_cons_succ, List.getElem_cons_zero]
          unfold Oper.wpIn
          rw [hro, Oper.semAt_none]
          try simp only [Act.put, pt1, pt2, pt3]
          go_simp
          apply hK2
          refine ⟨by kernel_rfl, ?_⟩
          try simp only [Act.put, pt1, pt2, pt3]
          gi_wp2
          refine bodyPost_ret (results_none rfl _ _ _) rfl ?_
          exact ⟨⟨_, rfl⟩, .inr ⟨_, ⟨k + 1, by omega, by rw [upto_succ, hp]⟩, hJx3⟩⟩
      · obtain rfl : k = xs.length := by omega
        gi_wp2
        go_end0
        exact ⟨⟨_, rfl⟩, .inl ⟨_, rfl, hJs⟩⟩
theorem upto_take {α : Type} (f : Nat → α) (k m : Nat) (h : k ≤ m) : upto f k <+: upto f m := by
  have e : upto f k = (upto f m).take k := by unfold upto; rw [← List.map_take, List.take_range, Nat.min_eq_left h]
  rw [e]; exact List.take_prefix _ _
/-- both(a, b): the two slices are boxed; the function value captures the boxes. -/
theorem both_in (F : Fence) (n : Nat) (h5 : F.fn 31) (hro : F.round = none) (a b : Option Addr) (la ca lb cb : Nat) (w : World) :
    CallsIn F n Tryz.prog 31 #[.slice a la ca, .slice b lb cb] w fun e w' => e = .returned (.func (.func 43) #[] #[.pointer (some ⟨w.heap.size, 0, none⟩), .pointer (some ⟨w.heap.size + 1, 0, none⟩)]) ∧
      w' = (w.alloc (.cells #[.slice a la ca] 26)).alloc (.cells #[.slice b lb cb] 26) := by
  refine callsIn_of_wp Tryz.func31 rfl h5 ?_ hro
  simp only [Tryz.ntmps31, List.size_toArray, List.length_cons, List.length_nil, Nat.reduceAdd, Nat.reduceSub, Array.replicate_succ, Array.replicate_zero, List.push_toArray, List.append_toArray, List.nil_append, List.cons_append]
  gi_wp2
  go_ret
  exact ⟨rfl, rfl⟩
theorem both_stops (F : Fence) (n : Nat) (h8 : F.fn 43) (hro : F.round = none) (hn : 1 ≤ n) (Ba Bb : Nat) (S : Nat → Prop) (va vb : Value) (xs ys : List Nat) (hx : xs.length ≤ 1000000) (hy : ys.length ≤ 1000000) (w : World)
    (hS : ∀ k, S k → k < w.heap.size) (hba : S Ba) (hbb : S Bb) (hA : w.cell? ⟨Ba, 0, none⟩ = some va) (hB : w.cell? ⟨Bb, 0, none⟩ = some vb) (ha : Nums S w va xs) (hb : Nums S w vb ys) :
    SeqStopsK F n Tryz.prog 43 #[.pointer (some ⟨Ba, 0, none⟩), .pointer (some ⟨Bb, 0, none⟩)] (fun x : Nat × Nat => #[Value.int .u64 (x.1 : Int), Value.int .u64 (x.2 : Int)]) (Stay S)
      (fun zs => zs = upto (pairAt xs ys) (min xs.length ys.length)) (fun pre => ∃ k, k ≤ min xs.length ys.length ∧ pre = upto (pairAt xs ys) k) (min xs.length ys.length) w := fun l J Jx W hW hJ _ hY h0 => by
  have hst : Stay S w W := Stay.below hW hS
  exact both1_in F n h8 hro hn l Ba Bb S va vb xs ys hx hy J Jx hY W ((hst.cell (p := ⟨Ba, 0, none⟩) hba).trans hA) ((hst.cell (p := ⟨Bb, 0, none⟩) hbb).trans hB) hba hbb (ha.stay hst) (hb.stay hst)
    (fun pre A hA => hJ pre A A.drew none hA (below_grownBy (below_drewN (Below.refl _ A) 1) none) (by simp)) h0
end Go.Proofs.YtpcpijecibiibaaGreat
end
section
set_option linter.unusedVariables false
namespace Go.Proofs.YtpcpijecibiibaaGreat
open Go.RowKit Go.Shelf
attribute [local go_sem] Oper.semAt_some
theorem Nums.mono {S S' : Nat → Prop} {W : World} {sv : Value} {zs : List Nat} (h : ∀ k, S k → S' k) : Nums S W sv zs → Nums S' W sv zs
  | ⟨a, cap, e, .inl h0⟩ => ⟨a, cap, e, .inl h0⟩
  | ⟨a, cap, e, .inr ⟨b, off, e2, hb, hc⟩⟩ => ⟨a, cap, e, .inr ⟨b, off, e2, h _ hb, hc⟩⟩
set_option maxRecDepth 100000 in
set_option maxHeartbeats 2000000 in
theorem leq_in (F : Fence) (n : Nat) (h4 : F.fn 16) (h6 : F.fn 31) (h8 : F.fn 43) (hro : F.round = none) (hn : 3 ≤ n) (a b : Option Addr) (ca cb : Nat) (xs ys : List Nat) (hx : xs.length ≤ 1000000) (hy : ys.length ≤ 1000000) (w : World)
    (ha : Nums (fun k => k < w.heap.size) w (.slice a xs.length ca) xs) (hb : Nums (fun k => k < w.heap.size) w (.slice b ys.length cb) ys) :
    CallsIn F n Tryz.prog 16 #[.slice a xs.length ca, .slice b ys.length cb] w fun e W' => e = .returned (.bool (leqV xs ys)) ∧ Below w.heap.size w W' := by
  have h1 : 1 ≤ n := by omega
  refine callsIn_of_wp_marks Tryz.func16 rfl h4 ?_ hro
  simp only [Tryz.ntmps16, List.size_toArray, List.length_cons, List.length_nil, Nat.reduceAdd, Nat.reduceSub, Array.replicate_succ, Array.replicate_zero, List.push_toArray, List.append_toArray, List.nil_append, List.cons_append]
  gi_wp2_with (gi_at_call 31; refine (both_in F (n - 1) h6 hro _ _ _ _ _ _ _).mono ?_; rintro e w' ⟨rfl, rfl⟩)
  have bR := Boxed.new w 4 (.bool false)
  have bA := Boxed.new (w.alloc (.cells #[.bool false] 4)) 26 (.slice a xs.length ca)
  have bB := Boxed.new ((w.alloc (.cells #[.bool false] 4)).alloc (.cells #[.slice a xs.length ca] 26)) 26 (.slice b ys.length cb)
  rw [World.size_alloc] at bA
  rw [World.size_alloc, World.size_alloc] at bB
  have hB0 : Below w.heap.size w (((w.alloc (.cells #[.bool false] 4)).alloc (.cells #[.slice a xs.length ca] 26)).alloc (.cells #[.slice b ys.length cb] 26)) := (((Below.refl _ w).alloc (Nat.le_refl _) _).alloc (by simp) _).alloc (by simp; omega) _
  have hS : ∀ k, (k < w.heap.size ∨ k = w.heap.size + 1 ∨ k = w.heap.size + 1 + 1) → k < (((w.alloc (.cells #[.bool false] 4)).alloc (.cells #[.slice a xs.length ca] 26)).alloc (.cells #[.slice b ys.length cb] 26)).heap.size := by intro k hk; simp; omega
  refine wpIn_rangeFunc_ownG hro h1 (gf := 43) (lb := #[.pointer (some ⟨w.heap.size + 1, 0, none⟩), .pointer (some ⟨w.heap.size + 1 + 1, 0, none⟩)]) rfl h8 (enters_of Tryz.func43 (by kernel_rfl) rfl)
    (both_stops F (n - 1) h8 hro (by omega) (w.heap.size + 1) (w.heap.size + 1 + 1) (fun k => k < w.heap.size ∨ k = w.heap.size + 1 ∨ k = w.heap.size + 1 + 1) _ _ xs ys hx hy _ hS (.inr (.inl rfl)) (.inr (.inr rfl)) (bA.alloc _).cell bB.cell
      ((ha.stay (Stay.below hB0 fun _ h => h)).mono fun _ h => .inl h) ((hb.stay (Stay.below hB0 fun _ h => h)).mono fun _ h => .inl h)) (fun h k => h.trans k) (stay_b hS) (Below.refl _ _) (fun _ => rfl)
    (fun pre W => ((∀ p ∈ pre, p.1 ≤ p.2) ∧ W.cell? ⟨w.heap.size, 0, none⟩ = some (.bool false) ∧ W.frozen? ⟨w.heap.size, 0, none⟩ = false) ∧ Below w.heap.size w W)
    (fun c pre W => (c = .ret ∧ ∃ ini last, pre = ini ++ [last] ∧ last.2 < last.1 ∧ W.cell? ⟨w.heap.size, 0, none⟩ = some (.bool false)) ∧ Below w.heap.size w W)
    (OwnFrom.and (Own.from (fun s A B row hs hg hr => ⟨hs.1, cell_kept hs.2.1 hg hr, (frozen_kept hs.2.1 hg hr).trans hs.2.2⟩) _) (ownFrom_below (Nat.le_refl _) (by simp; omega)))
    (fun c => OwnFrom.and (Own.from (fun s A B row hs hg hr => by obtain ⟨hc, ini, last, e1, e2, e4⟩ := hs; exact ⟨hc, ini, last, e1, e2, cell_kept e4 hg hr⟩) _) (ownFrom_below (Nat.le_refl _) (by simp; omega)))
    ⟨⟨by simp, ((bR.alloc _).alloc _).cell, ((bR.alloc _).alloc _).frozen⟩, hB0⟩
    (fun x => { tmps := #[.slice a xs.length ca, .slice b ys.length cb, undef, undef, .pointer (some ⟨w.heap.size, 0, none⟩), .int .u64 (x.1 : Int), .int .u64 (x.2 : Int), .slice a xs.length ca, .slice b ys.length cb, .func (.func 43) #[] #[.pointer (some ⟨w.heap.size + 1, 0, none⟩), .pointer (some ⟨w.heap.size + 1 + 1, 0, none⟩)], .int .u64 (x.1 : Int), .int .u64 (x.2 : Int), undef, undef, undef, undef, undef, undef, undef, undef], defers := [] }) ?assign ?body ?done ?stop
  case assign =>
    intro l x W K hK
    gi_wp2
    exact hK
  case body =>
    rintro l pre x W ⟨⟨hp, hcr, hfr⟩, hB⟩ _
    gi_wp2
    · have hx : x.2 < x.1 := by omega
      exact ⟨(KeepsOthers.setCell _ _ _).from _, ⟨rfl, pre, x, rfl, hx, World.cell?_setCell_same' _ _ _ (by rw [hcr]; rfl)⟩, hB.setCell (p := ⟨w.heap.size, 0, none⟩) (Nat.le_refl _) _⟩
    · have hx : x.1 ≤ x.2 := by omega
      exact ⟨KeepsFrom.refl _ _, Stay.refl _ _, ⟨fun p hp' => (List.mem_append.1 hp').elim (hp p) (fun e => by simp at e; subst e; exact hx), hcr, hfr⟩, hB⟩
  case done =>
    rintro D zs W hD rfl ⟨⟨hne, hcr, hfr⟩, hB⟩ hK
    have hall : leqV xs ys = decide (xs.length = ys.length) := by
      unfold leqV
      rw [List.all_eq_true.2, Bool.true_and]
      intro j hj
      have := hne (pairAt xs ys j) (List.mem_map.2 ⟨j, hj, rfl⟩)
      simpa using this
    gi_wp2
    have hK' := (KeepsOthers.setCell W ⟨w.heap.size, 0, none⟩ (.bool ((xs.length : Int) == (ys.length : Int)))).same D _ hK rfl
    refine ⟨by simp, .inl ⟨_, _, rfl, run_takeDeferred hK', ?_⟩⟩
    have hc5 := cell_kept (World.cell?_setCell_same' W ⟨w.heap.size, 0, none⟩ (.bool ((xs.length : Int) == (ys.length : Int))) (by rw [hcr]; rfl)) (grownBy_putObj' _ D (.deferred none)) (fun r e => by cases e; exact ⟨_, hK', rfl⟩)
    refine ⟨.bool ((xs.length : Int) == (ys.length : Int)), ?_, ?_, (hB.setCell (p := ⟨w.heap.size, 0, none⟩) (Nat.le_refl _) _).trans (belowK_b (w := w) (Nat.le_refl _) _ D _ _ (by simp at hD; omega) hK' rfl rfl)⟩
    · simp [results, Tryz.f16, go_sem, hc5]
    · rw [hall]; congr 2; rw [Bool.eq_iff_iff]; simp; omega
  case stop =>
    rintro D c pre W hD ⟨k, hk, rfl⟩ ⟨⟨rfl, ini, last, e1, e3, hcr⟩, hB⟩ hK
    gi_wp2
    refine ⟨by simp, .inl ⟨_, _, rfl, run_takeDeferred hK, ?_⟩⟩
    have hc5 := cell_kept hcr (grownBy_putObj' _ D (.deferred none)) (fun r e => by cases e; exact ⟨_, hK, rfl⟩)
    have hno : leqV xs ys = false := by
      have hm : last ∈ upto (pairAt xs ys) k := by rw [e1]; simp
      obtain ⟨j, hj, rfl⟩ := List.mem_map.1 hm
      have hj' := List.mem_range.1 hj
      unfold leqV
      rw [Bool.and_eq_false_iff]
      left
      rw [List.all_eq_false]
      exact ⟨j, List.mem_range.2 (by omega), by simp; exact e3⟩
    refine ⟨.bool false, ?_, by rw [hno], hB.trans (belowK_b (w := w) (Nat.le_refl _) W D _ _ (by simp at hD; omega) hK rfl rfl)⟩
    simp [results, Tryz.f16, go_sem, hc5]
end Go.Proofs.YtpcpijecibiibaaGreat
end
section
set_option linter.unusedVariables false
namespace Go.Proofs.YtpcpijecibiibaaGreat
open Go.RowKit
theorem leq_any (w : World) (va vb : Value) (xs ys : List Nat) (ha : Sl w va (nums xs)) (hb : Sl w vb (nums ys)) (hx : xs.length ≤ 1000000) (hy : ys.length ≤ 1000000) :
    Calls Tryz.prog 16 #[va, vb] w fun e W' => e = .returned (.bool (leqV xs ys)) ∧ Below w.heap.size w W' := by
  obtain ⟨a, ca, rfl, _, na⟩ := ha.nums
  obtain ⟨b, cb, rfl, _, nb⟩ := hb.nums
  exact callsIn_wide.1 (leq_in Fence.wide 3 trivial trivial trivial rfl (Nat.le_refl _) a b ca cb xs ys hx hy w na nb)
end Go.Proofs.YtpcpijecibiibaaGreat
end
