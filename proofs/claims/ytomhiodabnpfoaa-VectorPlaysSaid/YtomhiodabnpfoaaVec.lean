/-
  The document's answers of layer 15, and the small functions of package vector.
-/
import Derived.Test.YtomhiodabnpfoaaVecNum
import Derived.WalkLawsBesides
import Derived.WalkSpells
import Derived.Outline
import Derived.Test.YtomhiodabnpfoaaGrow
set_option linter.unusedVariables false
namespace Go.Proofs.Ytomhiodabnpfoaa
open Go.RowKit

theorem leqV_iff (xs ys : List Nat) (h : xs.length = ys.length) : leqV xs ys = true ↔ ∀ j, j < xs.length → (pairAt xs ys j).1 ≤ (pairAt xs ys j).2 := by
  unfold leqV
  rw [Bool.and_eq_true, List.all_eq_true, h, Nat.min_self]
  simp
theorem leqV_ne (xs ys : List Nat) (h : ¬ xs.length = ys.length) : leqV xs ys = false := by
  unfold leqV; simp [h]

set_option maxHeartbeats 1000000 in
theorem refleq_any (w : World) (va vb : Value) (xs ys : List Nat) (ha : Sl w va (nums xs)) (hb : Sl w vb (nums ys)) (hx : xs.length ≤ 1000000) (hy : ys.length ≤ 1000000) :
    Calls Try.prog 9 #[va, vb] w fun e W' => e = .returned (.bool (leqV xs ys)) ∧ Below w.heap.size w W' := by
  obtain ⟨a, ca, rfl, _, na⟩ := ha.nums
  obtain ⟨b, cb, rfl, _, nb⟩ := hb.nums
  by_cases hlen : xs.length = ys.length
  · have hiff := Lib.hid (leqV_iff xs ys hlen)
    obtain ⟨m, hm1, hm2⟩ : ∃ m, xs.length = m ∧ ys.length = m := ⟨ys.length, hlen, rfl⟩
    obtain ⟨_, _, e1, na⟩ := na
    obtain ⟨_, _, e2, nb⟩ := nb
    injection e1 with e11 _ e13
    injection e2 with e21 _ e23
    subst e11 e13 e21 e23
    have HL := Lib.hid hm1
    have NA : ∀ k, k < m → ∃ b1 o1 b2 o2, a = some ⟨b1, o1, none⟩ ∧ b = some ⟨b2, o2, none⟩ ∧ b1 < w.heap.size ∧ b2 < w.heap.size ∧ w.cell? ⟨b1, o1 + k, none⟩ = some (.int .u64 ((pairAt xs ys k).1 : Int)) ∧ w.cell? ⟨b2, o2 + k, none⟩ = some (.int .u64 ((pairAt xs ys k).2 : Int)) := by
      intro k hk
      obtain ⟨b1, o1, h1, h2, h3⟩ := na.resolve_left (by intro h; rw [h] at hm1; simp at hm1; omega)
      obtain ⟨b2, o2, h4, h5, h6⟩ := nb.resolve_left (by intro h; rw [h] at hm2; simp at hm2; omega)
      exact ⟨b1, o1, b2, o2, h1, h4, h2, h5, h3 k (by omega), h6 k (by omega)⟩
    have hmm : m ≤ 1000000 := by omega
    rw [hm1, hm2]
    clear na nb ha hb hlen hx hy hm1 hm2
    go_enter Try.func9, Try.ntmps9
    go_wp2
    go_loopw [5] (fun i wr => ∃ k : Nat, k ≤ m ∧ i = .int .i64 k ∧ Gr w wr ∧ ∀ j, j < k → (pairAt xs ys j).1 ≤ (pairAt xs ys j).2) (fun i _ => m - (intOf i).toNat)
    case atStart => exact ⟨0, Nat.zero_le _, rfl, Gr.refl _, fun j hj => absurd hj (Nat.not_lt_zero _)⟩
    case round =>
      obtain ⟨k, hk, rfl, hg, hle⟩ := hrel
      by_cases hlt : k < m
      · obtain ⟨b1, o1, b2, o2, rfl, rfl, hb1, hb2, c1, c2⟩ := NA k hlt
        obtain ⟨px, py, hp⟩ : ∃ px py, pairAt xs ys k = (px, py) := ⟨_, _, rfl⟩
        rw [hp] at c1 c2
        have HLE := Lib.hid hle
        have hg2 : Gr w wr.drew := hg.trans (below_drewN (Below.refl _ wr) 1)
        have d1 := (hg2.cell (p := ⟨b1, o1 + k, none⟩) hb1).trans c1
        have d2 := (hg2.cell (p := ⟨b2, o2 + k, none⟩) hb2).trans c2
        have hb1' : b1 < wr.drew.heap.size := Nat.lt_of_lt_of_le hb1 hg2.size
        have hb2' : b2 < wr.drew.heap.size := Nat.lt_of_lt_of_le hb2 hg2.size
        clear hle c1 c2
        go_wp2
        apply wp_region_draw_grow (.eq _ :: .eq _ :: .eq _ :: .eq _ :: .eq _ :: .eq _ :: .eq _ :: .eq _ :: .eq _ :: []) (by kernel_rfl) (by kernel_rfl) trivial
        apply wpG_eq
        · intro W hW hs
          unfold opG
          go_simp
          first | exact resG_eq_mk _ _ _ | rfl
        simp only [Act.put, List.setIfInBounds_toArray, List.set_cons_zero, List.set_cons_succ]
        apply wpG_eq
        · intro W hW hs
          unfold opG
          go_simp
          first | exact resG_eq_mk _ _ _ | rfl
        simp only [Act.put, List.setIfInBounds_toArray, List.set_cons_zero, List.set_cons_succ]
        apply wpG_eq
        · intro W hW hs
          have h1 : (0 : Int) ≤ (k : Int) := by omega
          have h2 : (k : Int) < (m : Int) := by omega
          unfold opG
          go_simp
          first | exact resG_eq_mk _ _ _ | rfl
        simp only [Act.put, List.setIfInBounds_toArray, List.set_cons_zero, List.set_cons_succ]
        apply wpG_eq
        · intro W hW hs
          have h1 := (hW.cell (p := ⟨b1, o1 + k, none⟩) hb1').trans d1
          unfold opG
          go_simp
          first | exact resG_eq_mk _ _ _ | rfl
        simp only [Act.put, List.setIfInBounds_toArray, List.set_cons_zero, List.set_cons_succ]
        apply wpG_eq
        · intro W hW hs
          unfold opG
          go_simp
          first | exact resG_eq_mk _ _ _ | rfl
        simp only [Act.put, List.setIfInBounds_toArray, List.set_cons_zero, List.set_cons_succ]
        apply wpG_eq
        · intro W hW hs
          unfold opG
          go_simp
          first | exact resG_eq_mk _ _ _ | rfl
        simp only [Act.put, List.setIfInBounds_toArray, List.set_cons_zero, List.set_cons_succ]
        apply wpG_eq
        · intro W hW hs
          have h1 : (0 : Int) ≤ (k : Int) := by omega
          have h2 : (k : Int) < (m : Int) := by omega
          unfold opG
          go_simp
          first | exact resG_eq_mk _ _ _ | rfl
        simp only [Act.put, List.setIfInBounds_toArray, List.set_cons_zero, List.set_cons_succ]
        apply wpG_eq
        · intro W hW hs
          have h1 := (hW.cell (p := ⟨b2, o2 + k, none⟩) hb2').trans d2
          unfold opG
          go_simp
          first | exact resG_eq_mk _ _ _ | rfl
        simp only [Act.put, List.setIfInBounds_toArray, List.set_cons_zero, List.set_cons_succ]
        apply wpG_eq
        · intro W hW hs
          unfold opG
          go_simp
          first | exact resG_eq_mk _ _ _ | rfl
        simp only [Act.put, List.setIfInBounds_toArray, List.set_cons_zero, List.set_cons_succ]
        apply wpG_nil
        intro W9 hW9 hsAll
        have g9 : Gr w W9 := hg2.trans hW9
        by_cases hpq : py < px
        · go_wp2
          go_ret
          refine ⟨?_, g9⟩
          have : leqV xs ys = false := by
            cases hv : leqV xs ys with
            | false => rfl
            | true => exact absurd (hiff.out.1 hv k (by rw [HL.out]; exact hlt)) (by rw [hp]; omega)
          rw [this]; rfl
        · go_wp2
          go_roundw
          case rel => exact ⟨k + 1, by omega, by go_num, g9, fun j hj => by
            rcases Nat.lt_or_ge j k with h | h
            · exact HLE.out j h
            · obtain rfl : j = k := by omega
              rw [hp]; show px ≤ py; omega⟩
          case measure => simp [intOf]; omega
      · obtain rfl : m = k := by omega
        go_wp2
        go_ret
        refine ⟨?_, hg⟩
        rw [hiff.out.2 (fun j hj => hle j (by rw [HL.out] at hj; exact hj))]; rfl
  · rw [leqV_ne xs ys hlen]
    go_enter Try.func9, Try.ntmps9
    go_wp2
    all_goals (go_ret; exact ⟨rfl, Below.refl _ _⟩)

def sameV (xs ys : List Nat) : Bool := leqV xs ys && leqV ys xs
theorem same_any (w : World) (va vb : Value) (xs ys : List Nat) (ha : Sl w va (nums xs)) (hb : Sl w vb (nums ys)) (hx : xs.length ≤ 1000000) (hy : ys.length ≤ 1000000) :
    Calls Try.prog 10 #[va, vb] w fun e W' => e = .returned (.bool (sameV xs ys)) ∧ Below w.heap.size w W' := by
  cases h1 : leqV xs ys with
  | false =>
    go_enter Try.func10, Try.ntmps10
    go_wp2_with fail
    refine (refleq_any _ _ _ xs ys ha hb hx hy).mono ?_
    rintro e w1 ⟨rfl, b1⟩
    rw [h1]
    go_wp2
    go_ret
    exact ⟨by rw [sameV, h1]; rfl, b1⟩
  | true =>
    go_enter Try.func10, Try.ntmps10
    go_wp2_with fail
    refine (refleq_any _ _ _ xs ys ha hb hx hy).mono ?_
    rintro e w1 ⟨rfl, b1⟩
    rw [h1]
    go_wp2_with fail
    refine (refleq_any _ _ _ ys xs (hb.below b1) (ha.below b1) hy hx).mono ?_
    rintro e w2 ⟨rfl, b2⟩
    go_wp2
    go_ret
    exact ⟨by rw [sameV, h1]; rfl, b1.trans (b2.mono b1.size)⟩
theorem leqV_refl (xs : List Nat) : leqV xs xs = true := (leqV_iff xs xs rfl).2 fun j _ => Nat.le_refl _
theorem sameV_self (xs : List Nat) : sameV xs xs = true := by rw [sameV, leqV_refl]; rfl

def incV (xs : List Nat) (i : Int) : List Nat := if 0 ≤ i ∧ i < xs.length then xs.set i.toNat ((xs[i.toNat]?.getD 0 + 1) % 18446744073709551616) else xs
set_option maxHeartbeats 1000000 in
theorem inc_any (w : World) (va : Value) (xs : List Nat) (i : Int) (ha : Sl w va (nums xs)) (hx : xs.length ≤ 1000000) (hi1 : -9223372036854775808 ≤ i) (hi2 : i ≤ 9223372036854775807) :
    Calls Try.prog 13 #[va, .int .i64 i] w (RetNums w (incV xs i)) := by
  by_cases hin : 0 ≤ i ∧ i < xs.length
  · obtain ⟨k, rfl⟩ := Int.eq_ofNat_of_zero_le hin.1
    have hk : k < xs.length := by omega
    obtain ⟨c0, hc0⟩ : ∃ c, xs[k]? = some c := ⟨_, List.getElem?_eq_getElem hk⟩
    have hv : incV xs ((k : Nat) : Int) = xs.set k ((c0 + 1) % 18446744073709551616) := by unfold incV; rw [if_pos hin]; simp [hc0]
    rw [hv]
    clear hv
    go_enter Try.func13, Try.ntmps13
    go_wp2_with fail
    refine (clone_n _ xs _ ha hx).mono ?_
    rintro e w1 ⟨v1, rfl, ho1, b1⟩
    obtain ⟨g, cap, rfl, hg1, hg2, hcap⟩ := ho1.formN (by omega)
    have cg := ho1.cellN k c0 hc0
    have fg := ho1.frozenN k
    have hos := ho1.storeN k ((c0 + 1) % 18446744073709551616)
    have hce : (((c0 + 1) % 18446744073709551616 : Nat) : Int) = ((c0 : Int) + 1) % 18446744073709551616 := by omega
    rw [hce] at hos
    have HOS := Lib.hid hos
    clear ho1 hos hce hc0 ha
    go_wp2
    go_ret
    exact ⟨_, rfl, HOS.out, b1.setCell (p := ⟨g, k, none⟩) hg1 _⟩
  · have hv : incV xs i = xs := by unfold incV; rw [if_neg hin]
    rw [hv]
    go_enter Try.func13, Try.ntmps13
    go_wp2_with fail
    refine (clone_n _ xs _ ha hx).mono ?_
    rintro e w1 ⟨v1, rfl, ho1, b1⟩
    obtain ⟨a1, c1, rfl⟩ := ho1.shape
    have hl := nums_length xs
    rw [hl] at ho1
    rcases Int.lt_or_le i 0 with h0 | h0
    · go_wp2
      all_goals (go_ret; exact ⟨_, rfl, ho1, b1⟩)
    · have h1 : (xs.length : Int) ≤ i := by omega
      go_wp2
      all_goals (go_ret; exact ⟨_, rfl, ho1, b1⟩)

def newV (i : Int) : List Nat := if 0 ≤ i ∧ i ≤ 3 then List.replicate i.toNat 0 else []
theorem new_n (w : World) (i : Int) : Calls Try.prog 14 #[.int .i64 i] w (RetNums w (newV i)) := by
  by_cases hin : 0 ≤ i ∧ i ≤ 3
  · obtain ⟨k, rfl⟩ := Int.eq_ofNat_of_zero_le hin.1
    have hv : newV ((k : Nat) : Int) = List.replicate k 0 := by unfold newV; rw [if_pos hin]; rfl
    rw [hv]
    obtain ⟨w1, hr, ho, hb⟩ := run_make_n w k (by omega)
    have h3 : (k : Int) ≤ 3 := hin.2
    go_enter Try.func14, Try.ntmps14
    go_wp2
    go_ret
    exact ⟨_, rfl, ho, hb⟩
  · have hv : newV i = [] := by unfold newV; rw [if_neg hin]
    rw [hv]
    rcases Int.lt_or_le i 0 with h0 | h0
    · go_enter Try.func14, Try.ntmps14
      go_wp2
      all_goals (go_ret; exact ⟨_, rfl, Own.nil0 _ _ _, Below.refl _ _⟩)
    · have h1 : (3 : Int) < i := by omega
      go_enter Try.func14, Try.ntmps14
      go_wp2
      all_goals (go_ret; exact ⟨_, rfl, Own.nil0 _ _ _, Below.refl _ _⟩)

theorem sl_lit (w : World) (xs : List Value) (l : List Nat) (h : xs = nums l) (n B : Nat) (hn : n = xs.length) (hB : B = w.heap.size) : Sl (w.alloc (.cells xs.toArray 23)) (.slice (some ⟨B, 0, none⟩) n n) (nums l) := by
  subst h hB; exact Sl.new w (nums l) 23 (0, 0) n n hn (Nat.le_refl _)
theorem below_a (w : World) (o : Obj) : Below w.heap.size w (w.alloc o) := (Below.refl _ _).alloc (Nat.le_refl _) _
theorem sl_lit1 (w : World) (xs : List Value) (l : List Nat) (h : xs = nums l) (n B : Nat) (hn : n = xs.length) (hB : B = w.heap.size) (o : Obj) : Sl ((w.alloc (.cells xs.toArray 23)).alloc o) (.slice (some ⟨B, 0, none⟩) n n) (nums l) := (sl_lit w xs l h n B hn hB).below (below_a _ _)
theorem step0 {w0 wi w1 : World} (b : Below w0.heap.size w0 wi) (b' : Below wi.heap.size wi w1) : Below w0.heap.size w0 w1 := b.trans (b'.mono b.size)
theorem step1 {w0 wi w1 : World} {A : Obj} (b : Below w0.heap.size w0 wi) (b' : Below (wi.alloc A).heap.size (wi.alloc A) w1) : Below w0.heap.size w0 w1 := step0 (step0 b (below_a wi A)) b'
theorem step2 {w0 wi w1 : World} {A B : Obj} (b : Below w0.heap.size w0 wi) (b' : Below ((wi.alloc A).alloc B).heap.size ((wi.alloc A).alloc B) w1) : Below w0.heap.size w0 w1 := step0 (step0 (step0 b (below_a wi A)) (below_a _ B)) b'
theorem goes_any (w : World) : Calls Try.prog 15 #[] w fun e w' => e = .returned (.bool true) ∧ Below w.heap.size w w' := by
  go_enter Try.func15, Try.ntmps15
  go_wp2_with fail
  refine (leq_any _ _ _ [1, 2] [1, 3] (sl_lit1 _ [.int .u64 1, .int .u64 2] [1, 2] rfl _ _ rfl rfl _) (sl_lit _ [.int .u64 1, .int .u64 3] [1, 3] rfl _ _ rfl (World.size_alloc _ _).symm) (by decide) (by decide)).mono ?_
  rintro e w1 ⟨rfl, c1⟩
  rw [show leqV [1, 2] [1, 3] = true from by decide]
  have b1 := step2 (Below.refl _ w) c1
  clear c1
  go_wp2_with fail
  refine (leq_any _ _ _ [2, 2] [1, 3] (sl_lit1 _ [.int .u64 2, .int .u64 2] [2, 2] rfl _ _ rfl rfl _) (sl_lit _ [.int .u64 1, .int .u64 3] [1, 3] rfl _ _ rfl (World.size_alloc _ _).symm) (by decide) (by decide)).mono ?_
  rintro e w2 ⟨rfl, c2⟩
  rw [show leqV [2, 2] [1, 3] = false from by decide]
  have b2 := step2 b1 c2
  clear b1 c2
  go_wp2_with fail
  refine (max_any _ _ _ [1, 5] [2, 3] (sl_lit1 _ [.int .u64 1, .int .u64 5] [1, 5] rfl _ _ rfl rfl _) (sl_lit _ [.int .u64 2, .int .u64 3] [2, 3] rfl _ _ rfl (World.size_alloc _ _).symm) (by decide) (by decide)).mono ?_
  rintro e w3 ⟨v3, rfl, o3, c3⟩
  rw [show maxV [1, 5] [2, 3] = [2, 5] from by decide] at o3
  have b3 := step2 b2 c3
  clear b2 c3
  have s3 := o3.sl
  go_wp2_with fail
  refine (same_any _ _ _ [2, 5] [2, 5] (s3.below (below_a _ _)) (sl_lit _ [.int .u64 2, .int .u64 5] [2, 5] rfl _ _ rfl rfl) (by decide) (by decide)).mono ?_
  rintro e w4 ⟨rfl, c4⟩
  rw [sameV_self]
  clear s3 o3
  have b4 := step1 b3 c4
  clear b3 c4
  go_wp2_with fail
  refine (inc_any _ _ [1, 2] (1) (sl_lit _ [.int .u64 1, .int .u64 2] [1, 2] rfl _ _ rfl rfl) (by decide) (by decide) (by decide)).mono ?_
  rintro e w5 ⟨v5, rfl, o5, c5⟩
  rw [show incV [1, 2] (1) = [1, 3] from by decide] at o5
  have b5 := step1 b4 c5
  clear b4 c5
  have s5 := o5.sl
  go_wp2_with fail
  refine (same_any _ _ _ [1, 3] [1, 3] (s5.below (below_a _ _)) (sl_lit _ [.int .u64 1, .int .u64 3] [1, 3] rfl _ _ rfl rfl) (by decide) (by decide)).mono ?_
  rintro e w6 ⟨rfl, c6⟩
  rw [sameV_self]
  clear s5 o5
  have b6 := step1 b5 c6
  clear b5 c6
  go_wp2_with fail
  refine (new_n _ (2)).mono ?_
  rintro e w7 ⟨v7, rfl, o7, c7⟩
  rw [show newV (2) = [0, 0] from by decide] at o7
  have b7 := step0 b6 c7
  clear b6 c7
  obtain ⟨a7, cc7, rfl⟩ := o7.shape
  rw [show (nums [0, 0]).length = 2 from rfl]
  clear o7
  go_wp2
  go_ret
  exact ⟨rfl, b7⟩

end Go.Proofs.Ytomhiodabnpfoaa
