/-
  The document's Leq and Same of stamps.
-/
import Derived.Test.YtiemgmbjhllmbaaYEnNums
import Derived.WalkLawsBesides
import Derived.WalkSpells
import Derived.Outline
import Derived.Test.YtiemgmbjhllmbaaYA
set_option linter.unusedVariables false
namespace Go.Proofs.Ytiemgmbjhllmbaa
open Go.RowKit
theorem leqV_iff (xs ys : List Nat) (h : xs.length = ys.length) : leqV xs ys = true ↔ ∀ j, j < xs.length → (pairAt xs ys j).1 ≤ (pairAt xs ys j).2 := by
  unfold leqV
  rw [Bool.and_eq_true, List.all_eq_true, h, Nat.min_self]
  simp
theorem leqV_ne (xs ys : List Nat) (h : ¬ xs.length = ys.length) : leqV xs ys = false := by
  unfold leqV; simp [h]
set_option maxHeartbeats 1000000 in
theorem refleq_any (w : World) (va vb : Value) (xs ys : List Nat) (ha : Sl w va (nums xs)) (hb : Sl w vb (nums ys)) (hx : xs.length ≤ 1000000) (hy : ys.length ≤ 1000000) :
    Calls Try.prog 64 #[va, vb] w fun e W' => e = .returned (.bool (leqV xs ys)) ∧ Below w.heap.size w W' := by
  obtain ⟨a, ca, rfl, _, na⟩ := ha.nums
  obtain ⟨b, cb, rfl, _, nb⟩ := hb.nums
  by_cases hlen : xs.length = ys.length
  · have hiff := Lib.hid (leqV_iff xs ys hlen)
    obtain ⟨m, hm1, hm2⟩ : ∃ m, xs.length = m ∧ ys.length = m := ⟨ys.length, hlen, rfl⟩
    obtain ⟨_, _, e1, na⟩ := na
    obtain ⟨_, _, e2, nb⟩ := nb
    injection e1 with e11 _ e13
    injection e2 with e21 _ e23
    subst e11 e13 e21 e23
    have HL := Lib.hid hm1
    have NA : ∀ k, k < m → ∃ b1 o1 b2 o2, a = some ⟨b1, o1, none⟩ ∧ b = some ⟨b2, o2, none⟩ ∧ b1 < w.heap.size ∧ b2 < w.heap.size ∧ w.cell? ⟨b1, o1 + k, none⟩ = some (.int .u64 ((pairAt xs ys k).1 : Int)) ∧ w.cell? ⟨b2, o2 + k, none⟩ = some (.int .u64 ((pairAt xs ys k).2 : Int)) := by
      intro k hk
      obtain ⟨b1, o1, h1, h2, h3⟩ := na.resolve_left (by intro h; rw [h] at hm1; simp at hm1; omega)
      obtain ⟨b2, o2, h4, h5, h6⟩ := nb.resolve_left (by intro h; rw [h] at hm2; simp at hm2; omega)
      exact ⟨b1, o1, b2, o2, h1, h4, h2, h5, h3 k (by omega), h6 k (by omega)⟩
    have hmm : m ≤ 1000000 := by omega
    rw [hm1, hm2]
    clear na nb ha hb hlen hx hy hm1 hm2
    go_enter Try.func64, Try.ntmps64
    go_wp2
    go_loopw [5] (fun i wr => ∃ k : Nat, k ≤ m ∧ i = .int .i64 k ∧ Gr w wr ∧ ∀ j, j < k → (pairAt xs ys j).1 ≤ (pairAt xs ys j).2) (fun i _ => m - (intOf i).toNat)
    case atStart => exact ⟨0, Nat.zero_le _, rfl, Gr.refl _, fun j hj => absurd hj (Nat.not_lt_zero _)⟩
    case round =>
      obtain ⟨k, hk, rfl, hg, hle⟩ := hrel
      by_cases hlt : k < m
      · obtain ⟨b1, o1, b2, o2, rfl, rfl, hb1, hb2, c1, c2⟩ := NA k hlt
        obtain ⟨px, py, hp⟩ : ∃ px py, pairAt xs ys k = (px, py) := ⟨_, _, rfl⟩
        rw [hp] at c1 c2
        have HLE := Lib.hid hle
        have hg2 : Gr w wr.drew := hg.trans (below_drewN (Below.refl _ wr) 1)
        have d1 := (hg2.cell (p := ⟨b1, o1 + k, none⟩) hb1).trans c1
        have d2 := (hg2.cell (p := ⟨b2, o2 + k, none⟩) hb2).trans c2
        have hb1' : b1 < wr.drew.heap.size := Nat.lt_of_lt_of_le hb1 hg2.size
        have hb2' : b2 < wr.drew.heap.size := Nat.lt_of_lt_of_le hb2 hg2.size
        clear hle c1 c2
        go_wp2
        apply wp_region_draw_grow (.eq _ :: .eq _ :: .eq _ :: .eq _ :: .eq _ :: .eq _ :: .eq _ :: .eq _ :: .eq _ :: []) (by kernel_rfl) (by kernel_rfl) trivial
        iterate 2
         apply wpG_eq
         · intro W hW hs
           unfold opG
           go_simp
           first | exact resG_eq_mk _ _ _ | rfl
         simp only [Act.put, pt1, pt2, pt3]
        apply wpG_eq
        · intro W hW hs
          have h1 : (0 : Int) ≤ (k : Int) := by omega
          have h2 : (k : Int) < (m : Int) := by omega
          unfold opG
          go_simp
          first | exact resG_eq_mk _ _ _ | rfl
        simp only [Act.put, pt1, pt2, pt3]
        apply wpG_eq
        · intro W hW hs
          have h1 := (hW.cell (p := ⟨b1, o1 + k, none⟩) hb1').trans d1
          unfold opG
          go_simp
          first | exact resG_eq_mk _ _ _ | rfl
        simp only [Act.put, pt1, pt2, pt3]
        iterate 2
         apply wpG_eq
         · intro W hW hs
           unfold opG
           go_simp
           first | exact resG_eq_mk _ _ _ | rfl
         simp only [Act.put, pt1, pt2, pt3]
        apply wpG_eq
        · intro W hW hs
          have h1 : (0 : Int) ≤ (k : Int) := by omega
          have h2 : (k : Int) < (m : Int) := by omega
          unfold opG
          go_simp
          first | exact resG_eq_mk _ _ _ | rfl
        simp only [Act.put, pt1, pt2, pt3]
        apply wpG_eq
        · intro W hW hs
          have h1 := (hW.cell (p := ⟨b2, o2 + k, none⟩) hb2').trans d2
          unfold opG
          go_simp
          first | exact resG_eq_mk _ _ _ | rfl
        simp only [Act.put, pt1, pt2, pt3]
        apply wpG_eq
        · intro W hW hs
          unfold opG
          go_simp
          first | exact resG_eq_mk _ _ _ | rfl
        simp only [Act.put, pt1, pt2, pt3]
        apply wpG_nil
        intro W9 hW9 hsAll
        have g9 : Gr w W9 := hg2.trans hW9
        by_cases hpq : py < px
        · go_wp2
          go_ret
          refine ⟨?_, g9⟩
          have : leqV xs ys = false := by
            cases hv : leqV xs ys with
            | false => rfl
            | true => exact absurd (hiff.out.1 hv k (by rw [HL.out]; exact hlt)) (by rw [hp]; omega)
          rw [this]; rfl
        · go_wp2
          go_roundw
          case rel => exact ⟨k + 1, by omega, by go_num, g9, fun j hj => by
            rcases Nat.lt_or_ge j k with h | h
            · exact HLE.out j h
            · obtain rfl : j = k := by omega
              rw [hp]; show px ≤ py; omega⟩
          case measure => simp [intOf]; omega
      · obtain rfl : m = k := by omega
        go_wp2
        go_ret
        refine ⟨?_, hg⟩
        rw [hiff.out.2 (fun j hj => hle j (by rw [HL.out] at hj; exact hj))]; rfl
  · rw [leqV_ne xs ys hlen]
    go_enter Try.func64, Try.ntmps64
    go_wp2
    all_goals (go_ret; exact ⟨rfl, Below.refl _ _⟩)
def sameV (xs ys : List Nat) : Bool := leqV xs ys && leqV ys xs
theorem same_any (w : World) (va vb : Value) (xs ys : List Nat) (ha : Sl w va (nums xs)) (hb : Sl w vb (nums ys)) (hx : xs.length ≤ 1000000) (hy : ys.length ≤ 1000000) :
    Calls Try.prog 16 #[va, vb] w fun e W' => e = .returned (.bool (sameV xs ys)) ∧ Below w.heap.size w W' := by
  cases h1 : leqV xs ys with
  | false =>
    go_enter Try.func16, Try.ntmps16
    go_wp2_with fail
    refine (refleq_any _ _ _ xs ys ha hb hx hy).mono ?_
    rintro e w1 ⟨rfl, b1⟩
    rw [h1]
    go_wp2
    go_ret
    exact ⟨by rw [sameV, h1]; rfl, b1⟩
  | true =>
    go_enter Try.func16, Try.ntmps16
    go_wp2_with fail
    refine (refleq_any _ _ _ xs ys ha hb hx hy).mono ?_
    rintro e w1 ⟨rfl, b1⟩
    rw [h1]
    go_wp2_with fail
    refine (refleq_any _ _ _ ys xs (hb.below b1) (ha.below b1) hy hx).mono ?_
    rintro e w2 ⟨rfl, b2⟩
    go_wp2
    go_ret
    exact ⟨by rw [sameV, h1]; rfl, b1.trans (b2.mono b1.size)⟩
theorem leqV_refl (xs : List Nat) : leqV xs xs = true := (leqV_iff xs xs rfl).2 fun j _ => Nat.le_refl _
theorem sameV_self (xs : List Nat) : sameV xs xs = true := by rw [sameV, leqV_refl]; rfl
theorem sl_lit (w : World) (xs : List Value) (l : List Nat) (h : xs = nums l) (n B : Nat) (hn : n = xs.length) (hB : B = w.heap.size) : Sl (w.alloc (.cells xs.toArray 26)) (.slice (some ⟨B, 0, none⟩) n n) (nums l) := by
  subst h hB; exact Sl.new w (nums l) 26 (0, 0) n n hn (Nat.le_refl _)
theorem below_a (w : World) (o : Obj) : Below w.heap.size w (w.alloc o) := (Below.refl _ _).alloc (Nat.le_refl _) _
theorem sl_lit1 (w : World) (xs : List Value) (l : List Nat) (h : xs = nums l) (n B : Nat) (hn : n = xs.length) (hB : B = w.heap.size) (o : Obj) : Sl ((w.alloc (.cells xs.toArray 26)).alloc o) (.slice (some ⟨B, 0, none⟩) n n) (nums l) := (sl_lit w xs l h n B hn hB).below (below_a _ _)
theorem step0 {w0 wi w1 : World} (b : Below w0.heap.size w0 wi) (b' : Below wi.heap.size wi w1) : Below w0.heap.size w0 w1 := b.trans (b'.mono b.size)
theorem step1 {w0 wi w1 : World} {A : Obj} (b : Below w0.heap.size w0 wi) (b' : Below (wi.alloc A).heap.size (wi.alloc A) w1) : Below w0.heap.size w0 w1 := step0 (step0 b (below_a wi A)) b'
theorem step2 {w0 wi w1 : World} {A B : Obj} (b : Below w0.heap.size w0 wi) (b' : Below ((wi.alloc A).alloc B).heap.size ((wi.alloc A).alloc B) w1) : Below w0.heap.size w0 w1 := step0 (step0 (step0 b (below_a wi A)) (below_a _ B)) b'
end Go.Proofs.Ytiemgmbjhllmbaa
