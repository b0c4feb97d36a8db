/-
  The document's Max.
-/
import Derived.Test.YtomhiodabnpfoaaVec
set_option linter.unusedVariables false
namespace Go.Proofs.Ytomhiodabnpfoaa
open Go.RowKit

set_option maxHeartbeats 1000000 in
theorem refmax_any (w : World) (va vb : Value) (xs ys : List Nat) (ha : Sl w va (nums xs)) (hb : Sl w vb (nums ys)) (hx : xs.length ≤ 1000000) (hy : ys.length ≤ 1000000) :
    Calls Try.prog 12 #[va, vb] w (RetNums w (maxV xs ys)) := by
  obtain ⟨a, ca, rfl, _, na⟩ := ha.nums
  obtain ⟨b, cb, rfl, _, nb⟩ := hb.nums
  by_cases hlen : xs.length = ys.length
  · have hv : maxV xs ys = upto (maxAt xs ys) xs.length := by unfold maxV; rw [if_pos hlen]
    rw [hv]
    obtain ⟨m, hm1, hm2⟩ : ∃ m, xs.length = m ∧ ys.length = m := ⟨ys.length, hlen, rfl⟩
    obtain ⟨_, _, e1, na⟩ := na
    obtain ⟨_, _, e2, nb⟩ := nb
    injection e1 with e11 _ e13
    injection e2 with e21 _ e23
    subst e11 e13 e21 e23
    have NA : ∀ k, k < m → ∃ b1 o1 b2 o2, a = some ⟨b1, o1, none⟩ ∧ b = some ⟨b2, o2, none⟩ ∧ b1 < w.heap.size ∧ b2 < w.heap.size ∧ w.cell? ⟨b1, o1 + k, none⟩ = some (.int .u64 ((pairAt xs ys k).1 : Int)) ∧ w.cell? ⟨b2, o2 + k, none⟩ = some (.int .u64 ((pairAt xs ys k).2 : Int)) := by
      intro k hk
      obtain ⟨b1, o1, h1, h2, h3⟩ := na.resolve_left (by intro h; rw [h] at hm1; simp at hm1; omega)
      obtain ⟨b2, o2, h4, h5, h6⟩ := nb.resolve_left (by intro h; rw [h] at hm2; simp at hm2; omega)
      exact ⟨b1, o1, b2, o2, h1, h4, h2, h5, h3 k (by omega), h6 k (by omega)⟩
    have hmm : m ≤ 1000000 := by omega
    rw [hm1, hm2]
    clear na nb ha hb hlen hx hy hm1 hm2 hv
    go_enter Try.func12, Try.ntmps12
    go_wp2
    go_loopw [5, 6] (fun u i wr => ∃ k : Nat, k ≤ m ∧ i = .int .i64 k ∧ Own wr w.heap.size 23 u (nums (upto (maxAt xs ys) k)) ∧ Below w.heap.size w wr) (fun _ i _ => m - (intOf i).toNat)
    case atStart => exact ⟨0, Nat.zero_le _, rfl, Own.nil0 _ _ _, Below.refl _ _⟩
    case round =>
      obtain ⟨k, hk, rfl, ho, br⟩ := hrel
      by_cases hlt : k < m
      · obtain ⟨b1, o1, b2, o2, rfl, rfl, hb1, hb2, c1, c2⟩ := NA k hlt
        obtain ⟨px, py, hp⟩ : ∃ px py, pairAt xs ys k = (px, py) := ⟨_, _, rfl⟩
        rw [hp] at c1 c2
        have HM : Hid (maxAt xs ys k = max px py) := Lib.hid (by unfold maxAt; rw [hp])
        have hsz := br.size
        have d1 := ((br.trans (below_drewN (Below.refl _ wr) 1)).cell (p := ⟨b1, o1 + k, none⟩) hb1).trans c1
        have d2 := ((br.trans (below_drewN (Below.refl _ wr) 1)).cell (p := ⟨b2, o2 + k, none⟩) hb2).trans c2
        have hb1' : b1 < wr.drew.heap.size := Nat.lt_of_lt_of_le hb1 br.size
        have hb2' : b2 < wr.drew.heap.size := Nat.lt_of_lt_of_le hb2 br.size
        have HO := Lib.hid ho
        clear ho hp
        go_wp2
        apply wp_region_draw_grow (.eq _ :: .eq _ :: .eq _ :: .eq _ :: .eq _ :: .eq _ :: .eq _ :: .eq _ :: .eq _ :: []) (by kernel_rfl) (by kernel_rfl) trivial
        apply wpG_eq
        · intro W hW hs
          unfold opG
          go_simp
          first | exact resG_eq_mk _ _ _ | rfl
        simp only [Act.put, List.setIfInBounds_toArray, List.set_cons_zero, List.set_cons_succ]
        apply wpG_eq
        · intro W hW hs
          unfold opG
          go_simp
          first | exact resG_eq_mk _ _ _ | rfl
        simp only [Act.put, List.setIfInBounds_toArray, List.set_cons_zero, List.set_cons_succ]
        apply wpG_eq
        · intro W hW hs
          have h1 : (0 : Int) ≤ (k : Int) := by omega
          have h2 : (k : Int) < (m : Int) := by omega
          unfold opG
          go_simp
          first | exact resG_eq_mk _ _ _ | rfl
        simp only [Act.put, List.setIfInBounds_toArray, List.set_cons_zero, List.set_cons_succ]
        apply wpG_eq
        · intro W hW hs
          have h1 := (hW.cell (p := ⟨b1, o1 + k, none⟩) hb1').trans d1
          unfold opG
          go_simp
          first | exact resG_eq_mk _ _ _ | rfl
        simp only [Act.put, List.setIfInBounds_toArray, List.set_cons_zero, List.set_cons_succ]
        apply wpG_eq
        · intro W hW hs
          unfold opG
          go_simp
          first | exact resG_eq_mk _ _ _ | rfl
        simp only [Act.put, List.setIfInBounds_toArray, List.set_cons_zero, List.set_cons_succ]
        apply wpG_eq
        · intro W hW hs
          unfold opG
          go_simp
          first | exact resG_eq_mk _ _ _ | rfl
        simp only [Act.put, List.setIfInBounds_toArray, List.set_cons_zero, List.set_cons_succ]
        apply wpG_eq
        · intro W hW hs
          have h1 : (0 : Int) ≤ (k : Int) := by omega
          have h2 : (k : Int) < (m : Int) := by omega
          unfold opG
          go_simp
          first | exact resG_eq_mk _ _ _ | rfl
        simp only [Act.put, List.setIfInBounds_toArray, List.set_cons_zero, List.set_cons_succ]
        apply wpG_eq
        · intro W hW hs
          have h1 := (hW.cell (p := ⟨b2, o2 + k, none⟩) hb2').trans d2
          unfold opG
          go_simp
          first | exact resG_eq_mk _ _ _ | rfl
        simp only [Act.put, List.setIfInBounds_toArray, List.set_cons_zero, List.set_cons_succ]
        apply wpG_eq
        · intro W hW hs
          unfold opG
          go_simp
          first | exact resG_eq_mk _ _ _ | rfl
        simp only [Act.put, List.setIfInBounds_toArray, List.set_cons_zero, List.set_cons_succ]
        apply wpG_nil
        intro W9 hW9 hsAll
        have bg : Below wr.heap.size wr W9 := (below_drewN (Below.refl _ wr) 1).trans hW9
        have o9 : Own W9 w.heap.size 23 u5 (nums (upto (maxAt xs ys) k)) := World.ownsRow.kept HO.out (below_grownBy bg none) (by cases h : u5.ownBlock <;> simp)
        have b9 := br.trans (bg.mono br.size)
        have e1 := (b9.cell (p := ⟨b1, o1 + k, none⟩) hb1).trans c1
        have e2 := (b9.cell (p := ⟨b2, o2 + k, none⟩) hb2).trans c2
        have hul : (upto (maxAt xs ys) k).length = k := upto_length _ _
        by_cases hpq : py < px
        · obtain ⟨v2, w2, hr, hown2, hg2⟩ := run_append_n (W9.alloc (.cells #[.int .u64 (px : Int)] 23)) w.heap.size u5 (.slice (some ⟨W9.heap.size, 0, none⟩) 1 1) (upto (maxAt xs ys) k) [px] (World.ownsRow.alloc o9 _) (Sl.new W9 [.int .u64 (px : Int)] _ _ _ _ rfl (by decide)) (by rw [hul]; simp; omega) (Nat.le_trans b9.size (by simp))
          have b10 : Below w.heap.size w w2 := (b9.alloc b9.size _).grown hg2 (Nat.le_trans b9.size (by simp)) (fun k hk => o9.ownBlock_ge k hk)
          have HW := Lib.hid hown2
          clear hown2 hul d1 d2 c1 c2
          go_wp2_with (at_builtin; refine wpList_run_append hr rfl _ _ rfl rfl rfl ?_)
          go_roundw
          case rel => exact ⟨k + 1, by omega, by go_num, by rw [upto_succ, HM.out, show max px py = px by omega]; exact HW.out, b10⟩
          case measure => simp [intOf]; omega
        · obtain ⟨v2, w2, hr, hown2, hg2⟩ := run_append_n (W9.alloc (.cells #[.int .u64 (py : Int)] 23)) w.heap.size u5 (.slice (some ⟨W9.heap.size, 0, none⟩) 1 1) (upto (maxAt xs ys) k) [py] (World.ownsRow.alloc o9 _) (Sl.new W9 [.int .u64 (py : Int)] _ _ _ _ rfl (by decide)) (by rw [hul]; simp; omega) (Nat.le_trans b9.size (by simp))
          have b10 : Below w.heap.size w w2 := (b9.alloc b9.size _).grown hg2 (Nat.le_trans b9.size (by simp)) (fun k hk => o9.ownBlock_ge k hk)
          have HW := Lib.hid hown2
          clear hown2 hul d1 d2 c1 c2
          go_wp2_with (at_builtin; refine wpList_run_append hr rfl _ _ rfl rfl rfl ?_)
          go_roundw
          case rel => exact ⟨k + 1, by omega, by go_num, by rw [upto_succ, HM.out, show max px py = py by omega]; exact HW.out, b10⟩
          case measure => simp [intOf]; omega
      · obtain rfl : m = k := by omega
        go_wp2
        go_ret
        exact ⟨_, rfl, ho, br⟩
  · have hv : maxV xs ys = [] := by unfold maxV; rw [if_neg hlen]
    rw [hv]
    go_enter Try.func12, Try.ntmps12
    go_wp2
    all_goals (go_ret; exact ⟨_, rfl, Own.nil0 _ _ _, Below.refl _ _⟩)
end Go.Proofs.Ytomhiodabnpfoaa
