/-
  The walk of VectorPlays where i is below 0, or no place.
-/
import Derived.Test.YtomhiodabnpfoaaRefMax
import Derived.Test.YtomhiodabnpfoaaThreeLaw
set_option linter.unusedVariables false
namespace Go.Proofs.Ytomhiodabnpfoaa
open Go.RowKit

theorem mono_n (xs : List Value) : MonoSp (fun v W => Sl W v xs) := fun v w w' hg h => h.below hg
theorem maxV_len (xs ys : List Nat) : (maxV xs ys).length ≤ xs.length := by
  unfold maxV; split
  · rw [upto_length]; exact Nat.le_refl _
  · simp
theorem incV_len (xs : List Nat) (i : Int) : (incV xs i).length = xs.length := by
  unfold incV; split <;> simp

set_option maxHeartbeats 4000000 in
theorem plays_neg (w : World) (va vb : Value) (xs ys : List Nat) (i : Int) (sa : Sl w va (nums xs)) (sb : Sl w vb (nums ys)) (hi1 : -9223372036854775808 ≤ i) (hi2 : i ≤ 9223372036854775807) (h0 : i < 0) :
    Calls Try.prog 3 #[va, vb, .int .i64 i] w fun e w' => e = .returned (.bool true) ∧ Below w.heap.size w w' := by
  obtain ⟨a, ca, rfl, _, _⟩ := sa.nums
  obtain ⟨b, cb, rfl, _, _⟩ := sb.nums
  by_cases h5 : 20 < xs.length
  · go_enter Try.func3, Try.ntmps3
    go_wp2
    all_goals (go_ret; exact ⟨rfl, Below.refl _ _⟩)
  by_cases h6 : 20 < ys.length
  · go_enter Try.func3, Try.ntmps3
    go_wp2
    all_goals (go_ret; exact ⟨rfl, Below.refl _ _⟩)
  obtain ⟨vx, w1, hrx, ox, gx⟩ := run_append_n (w.alloc (.cells #[] 23)) w.heap.size (.slice (some ⟨w.heap.size, 0, none⟩) 0 0) (.slice a xs.length ca) [] xs (Own.nil_lit _ _ (Nat.le_refl _)) (sa.below (below_a _ _)) (by simp; omega) (by simp)
  have b1 : Below w.heap.size w w1 := (below_a w _).grown gx (by simp) (fun k hk => by simp [Value.ownBlock] at hk; omega)
  obtain ⟨vy, w2, hry, oy, gy⟩ := run_append_n (w1.alloc (.cells #[] 23)) w1.heap.size (.slice (some ⟨w1.heap.size, 0, none⟩) 0 0) (.slice b ys.length cb) [] ys (Own.nil_lit _ _ (Nat.le_refl _)) ((sb.below b1).below (below_a _ _)) (by simp; omega) (by simp)
  have b2' : Below w1.heap.size w1 w2 := (below_a w1 _).grown gy (by simp) (fun k hk => by simp [Value.ownBlock] at hk; omega)
  have b2 := step0 b1 b2'
  obtain ⟨vw, w3, hrw, ow, gw⟩ := run_append_n (w2.alloc (.cells #[] 23)) w2.heap.size (.slice (some ⟨w2.heap.size, 0, none⟩) 0 0) (.slice a xs.length ca) [] xs (Own.nil_lit _ _ (Nat.le_refl _)) ((sa.below b2).below (below_a _ _)) (by simp; omega) (by simp)
  have b3' : Below w2.heap.size w2 w3 := (below_a w2 _).grown gw (by simp) (fun k hk => by simp [Value.ownBlock] at hk; omega)
  rw [List.nil_append] at ox oy ow
  have sx2 := Lib.hid (ox.sl.below b2')
  have sy2 := Lib.hid oy.sl
  have b3 := Lib.hid b3'
  have b2 := Lib.hid b2
  clear gx gy gw ox oy b1 b2' b3'
  have HRX := Lib.hid hrx
  have HRY := Lib.hid hry
  have HRW := Lib.hid hrw
  clear hrx hry hrw
  have hnv : newV i = List.replicate 0 0 := by unfold newV; rw [if_neg (by omega)]; rfl
  have hnn : 0 ≤ 1000000 := by omega
  have hiv : incV xs i = xs := by unfold incV; rw [if_neg (by omega)]
  have sw3 := ow.sl
  clear ow
  go_enter Try.func3, Try.ntmps3
  go_wp2_with (at_builtin; first | (refine wpList_run_append HRX.out rfl _ _ rfl rfl rfl ?_; clear HRX) | (refine wpList_run_append HRY.out rfl _ _ rfl rfl rfl ?_; clear HRY) | (refine wpList_run_append HRW.out rfl _ _ rfl rfl rfl ?_; clear HRW))
  rw [← hiv] at sw3
  have bF := b3.out
  clear b3 hiv
  have d : Below w2.heap.size w2 w3.drew := below_drewN bF 1
  have sx := sx2.out.below d
  have sy := sy2.out.below d
  have sw := sw3.below (below_drewN (Below.refl _ _) 1)
  have sa := (sa.below b2.out).below d
  have sb := (sb.below b2.out).below d
  have bd := step0 b2.out d
  have hx : xs.length ≤ 1000000 := by omega
  have hy : ys.length ≤ 1000000 := by omega
  have hml := Nat.le_trans (maxV_len xs ys) hx
  have hil : (incV xs i).length ≤ 1000000 := by rw [incV_len]; exact hx
  have hnl : (List.replicate 0 0 : List Nat).length ≤ 1000000 := by first | (simp; done) | (simp; omega)
  clear sx2 sy2 sw3 b2 bF
  apply wp_region_draw_grow (.eq _ :: .eq _ :: .eq _ :: .eq _ :: .eq _ :: .eq _ :: .eq _ :: .eq _ :: .eq _ :: .eq _ :: .ok (fun v W => Sl W v (nums (maxV xs ys))) :: .eq _ :: .eq _ :: .ok (fun v W => Sl W v (nums (maxV xs ys))) :: .eq _ :: .eq _ :: .eq _ :: .eq _ :: .eq _ :: .ok (fun v W => Sl W v (nums (incV xs i))) :: .eq _ :: .eq _ :: .eq _ :: .eq _ :: .eq _ :: .ok (fun v W => Sl W v (nums (List.replicate 0 0))) :: .eq _ :: .ok (fun v W => Sl W v (nums (List.replicate 0 0))) :: .eq _ :: .eq _ :: .eq _ :: .eq _ :: .eq _ :: .eq _ :: .eq _ :: .eq _ :: .eq _ :: .eq _ :: .eq _ :: .eq _ :: .eq _ :: .eq _ :: .eq _ :: .eq _ :: []) (by kernel_rfl) (by kernel_rfl) ⟨mono_n _, mono_n _, mono_n _, mono_n _, mono_n _, trivial⟩
  apply wpG_eq
  · intro W hW hs
    unfold opG
    go_simp
    first | exact resG_eq_mk _ _ _ | rfl
  simp only [Act.put, List.setIfInBounds_toArray, List.set_cons_zero, List.set_cons_succ]
  apply wpG_eq
  · intro W hW hs
    unfold opG
    go_simp
    first | exact resG_eq_mk _ _ _ | rfl
  simp only [Act.put, List.setIfInBounds_toArray, List.set_cons_zero, List.set_cons_succ]
  apply wpG_eq
  · intro W hW hs
    unfold opG
    go_simp
    refine resG_call ((leq_any _ _ _ xs ys (sx.below hW) (sy.below hW) hx hy).mono ?_)
    rintro e W2 ⟨rfl, c9⟩
    exact ⟨_, rfl, c9, rfl⟩
  simp only [Act.put, List.setIfInBounds_toArray, List.set_cons_zero, List.set_cons_succ]
  apply wpG_eq
  · intro W hW hs
    unfold opG
    go_simp
    first | exact resG_eq_mk _ _ _ | rfl
  simp only [Act.put, List.setIfInBounds_toArray, List.set_cons_zero, List.set_cons_succ]
  apply wpG_eq
  · intro W hW hs
    unfold opG
    go_simp
    first | exact resG_eq_mk _ _ _ | rfl
  simp only [Act.put, List.setIfInBounds_toArray, List.set_cons_zero, List.set_cons_succ]
  apply wpG_eq
  · intro W hW hs
    unfold opG
    go_simp
    refine resG_call ((refleq_any _ _ _ xs ys (sa.below hW) (sb.below hW) hx hy).mono ?_)
    rintro e W2 ⟨rfl, c9⟩
    exact ⟨_, rfl, c9, rfl⟩
  simp only [Act.put, List.setIfInBounds_toArray, List.set_cons_zero, List.set_cons_succ]
  apply wpG_eq
  · intro W hW hs
    unfold opG
    go_simp
    first | exact resG_eq_mk _ _ _ | rfl
  simp only [Act.put, List.setIfInBounds_toArray, List.set_cons_zero, List.set_cons_succ]
  apply wpG_eq
  · intro W hW hs
    unfold opG
    go_simp
    first | exact resG_eq_mk _ _ _ | rfl
  simp only [Act.put, List.setIfInBounds_toArray, List.set_cons_zero, List.set_cons_succ]
  apply wpG_eq
  · intro W hW hs
    unfold opG
    go_simp
    first | exact resG_eq_mk _ _ _ | rfl
  simp only [Act.put, List.setIfInBounds_toArray, List.set_cons_zero, List.set_cons_succ]
  apply wpG_eq
  · intro W hW hs
    unfold opG
    go_simp
    first | exact resG_eq_mk _ _ _ | rfl
  simp only [Act.put, List.setIfInBounds_toArray, List.set_cons_zero, List.set_cons_succ]
  apply wpG_ok
  · intro W hW hs
    unfold opG
    go_simp
    refine resG_call ((max_any _ _ _ xs ys (sx.below hW) (sy.below hW) hx hy).mono ?_)
    rintro e W2 ⟨v, rfl, ho, hg⟩
    exact ⟨v, rfl, hg, ho.sl⟩
  intro v10
  simp only [Act.put, List.setIfInBounds_toArray, List.set_cons_zero, List.set_cons_succ]
  apply wpG_eq
  · intro W hW hs
    unfold opG
    go_simp
    first | exact resG_eq_mk _ _ _ | rfl
  simp only [Act.put, List.setIfInBounds_toArray, List.set_cons_zero, List.set_cons_succ]
  apply wpG_eq
  · intro W hW hs
    unfold opG
    go_simp
    first | exact resG_eq_mk _ _ _ | rfl
  simp only [Act.put, List.setIfInBounds_toArray, List.set_cons_zero, List.set_cons_succ]
  apply wpG_ok
  · intro W hW hs
    unfold opG
    go_simp
    refine resG_call ((refmax_any _ _ _ xs ys (sa.below hW) (sb.below hW) hx hy).mono ?_)
    rintro e W2 ⟨v, rfl, ho, hg⟩
    exact ⟨v, rfl, hg, ho.sl⟩
  intro v13
  simp only [Act.put, List.setIfInBounds_toArray, List.set_cons_zero, List.set_cons_succ]
  apply wpG_eq
  · intro W hW hs
    have hA := hs _ (List.mem_cons_of_mem _ (List.mem_cons_self ..)) rfl
    have hB := hs _ (List.mem_cons_self ..) rfl
    unfold opG
    go_simp
    refine resG_call ((same_any _ _ _ (maxV xs ys) (maxV xs ys) hA hB hml hml).mono ?_)
    rintro e W2 ⟨rfl, c9⟩
    exact ⟨_, rfl, c9, by rw [sameV_self]⟩
  simp only [Act.put, List.setIfInBounds_toArray, List.set_cons_zero, List.set_cons_succ]
  apply wpG_eq
  · intro W hW hs
    unfold opG
    go_simp
    first | exact resG_eq_mk _ _ _ | rfl
  simp only [Act.put, List.setIfInBounds_toArray, List.set_cons_zero, List.set_cons_succ]
  apply wpG_eq
  · intro W hW hs
    unfold opG
    go_simp
    first | exact resG_eq_mk _ _ _ | rfl
  simp only [Act.put, List.setIfInBounds_toArray, List.set_cons_zero, List.set_cons_succ]
  apply wpG_eq
  · intro W hW hs
    unfold opG
    go_simp
    first | exact resG_eq_mk _ _ _ | rfl
  simp only [Act.put, List.setIfInBounds_toArray, List.set_cons_zero, List.set_cons_succ]
  apply wpG_eq
  · intro W hW hs
    unfold opG
    go_simp
    first | exact resG_eq_mk _ _ _ | rfl
  simp only [Act.put, List.setIfInBounds_toArray, List.set_cons_zero, List.set_cons_succ]
  apply wpG_ok
  · intro W hW hs
    unfold opG
    go_simp
    refine resG_call ((inc_any _ _ xs i (sx.below hW) hx hi1 hi2).mono ?_)
    rintro e W2 ⟨v, rfl, ho, hg⟩
    exact ⟨v, rfl, hg, ho.sl⟩
  intro v19
  simp only [Act.put, List.setIfInBounds_toArray, List.set_cons_zero, List.set_cons_succ]
  apply wpG_eq
  · intro W hW hs
    unfold opG
    go_simp
    first | exact resG_eq_mk _ _ _ | rfl
  simp only [Act.put, List.setIfInBounds_toArray, List.set_cons_zero, List.set_cons_succ]
  apply wpG_eq
  · intro W hW hs
    have hA := hs _ (List.mem_cons_self ..) rfl
    have hB := sw.below hW
    unfold opG
    go_simp
    refine resG_call ((same_any _ _ _ (incV xs i) (incV xs i) hA hB hil hil).mono ?_)
    rintro e W2 ⟨rfl, c9⟩
    exact ⟨_, rfl, c9, by rw [sameV_self]⟩
  simp only [Act.put, List.setIfInBounds_toArray, List.set_cons_zero, List.set_cons_succ]
  apply wpG_eq
  · intro W hW hs
    unfold opG
    go_simp
    first | exact resG_eq_mk _ _ _ | rfl
  simp only [Act.put, List.setIfInBounds_toArray, List.set_cons_zero, List.set_cons_succ]
  apply wpG_eq
  · intro W hW hs
    unfold opG
    go_simp
    first | exact resG_eq_mk _ _ _ | rfl
  simp only [Act.put, List.setIfInBounds_toArray, List.set_cons_zero, List.set_cons_succ]
  apply wpG_eq
  · intro W hW hs
    unfold opG
    go_simp
    first | exact resG_eq_mk _ _ _ | rfl
  simp only [Act.put, List.setIfInBounds_toArray, List.set_cons_zero, List.set_cons_succ]
  apply wpG_ok
  · intro W hW hs
    unfold opG
    go_simp
    refine resG_call ((new_n _ i).mono ?_)
    rintro e W2 ⟨v, rfl, ho, hg⟩
    rw [hnv] at ho
    exact ⟨v, rfl, hg, ho.sl⟩
  intro v25
  simp only [Act.put, List.setIfInBounds_toArray, List.set_cons_zero, List.set_cons_succ]
  apply wpG_eq
  · intro W hW hs
    unfold opG
    go_simp
    first | exact resG_eq_mk _ _ _ | rfl
  simp only [Act.put, List.setIfInBounds_toArray, List.set_cons_zero, List.set_cons_succ]
  apply wpG_ok
  · intro W hW hs
    obtain ⟨w', h1, ho, hb9⟩ := run_make_n W 0 hnn
    have h2 : (Instr.makeSlice 22 (.int .i64 0) (.int .i64 0)).run Try.prog W = _ := h1; clear h1
    unfold opG
    go_simp
    exact resG_mk hb9 ho.sl
  intro v27
  simp only [Act.put, List.setIfInBounds_toArray, List.set_cons_zero, List.set_cons_succ]
  apply wpG_eq
  · intro W hW hs
    have hA := hs _ (List.mem_cons_of_mem _ (List.mem_cons_self ..)) rfl
    have hB := hs _ (List.mem_cons_self ..) rfl
    unfold opG
    go_simp
    refine resG_call ((same_any _ _ _ (List.replicate 0 0) (List.replicate 0 0) hA hB hnl hnl).mono ?_)
    rintro e W2 ⟨rfl, c9⟩
    exact ⟨_, rfl, c9, by rw [sameV_self]⟩
  simp only [Act.put, List.setIfInBounds_toArray, List.set_cons_zero, List.set_cons_succ]
  apply wpG_eq
  · intro W hW hs
    unfold opG
    go_simp
    first | exact resG_eq_mk _ _ _ | rfl
  simp only [Act.put, List.setIfInBounds_toArray, List.set_cons_zero, List.set_cons_succ]
  apply wpG_eq
  · intro W hW hs
    unfold opG
    go_simp
    first | exact resG_eq_mk _ _ _ | rfl
  simp only [Act.put, List.setIfInBounds_toArray, List.set_cons_zero, List.set_cons_succ]
  apply wpG_eq
  · intro W hW hs
    unfold opG
    go_simp
    first | exact resG_eq_mk _ _ _ | rfl
  simp only [Act.put, List.setIfInBounds_toArray, List.set_cons_zero, List.set_cons_succ]
  apply wpG_eq
  · intro W hW hs
    unfold opG
    go_simp
    first | exact resG_eq_mk _ _ _ | rfl
  simp only [Act.put, List.setIfInBounds_toArray, List.set_cons_zero, List.set_cons_succ]
  apply wpG_eq
  · intro W hW hs
    have hA := sx.below hW
    have hB := sa.below hW
    unfold opG
    go_simp
    refine resG_call ((same_any _ _ _ (xs) (xs) hA hB hx hx).mono ?_)
    rintro e W2 ⟨rfl, c9⟩
    exact ⟨_, rfl, c9, by rw [sameV_self]⟩
  simp only [Act.put, List.setIfInBounds_toArray, List.set_cons_zero, List.set_cons_succ]
  apply wpG_eq
  · intro W hW hs
    unfold opG
    go_simp
    first | exact resG_eq_mk _ _ _ | rfl
  simp only [Act.put, List.setIfInBounds_toArray, List.set_cons_zero, List.set_cons_succ]
  apply wpG_eq
  · intro W hW hs
    unfold opG
    go_simp
    first | exact resG_eq_mk _ _ _ | rfl
  simp only [Act.put, List.setIfInBounds_toArray, List.set_cons_zero, List.set_cons_succ]
  apply wpG_eq
  · intro W hW hs
    unfold opG
    go_simp
    first | exact resG_eq_mk _ _ _ | rfl
  simp only [Act.put, List.setIfInBounds_toArray, List.set_cons_zero, List.set_cons_succ]
  apply wpG_eq
  · intro W hW hs
    unfold opG
    go_simp
    first | exact resG_eq_mk _ _ _ | rfl
  simp only [Act.put, List.setIfInBounds_toArray, List.set_cons_zero, List.set_cons_succ]
  apply wpG_eq
  · intro W hW hs
    have hA := sy.below hW
    have hB := sb.below hW
    unfold opG
    go_simp
    refine resG_call ((same_any _ _ _ (ys) (ys) hA hB hy hy).mono ?_)
    rintro e W2 ⟨rfl, c9⟩
    exact ⟨_, rfl, c9, by rw [sameV_self]⟩
  simp only [Act.put, List.setIfInBounds_toArray, List.set_cons_zero, List.set_cons_succ]
  apply wpG_eq
  · intro W hW hs
    unfold opG
    go_simp
    first | exact resG_eq_mk _ _ _ | rfl
  simp only [Act.put, List.setIfInBounds_toArray, List.set_cons_zero, List.set_cons_succ]
  apply wpG_eq
  · intro W hW hs
    unfold opG
    go_simp
    first | exact resG_eq_mk _ _ _ | rfl
  simp only [Act.put, List.setIfInBounds_toArray, List.set_cons_zero, List.set_cons_succ]
  apply wpG_eq
  · intro W hW hs
    unfold opG
    go_simp
    refine resG_call ((goes_any _).mono ?_)
    rintro e W2 ⟨rfl, c9⟩
    exact ⟨_, rfl, c9, rfl⟩
  simp only [Act.put, List.setIfInBounds_toArray, List.set_cons_zero, List.set_cons_succ]
  apply wpG_eq
  · intro W hW hs
    unfold opG
    go_simp
    first | exact resG_eq_mk _ _ _ | rfl
  simp only [Act.put, List.setIfInBounds_toArray, List.set_cons_zero, List.set_cons_succ]
  apply wpG_eq
  · intro W hW hs
    unfold opG
    go_simp
    first | exact resG_eq_mk _ _ _ | rfl
  simp only [Act.put, List.setIfInBounds_toArray, List.set_cons_zero, List.set_cons_succ]
  apply wpG_nil
  intro W9 hW9 hsAll
  go_wp2
  go_ret
  exact ⟨rfl, step0 bd hW9⟩
set_option maxHeartbeats 4000000 in
theorem plays_out_lo (w : World) (va vb : Value) (xs ys : List Nat) (i : Int) (sa : Sl w va (nums xs)) (sb : Sl w vb (nums ys)) (hi1 : -9223372036854775808 ≤ i) (hi2 : i ≤ 9223372036854775807) (h0 : 0 ≤ i) (h3 : i ≤ 3) (hl : (xs.length : Int) ≤ i) :
    Calls Try.prog 3 #[va, vb, .int .i64 i] w fun e w' => e = .returned (.bool true) ∧ Below w.heap.size w w' := by
  obtain ⟨a, ca, rfl, _, _⟩ := sa.nums
  obtain ⟨b, cb, rfl, _, _⟩ := sb.nums
  by_cases h5 : 20 < xs.length
  · go_enter Try.func3, Try.ntmps3
    go_wp2
    all_goals (go_ret; exact ⟨rfl, Below.refl _ _⟩)
  by_cases h6 : 20 < ys.length
  · go_enter Try.func3, Try.ntmps3
    go_wp2
    all_goals (go_ret; exact ⟨rfl, Below.refl _ _⟩)
  obtain ⟨vx, w1, hrx, ox, gx⟩ := run_append_n (w.alloc (.cells #[] 23)) w.heap.size (.slice (some ⟨w.heap.size, 0, none⟩) 0 0) (.slice a xs.length ca) [] xs (Own.nil_lit _ _ (Nat.le_refl _)) (sa.below (below_a _ _)) (by simp; omega) (by simp)
  have b1 : Below w.heap.size w w1 := (below_a w _).grown gx (by simp) (fun k hk => by simp [Value.ownBlock] at hk; omega)
  obtain ⟨vy, w2, hry, oy, gy⟩ := run_append_n (w1.alloc (.cells #[] 23)) w1.heap.size (.slice (some ⟨w1.heap.size, 0, none⟩) 0 0) (.slice b ys.length cb) [] ys (Own.nil_lit _ _ (Nat.le_refl _)) ((sb.below b1).below (below_a _ _)) (by simp; omega) (by simp)
  have b2' : Below w1.heap.size w1 w2 := (below_a w1 _).grown gy (by simp) (fun k hk => by simp [Value.ownBlock] at hk; omega)
  have b2 := step0 b1 b2'
  obtain ⟨vw, w3, hrw, ow, gw⟩ := run_append_n (w2.alloc (.cells #[] 23)) w2.heap.size (.slice (some ⟨w2.heap.size, 0, none⟩) 0 0) (.slice a xs.length ca) [] xs (Own.nil_lit _ _ (Nat.le_refl _)) ((sa.below b2).below (below_a _ _)) (by simp; omega) (by simp)
  have b3' : Below w2.heap.size w2 w3 := (below_a w2 _).grown gw (by simp) (fun k hk => by simp [Value.ownBlock] at hk; omega)
  rw [List.nil_append] at ox oy ow
  have sx2 := Lib.hid (ox.sl.below b2')
  have sy2 := Lib.hid oy.sl
  have b3 := Lib.hid b3'
  have b2 := Lib.hid b2
  clear gx gy gw ox oy b1 b2' b3'
  have HRX := Lib.hid hrx
  have HRY := Lib.hid hry
  have HRW := Lib.hid hrw
  clear hrx hry hrw
  obtain ⟨k, rfl⟩ := Int.eq_ofNat_of_zero_le h0
  have hnv : newV (k : Int) = List.replicate k 0 := by unfold newV; rw [if_pos ⟨by omega, by omega⟩]; rfl
  have hnn : k ≤ 1000000 := by omega
  have hiv : incV xs (k : Int) = xs := by unfold incV; rw [if_neg (by omega)]
  have sw3 := ow.sl
  clear ow
  go_enter Try.func3, Try.ntmps3
  go_wp2_with (at_builtin; first | (refine wpList_run_append HRX.out rfl _ _ rfl rfl rfl ?_; clear HRX) | (refine wpList_run_append HRY.out rfl _ _ rfl rfl rfl ?_; clear HRY) | (refine wpList_run_append HRW.out rfl _ _ rfl rfl rfl ?_; clear HRW))
  rw [← hiv] at sw3
  have bF := b3.out
  clear b3 hiv
  have d : Below w2.heap.size w2 w3.drew := below_drewN bF 1
  have sx := sx2.out.below d
  have sy := sy2.out.below d
  have sw := sw3.below (below_drewN (Below.refl _ _) 1)
  have sa := (sa.below b2.out).below d
  have sb := (sb.below b2.out).below d
  have bd := step0 b2.out d
  have hx : xs.length ≤ 1000000 := by omega
  have hy : ys.length ≤ 1000000 := by omega
  have hml := Nat.le_trans (maxV_len xs ys) hx
  have hil : (incV xs (k : Int)).length ≤ 1000000 := by rw [incV_len]; exact hx
  have hnl : (List.replicate k 0 : List Nat).length ≤ 1000000 := by first | (simp; done) | (simp; omega)
  clear sx2 sy2 sw3 b2 bF
  apply wp_region_draw_grow (.eq _ :: .eq _ :: .eq _ :: .eq _ :: .eq _ :: .eq _ :: .eq _ :: .eq _ :: .eq _ :: .eq _ :: .ok (fun v W => Sl W v (nums (maxV xs ys))) :: .eq _ :: .eq _ :: .ok (fun v W => Sl W v (nums (maxV xs ys))) :: .eq _ :: .eq _ :: .eq _ :: .eq _ :: .eq _ :: .ok (fun v W => Sl W v (nums (incV xs (k : Int)))) :: .eq _ :: .eq _ :: .eq _ :: .eq _ :: .eq _ :: .ok (fun v W => Sl W v (nums (List.replicate k 0))) :: .eq _ :: .ok (fun v W => Sl W v (nums (List.replicate k 0))) :: .eq _ :: .eq _ :: .eq _ :: .eq _ :: .eq _ :: .eq _ :: .eq _ :: .eq _ :: .eq _ :: .eq _ :: .eq _ :: .eq _ :: .eq _ :: .eq _ :: .eq _ :: .eq _ :: []) (by kernel_rfl) (by kernel_rfl) ⟨mono_n _, mono_n _, mono_n _, mono_n _, mono_n _, trivial⟩
  apply wpG_eq
  · intro W hW hs
    unfold opG
    go_simp
    first | exact resG_eq_mk _ _ _ | rfl
  simp only [Act.put, List.setIfInBounds_toArray, List.set_cons_zero, List.set_cons_succ]
  apply wpG_eq
  · intro W hW hs
    unfold opG
    go_simp
    first | exact resG_eq_mk _ _ _ | rfl
  simp only [Act.put, List.setIfInBounds_toArray, List.set_cons_zero, List.set_cons_succ]
  apply wpG_eq
  · intro W hW hs
    unfold opG
    go_simp
    refine resG_call ((leq_any _ _ _ xs ys (sx.below hW) (sy.below hW) hx hy).mono ?_)
    rintro e W2 ⟨rfl, c9⟩
    exact ⟨_, rfl, c9, rfl⟩
  simp only [Act.put, List.setIfInBounds_toArray, List.set_cons_zero, List.set_cons_succ]
  apply wpG_eq
  · intro W hW hs
    unfold opG
    go_simp
    first | exact resG_eq_mk _ _ _ | rfl
  simp only [Act.put, List.setIfInBounds_toArray, List.set_cons_zero, List.set_cons_succ]
  apply wpG_eq
  · intro W hW hs
    unfold opG
    go_simp
    first | exact resG_eq_mk _ _ _ | rfl
  simp only [Act.put, List.setIfInBounds_toArray, List.set_cons_zero, List.set_cons_succ]
  apply wpG_eq
  · intro W hW hs
    unfold opG
    go_simp
    refine resG_call ((refleq_any _ _ _ xs ys (sa.below hW) (sb.below hW) hx hy).mono ?_)
    rintro e W2 ⟨rfl, c9⟩
    exact ⟨_, rfl, c9, rfl⟩
  simp only [Act.put, List.setIfInBounds_toArray, List.set_cons_zero, List.set_cons_succ]
  apply wpG_eq
  · intro W hW hs
    unfold opG
    go_simp
    first | exact resG_eq_mk _ _ _ | rfl
  simp only [Act.put, List.setIfInBounds_toArray, List.set_cons_zero, List.set_cons_succ]
  apply wpG_eq
  · intro W hW hs
    unfold opG
    go_simp
    first | exact resG_eq_mk _ _ _ | rfl
  simp only [Act.put, List.setIfInBounds_toArray, List.set_cons_zero, List.set_cons_succ]
  apply wpG_eq
  · intro W hW hs
    unfold opG
    go_simp
    first | exact resG_eq_mk _ _ _ | rfl
  simp only [Act.put, List.setIfInBounds_toArray, List.set_cons_zero, List.set_cons_succ]
  apply wpG_eq
  · intro W hW hs
    unfold opG
    go_simp
    first | exact resG_eq_mk _ _ _ | rfl
  simp only [Act.put, List.setIfInBounds_toArray, List.set_cons_zero, List.set_cons_succ]
  apply wpG_ok
  · intro W hW hs
    unfold opG
    go_simp
    refine resG_call ((max_any _ _ _ xs ys (sx.below hW) (sy.below hW) hx hy).mono ?_)
    rintro e W2 ⟨v, rfl, ho, hg⟩
    exact ⟨v, rfl, hg, ho.sl⟩
  intro v10
  simp only [Act.put, List.setIfInBounds_toArray, List.set_cons_zero, List.set_cons_succ]
  apply wpG_eq
  · intro W hW hs
    unfold opG
    go_simp
    first | exact resG_eq_mk _ _ _ | rfl
  simp only [Act.put, List.setIfInBounds_toArray, List.set_cons_zero, List.set_cons_succ]
  apply wpG_eq
  · intro W hW hs
    unfold opG
    go_simp
    first | exact resG_eq_mk _ _ _ | rfl
  simp only [Act.put, List.setIfInBounds_toArray, List.set_cons_zero, List.set_cons_succ]
  apply wpG_ok
  · intro W hW hs
    unfold opG
    go_simp
    refine resG_call ((refmax_any _ _ _ xs ys (sa.below hW) (sb.below hW) hx hy).mono ?_)
    rintro e W2 ⟨v, rfl, ho, hg⟩
    exact ⟨v, rfl, hg, ho.sl⟩
  intro v13
  simp only [Act.put, List.setIfInBounds_toArray, List.set_cons_zero, List.set_cons_succ]
  apply wpG_eq
  · intro W hW hs
    have hA := hs _ (List.mem_cons_of_mem _ (List.mem_cons_self ..)) rfl
    have hB := hs _ (List.mem_cons_self ..) rfl
    unfold opG
    go_simp
    refine resG_call ((same_any _ _ _ (maxV xs ys) (maxV xs ys) hA hB hml hml).mono ?_)
    rintro e W2 ⟨rfl, c9⟩
    exact ⟨_, rfl, c9, by rw [sameV_self]⟩
  simp only [Act.put, List.setIfInBounds_toArray, List.set_cons_zero, List.set_cons_succ]
  apply wpG_eq
  · intro W hW hs
    unfold opG
    go_simp
    first | exact resG_eq_mk _ _ _ | rfl
  simp only [Act.put, List.setIfInBounds_toArray, List.set_cons_zero, List.set_cons_succ]
  apply wpG_eq
  · intro W hW hs
    unfold opG
    go_simp
    first | exact resG_eq_mk _ _ _ | rfl
  simp only [Act.put, List.setIfInBounds_toArray, List.set_cons_zero, List.set_cons_succ]
  apply wpG_eq
  · intro W hW hs
    unfold opG
    go_simp
    first | exact resG_eq_mk _ _ _ | rfl
  simp only [Act.put, List.setIfInBounds_toArray, List.set_cons_zero, List.set_cons_succ]
  apply wpG_eq
  · intro W hW hs
    unfold opG
    go_simp
    first | exact resG_eq_mk _ _ _ | rfl
  simp only [Act.put, List.setIfInBounds_toArray, List.set_cons_zero, List.set_cons_succ]
  apply wpG_ok
  · intro W hW hs
    unfold opG
    go_simp
    refine resG_call ((inc_any _ _ xs (k : Int) (sx.below hW) hx hi1 hi2).mono ?_)
    rintro e W2 ⟨v, rfl, ho, hg⟩
    exact ⟨v, rfl, hg, ho.sl⟩
  intro v19
  simp only [Act.put, List.setIfInBounds_toArray, List.set_cons_zero, List.set_cons_succ]
  apply wpG_eq
  · intro W hW hs
    unfold opG
    go_simp
    first | exact resG_eq_mk _ _ _ | rfl
  simp only [Act.put, List.setIfInBounds_toArray, List.set_cons_zero, List.set_cons_succ]
  apply wpG_eq
  · intro W hW hs
    have hA := hs _ (List.mem_cons_self ..) rfl
    have hB := sw.below hW
    unfold opG
    go_simp
    refine resG_call ((same_any _ _ _ (incV xs (k : Int)) (incV xs (k : Int)) hA hB hil hil).mono ?_)
    rintro e W2 ⟨rfl, c9⟩
    exact ⟨_, rfl, c9, by rw [sameV_self]⟩
  simp only [Act.put, List.setIfInBounds_toArray, List.set_cons_zero, List.set_cons_succ]
  apply wpG_eq
  · intro W hW hs
    unfold opG
    go_simp
    first | exact resG_eq_mk _ _ _ | rfl
  simp only [Act.put, List.setIfInBounds_toArray, List.set_cons_zero, List.set_cons_succ]
  apply wpG_eq
  · intro W hW hs
    unfold opG
    go_simp
    first | exact resG_eq_mk _ _ _ | rfl
  simp only [Act.put, List.setIfInBounds_toArray, List.set_cons_zero, List.set_cons_succ]
  apply wpG_eq
  · intro W hW hs
    unfold opG
    go_simp
    first | exact resG_eq_mk _ _ _ | rfl
  simp only [Act.put, List.setIfInBounds_toArray, List.set_cons_zero, List.set_cons_succ]
  apply wpG_ok
  · intro W hW hs
    unfold opG
    go_simp
    refine resG_call ((new_n _ (k : Int)).mono ?_)
    rintro e W2 ⟨v, rfl, ho, hg⟩
    rw [hnv] at ho
    exact ⟨v, rfl, hg, ho.sl⟩
  intro v25
  simp only [Act.put, List.setIfInBounds_toArray, List.set_cons_zero, List.set_cons_succ]
  apply wpG_eq
  · intro W hW hs
    unfold opG
    go_simp
    first | exact resG_eq_mk _ _ _ | rfl
  simp only [Act.put, List.setIfInBounds_toArray, List.set_cons_zero, List.set_cons_succ]
  apply wpG_ok
  · intro W hW hs
    obtain ⟨w', h1, ho, hb9⟩ := run_make_n W k hnn
    skip
    unfold opG
    go_simp
    exact resG_mk hb9 ho.sl
  intro v27
  simp only [Act.put, List.setIfInBounds_toArray, List.set_cons_zero, List.set_cons_succ]
  apply wpG_eq
  · intro W hW hs
    have hA := hs _ (List.mem_cons_of_mem _ (List.mem_cons_self ..)) rfl
    have hB := hs _ (List.mem_cons_self ..) rfl
    unfold opG
    go_simp
    refine resG_call ((same_any _ _ _ (List.replicate k 0) (List.replicate k 0) hA hB hnl hnl).mono ?_)
    rintro e W2 ⟨rfl, c9⟩
    exact ⟨_, rfl, c9, by rw [sameV_self]⟩
  simp only [Act.put, List.setIfInBounds_toArray, List.set_cons_zero, List.set_cons_succ]
  apply wpG_eq
  · intro W hW hs
    unfold opG
    go_simp
    first | exact resG_eq_mk _ _ _ | rfl
  simp only [Act.put, List.setIfInBounds_toArray, List.set_cons_zero, List.set_cons_succ]
  apply wpG_eq
  · intro W hW hs
    unfold opG
    go_simp
    first | exact resG_eq_mk _ _ _ | rfl
  simp only [Act.put, List.setIfInBounds_toArray, List.set_cons_zero, List.set_cons_succ]
  apply wpG_eq
  · intro W hW hs
    unfold opG
    go_simp
    first | exact resG_eq_mk _ _ _ | rfl
  simp only [Act.put, List.setIfInBounds_toArray, List.set_cons_zero, List.set_cons_succ]
  apply wpG_eq
  · intro W hW hs
    unfold opG
    go_simp
    first | exact resG_eq_mk _ _ _ | rfl
  simp only [Act.put, List.setIfInBounds_toArray, List.set_cons_zero, List.set_cons_succ]
  apply wpG_eq
  · intro W hW hs
    have hA := sx.below hW
    have hB := sa.below hW
    unfold opG
    go_simp
    refine resG_call ((same_any _ _ _ (xs) (xs) hA hB hx hx).mono ?_)
    rintro e W2 ⟨rfl, c9⟩
    exact ⟨_, rfl, c9, by rw [sameV_self]⟩
  simp only [Act.put, List.setIfInBounds_toArray, List.set_cons_zero, List.set_cons_succ]
  apply wpG_eq
  · intro W hW hs
    unfold opG
    go_simp
    first | exact resG_eq_mk _ _ _ | rfl
  simp only [Act.put, List.setIfInBounds_toArray, List.set_cons_zero, List.set_cons_succ]
  apply wpG_eq
  · intro W hW hs
    unfold opG
    go_simp
    first | exact resG_eq_mk _ _ _ | rfl
  simp only [Act.put, List.setIfInBounds_toArray, List.set_cons_zero, List.set_cons_succ]
  apply wpG_eq
  · intro W hW hs
    unfold opG
    go_simp
    first | exact resG_eq_mk _ _ _ | rfl
  simp only [Act.put, List.setIfInBounds_toArray, List.set_cons_zero, List.set_cons_succ]
  apply wpG_eq
  · intro W hW hs
    unfold opG
    go_simp
    first | exact resG_eq_mk _ _ _ | rfl
  simp only [Act.put, List.setIfInBounds_toArray, List.set_cons_zero, List.set_cons_succ]
  apply wpG_eq
  · intro W hW hs
    have hA := sy.below hW
    have hB := sb.below hW
    unfold opG
    go_simp
    refine resG_call ((same_any _ _ _ (ys) (ys) hA hB hy hy).mono ?_)
    rintro e W2 ⟨rfl, c9⟩
    exact ⟨_, rfl, c9, by rw [sameV_self]⟩
  simp only [Act.put, List.setIfInBounds_toArray, List.set_cons_zero, List.set_cons_succ]
  apply wpG_eq
  · intro W hW hs
    unfold opG
    go_simp
    first | exact resG_eq_mk _ _ _ | rfl
  simp only [Act.put, List.setIfInBounds_toArray, List.set_cons_zero, List.set_cons_succ]
  apply wpG_eq
  · intro W hW hs
    unfold opG
    go_simp
    first | exact resG_eq_mk _ _ _ | rfl
  simp only [Act.put, List.setIfInBounds_toArray, List.set_cons_zero, List.set_cons_succ]
  apply wpG_eq
  · intro W hW hs
    unfold opG
    go_simp
    refine resG_call ((goes_any _).mono ?_)
    rintro e W2 ⟨rfl, c9⟩
    exact ⟨_, rfl, c9, rfl⟩
  simp only [Act.put, List.setIfInBounds_toArray, List.set_cons_zero, List.set_cons_succ]
  apply wpG_eq
  · intro W hW hs
    unfold opG
    go_simp
    first | exact resG_eq_mk _ _ _ | rfl
  simp only [Act.put, List.setIfInBounds_toArray, List.set_cons_zero, List.set_cons_succ]
  apply wpG_eq
  · intro W hW hs
    unfold opG
    go_simp
    first | exact resG_eq_mk _ _ _ | rfl
  simp only [Act.put, List.setIfInBounds_toArray, List.set_cons_zero, List.set_cons_succ]
  apply wpG_nil
  intro W9 hW9 hsAll
  go_wp2
  go_ret
  exact ⟨rfl, step0 bd hW9⟩
set_option maxHeartbeats 4000000 in
theorem plays_out_hi (w : World) (va vb : Value) (xs ys : List Nat) (i : Int) (sa : Sl w va (nums xs)) (sb : Sl w vb (nums ys)) (hi1 : -9223372036854775808 ≤ i) (hi2 : i ≤ 9223372036854775807) (h0 : 0 ≤ i) (h3 : 3 < i) (hl : (xs.length : Int) ≤ i) :
    Calls Try.prog 3 #[va, vb, .int .i64 i] w fun e w' => e = .returned (.bool true) ∧ Below w.heap.size w w' := by
  obtain ⟨a, ca, rfl, _, _⟩ := sa.nums
  obtain ⟨b, cb, rfl, _, _⟩ := sb.nums
  by_cases h5 : 20 < xs.length
  · go_enter Try.func3, Try.ntmps3
    go_wp2
    all_goals (go_ret; exact ⟨rfl, Below.refl _ _⟩)
  by_cases h6 : 20 < ys.length
  · go_enter Try.func3, Try.ntmps3
    go_wp2
    all_goals (go_ret; exact ⟨rfl, Below.refl _ _⟩)
  obtain ⟨vx, w1, hrx, ox, gx⟩ := run_append_n (w.alloc (.cells #[] 23)) w.heap.size (.slice (some ⟨w.heap.size, 0, none⟩) 0 0) (.slice a xs.length ca) [] xs (Own.nil_lit _ _ (Nat.le_refl _)) (sa.below (below_a _ _)) (by simp; omega) (by simp)
  have b1 : Below w.heap.size w w1 := (below_a w _).grown gx (by simp) (fun k hk => by simp [Value.ownBlock] at hk; omega)
  obtain ⟨vy, w2, hry, oy, gy⟩ := run_append_n (w1.alloc (.cells #[] 23)) w1.heap.size (.slice (some ⟨w1.heap.size, 0, none⟩) 0 0) (.slice b ys.length cb) [] ys (Own.nil_lit _ _ (Nat.le_refl _)) ((sb.below b1).below (below_a _ _)) (by simp; omega) (by simp)
  have b2' : Below w1.heap.size w1 w2 := (below_a w1 _).grown gy (by simp) (fun k hk => by simp [Value.ownBlock] at hk; omega)
  have b2 := step0 b1 b2'
  obtain ⟨vw, w3, hrw, ow, gw⟩ := run_append_n (w2.alloc (.cells #[] 23)) w2.heap.size (.slice (some ⟨w2.heap.size, 0, none⟩) 0 0) (.slice a xs.length ca) [] xs (Own.nil_lit _ _ (Nat.le_refl _)) ((sa.below b2).below (below_a _ _)) (by simp; omega) (by simp)
  have b3' : Below w2.heap.size w2 w3 := (below_a w2 _).grown gw (by simp) (fun k hk => by simp [Value.ownBlock] at hk; omega)
  rw [List.nil_append] at ox oy ow
  have sx2 := Lib.hid (ox.sl.below b2')
  have sy2 := Lib.hid oy.sl
  have b3 := Lib.hid b3'
  have b2 := Lib.hid b2
  clear gx gy gw ox oy b1 b2' b3'
  have HRX := Lib.hid hrx
  have HRY := Lib.hid hry
  have HRW := Lib.hid hrw
  clear hrx hry hrw
  obtain ⟨k, rfl⟩ := Int.eq_ofNat_of_zero_le h0
  have hnv : newV (k : Int) = List.replicate 0 0 := by unfold newV; rw [if_neg (by omega)]; rfl
  have hnn : 0 ≤ 1000000 := by omega
  have hiv : incV xs (k : Int) = xs := by unfold incV; rw [if_neg (by omega)]
  have sw3 := ow.sl
  clear ow
  go_enter Try.func3, Try.ntmps3
  go_wp2_with (at_builtin; first | (refine wpList_run_append HRX.out rfl _ _ rfl rfl rfl ?_; clear HRX) | (refine wpList_run_append HRY.out rfl _ _ rfl rfl rfl ?_; clear HRY) | (refine wpList_run_append HRW.out rfl _ _ rfl rfl rfl ?_; clear HRW))
  rw [← hiv] at sw3
  have bF := b3.out
  clear b3 hiv
  have d : Below w2.heap.size w2 w3.drew := below_drewN bF 1
  have sx := sx2.out.below d
  have sy := sy2.out.below d
  have sw := sw3.below (below_drewN (Below.refl _ _) 1)
  have sa := (sa.below b2.out).below d
  have sb := (sb.below b2.out).below d
  have bd := step0 b2.out d
  have hx : xs.length ≤ 1000000 := by omega
  have hy : ys.length ≤ 1000000 := by omega
  have hml := Nat.le_trans (maxV_len xs ys) hx
  have hil : (incV xs (k : Int)).length ≤ 1000000 := by rw [incV_len]; exact hx
  have hnl : (List.replicate 0 0 : List Nat).length ≤ 1000000 := by first | (simp; done) | (simp; omega)
  clear sx2 sy2 sw3 b2 bF
  apply wp_region_draw_grow (.eq _ :: .eq _ :: .eq _ :: .eq _ :: .eq _ :: .eq _ :: .eq _ :: .eq _ :: .eq _ :: .eq _ :: .ok (fun v W => Sl W v (nums (maxV xs ys))) :: .eq _ :: .eq _ :: .ok (fun v W => Sl W v (nums (maxV xs ys))) :: .eq _ :: .eq _ :: .eq _ :: .eq _ :: .eq _ :: .ok (fun v W => Sl W v (nums (incV xs (k : Int)))) :: .eq _ :: .eq _ :: .eq _ :: .eq _ :: .eq _ :: .ok (fun v W => Sl W v (nums (List.replicate 0 0))) :: .eq _ :: .ok (fun v W => Sl W v (nums (List.replicate 0 0))) :: .eq _ :: .eq _ :: .eq _ :: .eq _ :: .eq _ :: .eq _ :: .eq _ :: .eq _ :: .eq _ :: .eq _ :: .eq _ :: .eq _ :: .eq _ :: .eq _ :: .eq _ :: .eq _ :: []) (by kernel_rfl) (by kernel_rfl) ⟨mono_n _, mono_n _, mono_n _, mono_n _, mono_n _, trivial⟩
  apply wpG_eq
  · intro W hW hs
    unfold opG
    go_simp
    first | exact resG_eq_mk _ _ _ | rfl
  simp only [Act.put, List.setIfInBounds_toArray, List.set_cons_zero, List.set_cons_succ]
  apply wpG_eq
  · intro W hW hs
    unfold opG
    go_simp
    first | exact resG_eq_mk _ _ _ | rfl
  simp only [Act.put, List.setIfInBounds_toArray, List.set_cons_zero, List.set_cons_succ]
  apply wpG_eq
  · intro W hW hs
    unfold opG
    go_simp
    refine resG_call ((leq_any _ _ _ xs ys (sx.below hW) (sy.below hW) hx hy).mono ?_)
    rintro e W2 ⟨rfl, c9⟩
    exact ⟨_, rfl, c9, rfl⟩
  simp only [Act.put, List.setIfInBounds_toArray, List.set_cons_zero, List.set_cons_succ]
  apply wpG_eq
  · intro W hW hs
    unfold opG
    go_simp
    first | exact resG_eq_mk _ _ _ | rfl
  simp only [Act.put, List.setIfInBounds_toArray, List.set_cons_zero, List.set_cons_succ]
  apply wpG_eq
  · intro W hW hs
    unfold opG
    go_simp
    first | exact resG_eq_mk _ _ _ | rfl
  simp only [Act.put, List.setIfInBounds_toArray, List.set_cons_zero, List.set_cons_succ]
  apply wpG_eq
  · intro W hW hs
    unfold opG
    go_simp
    refine resG_call ((refleq_any _ _ _ xs ys (sa.below hW) (sb.below hW) hx hy).mono ?_)
    rintro e W2 ⟨rfl, c9⟩
    exact ⟨_, rfl, c9, rfl⟩
  simp only [Act.put, List.setIfInBounds_toArray, List.set_cons_zero, List.set_cons_succ]
  apply wpG_eq
  · intro W hW hs
    unfold opG
    go_simp
    first | exact resG_eq_mk _ _ _ | rfl
  simp only [Act.put, List.setIfInBounds_toArray, List.set_cons_zero, List.set_cons_succ]
  apply wpG_eq
  · intro W hW hs
    unfold opG
    go_simp
    first | exact resG_eq_mk _ _ _ | rfl
  simp only [Act.put, List.setIfInBounds_toArray, List.set_cons_zero, List.set_cons_succ]
  apply wpG_eq
  · intro W hW hs
    unfold opG
    go_simp
    first | exact resG_eq_mk _ _ _ | rfl
  simp only [Act.put, List.setIfInBounds_toArray, List.set_cons_zero, List.set_cons_succ]
  apply wpG_eq
  · intro W hW hs
    unfold opG
    go_simp
    first | exact resG_eq_mk _ _ _ | rfl
  simp only [Act.put, List.setIfInBounds_toArray, List.set_cons_zero, List.set_cons_succ]
  apply wpG_ok
  · intro W hW hs
    unfold opG
    go_simp
    refine resG_call ((max_any _ _ _ xs ys (sx.below hW) (sy.below hW) hx hy).mono ?_)
    rintro e W2 ⟨v, rfl, ho, hg⟩
    exact ⟨v, rfl, hg, ho.sl⟩
  intro v10
  simp only [Act.put, List.setIfInBounds_toArray, List.set_cons_zero, List.set_cons_succ]
  apply wpG_eq
  · intro W hW hs
    unfold opG
    go_simp
    first | exact resG_eq_mk _ _ _ | rfl
  simp only [Act.put, List.setIfInBounds_toArray, List.set_cons_zero, List.set_cons_succ]
  apply wpG_eq
  · intro W hW hs
    unfold opG
    go_simp
    first | exact resG_eq_mk _ _ _ | rfl
  simp only [Act.put, List.setIfInBounds_toArray, List.set_cons_zero, List.set_cons_succ]
  apply wpG_ok
  · intro W hW hs
    unfold opG
    go_simp
    refine resG_call ((refmax_any _ _ _ xs ys (sa.below hW) (sb.below hW) hx hy).mono ?_)
    rintro e W2 ⟨v, rfl, ho, hg⟩
    exact ⟨v, rfl, hg, ho.sl⟩
  intro v13
  simp only [Act.put, List.setIfInBounds_toArray, List.set_cons_zero, List.set_cons_succ]
  apply wpG_eq
  · intro W hW hs
    have hA := hs _ (List.mem_cons_of_mem _ (List.mem_cons_self ..)) rfl
    have hB := hs _ (List.mem_cons_self ..) rfl
    unfold opG
    go_simp
    refine resG_call ((same_any _ _ _ (maxV xs ys) (maxV xs ys) hA hB hml hml).mono ?_)
    rintro e W2 ⟨rfl, c9⟩
    exact ⟨_, rfl, c9, by rw [sameV_self]⟩
  simp only [Act.put, List.setIfInBounds_toArray, List.set_cons_zero, List.set_cons_succ]
  apply wpG_eq
  · intro W hW hs
    unfold opG
    go_simp
    first | exact resG_eq_mk _ _ _ | rfl
  simp only [Act.put, List.setIfInBounds_toArray, List.set_cons_zero, List.set_cons_succ]
  apply wpG_eq
  · intro W hW hs
    unfold opG
    go_simp
    first | exact resG_eq_mk _ _ _ | rfl
  simp only [Act.put, List.setIfInBounds_toArray, List.set_cons_zero, List.set_cons_succ]
  apply wpG_eq
  · intro W hW hs
    unfold opG
    go_simp
    first | exact resG_eq_mk _ _ _ | rfl
  simp only [Act.put, List.setIfInBounds_toArray, List.set_cons_zero, List.set_cons_succ]
  apply wpG_eq
  · intro W hW hs
    unfold opG
    go_simp
    first | exact resG_eq_mk _ _ _ | rfl
  simp only [Act.put, List.setIfInBounds_toArray, List.set_cons_zero, List.set_cons_succ]
  apply wpG_ok
  · intro W hW hs
    unfold opG
    go_simp
    refine resG_call ((inc_any _ _ xs (k : Int) (sx.below hW) hx hi1 hi2).mono ?_)
    rintro e W2 ⟨v, rfl, ho, hg⟩
    exact ⟨v, rfl, hg, ho.sl⟩
  intro v19
  simp only [Act.put, List.setIfInBounds_toArray, List.set_cons_zero, List.set_cons_succ]
  apply wpG_eq
  · intro W hW hs
    unfold opG
    go_simp
    first | exact resG_eq_mk _ _ _ | rfl
  simp only [Act.put, List.setIfInBounds_toArray, List.set_cons_zero, List.set_cons_succ]
  apply wpG_eq
  · intro W hW hs
    have hA := hs _ (List.mem_cons_self ..) rfl
    have hB := sw.below hW
    unfold opG
    go_simp
    refine resG_call ((same_any _ _ _ (incV xs (k : Int)) (incV xs (k : Int)) hA hB hil hil).mono ?_)
    rintro e W2 ⟨rfl, c9⟩
    exact ⟨_, rfl, c9, by rw [sameV_self]⟩
  simp only [Act.put, List.setIfInBounds_toArray, List.set_cons_zero, List.set_cons_succ]
  apply wpG_eq
  · intro W hW hs
    unfold opG
    go_simp
    first | exact resG_eq_mk _ _ _ | rfl
  simp only [Act.put, List.setIfInBounds_toArray, List.set_cons_zero, List.set_cons_succ]
  apply wpG_eq
  · intro W hW hs
    unfold opG
    go_simp
    first | exact resG_eq_mk _ _ _ | rfl
  simp only [Act.put, List.setIfInBounds_toArray, List.set_cons_zero, List.set_cons_succ]
  apply wpG_eq
  · intro W hW hs
    unfold opG
    go_simp
    first | exact resG_eq_mk _ _ _ | rfl
  simp only [Act.put, List.setIfInBounds_toArray, List.set_cons_zero, List.set_cons_succ]
  apply wpG_ok
  · intro W hW hs
    unfold opG
    go_simp
    refine resG_call ((new_n _ (k : Int)).mono ?_)
    rintro e W2 ⟨v, rfl, ho, hg⟩
    rw [hnv] at ho
    exact ⟨v, rfl, hg, ho.sl⟩
  intro v25
  simp only [Act.put, List.setIfInBounds_toArray, List.set_cons_zero, List.set_cons_succ]
  apply wpG_eq
  · intro W hW hs
    unfold opG
    go_simp
    first | exact resG_eq_mk _ _ _ | rfl
  simp only [Act.put, List.setIfInBounds_toArray, List.set_cons_zero, List.set_cons_succ]
  apply wpG_ok
  · intro W hW hs
    obtain ⟨w', h1, ho, hb9⟩ := run_make_n W 0 hnn
    have h2 : (Instr.makeSlice 22 (.int .i64 0) (.int .i64 0)).run Try.prog W = _ := h1; clear h1
    unfold opG
    go_simp
    exact resG_mk hb9 ho.sl
  intro v27
  simp only [Act.put, List.setIfInBounds_toArray, List.set_cons_zero, List.set_cons_succ]
  apply wpG_eq
  · intro W hW hs
    have hA := hs _ (List.mem_cons_of_mem _ (List.mem_cons_self ..)) rfl
    have hB := hs _ (List.mem_cons_self ..) rfl
    unfold opG
    go_simp
    refine resG_call ((same_any _ _ _ (List.replicate 0 0) (List.replicate 0 0) hA hB hnl hnl).mono ?_)
    rintro e W2 ⟨rfl, c9⟩
    exact ⟨_, rfl, c9, by rw [sameV_self]⟩
  simp only [Act.put, List.setIfInBounds_toArray, List.set_cons_zero, List.set_cons_succ]
  apply wpG_eq
  · intro W hW hs
    unfold opG
    go_simp
    first | exact resG_eq_mk _ _ _ | rfl
  simp only [Act.put, List.setIfInBounds_toArray, List.set_cons_zero, List.set_cons_succ]
  apply wpG_eq
  · intro W hW hs
    unfold opG
    go_simp
    first | exact resG_eq_mk _ _ _ | rfl
  simp only [Act.put, List.setIfInBounds_toArray, List.set_cons_zero, List.set_cons_succ]
  apply wpG_eq
  · intro W hW hs
    unfold opG
    go_simp
    first | exact resG_eq_mk _ _ _ | rfl
  simp only [Act.put, List.setIfInBounds_toArray, List.set_cons_zero, List.set_cons_succ]
  apply wpG_eq
  · intro W hW hs
    unfold opG
    go_simp
    first | exact resG_eq_mk _ _ _ | rfl
  simp only [Act.put, List.setIfInBounds_toArray, List.set_cons_zero, List.set_cons_succ]
  apply wpG_eq
  · intro W hW hs
    have hA := sx.below hW
    have hB := sa.below hW
    unfold opG
    go_simp
    refine resG_call ((same_any _ _ _ (xs) (xs) hA hB hx hx).mono ?_)
    rintro e W2 ⟨rfl, c9⟩
    exact ⟨_, rfl, c9, by rw [sameV_self]⟩
  simp only [Act.put, List.setIfInBounds_toArray, List.set_cons_zero, List.set_cons_succ]
  apply wpG_eq
  · intro W hW hs
    unfold opG
    go_simp
    first | exact resG_eq_mk _ _ _ | rfl
  simp only [Act.put, List.setIfInBounds_toArray, List.set_cons_zero, List.set_cons_succ]
  apply wpG_eq
  · intro W hW hs
    unfold opG
    go_simp
    first | exact resG_eq_mk _ _ _ | rfl
  simp only [Act.put, List.setIfInBounds_toArray, List.set_cons_zero, List.set_cons_succ]
  apply wpG_eq
  · intro W hW hs
    unfold opG
    go_simp
    first | exact resG_eq_mk _ _ _ | rfl
  simp only [Act.put, List.setIfInBounds_toArray, List.set_cons_zero, List.set_cons_succ]
  apply wpG_eq
  · intro W hW hs
    unfold opG
    go_simp
    first | exact resG_eq_mk _ _ _ | rfl
  simp only [Act.put, List.setIfInBounds_toArray, List.set_cons_zero, List.set_cons_succ]
  apply wpG_eq
  · intro W hW hs
    have hA := sy.below hW
    have hB := sb.below hW
    unfold opG
    go_simp
    refine resG_call ((same_any _ _ _ (ys) (ys) hA hB hy hy).mono ?_)
    rintro e W2 ⟨rfl, c9⟩
    exact ⟨_, rfl, c9, by rw [sameV_self]⟩
  simp only [Act.put, List.setIfInBounds_toArray, List.set_cons_zero, List.set_cons_succ]
  apply wpG_eq
  · intro W hW hs
    unfold opG
    go_simp
    first | exact resG_eq_mk _ _ _ | rfl
  simp only [Act.put, List.setIfInBounds_toArray, List.set_cons_zero, List.set_cons_succ]
  apply wpG_eq
  · intro W hW hs
    unfold opG
    go_simp
    first | exact resG_eq_mk _ _ _ | rfl
  simp only [Act.put, List.setIfInBounds_toArray, List.set_cons_zero, List.set_cons_succ]
  apply wpG_eq
  · intro W hW hs
    unfold opG
    go_simp
    refine resG_call ((goes_any _).mono ?_)
    rintro e W2 ⟨rfl, c9⟩
    exact ⟨_, rfl, c9, rfl⟩
  simp only [Act.put, List.setIfInBounds_toArray, List.set_cons_zero, List.set_cons_succ]
  apply wpG_eq
  · intro W hW hs
    unfold opG
    go_simp
    first | exact resG_eq_mk _ _ _ | rfl
  simp only [Act.put, List.setIfInBounds_toArray, List.set_cons_zero, List.set_cons_succ]
  apply wpG_eq
  · intro W hW hs
    unfold opG
    go_simp
    first | exact resG_eq_mk _ _ _ | rfl
  simp only [Act.put, List.setIfInBounds_toArray, List.set_cons_zero, List.set_cons_succ]
  apply wpG_nil
  intro W9 hW9 hsAll
  go_wp2
  go_ret
  exact ⟨rfl, step0 bd hW9⟩
end Go.Proofs.Ytomhiodabnpfoaa
