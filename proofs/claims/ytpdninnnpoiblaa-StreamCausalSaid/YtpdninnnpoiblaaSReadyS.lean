/-
  stream.Ready, whatever the item's effects are.
-/
import Derived.Test.YtpdninnnpoiblaaSReady
set_option linter.unusedVariables false
namespace Go.Proofs.Ytpdninnnpoiblaa
open Go.RowKit

set_option maxHeartbeats 4000000 in
theorem ready_plain (w : World) (x : ItemD) (sv ev vv : Value) (v : List Nat) (hs : Sl w sv (nums x.stamp)) (he : ∃ a c, ev = .slice a x.effs.length c) (hv : Sl w vv (nums v)) (hok : x.stamp.length ≤ 100000) (hn : NumOk x) (hl : v.length ≤ 100000) :
    Calls Try.prog 14 #[.agg (itemCells x sv ev), vv] w fun e w' => e = .returned (.bool (readyV x v)) ∧ Gr w w' := by
  obtain ⟨as_, cs, rfl⟩ := hs.oneCells
  obtain ⟨ae, ce, rfl⟩ := he
  obtain ⟨av, cv, rfl⟩ := hv.oneCells
  simp only [nums_length] at *
  obtain ⟨w1, hw1⟩ : ∃ w1, w1 = w.alloc (.cells (itemCells x (.slice as_ x.stamp.length cs) (.slice ae x.effs.length ce)) 33) := ⟨_, rfl⟩
  have g1 : Gr w w1 := by rw [hw1]; exact (Gr.refl w).alloc _
  have b1 : ItemAt w1 w.heap.size (itemCells x (.slice as_ x.stamp.length cs) (.slice ae x.effs.length ce)) := by unfold ItemAt; rw [hw1]; exact heap_alloc_new w _
  have hlt := b1.lt
  have cw : ∀ W, Gr w1.drew W → W.cell? ⟨w.heap.size, 0, none⟩ = some (.int .i64 x.origin) ∧ W.cell? ⟨w.heap.size, 1, none⟩ = some (.int .u64 (x.seq : Int)) ∧ W.cell? ⟨w.heap.size, 4, none⟩ = some (.slice as_ x.stamp.length cs) := fun W hW => by
    have hg : Gr w1 W := Gr.trans ((Gr.refl w1).drew) hW
    have hb := b1.block (hg.block _ hlt)
    exact ⟨hb.cell 0, hb.cell 1, hb.cell 4⟩
  have sw : ∀ W, Gr w1.drew W → Sl W (.slice as_ x.stamp.length cs) (nums x.stamp) ∧ Sl W (.slice av v.length cv) (nums v) := fun W hW => ⟨hs.below (Gr.trans g1 (Gr.trans ((Gr.refl w1).drew) hW)), hv.below (Gr.trans g1 (Gr.trans ((Gr.refl w1).drew) hW))⟩
  have key : ∀ b : Bool, readyV x v = b → Ending.returned (.bool b) = .returned (.bool (readyV x v)) := fun b h => by rw [h]
  have KEY := Lib.hid key
  have CW := Lib.hid cw
  have SW := Lib.hid sw
  have HW1 := Lib.hid hw1
  have HG1 := Lib.hid g1
  have l1 := hok
  obtain ⟨n1, n2, n3⟩ := hn
  have HV := Lib.hid hv
  clear key cw sw hw1 g1 b1 hs hv
  unfold itemCells at HW1 ⊢
  by_cases h0 : x.origin < 0
  · have hr : readyV x v = false := by unfold readyV; rw [decide_eq_false (by omega : ¬ 0 ≤ x.origin)]; rfl
    have HR := Lib.hid hr
    have H0 := Lib.hid h0
    clear hr h0
    go_enter Try.func14, Try.ntmps14
    go_wp2_with fail
    rw [← HW1.out]
    apply wp_region_draw_grow (.eq _ :: .eq _ :: .eq _ :: .eq _ :: .eq _ :: .eq _ :: .eq _ :: .eq _ :: .eq _ :: .eq _ :: .eq _ :: .eq _ :: .eq _ :: .eq _ :: .eq _ :: .eq _ :: .eq _ :: .eq _ :: .eq _ :: .eq _ :: .eq _ :: .eq _ :: .eq _ :: .eq _ :: .eq _ :: .eq _ :: .eq _ :: .eq _ :: .eq _ :: .eq _ :: .eq _ :: .eq _ :: .eq _ :: []) (by kernel_rfl) (by kernel_rfl) trivial
    apply wpG_eq
    · intro W hW hs
      have hn1 : (0 ≤ x.origin) = False := eq_false (by have := H0.out; omega)
      unfold opG
      go_simp
      first | exact resG_eq_mk _ _ _ | rfl
    simp only [Act.put, List.setIfInBounds_toArray, List.set_cons_zero, List.set_cons_succ]
    apply wpG_eq
    · intro W hW hs
      have hn1 : (0 ≤ x.origin) = False := eq_false (by have := H0.out; omega)
      obtain ⟨t0, t1, t4⟩ := CW.out _ hW
      unfold opG
      go_simp
      first | exact resG_eq_mk _ _ _ | rfl
    simp only [Act.put, List.setIfInBounds_toArray, List.set_cons_zero, List.set_cons_succ]
    apply wpG_eq
    · intro W hW hs
      have hn1 : (0 ≤ x.origin) = False := eq_false (by have := H0.out; omega)
      unfold opG
      go_simp
      first | exact resG_eq_mk _ _ _ | rfl
    simp only [Act.put, List.setIfInBounds_toArray, List.set_cons_zero, List.set_cons_succ]
    apply wpG_eq
    · intro W hW hs
      have hn1 : (0 ≤ x.origin) = False := eq_false (by have := H0.out; omega)
      unfold opG
      go_simp
      first | exact resG_eq_mk _ _ _ | rfl
    simp only [Act.put, List.setIfInBounds_toArray, List.set_cons_zero, List.set_cons_succ]
    apply wpG_eq
    · intro W hW hs
      have hn1 : (0 ≤ x.origin) = False := eq_false (by have := H0.out; omega)
      unfold opG
      go_simp
      first | exact resG_eq_mk _ _ _ | rfl
    simp only [Act.put, List.setIfInBounds_toArray, List.set_cons_zero, List.set_cons_succ]
    apply wpG_eq
    · intro W hW hs
      have hn1 : (0 ≤ x.origin) = False := eq_false (by have := H0.out; omega)
      obtain ⟨t0, t1, t4⟩ := CW.out _ hW
      unfold opG
      go_simp
      first | exact resG_eq_mk _ _ _ | rfl
    simp only [Act.put, List.setIfInBounds_toArray, List.set_cons_zero, List.set_cons_succ]
    apply wpG_eq
    · intro W hW hs
      have hn1 : (0 ≤ x.origin) = False := eq_false (by have := H0.out; omega)
      unfold opG
      go_simp
      first | exact resG_eq_mk _ _ _ | rfl
    simp only [Act.put, List.setIfInBounds_toArray, List.set_cons_zero, List.set_cons_succ]
    apply wpG_eq
    · intro W hW hs
      have hn1 : (0 ≤ x.origin) = False := eq_false (by have := H0.out; omega)
      unfold opG
      go_simp
      first | exact resG_eq_mk _ _ _ | rfl
    simp only [Act.put, List.setIfInBounds_toArray, List.set_cons_zero, List.set_cons_succ]
    apply wpG_eq
    · intro W hW hs
      have hn1 : (0 ≤ x.origin) = False := eq_false (by have := H0.out; omega)
      unfold opG
      go_simp
      first | exact resG_eq_mk _ _ _ | rfl
    simp only [Act.put, List.setIfInBounds_toArray, List.set_cons_zero, List.set_cons_succ]
    apply wpG_eq
    · intro W hW hs
      have hn1 : (0 ≤ x.origin) = False := eq_false (by have := H0.out; omega)
      unfold opG
      go_simp
      first | exact resG_eq_mk _ _ _ | rfl
    simp only [Act.put, List.setIfInBounds_toArray, List.set_cons_zero, List.set_cons_succ]
    apply wpG_eq
    · intro W hW hs
      have hn1 : (0 ≤ x.origin) = False := eq_false (by have := H0.out; omega)
      unfold opG
      go_simp
      first | exact resG_eq_mk _ _ _ | rfl
    simp only [Act.put, List.setIfInBounds_toArray, List.set_cons_zero, List.set_cons_succ]
    apply wpG_eq
    · intro W hW hs
      have hn1 : (0 ≤ x.origin) = False := eq_false (by have := H0.out; omega)
      unfold opG
      go_simp
      first | exact resG_eq_mk _ _ _ | rfl
    simp only [Act.put, List.setIfInBounds_toArray, List.set_cons_zero, List.set_cons_succ]
    apply wpG_eq
    · intro W hW hs
      have hn1 : (0 ≤ x.origin) = False := eq_false (by have := H0.out; omega)
      obtain ⟨t0, t1, t4⟩ := CW.out _ hW
      unfold opG
      go_simp
      first | exact resG_eq_mk _ _ _ | rfl
    simp only [Act.put, List.setIfInBounds_toArray, List.set_cons_zero, List.set_cons_succ]
    apply wpG_eq
    · intro W hW hs
      have hn1 : (0 ≤ x.origin) = False := eq_false (by have := H0.out; omega)
      unfold opG
      go_simp
      first | exact resG_eq_mk _ _ _ | rfl
    simp only [Act.put, List.setIfInBounds_toArray, List.set_cons_zero, List.set_cons_succ]
    apply wpG_eq
    · intro W hW hs
      have hn1 : (0 ≤ x.origin) = False := eq_false (by have := H0.out; omega)
      unfold opG
      go_simp
      first | exact resG_eq_mk _ _ _ | rfl
    simp only [Act.put, List.setIfInBounds_toArray, List.set_cons_zero, List.set_cons_succ]
    apply wpG_eq
    · intro W hW hs
      have hn1 : (0 ≤ x.origin) = False := eq_false (by have := H0.out; omega)
      unfold opG
      go_simp
      first | exact resG_eq_mk _ _ _ | rfl
    simp only [Act.put, List.setIfInBounds_toArray, List.set_cons_zero, List.set_cons_succ]
    apply wpG_eq
    · intro W hW hs
      have hn1 : (0 ≤ x.origin) = False := eq_false (by have := H0.out; omega)
      unfold opG
      go_simp
      first | exact resG_eq_mk _ _ _ | rfl
    simp only [Act.put, List.setIfInBounds_toArray, List.set_cons_zero, List.set_cons_succ]
    apply wpG_eq
    · intro W hW hs
      have hn1 : (0 ≤ x.origin) = False := eq_false (by have := H0.out; omega)
      obtain ⟨t0, t1, t4⟩ := CW.out _ hW
      unfold opG
      go_simp
      first | exact resG_eq_mk _ _ _ | rfl
    simp only [Act.put, List.setIfInBounds_toArray, List.set_cons_zero, List.set_cons_succ]
    apply wpG_eq
    · intro W hW hs
      have hn1 : (0 ≤ x.origin) = False := eq_false (by have := H0.out; omega)
      unfold opG
      go_simp
      first | exact resG_eq_mk _ _ _ | rfl
    simp only [Act.put, List.setIfInBounds_toArray, List.set_cons_zero, List.set_cons_succ]
    apply wpG_eq
    · intro W hW hs
      have hn1 : (0 ≤ x.origin) = False := eq_false (by have := H0.out; omega)
      unfold opG
      go_simp
      first | exact resG_eq_mk _ _ _ | rfl
    simp only [Act.put, List.setIfInBounds_toArray, List.set_cons_zero, List.set_cons_succ]
    apply wpG_eq
    · intro W hW hs
      have hn1 : (0 ≤ x.origin) = False := eq_false (by have := H0.out; omega)
      unfold opG
      go_simp
      first | exact resG_eq_mk _ _ _ | rfl
    simp only [Act.put, List.setIfInBounds_toArray, List.set_cons_zero, List.set_cons_succ]
    apply wpG_eq
    · intro W hW hs
      have hn1 : (0 ≤ x.origin) = False := eq_false (by have := H0.out; omega)
      obtain ⟨t0, t1, t4⟩ := CW.out _ hW
      unfold opG
      go_simp
      first | exact resG_eq_mk _ _ _ | rfl
    simp only [Act.put, List.setIfInBounds_toArray, List.set_cons_zero, List.set_cons_succ]
    apply wpG_eq
    · intro W hW hs
      have hn1 : (0 ≤ x.origin) = False := eq_false (by have := H0.out; omega)
      unfold opG
      go_simp
      first | exact resG_eq_mk _ _ _ | rfl
    simp only [Act.put, List.setIfInBounds_toArray, List.set_cons_zero, List.set_cons_succ]
    apply wpG_eq
    · intro W hW hs
      have hn1 : (0 ≤ x.origin) = False := eq_false (by have := H0.out; omega)
      unfold opG
      go_simp
      first | exact resG_eq_mk _ _ _ | rfl
    simp only [Act.put, List.setIfInBounds_toArray, List.set_cons_zero, List.set_cons_succ]
    apply wpG_eq
    · intro W hW hs
      have hn1 : (0 ≤ x.origin) = False := eq_false (by have := H0.out; omega)
      unfold opG
      go_simp
      first | exact resG_eq_mk _ _ _ | rfl
    simp only [Act.put, List.setIfInBounds_toArray, List.set_cons_zero, List.set_cons_succ]
    apply wpG_eq
    · intro W hW hs
      have hn1 : (0 ≤ x.origin) = False := eq_false (by have := H0.out; omega)
      unfold opG
      go_simp
      first | exact resG_eq_mk _ _ _ | rfl
    simp only [Act.put, List.setIfInBounds_toArray, List.set_cons_zero, List.set_cons_succ]
    apply wpG_eq
    · intro W hW hs
      have hn1 : (0 ≤ x.origin) = False := eq_false (by have := H0.out; omega)
      unfold opG
      go_simp
      first | exact resG_eq_mk _ _ _ | rfl
    simp only [Act.put, List.setIfInBounds_toArray, List.set_cons_zero, List.set_cons_succ]
    apply wpG_eq
    · intro W hW hs
      have hn1 : (0 ≤ x.origin) = False := eq_false (by have := H0.out; omega)
      unfold opG
      go_simp
      first | exact resG_eq_mk _ _ _ | rfl
    simp only [Act.put, List.setIfInBounds_toArray, List.set_cons_zero, List.set_cons_succ]
    apply wpG_eq
    · intro W hW hs
      have hn1 : (0 ≤ x.origin) = False := eq_false (by have := H0.out; omega)
      obtain ⟨t0, t1, t4⟩ := CW.out _ hW
      unfold opG
      go_simp
      first | exact resG_eq_mk _ _ _ | rfl
    simp only [Act.put, List.setIfInBounds_toArray, List.set_cons_zero, List.set_cons_succ]
    apply wpG_eq
    · intro W hW hs
      have hn1 : (0 ≤ x.origin) = False := eq_false (by have := H0.out; omega)
      unfold opG
      go_simp
      first | exact resG_eq_mk _ _ _ | rfl
    simp only [Act.put, List.setIfInBounds_toArray, List.set_cons_zero, List.set_cons_succ]
    apply wpG_eq
    · intro W hW hs
      have hn1 : (0 ≤ x.origin) = False := eq_false (by have := H0.out; omega)
      unfold opG
      go_simp
      first | exact resG_eq_mk _ _ _ | rfl
    simp only [Act.put, List.setIfInBounds_toArray, List.set_cons_zero, List.set_cons_succ]
    apply wpG_eq
    · intro W hW hs
      have hn1 : (0 ≤ x.origin) = False := eq_false (by have := H0.out; omega)
      unfold opG
      go_simp
      first | exact resG_eq_mk _ _ _ | rfl
    simp only [Act.put, List.setIfInBounds_toArray, List.set_cons_zero, List.set_cons_succ]
    apply wpG_eq
    · intro W hW hs
      have hn1 : (0 ≤ x.origin) = False := eq_false (by have := H0.out; omega)
      unfold opG
      go_simp
      first | exact resG_eq_mk _ _ _ | rfl
    simp only [Act.put, List.setIfInBounds_toArray, List.set_cons_zero, List.set_cons_succ]
    apply wpG_nil
    intro W9 hW9 hsAll
    have G9 := Gr.trans HG1.out (Gr.trans ((Gr.refl w1).drew) hW9)
    clear hsAll
    go_wp2
    go_ret
    exact ⟨KEY.out _ (by rw [HR.out]), G9⟩
  obtain ⟨o, ho⟩ := Int.eq_ofNat_of_zero_le (show 0 ≤ x.origin by omega)
  have HO := Lib.hid ho
  clear ho
  by_cases h0 : (v.length : Int) ≤ x.origin
  · have hr : readyV x v = false := by unfold readyV; rw [decide_eq_false (by omega : ¬ x.origin < (v.length : Int))]; simp
    have HR := Lib.hid hr
    have H0 := Lib.hid h0
    clear hr h0
    have i1 : (0 : Int) ≤ x.origin := by have := HO.out; omega
    go_enter Try.func14, Try.ntmps14
    go_wp2_with fail
    rw [← HW1.out]
    apply wp_region_draw_grow (.eq _ :: .eq _ :: .eq _ :: .eq _ :: .eq _ :: .eq _ :: .eq _ :: .eq _ :: .eq _ :: .eq _ :: .eq _ :: .eq _ :: .eq _ :: .eq _ :: .eq _ :: .eq _ :: .eq _ :: .eq _ :: .eq _ :: .eq _ :: .eq _ :: .eq _ :: .eq _ :: .eq _ :: .eq _ :: .eq _ :: .eq _ :: .eq _ :: .eq _ :: .eq _ :: .eq _ :: .eq _ :: .eq _ :: []) (by kernel_rfl) (by kernel_rfl) trivial
    apply wpG_eq
    · intro W hW hs
      have hn1 : (x.origin < (v.length : Int)) = False := eq_false (by have := H0.out; omega)
      unfold opG
      go_simp
      first | exact resG_eq_mk _ _ _ | rfl
    simp only [Act.put, List.setIfInBounds_toArray, List.set_cons_zero, List.set_cons_succ]
    apply wpG_eq
    · intro W hW hs
      have hn1 : (x.origin < (v.length : Int)) = False := eq_false (by have := H0.out; omega)
      obtain ⟨t0, t1, t4⟩ := CW.out _ hW
      unfold opG
      go_simp
      first | exact resG_eq_mk _ _ _ | rfl
    simp only [Act.put, List.setIfInBounds_toArray, List.set_cons_zero, List.set_cons_succ]
    apply wpG_eq
    · intro W hW hs
      have hn1 : (x.origin < (v.length : Int)) = False := eq_false (by have := H0.out; omega)
      unfold opG
      go_simp
      first | exact resG_eq_mk _ _ _ | rfl
    simp only [Act.put, List.setIfInBounds_toArray, List.set_cons_zero, List.set_cons_succ]
    apply wpG_eq
    · intro W hW hs
      have hn1 : (x.origin < (v.length : Int)) = False := eq_false (by have := H0.out; omega)
      unfold opG
      go_simp
      first | exact resG_eq_mk _ _ _ | rfl
    simp only [Act.put, List.setIfInBounds_toArray, List.set_cons_zero, List.set_cons_succ]
    apply wpG_eq
    · intro W hW hs
      have hn1 : (x.origin < (v.length : Int)) = False := eq_false (by have := H0.out; omega)
      unfold opG
      go_simp
      first | exact resG_eq_mk _ _ _ | rfl
    simp only [Act.put, List.setIfInBounds_toArray, List.set_cons_zero, List.set_cons_succ]
    apply wpG_eq
    · intro W hW hs
      have hn1 : (x.origin < (v.length : Int)) = False := eq_false (by have := H0.out; omega)
      obtain ⟨t0, t1, t4⟩ := CW.out _ hW
      unfold opG
      go_simp
      first | exact resG_eq_mk _ _ _ | rfl
    simp only [Act.put, List.setIfInBounds_toArray, List.set_cons_zero, List.set_cons_succ]
    apply wpG_eq
    · intro W hW hs
      have hn1 : (x.origin < (v.length : Int)) = False := eq_false (by have := H0.out; omega)
      unfold opG
      go_simp
      first | exact resG_eq_mk _ _ _ | rfl
    simp only [Act.put, List.setIfInBounds_toArray, List.set_cons_zero, List.set_cons_succ]
    apply wpG_eq
    · intro W hW hs
      have hn1 : (x.origin < (v.length : Int)) = False := eq_false (by have := H0.out; omega)
      unfold opG
      go_simp
      first | exact resG_eq_mk _ _ _ | rfl
    simp only [Act.put, List.setIfInBounds_toArray, List.set_cons_zero, List.set_cons_succ]
    apply wpG_eq
    · intro W hW hs
      have hn1 : (x.origin < (v.length : Int)) = False := eq_false (by have := H0.out; omega)
      unfold opG
      go_simp
      first | exact resG_eq_mk _ _ _ | rfl
    simp only [Act.put, List.setIfInBounds_toArray, List.set_cons_zero, List.set_cons_succ]
    apply wpG_eq
    · intro W hW hs
      have hn1 : (x.origin < (v.length : Int)) = False := eq_false (by have := H0.out; omega)
      unfold opG
      go_simp
      first | exact resG_eq_mk _ _ _ | rfl
    simp only [Act.put, List.setIfInBounds_toArray, List.set_cons_zero, List.set_cons_succ]
    apply wpG_eq
    · intro W hW hs
      have hn1 : (x.origin < (v.length : Int)) = False := eq_false (by have := H0.out; omega)
      unfold opG
      go_simp
      first | exact resG_eq_mk _ _ _ | rfl
    simp only [Act.put, List.setIfInBounds_toArray, List.set_cons_zero, List.set_cons_succ]
    apply wpG_eq
    · intro W hW hs
      have hn1 : (x.origin < (v.length : Int)) = False := eq_false (by have := H0.out; omega)
      unfold opG
      go_simp
      first | exact resG_eq_mk _ _ _ | rfl
    simp only [Act.put, List.setIfInBounds_toArray, List.set_cons_zero, List.set_cons_succ]
    apply wpG_eq
    · intro W hW hs
      have hn1 : (x.origin < (v.length : Int)) = False := eq_false (by have := H0.out; omega)
      obtain ⟨t0, t1, t4⟩ := CW.out _ hW
      unfold opG
      go_simp
      first | exact resG_eq_mk _ _ _ | rfl
    simp only [Act.put, List.setIfInBounds_toArray, List.set_cons_zero, List.set_cons_succ]
    apply wpG_eq
    · intro W hW hs
      have hn1 : (x.origin < (v.length : Int)) = False := eq_false (by have := H0.out; omega)
      unfold opG
      go_simp
      first | exact resG_eq_mk _ _ _ | rfl
    simp only [Act.put, List.setIfInBounds_toArray, List.set_cons_zero, List.set_cons_succ]
    apply wpG_eq
    · intro W hW hs
      have hn1 : (x.origin < (v.length : Int)) = False := eq_false (by have := H0.out; omega)
      unfold opG
      go_simp
      first | exact resG_eq_mk _ _ _ | rfl
    simp only [Act.put, List.setIfInBounds_toArray, List.set_cons_zero, List.set_cons_succ]
    apply wpG_eq
    · intro W hW hs
      have hn1 : (x.origin < (v.length : Int)) = False := eq_false (by have := H0.out; omega)
      unfold opG
      go_simp
      first | exact resG_eq_mk _ _ _ | rfl
    simp only [Act.put, List.setIfInBounds_toArray, List.set_cons_zero, List.set_cons_succ]
    apply wpG_eq
    · intro W hW hs
      have hn1 : (x.origin < (v.length : Int)) = False := eq_false (by have := H0.out; omega)
      unfold opG
      go_simp
      first | exact resG_eq_mk _ _ _ | rfl
    simp only [Act.put, List.setIfInBounds_toArray, List.set_cons_zero, List.set_cons_succ]
    apply wpG_eq
    · intro W hW hs
      have hn1 : (x.origin < (v.length : Int)) = False := eq_false (by have := H0.out; omega)
      obtain ⟨t0, t1, t4⟩ := CW.out _ hW
      unfold opG
      go_simp
      first | exact resG_eq_mk _ _ _ | rfl
    simp only [Act.put, List.setIfInBounds_toArray, List.set_cons_zero, List.set_cons_succ]
    apply wpG_eq
    · intro W hW hs
      have hn1 : (x.origin < (v.length : Int)) = False := eq_false (by have := H0.out; omega)
      unfold opG
      go_simp
      first | exact resG_eq_mk _ _ _ | rfl
    simp only [Act.put, List.setIfInBounds_toArray, List.set_cons_zero, List.set_cons_succ]
    apply wpG_eq
    · intro W hW hs
      have hn1 : (x.origin < (v.length : Int)) = False := eq_false (by have := H0.out; omega)
      unfold opG
      go_simp
      first | exact resG_eq_mk _ _ _ | rfl
    simp only [Act.put, List.setIfInBounds_toArray, List.set_cons_zero, List.set_cons_succ]
    apply wpG_eq
    · intro W hW hs
      have hn1 : (x.origin < (v.length : Int)) = False := eq_false (by have := H0.out; omega)
      unfold opG
      go_simp
      first | exact resG_eq_mk _ _ _ | rfl
    simp only [Act.put, List.setIfInBounds_toArray, List.set_cons_zero, List.set_cons_succ]
    apply wpG_eq
    · intro W hW hs
      have hn1 : (x.origin < (v.length : Int)) = False := eq_false (by have := H0.out; omega)
      obtain ⟨t0, t1, t4⟩ := CW.out _ hW
      unfold opG
      go_simp
      first | exact resG_eq_mk _ _ _ | rfl
    simp only [Act.put, List.setIfInBounds_toArray, List.set_cons_zero, List.set_cons_succ]
    apply wpG_eq
    · intro W hW hs
      have hn1 : (x.origin < (v.length : Int)) = False := eq_false (by have := H0.out; omega)
      unfold opG
      go_simp
      first | exact resG_eq_mk _ _ _ | rfl
    simp only [Act.put, List.setIfInBounds_toArray, List.set_cons_zero, List.set_cons_succ]
    apply wpG_eq
    · intro W hW hs
      have hn1 : (x.origin < (v.length : Int)) = False := eq_false (by have := H0.out; omega)
      unfold opG
      go_simp
      first | exact resG_eq_mk _ _ _ | rfl
    simp only [Act.put, List.setIfInBounds_toArray, List.set_cons_zero, List.set_cons_succ]
    apply wpG_eq
    · intro W hW hs
      have hn1 : (x.origin < (v.length : Int)) = False := eq_false (by have := H0.out; omega)
      unfold opG
      go_simp
      first | exact resG_eq_mk _ _ _ | rfl
    simp only [Act.put, List.setIfInBounds_toArray, List.set_cons_zero, List.set_cons_succ]
    apply wpG_eq
    · intro W hW hs
      have hn1 : (x.origin < (v.length : Int)) = False := eq_false (by have := H0.out; omega)
      unfold opG
      go_simp
      first | exact resG_eq_mk _ _ _ | rfl
    simp only [Act.put, List.setIfInBounds_toArray, List.set_cons_zero, List.set_cons_succ]
    apply wpG_eq
    · intro W hW hs
      have hn1 : (x.origin < (v.length : Int)) = False := eq_false (by have := H0.out; omega)
      unfold opG
      go_simp
      first | exact resG_eq_mk _ _ _ | rfl
    simp only [Act.put, List.setIfInBounds_toArray, List.set_cons_zero, List.set_cons_succ]
    apply wpG_eq
    · intro W hW hs
      have hn1 : (x.origin < (v.length : Int)) = False := eq_false (by have := H0.out; omega)
      unfold opG
      go_simp
      first | exact resG_eq_mk _ _ _ | rfl
    simp only [Act.put, List.setIfInBounds_toArray, List.set_cons_zero, List.set_cons_succ]
    apply wpG_eq
    · intro W hW hs
      have hn1 : (x.origin < (v.length : Int)) = False := eq_false (by have := H0.out; omega)
      obtain ⟨t0, t1, t4⟩ := CW.out _ hW
      unfold opG
      go_simp
      first | exact resG_eq_mk _ _ _ | rfl
    simp only [Act.put, List.setIfInBounds_toArray, List.set_cons_zero, List.set_cons_succ]
    apply wpG_eq
    · intro W hW hs
      have hn1 : (x.origin < (v.length : Int)) = False := eq_false (by have := H0.out; omega)
      unfold opG
      go_simp
      first | exact resG_eq_mk _ _ _ | rfl
    simp only [Act.put, List.setIfInBounds_toArray, List.set_cons_zero, List.set_cons_succ]
    apply wpG_eq
    · intro W hW hs
      have hn1 : (x.origin < (v.length : Int)) = False := eq_false (by have := H0.out; omega)
      unfold opG
      go_simp
      first | exact resG_eq_mk _ _ _ | rfl
    simp only [Act.put, List.setIfInBounds_toArray, List.set_cons_zero, List.set_cons_succ]
    apply wpG_eq
    · intro W hW hs
      have hn1 : (x.origin < (v.length : Int)) = False := eq_false (by have := H0.out; omega)
      unfold opG
      go_simp
      first | exact resG_eq_mk _ _ _ | rfl
    simp only [Act.put, List.setIfInBounds_toArray, List.set_cons_zero, List.set_cons_succ]
    apply wpG_eq
    · intro W hW hs
      have hn1 : (x.origin < (v.length : Int)) = False := eq_false (by have := H0.out; omega)
      unfold opG
      go_simp
      first | exact resG_eq_mk _ _ _ | rfl
    simp only [Act.put, List.setIfInBounds_toArray, List.set_cons_zero, List.set_cons_succ]
    apply wpG_nil
    intro W9 hW9 hsAll
    have G9 := Gr.trans HG1.out (Gr.trans ((Gr.refl w1).drew) hW9)
    clear hsAll
    go_wp2
    go_ret
    exact ⟨KEY.out _ (by rw [HR.out]), G9⟩
  by_cases h0 : x.seq = 0
  · have hr : readyV x v = false := by unfold readyV; rw [h0]; simp
    have HR := Lib.hid hr
    have H0 := Lib.hid h0
    clear hr h0
    have i1 : (0 : Int) ≤ x.origin := by have := HO.out; omega
    have i2 : x.origin < (v.length : Int) := by omega
    go_enter Try.func14, Try.ntmps14
    go_wp2_with fail
    rw [← HW1.out]
    apply wp_region_draw_grow (.eq _ :: .eq _ :: .eq _ :: .eq _ :: .eq _ :: .eq _ :: .eq _ :: .eq _ :: .eq _ :: .eq _ :: .eq _ :: .eq _ :: .eq _ :: .eq _ :: .eq _ :: .eq _ :: .eq _ :: .eq _ :: .eq _ :: .eq _ :: .eq _ :: .eq _ :: .eq _ :: .eq _ :: .eq _ :: .eq _ :: .eq _ :: .eq _ :: .eq _ :: .eq _ :: .eq _ :: .eq _ :: .eq _ :: []) (by kernel_rfl) (by kernel_rfl) trivial
    apply wpG_eq
    · intro W hW hs
      have hn1 : ((0 : Int) < (x.seq : Int)) = False := eq_false (by have := H0.out; omega)
      have hn2 : (0 < x.seq) = False := eq_false (by have := H0.out; omega)
      unfold opG
      go_simp
      first | exact resG_eq_mk _ _ _ | rfl
    simp only [Act.put, List.setIfInBounds_toArray, List.set_cons_zero, List.set_cons_succ]
    apply wpG_eq
    · intro W hW hs
      have hn1 : ((0 : Int) < (x.seq : Int)) = False := eq_false (by have := H0.out; omega)
      have hn2 : (0 < x.seq) = False := eq_false (by have := H0.out; omega)
      obtain ⟨t0, t1, t4⟩ := CW.out _ hW
      unfold opG
      go_simp
      first | exact resG_eq_mk _ _ _ | rfl
    simp only [Act.put, List.setIfInBounds_toArray, List.set_cons_zero, List.set_cons_succ]
    apply wpG_eq
    · intro W hW hs
      have hn1 : ((0 : Int) < (x.seq : Int)) = False := eq_false (by have := H0.out; omega)
      have hn2 : (0 < x.seq) = False := eq_false (by have := H0.out; omega)
      unfold opG
      go_simp
      first | exact resG_eq_mk _ _ _ | rfl
    simp only [Act.put, List.setIfInBounds_toArray, List.set_cons_zero, List.set_cons_succ]
    apply wpG_eq
    · intro W hW hs
      have hn1 : ((0 : Int) < (x.seq : Int)) = False := eq_false (by have := H0.out; omega)
      have hn2 : (0 < x.seq) = False := eq_false (by have := H0.out; omega)
      unfold opG
      go_simp
      first | exact resG_eq_mk _ _ _ | rfl
    simp only [Act.put, List.setIfInBounds_toArray, List.set_cons_zero, List.set_cons_succ]
    apply wpG_eq
    · intro W hW hs
      have hn1 : ((0 : Int) < (x.seq : Int)) = False := eq_false (by have := H0.out; omega)
      have hn2 : (0 < x.seq) = False := eq_false (by have := H0.out; omega)
      unfold opG
      go_simp
      first | exact resG_eq_mk _ _ _ | rfl
    simp only [Act.put, List.setIfInBounds_toArray, List.set_cons_zero, List.set_cons_succ]
    apply wpG_eq
    · intro W hW hs
      have hn1 : ((0 : Int) < (x.seq : Int)) = False := eq_false (by have := H0.out; omega)
      have hn2 : (0 < x.seq) = False := eq_false (by have := H0.out; omega)
      obtain ⟨t0, t1, t4⟩ := CW.out _ hW
      unfold opG
      go_simp
      first | exact resG_eq_mk _ _ _ | rfl
    simp only [Act.put, List.setIfInBounds_toArray, List.set_cons_zero, List.set_cons_succ]
    apply wpG_eq
    · intro W hW hs
      have hn1 : ((0 : Int) < (x.seq : Int)) = False := eq_false (by have := H0.out; omega)
      have hn2 : (0 < x.seq) = False := eq_false (by have := H0.out; omega)
      unfold opG
      go_simp
      first | exact resG_eq_mk _ _ _ | rfl
    simp only [Act.put, List.setIfInBounds_toArray, List.set_cons_zero, List.set_cons_succ]
    apply wpG_eq
    · intro W hW hs
      have hn1 : ((0 : Int) < (x.seq : Int)) = False := eq_false (by have := H0.out; omega)
      have hn2 : (0 < x.seq) = False := eq_false (by have := H0.out; omega)
      unfold opG
      go_simp
      first | exact resG_eq_mk _ _ _ | rfl
    simp only [Act.put, List.setIfInBounds_toArray, List.set_cons_zero, List.set_cons_succ]
    apply wpG_eq
    · intro W hW hs
      have hn1 : ((0 : Int) < (x.seq : Int)) = False := eq_false (by have := H0.out; omega)
      have hn2 : (0 < x.seq) = False := eq_false (by have := H0.out; omega)
      unfold opG
      go_simp
      first | exact resG_eq_mk _ _ _ | rfl
    simp only [Act.put, List.setIfInBounds_toArray, List.set_cons_zero, List.set_cons_succ]
    apply wpG_eq
    · intro W hW hs
      have hn1 : ((0 : Int) < (x.seq : Int)) = False := eq_false (by have := H0.out; omega)
      have hn2 : (0 < x.seq) = False := eq_false (by have := H0.out; omega)
      unfold opG
      go_simp
      first | exact resG_eq_mk _ _ _ | rfl
    simp only [Act.put, List.setIfInBounds_toArray, List.set_cons_zero, List.set_cons_succ]
    apply wpG_eq
    · intro W hW hs
      have hn1 : ((0 : Int) < (x.seq : Int)) = False := eq_false (by have := H0.out; omega)
      have hn2 : (0 < x.seq) = False := eq_false (by have := H0.out; omega)
      unfold opG
      go_simp
      first | exact resG_eq_mk _ _ _ | rfl
    simp only [Act.put, List.setIfInBounds_toArray, List.set_cons_zero, List.set_cons_succ]
    apply wpG_eq
    · intro W hW hs
      have hn1 : ((0 : Int) < (x.seq : Int)) = False := eq_false (by have := H0.out; omega)
      have hn2 : (0 < x.seq) = False := eq_false (by have := H0.out; omega)
      unfold opG
      go_simp
      first | exact resG_eq_mk _ _ _ | rfl
    simp only [Act.put, List.setIfInBounds_toArray, List.set_cons_zero, List.set_cons_succ]
    apply wpG_eq
    · intro W hW hs
      have hn1 : ((0 : Int) < (x.seq : Int)) = False := eq_false (by have := H0.out; omega)
      have hn2 : (0 < x.seq) = False := eq_false (by have := H0.out; omega)
      obtain ⟨t0, t1, t4⟩ := CW.out _ hW
      unfold opG
      go_simp
      first | exact resG_eq_mk _ _ _ | rfl
    simp only [Act.put, List.setIfInBounds_toArray, List.set_cons_zero, List.set_cons_succ]
    apply wpG_eq
    · intro W hW hs
      have hn1 : ((0 : Int) < (x.seq : Int)) = False := eq_false (by have := H0.out; omega)
      have hn2 : (0 < x.seq) = False := eq_false (by have := H0.out; omega)
      unfold opG
      go_simp
      first | exact resG_eq_mk _ _ _ | rfl
    simp only [Act.put, List.setIfInBounds_toArray, List.set_cons_zero, List.set_cons_succ]
    apply wpG_eq
    · intro W hW hs
      have hn1 : ((0 : Int) < (x.seq : Int)) = False := eq_false (by have := H0.out; omega)
      have hn2 : (0 < x.seq) = False := eq_false (by have := H0.out; omega)
      unfold opG
      go_simp
      first | exact resG_eq_mk _ _ _ | rfl
    simp only [Act.put, List.setIfInBounds_toArray, List.set_cons_zero, List.set_cons_succ]
    apply wpG_eq
    · intro W hW hs
      have hn1 : ((0 : Int) < (x.seq : Int)) = False := eq_false (by have := H0.out; omega)
      have hn2 : (0 < x.seq) = False := eq_false (by have := H0.out; omega)
      unfold opG
      go_simp
      first | exact resG_eq_mk _ _ _ | rfl
    simp only [Act.put, List.setIfInBounds_toArray, List.set_cons_zero, List.set_cons_succ]
    apply wpG_eq
    · intro W hW hs
      have hn1 : ((0 : Int) < (x.seq : Int)) = False := eq_false (by have := H0.out; omega)
      have hn2 : (0 < x.seq) = False := eq_false (by have := H0.out; omega)
      unfold opG
      go_simp
      first | exact resG_eq_mk _ _ _ | rfl
    simp only [Act.put, List.setIfInBounds_toArray, List.set_cons_zero, List.set_cons_succ]
    apply wpG_eq
    · intro W hW hs
      have hn1 : ((0 : Int) < (x.seq : Int)) = False := eq_false (by have := H0.out; omega)
      have hn2 : (0 < x.seq) = False := eq_false (by have := H0.out; omega)
      obtain ⟨t0, t1, t4⟩ := CW.out _ hW
      unfold opG
      go_simp
      first | exact resG_eq_mk _ _ _ | rfl
    simp only [Act.put, List.setIfInBounds_toArray, List.set_cons_zero, List.set_cons_succ]
    apply wpG_eq
    · intro W hW hs
      have hn1 : ((0 : Int) < (x.seq : Int)) = False := eq_false (by have := H0.out; omega)
      have hn2 : (0 < x.seq) = False := eq_false (by have := H0.out; omega)
      unfold opG
      go_simp
      first | exact resG_eq_mk _ _ _ | rfl
    simp only [Act.put, List.setIfInBounds_toArray, List.set_cons_zero, List.set_cons_succ]
    apply wpG_eq
    · intro W hW hs
      have hn1 : ((0 : Int) < (x.seq : Int)) = False := eq_false (by have := H0.out; omega)
      have hn2 : (0 < x.seq) = False := eq_false (by have := H0.out; omega)
      unfold opG
      go_simp
      first | exact resG_eq_mk _ _ _ | rfl
    simp only [Act.put, List.setIfInBounds_toArray, List.set_cons_zero, List.set_cons_succ]
    apply wpG_eq
    · intro W hW hs
      have hn1 : ((0 : Int) < (x.seq : Int)) = False := eq_false (by have := H0.out; omega)
      have hn2 : (0 < x.seq) = False := eq_false (by have := H0.out; omega)
      unfold opG
      go_simp
      first | exact resG_eq_mk _ _ _ | rfl
    simp only [Act.put, List.setIfInBounds_toArray, List.set_cons_zero, List.set_cons_succ]
    apply wpG_eq
    · intro W hW hs
      have hn1 : ((0 : Int) < (x.seq : Int)) = False := eq_false (by have := H0.out; omega)
      have hn2 : (0 < x.seq) = False := eq_false (by have := H0.out; omega)
      obtain ⟨t0, t1, t4⟩ := CW.out _ hW
      unfold opG
      go_simp
      first | exact resG_eq_mk _ _ _ | rfl
    simp only [Act.put, List.setIfInBounds_toArray, List.set_cons_zero, List.set_cons_succ]
    apply wpG_eq
    · intro W hW hs
      have hn1 : ((0 : Int) < (x.seq : Int)) = False := eq_false (by have := H0.out; omega)
      have hn2 : (0 < x.seq) = False := eq_false (by have := H0.out; omega)
      unfold opG
      go_simp
      first | exact resG_eq_mk _ _ _ | rfl
    simp only [Act.put, List.setIfInBounds_toArray, List.set_cons_zero, List.set_cons_succ]
    apply wpG_eq
    · intro W hW hs
      have hn1 : ((0 : Int) < (x.seq : Int)) = False := eq_false (by have := H0.out; omega)
      have hn2 : (0 < x.seq) = False := eq_false (by have := H0.out; omega)
      unfold opG
      go_simp
      first | exact resG_eq_mk _ _ _ | rfl
    simp only [Act.put, List.setIfInBounds_toArray, List.set_cons_zero, List.set_cons_succ]
    apply wpG_eq
    · intro W hW hs
      have hn1 : ((0 : Int) < (x.seq : Int)) = False := eq_false (by have := H0.out; omega)
      have hn2 : (0 < x.seq) = False := eq_false (by have := H0.out; omega)
      unfold opG
      go_simp
      first | exact resG_eq_mk _ _ _ | rfl
    simp only [Act.put, List.setIfInBounds_toArray, List.set_cons_zero, List.set_cons_succ]
    apply wpG_eq
    · intro W hW hs
      have hn1 : ((0 : Int) < (x.seq : Int)) = False := eq_false (by have := H0.out; omega)
      have hn2 : (0 < x.seq) = False := eq_false (by have := H0.out; omega)
      unfold opG
      go_simp
      first | exact resG_eq_mk _ _ _ | rfl
    simp only [Act.put, List.setIfInBounds_toArray, List.set_cons_zero, List.set_cons_succ]
    apply wpG_eq
    · intro W hW hs
      have hn1 : ((0 : Int) < (x.seq : Int)) = False := eq_false (by have := H0.out; omega)
      have hn2 : (0 < x.seq) = False := eq_false (by have := H0.out; omega)
      unfold opG
      go_simp
      first | exact resG_eq_mk _ _ _ | rfl
    simp only [Act.put, List.setIfInBounds_toArray, List.set_cons_zero, List.set_cons_succ]
    apply wpG_eq
    · intro W hW hs
      have hn1 : ((0 : Int) < (x.seq : Int)) = False := eq_false (by have := H0.out; omega)
      have hn2 : (0 < x.seq) = False := eq_false (by have := H0.out; omega)
      unfold opG
      go_simp
      first | exact resG_eq_mk _ _ _ | rfl
    simp only [Act.put, List.setIfInBounds_toArray, List.set_cons_zero, List.set_cons_succ]
    apply wpG_eq
    · intro W hW hs
      have hn1 : ((0 : Int) < (x.seq : Int)) = False := eq_false (by have := H0.out; omega)
      have hn2 : (0 < x.seq) = False := eq_false (by have := H0.out; omega)
      obtain ⟨t0, t1, t4⟩ := CW.out _ hW
      unfold opG
      go_simp
      first | exact resG_eq_mk _ _ _ | rfl
    simp only [Act.put, List.setIfInBounds_toArray, List.set_cons_zero, List.set_cons_succ]
    apply wpG_eq
    · intro W hW hs
      have hn1 : ((0 : Int) < (x.seq : Int)) = False := eq_false (by have := H0.out; omega)
      have hn2 : (0 < x.seq) = False := eq_false (by have := H0.out; omega)
      unfold opG
      go_simp
      first | exact resG_eq_mk _ _ _ | rfl
    simp only [Act.put, List.setIfInBounds_toArray, List.set_cons_zero, List.set_cons_succ]
    apply wpG_eq
    · intro W hW hs
      have hn1 : ((0 : Int) < (x.seq : Int)) = False := eq_false (by have := H0.out; omega)
      have hn2 : (0 < x.seq) = False := eq_false (by have := H0.out; omega)
      unfold opG
      go_simp
      first | exact resG_eq_mk _ _ _ | rfl
    simp only [Act.put, List.setIfInBounds_toArray, List.set_cons_zero, List.set_cons_succ]
    apply wpG_eq
    · intro W hW hs
      have hn1 : ((0 : Int) < (x.seq : Int)) = False := eq_false (by have := H0.out; omega)
      have hn2 : (0 < x.seq) = False := eq_false (by have := H0.out; omega)
      unfold opG
      go_simp
      first | exact resG_eq_mk _ _ _ | rfl
    simp only [Act.put, List.setIfInBounds_toArray, List.set_cons_zero, List.set_cons_succ]
    apply wpG_eq
    · intro W hW hs
      have hn1 : ((0 : Int) < (x.seq : Int)) = False := eq_false (by have := H0.out; omega)
      have hn2 : (0 < x.seq) = False := eq_false (by have := H0.out; omega)
      unfold opG
      go_simp
      first | exact resG_eq_mk _ _ _ | rfl
    simp only [Act.put, List.setIfInBounds_toArray, List.set_cons_zero, List.set_cons_succ]
    apply wpG_nil
    intro W9 hW9 hsAll
    have G9 := Gr.trans HG1.out (Gr.trans ((Gr.refl w1).drew) hW9)
    clear hsAll
    go_wp2
    go_ret
    exact ⟨KEY.out _ (by rw [HR.out]), G9⟩
  have hov : o < v.length := by have := HO.out; omega
  have hot : x.origin.toNat = o := by rw [HO.out]; rfl
  have HOT := Lib.hid hot
  clear hot
  have hvv : ∃ B oo, av = some ⟨B, oo, none⟩ ∧ ∀ W, Gr w1.drew W → W.cell? ⟨B, oo + x.origin.toNat, none⟩ = some (.int .u64 ((v.getD o 0 : Nat) : Int)) := by
    rw [HOT.out]
    obtain ⟨a', c', e, _, hc⟩ := HV.out
    injection e with e1 e2 e3
    subst e1
    rcases hc with hc | ⟨B, oo, rfl, hB, hc⟩
    · have := congrArg List.length hc; rw [nums_length] at this; have h9 : v.length = 0 := this; omega
    · refine ⟨B, oo, rfl, fun W hW => ?_⟩
      rw [(Gr.trans HG1.out (Gr.trans ((Gr.refl w1).drew) hW)).cell (p := ⟨B, oo + o, none⟩) hB, hc o (by rw [nums_length]; exact hov)]
      simp [nums, num64, hov]
  obtain ⟨B, oo, rfl, cv2⟩ := hvv
  have CV := Lib.hid cv2
  clear cv2 HV
  obtain ⟨c0, hc0⟩ : ∃ c0, c0 = v.getD o 0 := ⟨_, rfl⟩
  rw [← hc0] at CV
  have HC0 := Lib.hid hc0
  clear hc0
  have hsub : IntKind.u64.wrap ((x.seq : Int) - 1) = ((x.seq - 1 : Nat) : Int) := by simp [IntKind.wrap, IntKind.bits, IntKind.signed]; omega
  have hsub2 : ((x.seq : Int) - 1) % 18446744073709551616 = ((x.seq - 1 : Nat) : Int) := by omega
  have i1 : (0 : Int) ≤ x.origin := by omega
  have i2 : x.origin < (v.length : Int) := by omega
  have i3 : 0 < x.seq := by omega
  have i4 : (0 : Int) < (x.seq : Int) := by omega
  by_cases hq : x.seq - 1 = c0
  · have hr : readyV x v = leqV x.stamp v := by
      unfold readyV
      rw [decide_eq_true i1, decide_eq_true i2, decide_eq_true i3, HOT.out, ← HC0.out, decide_eq_true hq]; simp
    have HR := Lib.hid hr
    have hq1 : ((x.seq - 1 : Nat) : Int) = (c0 : Int) := by omega
    have hq2 : (((x.seq : Int) - 1) % 18446744073709551616 == (c0 : Int)) = true := by rw [beq_iff_eq]; omega
    clear hr
    go_enter Try.func14, Try.ntmps14
    go_wp2_with fail
    rw [← HW1.out]
    apply wp_region_draw_grow (.eq _ :: .eq _ :: .eq _ :: .eq _ :: .eq _ :: .eq _ :: .eq _ :: .eq _ :: .eq _ :: .eq _ :: .eq _ :: .eq _ :: .eq _ :: .eq _ :: .eq _ :: .eq _ :: .eq _ :: .eq _ :: .eq _ :: .eq _ :: .eq _ :: .eq _ :: .eq _ :: .eq _ :: .eq _ :: .eq _ :: .eq _ :: .eq _ :: .eq _ :: .eq _ :: .eq _ :: .eq _ :: .eq _ :: []) (by kernel_rfl) (by kernel_rfl) trivial
    apply wpG_eq
    · intro W hW hs
      unfold opG
      go_simp
      first | exact resG_eq_mk _ _ _ | rfl
    simp only [Act.put, List.setIfInBounds_toArray, List.set_cons_zero, List.set_cons_succ]
    apply wpG_eq
    · intro W hW hs
      obtain ⟨t0, t1, t4⟩ := CW.out _ hW
      unfold opG
      go_simp
      first | exact resG_eq_mk _ _ _ | rfl
    simp only [Act.put, List.setIfInBounds_toArray, List.set_cons_zero, List.set_cons_succ]
    apply wpG_eq
    · intro W hW hs
      unfold opG
      go_simp
      first | exact resG_eq_mk _ _ _ | rfl
    simp only [Act.put, List.setIfInBounds_toArray, List.set_cons_zero, List.set_cons_succ]
    apply wpG_eq
    · intro W hW hs
      unfold opG
      go_simp
      first | exact resG_eq_mk _ _ _ | rfl
    simp only [Act.put, List.setIfInBounds_toArray, List.set_cons_zero, List.set_cons_succ]
    apply wpG_eq
    · intro W hW hs
      unfold opG
      go_simp
      first | exact resG_eq_mk _ _ _ | rfl
    simp only [Act.put, List.setIfInBounds_toArray, List.set_cons_zero, List.set_cons_succ]
    apply wpG_eq
    · intro W hW hs
      obtain ⟨t0, t1, t4⟩ := CW.out _ hW
      unfold opG
      go_simp
      first | exact resG_eq_mk _ _ _ | rfl
    simp only [Act.put, List.setIfInBounds_toArray, List.set_cons_zero, List.set_cons_succ]
    apply wpG_eq
    · intro W hW hs
      unfold opG
      go_simp
      first | exact resG_eq_mk _ _ _ | rfl
    simp only [Act.put, List.setIfInBounds_toArray, List.set_cons_zero, List.set_cons_succ]
    apply wpG_eq
    · intro W hW hs
      unfold opG
      go_simp
      first | exact resG_eq_mk _ _ _ | rfl
    simp only [Act.put, List.setIfInBounds_toArray, List.set_cons_zero, List.set_cons_succ]
    apply wpG_eq
    · intro W hW hs
      unfold opG
      go_simp
      first | exact resG_eq_mk _ _ _ | rfl
    simp only [Act.put, List.setIfInBounds_toArray, List.set_cons_zero, List.set_cons_succ]
    apply wpG_eq
    · intro W hW hs
      unfold opG
      go_simp
      first | exact resG_eq_mk _ _ _ | rfl
    simp only [Act.put, List.setIfInBounds_toArray, List.set_cons_zero, List.set_cons_succ]
    apply wpG_eq
    · intro W hW hs
      unfold opG
      go_simp
      first | exact resG_eq_mk _ _ _ | rfl
    simp only [Act.put, List.setIfInBounds_toArray, List.set_cons_zero, List.set_cons_succ]
    apply wpG_eq
    · intro W hW hs
      unfold opG
      go_simp
      first | exact resG_eq_mk _ _ _ | rfl
    simp only [Act.put, List.setIfInBounds_toArray, List.set_cons_zero, List.set_cons_succ]
    apply wpG_eq
    · intro W hW hs
      obtain ⟨t0, t1, t4⟩ := CW.out _ hW
      unfold opG
      go_simp
      first | exact resG_eq_mk _ _ _ | rfl
    simp only [Act.put, List.setIfInBounds_toArray, List.set_cons_zero, List.set_cons_succ]
    apply wpG_eq
    · intro W hW hs
      unfold opG
      go_simp
      first | exact resG_eq_mk _ _ _ | rfl
    simp only [Act.put, List.setIfInBounds_toArray, List.set_cons_zero, List.set_cons_succ]
    apply wpG_eq
    · intro W hW hs
      unfold opG
      go_simp
      first | exact resG_eq_mk _ _ _ | rfl
    simp only [Act.put, List.setIfInBounds_toArray, List.set_cons_zero, List.set_cons_succ]
    apply wpG_eq
    · intro W hW hs
      unfold opG
      go_simp
      first | exact resG_eq_mk _ _ _ | rfl
    simp only [Act.put, List.setIfInBounds_toArray, List.set_cons_zero, List.set_cons_succ]
    apply wpG_eq
    · intro W hW hs
      unfold opG
      go_simp
      first | exact resG_eq_mk _ _ _ | rfl
    simp only [Act.put, List.setIfInBounds_toArray, List.set_cons_zero, List.set_cons_succ]
    apply wpG_eq
    · intro W hW hs
      obtain ⟨t0, t1, t4⟩ := CW.out _ hW
      unfold opG
      go_simp
      first | exact resG_eq_mk _ _ _ | rfl
    simp only [Act.put, List.setIfInBounds_toArray, List.set_cons_zero, List.set_cons_succ]
    apply wpG_eq
    · intro W hW hs
      unfold opG
      go_simp
      first | exact resG_eq_mk _ _ _ | rfl
    simp only [Act.put, List.setIfInBounds_toArray, List.set_cons_zero, List.set_cons_succ]
    apply wpG_eq
    · intro W hW hs
      unfold opG
      go_simp
      first | exact resG_eq_mk _ _ _ | rfl
    simp only [Act.put, List.setIfInBounds_toArray, List.set_cons_zero, List.set_cons_succ]
    apply wpG_eq
    · intro W hW hs
      unfold opG
      go_simp
      first | exact resG_eq_mk _ _ _ | rfl
    simp only [Act.put, List.setIfInBounds_toArray, List.set_cons_zero, List.set_cons_succ]
    apply wpG_eq
    · intro W hW hs
      obtain ⟨t0, t1, t4⟩ := CW.out _ hW
      unfold opG
      go_simp
      first | exact resG_eq_mk _ _ _ | rfl
    simp only [Act.put, List.setIfInBounds_toArray, List.set_cons_zero, List.set_cons_succ]
    apply wpG_eq
    · intro W hW hs
      unfold opG
      go_simp
      first | exact resG_eq_mk _ _ _ | rfl
    simp only [Act.put, List.setIfInBounds_toArray, List.set_cons_zero, List.set_cons_succ]
    apply wpG_eq
    · intro W hW hs
      have h1 := CV.out _ hW
      unfold opG
      go_simp
      first | exact resG_eq_mk _ _ _ | rfl
    simp only [Act.put, List.setIfInBounds_toArray, List.set_cons_zero, List.set_cons_succ]
    apply wpG_eq
    · intro W hW hs
      unfold opG
      go_simp
      first | exact resG_eq_mk _ _ _ | rfl
    simp only [Act.put, List.setIfInBounds_toArray, List.set_cons_zero, List.set_cons_succ]
    apply wpG_eq
    · intro W hW hs
      unfold opG
      go_simp
      first | exact resG_eq_mk _ _ _ | rfl
    simp only [Act.put, List.setIfInBounds_toArray, List.set_cons_zero, List.set_cons_succ]
    apply wpG_eq
    · intro W hW hs
      unfold opG
      go_simp
      first | exact resG_eq_mk _ _ _ | rfl
    simp only [Act.put, List.setIfInBounds_toArray, List.set_cons_zero, List.set_cons_succ]
    apply wpG_eq
    · intro W hW hs
      unfold opG
      go_simp
      first | exact resG_eq_mk _ _ _ | rfl
    simp only [Act.put, List.setIfInBounds_toArray, List.set_cons_zero, List.set_cons_succ]
    apply wpG_eq
    · intro W hW hs
      obtain ⟨t0, t1, t4⟩ := CW.out _ hW
      unfold opG
      go_simp
      first | exact resG_eq_mk _ _ _ | rfl
    simp only [Act.put, List.setIfInBounds_toArray, List.set_cons_zero, List.set_cons_succ]
    apply wpG_eq
    · intro W hW hs
      unfold opG
      go_simp
      first | exact resG_eq_mk _ _ _ | rfl
    simp only [Act.put, List.setIfInBounds_toArray, List.set_cons_zero, List.set_cons_succ]
    apply wpG_eq
    · intro W hW hs
      unfold opG
      go_simp
      refine resG_call ((leq_any _ _ _ x.stamp v (SW.out W hW).1 (SW.out W hW).2 (by omega) (by omega)).mono ?_)
      rintro e W2 ⟨rfl, hg⟩
      exact ⟨_, rfl, hg, rfl⟩
    simp only [Act.put, List.setIfInBounds_toArray, List.set_cons_zero, List.set_cons_succ]
    apply wpG_eq
    · intro W hW hs
      unfold opG
      go_simp
      first | exact resG_eq_mk _ _ _ | rfl
    simp only [Act.put, List.setIfInBounds_toArray, List.set_cons_zero, List.set_cons_succ]
    apply wpG_eq
    · intro W hW hs
      unfold opG
      go_simp
      first | exact resG_eq_mk _ _ _ | rfl
    simp only [Act.put, List.setIfInBounds_toArray, List.set_cons_zero, List.set_cons_succ]
    apply wpG_nil
    intro W9 hW9 hsAll
    have G9 := Gr.trans HG1.out (Gr.trans ((Gr.refl w1).drew) hW9)
    clear hsAll
    go_wp2
    go_ret
    exact ⟨KEY.out _ (by rw [HR.out]), G9⟩
  · have hr : readyV x v = false := by
      unfold readyV
      rw [HOT.out, ← HC0.out, decide_eq_false hq]; simp
    have HR := Lib.hid hr
    have hq1 : ¬ ((x.seq - 1 : Nat) : Int) = (c0 : Int) := by omega
    have hq2 : (((x.seq : Int) - 1) % 18446744073709551616 == (c0 : Int)) = false := by rw [beq_eq_false_iff_ne]; omega
    clear hr
    go_enter Try.func14, Try.ntmps14
    go_wp2_with fail
    rw [← HW1.out]
    apply wp_region_draw_grow (.eq _ :: .eq _ :: .eq _ :: .eq _ :: .eq _ :: .eq _ :: .eq _ :: .eq _ :: .eq _ :: .eq _ :: .eq _ :: .eq _ :: .eq _ :: .eq _ :: .eq _ :: .eq _ :: .eq _ :: .eq _ :: .eq _ :: .eq _ :: .eq _ :: .eq _ :: .eq _ :: .eq _ :: .eq _ :: .eq _ :: .eq _ :: .eq _ :: .eq _ :: .eq _ :: .eq _ :: .eq _ :: .eq _ :: []) (by kernel_rfl) (by kernel_rfl) trivial
    apply wpG_eq
    · intro W hW hs
      unfold opG
      go_simp
      first | exact resG_eq_mk _ _ _ | rfl
    simp only [Act.put, List.setIfInBounds_toArray, List.set_cons_zero, List.set_cons_succ]
    apply wpG_eq
    · intro W hW hs
      obtain ⟨t0, t1, t4⟩ := CW.out _ hW
      unfold opG
      go_simp
      first | exact resG_eq_mk _ _ _ | rfl
    simp only [Act.put, List.setIfInBounds_toArray, List.set_cons_zero, List.set_cons_succ]
    apply wpG_eq
    · intro W hW hs
      unfold opG
      go_simp
      first | exact resG_eq_mk _ _ _ | rfl
    simp only [Act.put, List.setIfInBounds_toArray, List.set_cons_zero, List.set_cons_succ]
    apply wpG_eq
    · intro W hW hs
      unfold opG
      go_simp
      first | exact resG_eq_mk _ _ _ | rfl
    simp only [Act.put, List.setIfInBounds_toArray, List.set_cons_zero, List.set_cons_succ]
    apply wpG_eq
    · intro W hW hs
      unfold opG
      go_simp
      first | exact resG_eq_mk _ _ _ | rfl
    simp only [Act.put, List.setIfInBounds_toArray, List.set_cons_zero, List.set_cons_succ]
    apply wpG_eq
    · intro W hW hs
      obtain ⟨t0, t1, t4⟩ := CW.out _ hW
      unfold opG
      go_simp
      first | exact resG_eq_mk _ _ _ | rfl
    simp only [Act.put, List.setIfInBounds_toArray, List.set_cons_zero, List.set_cons_succ]
    apply wpG_eq
    · intro W hW hs
      unfold opG
      go_simp
      first | exact resG_eq_mk _ _ _ | rfl
    simp only [Act.put, List.setIfInBounds_toArray, List.set_cons_zero, List.set_cons_succ]
    apply wpG_eq
    · intro W hW hs
      unfold opG
      go_simp
      first | exact resG_eq_mk _ _ _ | rfl
    simp only [Act.put, List.setIfInBounds_toArray, List.set_cons_zero, List.set_cons_succ]
    apply wpG_eq
    · intro W hW hs
      unfold opG
      go_simp
      first | exact resG_eq_mk _ _ _ | rfl
    simp only [Act.put, List.setIfInBounds_toArray, List.set_cons_zero, List.set_cons_succ]
    apply wpG_eq
    · intro W hW hs
      unfold opG
      go_simp
      first | exact resG_eq_mk _ _ _ | rfl
    simp only [Act.put, List.setIfInBounds_toArray, List.set_cons_zero, List.set_cons_succ]
    apply wpG_eq
    · intro W hW hs
      unfold opG
      go_simp
      first | exact resG_eq_mk _ _ _ | rfl
    simp only [Act.put, List.setIfInBounds_toArray, List.set_cons_zero, List.set_cons_succ]
    apply wpG_eq
    · intro W hW hs
      unfold opG
      go_simp
      first | exact resG_eq_mk _ _ _ | rfl
    simp only [Act.put, List.setIfInBounds_toArray, List.set_cons_zero, List.set_cons_succ]
    apply wpG_eq
    · intro W hW hs
      obtain ⟨t0, t1, t4⟩ := CW.out _ hW
      unfold opG
      go_simp
      first | exact resG_eq_mk _ _ _ | rfl
    simp only [Act.put, List.setIfInBounds_toArray, List.set_cons_zero, List.set_cons_succ]
    apply wpG_eq
    · intro W hW hs
      unfold opG
      go_simp
      first | exact resG_eq_mk _ _ _ | rfl
    simp only [Act.put, List.setIfInBounds_toArray, List.set_cons_zero, List.set_cons_succ]
    apply wpG_eq
    · intro W hW hs
      unfold opG
      go_simp
      first | exact resG_eq_mk _ _ _ | rfl
    simp only [Act.put, List.setIfInBounds_toArray, List.set_cons_zero, List.set_cons_succ]
    apply wpG_eq
    · intro W hW hs
      unfold opG
      go_simp
      first | exact resG_eq_mk _ _ _ | rfl
    simp only [Act.put, List.setIfInBounds_toArray, List.set_cons_zero, List.set_cons_succ]
    apply wpG_eq
    · intro W hW hs
      unfold opG
      go_simp
      first | exact resG_eq_mk _ _ _ | rfl
    simp only [Act.put, List.setIfInBounds_toArray, List.set_cons_zero, List.set_cons_succ]
    apply wpG_eq
    · intro W hW hs
      obtain ⟨t0, t1, t4⟩ := CW.out _ hW
      unfold opG
      go_simp
      first | exact resG_eq_mk _ _ _ | rfl
    simp only [Act.put, List.setIfInBounds_toArray, List.set_cons_zero, List.set_cons_succ]
    apply wpG_eq
    · intro W hW hs
      unfold opG
      go_simp
      first | exact resG_eq_mk _ _ _ | rfl
    simp only [Act.put, List.setIfInBounds_toArray, List.set_cons_zero, List.set_cons_succ]
    apply wpG_eq
    · intro W hW hs
      unfold opG
      go_simp
      first | exact resG_eq_mk _ _ _ | rfl
    simp only [Act.put, List.setIfInBounds_toArray, List.set_cons_zero, List.set_cons_succ]
    apply wpG_eq
    · intro W hW hs
      unfold opG
      go_simp
      first | exact resG_eq_mk _ _ _ | rfl
    simp only [Act.put, List.setIfInBounds_toArray, List.set_cons_zero, List.set_cons_succ]
    apply wpG_eq
    · intro W hW hs
      obtain ⟨t0, t1, t4⟩ := CW.out _ hW
      unfold opG
      go_simp
      first | exact resG_eq_mk _ _ _ | rfl
    simp only [Act.put, List.setIfInBounds_toArray, List.set_cons_zero, List.set_cons_succ]
    apply wpG_eq
    · intro W hW hs
      unfold opG
      go_simp
      first | exact resG_eq_mk _ _ _ | rfl
    simp only [Act.put, List.setIfInBounds_toArray, List.set_cons_zero, List.set_cons_succ]
    apply wpG_eq
    · intro W hW hs
      have h1 := CV.out _ hW
      unfold opG
      go_simp
      first | exact resG_eq_mk _ _ _ | rfl
    simp only [Act.put, List.setIfInBounds_toArray, List.set_cons_zero, List.set_cons_succ]
    apply wpG_eq
    · intro W hW hs
      unfold opG
      go_simp
      first | exact resG_eq_mk _ _ _ | rfl
    simp only [Act.put, List.setIfInBounds_toArray, List.set_cons_zero, List.set_cons_succ]
    apply wpG_eq
    · intro W hW hs
      unfold opG
      go_simp
      first | exact resG_eq_mk _ _ _ | rfl
    simp only [Act.put, List.setIfInBounds_toArray, List.set_cons_zero, List.set_cons_succ]
    apply wpG_eq
    · intro W hW hs
      unfold opG
      go_simp
      first | exact resG_eq_mk _ _ _ | rfl
    simp only [Act.put, List.setIfInBounds_toArray, List.set_cons_zero, List.set_cons_succ]
    apply wpG_eq
    · intro W hW hs
      unfold opG
      go_simp
      first | exact resG_eq_mk _ _ _ | rfl
    simp only [Act.put, List.setIfInBounds_toArray, List.set_cons_zero, List.set_cons_succ]
    apply wpG_eq
    · intro W hW hs
      obtain ⟨t0, t1, t4⟩ := CW.out _ hW
      unfold opG
      go_simp
      first | exact resG_eq_mk _ _ _ | rfl
    simp only [Act.put, List.setIfInBounds_toArray, List.set_cons_zero, List.set_cons_succ]
    apply wpG_eq
    · intro W hW hs
      unfold opG
      go_simp
      first | exact resG_eq_mk _ _ _ | rfl
    simp only [Act.put, List.setIfInBounds_toArray, List.set_cons_zero, List.set_cons_succ]
    apply wpG_eq
    · intro W hW hs
      unfold opG
      go_simp
      first | exact resG_eq_mk _ _ _ | rfl
    simp only [Act.put, List.setIfInBounds_toArray, List.set_cons_zero, List.set_cons_succ]
    apply wpG_eq
    · intro W hW hs
      unfold opG
      go_simp
      first | exact resG_eq_mk _ _ _ | rfl
    simp only [Act.put, List.setIfInBounds_toArray, List.set_cons_zero, List.set_cons_succ]
    apply wpG_eq
    · intro W hW hs
      unfold opG
      go_simp
      first | exact resG_eq_mk _ _ _ | rfl
    simp only [Act.put, List.setIfInBounds_toArray, List.set_cons_zero, List.set_cons_succ]
    apply wpG_nil
    intro W9 hW9 hsAll
    have G9 := Gr.trans HG1.out (Gr.trans ((Gr.refl w1).drew) hW9)
    clear hsAll
    go_wp2
    go_ret
    exact ⟨KEY.out _ (by rw [HR.out]), G9⟩
end Go.Proofs.Ytpdninnnpoiblaa
