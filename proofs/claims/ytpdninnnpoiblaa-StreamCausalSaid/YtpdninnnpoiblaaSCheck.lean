/-
  stream.Check: may an item be?
-/
import Derived.Test.YtpdninnnpoiblaaSReady
import Derived.Deep.DeepCutAuto
set_option linter.unusedVariables false
namespace Go.Proofs.Ytpdninnnpoiblaa
open Go.RowKit

def writeV (x : ItemD) (regions : Int) : Bool := decide (0 ≤ x.region) && decide (x.region < regions) && decide (0 < x.epoch) && decide (x.closed = 0) && decide (0 < x.effs.length)
def closesV (x : ItemD) : Bool := decide (x.region = -1) && decide (x.epoch = 0) && decide (0 < x.closed) && decide (x.effs.length = 0)
def badV (x : ItemD) (sites regions : Int) : Bool := decide (x.origin < 0) || decide (sites ≤ x.origin) || decide (x.seq < 1) || !decide ((x.stamp.length : Int) = sites) || !decide (x.stamp.getD x.origin.toNat 0 = x.seq - 1) || (writeV x regions == closesV x)
def checkV (x : ItemD) (sites regions : Int) : Int := if badV x sites regions then 1 else 0

set_option maxHeartbeats 20000000 in
theorem check_any (w : World) (x : ItemD) (sv ev : Value) (sites regions : Int) (hx : ItemIs w x sv ev) (hok : ItemOk x) (hn : NumOk x) (hsi : -9223372036854775808 ≤ sites ∧ sites ≤ 9223372036854775807) :
    Calls Try.prog 12 #[.agg (itemCells x sv ev), .int .i64 sites, .int .i64 regions] w fun e w' => e = .returned (.int .i64 (checkV x sites regions)) ∧ Gr w w' := by
  obtain ⟨hs, he⟩ := hx
  have HV := Lib.hid hs
  obtain ⟨as_, cs, rfl⟩ := hs.oneCells
  obtain ⟨ae, ce, rfl⟩ := he.shape
  simp only [nums_length] at *
  obtain ⟨w1, hw1⟩ : ∃ w1, w1 = w.alloc (.cells (itemCells x (.slice as_ x.stamp.length cs) (.slice ae x.effs.length ce)) 33) := ⟨_, rfl⟩
  have g1 : Gr w w1 := by rw [hw1]; exact (Gr.refl w).alloc _
  have b1 : ItemAt w1 w.heap.size (itemCells x (.slice as_ x.stamp.length cs) (.slice ae x.effs.length ce)) := by unfold ItemAt; rw [hw1]; exact heap_alloc_new w _
  have hlt := b1.lt
  have cw : ∀ W, Gr w1.drew W → W.cell? ⟨w.heap.size, 0, none⟩ = some (.int .i64 x.origin) ∧ W.cell? ⟨w.heap.size, 1, none⟩ = some (.int .u64 (x.seq : Int)) ∧ W.cell? ⟨w.heap.size, 4, none⟩ = some (.slice as_ x.stamp.length cs) := fun W hW => by
    have hg : Gr w1 W := Gr.trans ((Gr.refl w1).drew) hW
    have hb := b1.block (hg.block _ hlt)
    exact ⟨hb.cell 0, hb.cell 1, hb.cell 4⟩
  have key : ∀ b : Bool, badV x sites regions = b → Ending.returned (.int .i64 (if b then 1 else 0)) = .returned (.int .i64 (checkV x sites regions)) := fun b h => by rw [← h]; rfl
  have KEY := Lib.hid key
  have CW := Lib.hid cw
  have HW1 := Lib.hid hw1
  have HG1 := Lib.hid g1
  obtain ⟨l1, l2⟩ := hok
  obtain ⟨n1, n2, n3⟩ := hn
  have d2 : w1.cell? ⟨w.heap.size, 2, none⟩ = some (.int .i64 x.region) := b1.cell 2
  have d3 : w1.cell? ⟨w.heap.size, 3, none⟩ = some (.int .u64 (x.epoch : Int)) := b1.cell 3
  have d5 : w1.cell? ⟨w.heap.size, 5, none⟩ = some (.slice ae x.effs.length ce) := b1.cell 5
  have d6 : w1.cell? ⟨w.heap.size, 6, none⟩ = some (.int .u32 (x.closed : Int)) := b1.cell 6
  clear key cw hw1 g1 b1 hs he
  unfold itemCells at HW1 ⊢
  go_enter Try.func12, Try.ntmps12
  go_upto_region 1 with fail
  rw [← HW1.out]
  generalize Value.agg #[Value.int .i64 x.origin, .int .u64 (x.seq : Int), .int .i64 x.region, .int .u64 (x.epoch : Int), .slice as_ x.stamp.length cs, .slice ae x.effs.length ce, .int .u32 (x.closed : Int)] = pv
  go_cut [7] from 9 to 33 (fun s7 wx => s7 = .bool (writeV x regions) ∧ wx = w1)
  case first =>
    go_wp2_with fail
    all_goals (go_meet; exact ⟨congrArg Value.bool (by rw [Bool.eq_iff_iff]; unfold writeV; simp only [Bool.and_eq_true, decide_eq_true_eq, Bool.false_eq_true, false_iff]; omega), rfl⟩)
  case rest =>
  obtain ⟨rfl, hw9⟩ := hcut
  rw [hw9]
  clear hw9
  go_upto_region 2 with fail
  go_cut [8] from 34 to 52 (fun s8 wx => s8 = .bool (closesV x) ∧ wx = w1)
  case first =>
    go_wp2_with fail
    all_goals (go_meet; exact ⟨congrArg Value.bool (by rw [Bool.eq_iff_iff]; unfold closesV; simp only [Bool.and_eq_true, decide_eq_true_eq, Bool.false_eq_true, false_iff, beq_iff_eq]; omega), rfl⟩)
  case rest =>
  obtain ⟨rfl, hw9⟩ := hcut
  rw [hw9]
  clear hw9
  obtain ⟨bw, hbw⟩ : ∃ bw, bw = writeV x regions := ⟨_, rfl⟩
  obtain ⟨bc, hbc⟩ : ∃ bc, bc = closesV x := ⟨_, rfl⟩
  rw [← hbw, ← hbc]
  have HBW := Lib.hid hbw
  have HBC := Lib.hid hbc
  clear hbw hbc d2 d3 d5 d6
  by_cases h1 : x.origin < 0
  · have H1 := Lib.hid h1
    clear h1
    have FX := Lib.hid (show (x.origin < 0) = True from eq_true (by exact H1.out))
    have hr : badV x sites regions = true := by
      unfold badV; rw [decide_eq_true H1.out]; simp
    have HR := Lib.hid hr
    clear hr
    go_upto_region 3 with fail
    apply wp_region_draw_grow (.eq _ :: .eq _ :: .eq _ :: .eq _ :: .eq _ :: .eq _ :: .eq _ :: .eq _ :: .eq _ :: .eq _ :: .eq _ :: .eq _ :: .eq _ :: .eq _ :: .eq _ :: .eq _ :: .eq _ :: .eq _ :: .eq _ :: .eq _ :: .eq _ :: .eq _ :: .eq _ :: .eq _ :: .eq _ :: .eq _ :: .eq _ :: .eq _ :: .eq _ :: .eq _ :: .eq _ :: .eq _ :: .eq _ :: .eq _ :: .eq _ :: .eq _ :: .eq _ :: .eq _ :: []) (by kernel_rfl) (by kernel_rfl) trivial
    apply wpG_eq
    · intro W hW hs
      have f0 := FX.out
      unfold opG
      go_simp
      first | exact resG_eq_mk _ _ _ | rfl
    simp only [Act.put, List.setIfInBounds_toArray, List.set_cons_zero, List.set_cons_succ]
    apply wpG_eq
    · intro W hW hs
      have f0 := FX.out
      obtain ⟨t0, t1, t4⟩ := CW.out _ hW
      unfold opG
      go_simp
      first | exact resG_eq_mk _ _ _ | rfl
    simp only [Act.put, List.setIfInBounds_toArray, List.set_cons_zero, List.set_cons_succ]
    apply wpG_eq
    · intro W hW hs
      have f0 := FX.out
      unfold opG
      go_simp
      first | exact resG_eq_mk _ _ _ | rfl
    simp only [Act.put, List.setIfInBounds_toArray, List.set_cons_zero, List.set_cons_succ]
    apply wpG_eq
    · intro W hW hs
      have f0 := FX.out
      unfold opG
      go_simp
      first | exact resG_eq_mk _ _ _ | rfl
    simp only [Act.put, List.setIfInBounds_toArray, List.set_cons_zero, List.set_cons_succ]
    apply wpG_eq
    · intro W hW hs
      have f0 := FX.out
      unfold opG
      go_simp
      first | exact resG_eq_mk _ _ _ | rfl
    simp only [Act.put, List.setIfInBounds_toArray, List.set_cons_zero, List.set_cons_succ]
    apply wpG_eq
    · intro W hW hs
      have f0 := FX.out
      obtain ⟨t0, t1, t4⟩ := CW.out _ hW
      unfold opG
      go_simp
      first | exact resG_eq_mk _ _ _ | rfl
    simp only [Act.put, List.setIfInBounds_toArray, List.set_cons_zero, List.set_cons_succ]
    apply wpG_eq
    · intro W hW hs
      have f0 := FX.out
      unfold opG
      go_simp
      first | exact resG_eq_mk _ _ _ | rfl
    simp only [Act.put, List.setIfInBounds_toArray, List.set_cons_zero, List.set_cons_succ]
    apply wpG_eq
    · intro W hW hs
      have f0 := FX.out
      unfold opG
      go_simp
      first | exact resG_eq_mk _ _ _ | rfl
    simp only [Act.put, List.setIfInBounds_toArray, List.set_cons_zero, List.set_cons_succ]
    apply wpG_eq
    · intro W hW hs
      have f0 := FX.out
      unfold opG
      go_simp
      first | exact resG_eq_mk _ _ _ | rfl
    simp only [Act.put, List.setIfInBounds_toArray, List.set_cons_zero, List.set_cons_succ]
    apply wpG_eq
    · intro W hW hs
      have f0 := FX.out
      unfold opG
      go_simp
      first | exact resG_eq_mk _ _ _ | rfl
    simp only [Act.put, List.setIfInBounds_toArray, List.set_cons_zero, List.set_cons_succ]
    apply wpG_eq
    · intro W hW hs
      have f0 := FX.out
      unfold opG
      go_simp
      first | exact resG_eq_mk _ _ _ | rfl
    simp only [Act.put, List.setIfInBounds_toArray, List.set_cons_zero, List.set_cons_succ]
    apply wpG_eq
    · intro W hW hs
      have f0 := FX.out
      obtain ⟨t0, t1, t4⟩ := CW.out _ hW
      unfold opG
      go_simp
      first | exact resG_eq_mk _ _ _ | rfl
    simp only [Act.put, List.setIfInBounds_toArray, List.set_cons_zero, List.set_cons_succ]
    apply wpG_eq
    · intro W hW hs
      have f0 := FX.out
      unfold opG
      go_simp
      first | exact resG_eq_mk _ _ _ | rfl
    simp only [Act.put, List.setIfInBounds_toArray, List.set_cons_zero, List.set_cons_succ]
    apply wpG_eq
    · intro W hW hs
      have f0 := FX.out
      unfold opG
      go_simp
      first | exact resG_eq_mk _ _ _ | rfl
    simp only [Act.put, List.setIfInBounds_toArray, List.set_cons_zero, List.set_cons_succ]
    apply wpG_eq
    · intro W hW hs
      have f0 := FX.out
      unfold opG
      go_simp
      first | exact resG_eq_mk _ _ _ | rfl
    simp only [Act.put, List.setIfInBounds_toArray, List.set_cons_zero, List.set_cons_succ]
    apply wpG_eq
    · intro W hW hs
      have f0 := FX.out
      unfold opG
      go_simp
      first | exact resG_eq_mk _ _ _ | rfl
    simp only [Act.put, List.setIfInBounds_toArray, List.set_cons_zero, List.set_cons_succ]
    apply wpG_eq
    · intro W hW hs
      have f0 := FX.out
      obtain ⟨t0, t1, t4⟩ := CW.out _ hW
      unfold opG
      go_simp
      first | exact resG_eq_mk _ _ _ | rfl
    simp only [Act.put, List.setIfInBounds_toArray, List.set_cons_zero, List.set_cons_succ]
    apply wpG_eq
    · intro W hW hs
      have f0 := FX.out
      unfold opG
      go_simp
      first | exact resG_eq_mk _ _ _ | rfl
    simp only [Act.put, List.setIfInBounds_toArray, List.set_cons_zero, List.set_cons_succ]
    apply wpG_eq
    · intro W hW hs
      have f0 := FX.out
      unfold opG
      go_simp
      first | exact resG_eq_mk _ _ _ | rfl
    simp only [Act.put, List.setIfInBounds_toArray, List.set_cons_zero, List.set_cons_succ]
    apply wpG_eq
    · intro W hW hs
      have f0 := FX.out
      unfold opG
      go_simp
      first | exact resG_eq_mk _ _ _ | rfl
    simp only [Act.put, List.setIfInBounds_toArray, List.set_cons_zero, List.set_cons_succ]
    apply wpG_eq
    · intro W hW hs
      have f0 := FX.out
      unfold opG
      go_simp
      first | exact resG_eq_mk _ _ _ | rfl
    simp only [Act.put, List.setIfInBounds_toArray, List.set_cons_zero, List.set_cons_succ]
    apply wpG_eq
    · intro W hW hs
      have f0 := FX.out
      unfold opG
      go_simp
      first | exact resG_eq_mk _ _ _ | rfl
    simp only [Act.put, List.setIfInBounds_toArray, List.set_cons_zero, List.set_cons_succ]
    apply wpG_eq
    · intro W hW hs
      have f0 := FX.out
      unfold opG
      go_simp
      first | exact resG_eq_mk _ _ _ | rfl
    simp only [Act.put, List.setIfInBounds_toArray, List.set_cons_zero, List.set_cons_succ]
    apply wpG_eq
    · intro W hW hs
      have f0 := FX.out
      obtain ⟨t0, t1, t4⟩ := CW.out _ hW
      unfold opG
      go_simp
      first | exact resG_eq_mk _ _ _ | rfl
    simp only [Act.put, List.setIfInBounds_toArray, List.set_cons_zero, List.set_cons_succ]
    apply wpG_eq
    · intro W hW hs
      have f0 := FX.out
      unfold opG
      go_simp
      first | exact resG_eq_mk _ _ _ | rfl
    simp only [Act.put, List.setIfInBounds_toArray, List.set_cons_zero, List.set_cons_succ]
    apply wpG_eq
    · intro W hW hs
      have f0 := FX.out
      obtain ⟨t0, t1, t4⟩ := CW.out _ hW
      unfold opG
      go_simp
      first | exact resG_eq_mk _ _ _ | rfl
    simp only [Act.put, List.setIfInBounds_toArray, List.set_cons_zero, List.set_cons_succ]
    apply wpG_eq
    · intro W hW hs
      have f0 := FX.out
      unfold opG
      go_simp
      first | exact resG_eq_mk _ _ _ | rfl
    simp only [Act.put, List.setIfInBounds_toArray, List.set_cons_zero, List.set_cons_succ]
    apply wpG_eq
    · intro W hW hs
      have f0 := FX.out
      unfold opG
      go_simp
      first | exact resG_eq_mk _ _ _ | rfl
    simp only [Act.put, List.setIfInBounds_toArray, List.set_cons_zero, List.set_cons_succ]
    apply wpG_eq
    · intro W hW hs
      have f0 := FX.out
      unfold opG
      go_simp
      first | exact resG_eq_mk _ _ _ | rfl
    simp only [Act.put, List.setIfInBounds_toArray, List.set_cons_zero, List.set_cons_succ]
    apply wpG_eq
    · intro W hW hs
      have f0 := FX.out
      obtain ⟨t0, t1, t4⟩ := CW.out _ hW
      unfold opG
      go_simp
      first | exact resG_eq_mk _ _ _ | rfl
    simp only [Act.put, List.setIfInBounds_toArray, List.set_cons_zero, List.set_cons_succ]
    apply wpG_eq
    · intro W hW hs
      have f0 := FX.out
      unfold opG
      go_simp
      first | exact resG_eq_mk _ _ _ | rfl
    simp only [Act.put, List.setIfInBounds_toArray, List.set_cons_zero, List.set_cons_succ]
    apply wpG_eq
    · intro W hW hs
      have f0 := FX.out
      unfold opG
      go_simp
      first | exact resG_eq_mk _ _ _ | rfl
    simp only [Act.put, List.setIfInBounds_toArray, List.set_cons_zero, List.set_cons_succ]
    apply wpG_eq
    · intro W hW hs
      have f0 := FX.out
      unfold opG
      go_simp
      first | exact resG_eq_mk _ _ _ | rfl
    simp only [Act.put, List.setIfInBounds_toArray, List.set_cons_zero, List.set_cons_succ]
    apply wpG_eq
    · intro W hW hs
      have f0 := FX.out
      unfold opG
      go_simp
      first | exact resG_eq_mk _ _ _ | rfl
    simp only [Act.put, List.setIfInBounds_toArray, List.set_cons_zero, List.set_cons_succ]
    apply wpG_eq
    · intro W hW hs
      have f0 := FX.out
      unfold opG
      go_simp
      first | exact resG_eq_mk _ _ _ | rfl
    simp only [Act.put, List.setIfInBounds_toArray, List.set_cons_zero, List.set_cons_succ]
    apply wpG_eq
    · intro W hW hs
      have f0 := FX.out
      unfold opG
      go_simp
      first | exact resG_eq_mk _ _ _ | rfl
    simp only [Act.put, List.setIfInBounds_toArray, List.set_cons_zero, List.set_cons_succ]
    apply wpG_eq
    · intro W hW hs
      have f0 := FX.out
      unfold opG
      go_simp
      first | exact resG_eq_mk _ _ _ | rfl
    simp only [Act.put, List.setIfInBounds_toArray, List.set_cons_zero, List.set_cons_succ]
    apply wpG_eq
    · intro W hW hs
      have f0 := FX.out
      unfold opG
      go_simp
      first | exact resG_eq_mk _ _ _ | rfl
    simp only [Act.put, List.setIfInBounds_toArray, List.set_cons_zero, List.set_cons_succ]
    apply wpG_nil
    intro W9 hW9 hsAll
    have G9 := Gr.trans HG1.out (Gr.trans ((Gr.refl w1).drew) hW9)
    clear hsAll
    go_wp2
    go_ret
    exact ⟨KEY.out _ HR.out, G9⟩
  have H1 := Lib.hid h1
  clear h1
  by_cases h2 : sites ≤ x.origin
  · have H2 := Lib.hid h2
    clear h2
    have FX := Lib.hid (show ((x.origin < 0) = False) ∧ ((sites ≤ x.origin) = True) from ⟨eq_false (by have := H1.out; omega), eq_true (by exact H2.out)⟩)
    have hr : badV x sites regions = true := by
      unfold badV; rw [decide_eq_true H2.out]; simp
    have HR := Lib.hid hr
    clear hr
    go_upto_region 3 with fail
    apply wp_region_draw_grow (.eq _ :: .eq _ :: .eq _ :: .eq _ :: .eq _ :: .eq _ :: .eq _ :: .eq _ :: .eq _ :: .eq _ :: .eq _ :: .eq _ :: .eq _ :: .eq _ :: .eq _ :: .eq _ :: .eq _ :: .eq _ :: .eq _ :: .eq _ :: .eq _ :: .eq _ :: .eq _ :: .eq _ :: .eq _ :: .eq _ :: .eq _ :: .eq _ :: .eq _ :: .eq _ :: .eq _ :: .eq _ :: .eq _ :: .eq _ :: .eq _ :: .eq _ :: .eq _ :: .eq _ :: []) (by kernel_rfl) (by kernel_rfl) trivial
    apply wpG_eq
    · intro W hW hs
      obtain ⟨f0, f1⟩ := FX.out
      unfold opG
      go_simp
      first | exact resG_eq_mk _ _ _ | rfl
    simp only [Act.put, List.setIfInBounds_toArray, List.set_cons_zero, List.set_cons_succ]
    apply wpG_eq
    · intro W hW hs
      obtain ⟨f0, f1⟩ := FX.out
      obtain ⟨t0, t1, t4⟩ := CW.out _ hW
      unfold opG
      go_simp
      first | exact resG_eq_mk _ _ _ | rfl
    simp only [Act.put, List.setIfInBounds_toArray, List.set_cons_zero, List.set_cons_succ]
    apply wpG_eq
    · intro W hW hs
      obtain ⟨f0, f1⟩ := FX.out
      unfold opG
      go_simp
      first | exact resG_eq_mk _ _ _ | rfl
    simp only [Act.put, List.setIfInBounds_toArray, List.set_cons_zero, List.set_cons_succ]
    apply wpG_eq
    · intro W hW hs
      obtain ⟨f0, f1⟩ := FX.out
      unfold opG
      go_simp
      first | exact resG_eq_mk _ _ _ | rfl
    simp only [Act.put, List.setIfInBounds_toArray, List.set_cons_zero, List.set_cons_succ]
    apply wpG_eq
    · intro W hW hs
      obtain ⟨f0, f1⟩ := FX.out
      unfold opG
      go_simp
      first | exact resG_eq_mk _ _ _ | rfl
    simp only [Act.put, List.setIfInBounds_toArray, List.set_cons_zero, List.set_cons_succ]
    apply wpG_eq
    · intro W hW hs
      obtain ⟨f0, f1⟩ := FX.out
      obtain ⟨t0, t1, t4⟩ := CW.out _ hW
      unfold opG
      go_simp
      first | exact resG_eq_mk _ _ _ | rfl
    simp only [Act.put, List.setIfInBounds_toArray, List.set_cons_zero, List.set_cons_succ]
    apply wpG_eq
    · intro W hW hs
      obtain ⟨f0, f1⟩ := FX.out
      unfold opG
      go_simp
      first | exact resG_eq_mk _ _ _ | rfl
    simp only [Act.put, List.setIfInBounds_toArray, List.set_cons_zero, List.set_cons_succ]
    apply wpG_eq
    · intro W hW hs
      obtain ⟨f0, f1⟩ := FX.out
      unfold opG
      go_simp
      first | exact resG_eq_mk _ _ _ | rfl
    simp only [Act.put, List.setIfInBounds_toArray, List.set_cons_zero, List.set_cons_succ]
    apply wpG_eq
    · intro W hW hs
      obtain ⟨f0, f1⟩ := FX.out
      unfold opG
      go_simp
      first | exact resG_eq_mk _ _ _ | rfl
    simp only [Act.put, List.setIfInBounds_toArray, List.set_cons_zero, List.set_cons_succ]
    apply wpG_eq
    · intro W hW hs
      obtain ⟨f0, f1⟩ := FX.out
      unfold opG
      go_simp
      first | exact resG_eq_mk _ _ _ | rfl
    simp only [Act.put, List.setIfInBounds_toArray, List.set_cons_zero, List.set_cons_succ]
    apply wpG_eq
    · intro W hW hs
      obtain ⟨f0, f1⟩ := FX.out
      unfold opG
      go_simp
      first | exact resG_eq_mk _ _ _ | rfl
    simp only [Act.put, List.setIfInBounds_toArray, List.set_cons_zero, List.set_cons_succ]
    apply wpG_eq
    · intro W hW hs
      obtain ⟨f0, f1⟩ := FX.out
      obtain ⟨t0, t1, t4⟩ := CW.out _ hW
      unfold opG
      go_simp
      first | exact resG_eq_mk _ _ _ | rfl
    simp only [Act.put, List.setIfInBounds_toArray, List.set_cons_zero, List.set_cons_succ]
    apply wpG_eq
    · intro W hW hs
      obtain ⟨f0, f1⟩ := FX.out
      unfold opG
      go_simp
      first | exact resG_eq_mk _ _ _ | rfl
    simp only [Act.put, List.setIfInBounds_toArray, List.set_cons_zero, List.set_cons_succ]
    apply wpG_eq
    · intro W hW hs
      obtain ⟨f0, f1⟩ := FX.out
      unfold opG
      go_simp
      first | exact resG_eq_mk _ _ _ | rfl
    simp only [Act.put, List.setIfInBounds_toArray, List.set_cons_zero, List.set_cons_succ]
    apply wpG_eq
    · intro W hW hs
      obtain ⟨f0, f1⟩ := FX.out
      unfold opG
      go_simp
      first | exact resG_eq_mk _ _ _ | rfl
    simp only [Act.put, List.setIfInBounds_toArray, List.set_cons_zero, List.set_cons_succ]
    apply wpG_eq
    · intro W hW hs
      obtain ⟨f0, f1⟩ := FX.out
      unfold opG
      go_simp
      first | exact resG_eq_mk _ _ _ | rfl
    simp only [Act.put, List.setIfInBounds_toArray, List.set_cons_zero, List.set_cons_succ]
    apply wpG_eq
    · intro W hW hs
      obtain ⟨f0, f1⟩ := FX.out
      obtain ⟨t0, t1, t4⟩ := CW.out _ hW
      unfold opG
      go_simp
      first | exact resG_eq_mk _ _ _ | rfl
    simp only [Act.put, List.setIfInBounds_toArray, List.set_cons_zero, List.set_cons_succ]
    apply wpG_eq
    · intro W hW hs
      obtain ⟨f0, f1⟩ := FX.out
      unfold opG
      go_simp
      first | exact resG_eq_mk _ _ _ | rfl
    simp only [Act.put, List.setIfInBounds_toArray, List.set_cons_zero, List.set_cons_succ]
    apply wpG_eq
    · intro W hW hs
      obtain ⟨f0, f1⟩ := FX.out
      unfold opG
      go_simp
      first | exact resG_eq_mk _ _ _ | rfl
    simp only [Act.put, List.setIfInBounds_toArray, List.set_cons_zero, List.set_cons_succ]
    apply wpG_eq
    · intro W hW hs
      obtain ⟨f0, f1⟩ := FX.out
      unfold opG
      go_simp
      first | exact resG_eq_mk _ _ _ | rfl
    simp only [Act.put, List.setIfInBounds_toArray, List.set_cons_zero, List.set_cons_succ]
    apply wpG_eq
    · intro W hW hs
      obtain ⟨f0, f1⟩ := FX.out
      unfold opG
      go_simp
      first | exact resG_eq_mk _ _ _ | rfl
    simp only [Act.put, List.setIfInBounds_toArray, List.set_cons_zero, List.set_cons_succ]
    apply wpG_eq
    · intro W hW hs
      obtain ⟨f0, f1⟩ := FX.out
      unfold opG
      go_simp
      first | exact resG_eq_mk _ _ _ | rfl
    simp only [Act.put, List.setIfInBounds_toArray, List.set_cons_zero, List.set_cons_succ]
    apply wpG_eq
    · intro W hW hs
      obtain ⟨f0, f1⟩ := FX.out
      unfold opG
      go_simp
      first | exact resG_eq_mk _ _ _ | rfl
    simp only [Act.put, List.setIfInBounds_toArray, List.set_cons_zero, List.set_cons_succ]
    apply wpG_eq
    · intro W hW hs
      obtain ⟨f0, f1⟩ := FX.out
      obtain ⟨t0, t1, t4⟩ := CW.out _ hW
      unfold opG
      go_simp
      first | exact resG_eq_mk _ _ _ | rfl
    simp only [Act.put, List.setIfInBounds_toArray, List.set_cons_zero, List.set_cons_succ]
    apply wpG_eq
    · intro W hW hs
      obtain ⟨f0, f1⟩ := FX.out
      unfold opG
      go_simp
      first | exact resG_eq_mk _ _ _ | rfl
    simp only [Act.put, List.setIfInBounds_toArray, List.set_cons_zero, List.set_cons_succ]
    apply wpG_eq
    · intro W hW hs
      obtain ⟨f0, f1⟩ := FX.out
      obtain ⟨t0, t1, t4⟩ := CW.out _ hW
      unfold opG
      go_simp
      first | exact resG_eq_mk _ _ _ | rfl
    simp only [Act.put, List.setIfInBounds_toArray, List.set_cons_zero, List.set_cons_succ]
    apply wpG_eq
    · intro W hW hs
      obtain ⟨f0, f1⟩ := FX.out
      unfold opG
      go_simp
      first | exact resG_eq_mk _ _ _ | rfl
    simp only [Act.put, List.setIfInBounds_toArray, List.set_cons_zero, List.set_cons_succ]
    apply wpG_eq
    · intro W hW hs
      obtain ⟨f0, f1⟩ := FX.out
      unfold opG
      go_simp
      first | exact resG_eq_mk _ _ _ | rfl
    simp only [Act.put, List.setIfInBounds_toArray, List.set_cons_zero, List.set_cons_succ]
    apply wpG_eq
    · intro W hW hs
      obtain ⟨f0, f1⟩ := FX.out
      unfold opG
      go_simp
      first | exact resG_eq_mk _ _ _ | rfl
    simp only [Act.put, List.setIfInBounds_toArray, List.set_cons_zero, List.set_cons_succ]
    apply wpG_eq
    · intro W hW hs
      obtain ⟨f0, f1⟩ := FX.out
      obtain ⟨t0, t1, t4⟩ := CW.out _ hW
      unfold opG
      go_simp
      first | exact resG_eq_mk _ _ _ | rfl
    simp only [Act.put, List.setIfInBounds_toArray, List.set_cons_zero, List.set_cons_succ]
    apply wpG_eq
    · intro W hW hs
      obtain ⟨f0, f1⟩ := FX.out
      unfold opG
      go_simp
      first | exact resG_eq_mk _ _ _ | rfl
    simp only [Act.put, List.setIfInBounds_toArray, List.set_cons_zero, List.set_cons_succ]
    apply wpG_eq
    · intro W hW hs
      obtain ⟨f0, f1⟩ := FX.out
      unfold opG
      go_simp
      first | exact resG_eq_mk _ _ _ | rfl
    simp only [Act.put, List.setIfInBounds_toArray, List.set_cons_zero, List.set_cons_succ]
    apply wpG_eq
    · intro W hW hs
      obtain ⟨f0, f1⟩ := FX.out
      unfold opG
      go_simp
      first | exact resG_eq_mk _ _ _ | rfl
    simp only [Act.put, List.setIfInBounds_toArray, List.set_cons_zero, List.set_cons_succ]
    apply wpG_eq
    · intro W hW hs
      obtain ⟨f0, f1⟩ := FX.out
      unfold opG
      go_simp
      first | exact resG_eq_mk _ _ _ | rfl
    simp only [Act.put, List.setIfInBounds_toArray, List.set_cons_zero, List.set_cons_succ]
    apply wpG_eq
    · intro W hW hs
      obtain ⟨f0, f1⟩ := FX.out
      unfold opG
      go_simp
      first | exact resG_eq_mk _ _ _ | rfl
    simp only [Act.put, List.setIfInBounds_toArray, List.set_cons_zero, List.set_cons_succ]
    apply wpG_eq
    · intro W hW hs
      obtain ⟨f0, f1⟩ := FX.out
      unfold opG
      go_simp
      first | exact resG_eq_mk _ _ _ | rfl
    simp only [Act.put, List.setIfInBounds_toArray, List.set_cons_zero, List.set_cons_succ]
    apply wpG_eq
    · intro W hW hs
      obtain ⟨f0, f1⟩ := FX.out
      unfold opG
      go_simp
      first | exact resG_eq_mk _ _ _ | rfl
    simp only [Act.put, List.setIfInBounds_toArray, List.set_cons_zero, List.set_cons_succ]
    apply wpG_eq
    · intro W hW hs
      obtain ⟨f0, f1⟩ := FX.out
      unfold opG
      go_simp
      first | exact resG_eq_mk _ _ _ | rfl
    simp only [Act.put, List.setIfInBounds_toArray, List.set_cons_zero, List.set_cons_succ]
    apply wpG_nil
    intro W9 hW9 hsAll
    have G9 := Gr.trans HG1.out (Gr.trans ((Gr.refl w1).drew) hW9)
    clear hsAll
    go_wp2
    go_ret
    exact ⟨KEY.out _ HR.out, G9⟩
  have H2 := Lib.hid h2
  clear h2
  by_cases h3 : x.seq < 1
  · have H3 := Lib.hid h3
    clear h3
    have FX := Lib.hid (show ((x.origin < 0) = False) ∧ ((sites ≤ x.origin) = False) ∧ (((x.seq : Int) < 1) = True) ∧ ((x.seq < 1) = True) ∧ ((x.seq = 0) = True) from ⟨eq_false (by have := H1.out; omega), eq_false (by have := H2.out; omega), eq_true (by have := H3.out; omega), eq_true (by have := H3.out; omega), eq_true (by have := H3.out; omega)⟩)
    have hr : badV x sites regions = true := by
      unfold badV; rw [decide_eq_true H3.out]; simp
    have HR := Lib.hid hr
    clear hr
    go_upto_region 3 with fail
    apply wp_region_draw_grow (.eq _ :: .eq _ :: .eq _ :: .eq _ :: .eq _ :: .eq _ :: .eq _ :: .eq _ :: .eq _ :: .eq _ :: .eq _ :: .eq _ :: .eq _ :: .eq _ :: .eq _ :: .eq _ :: .eq _ :: .eq _ :: .eq _ :: .eq _ :: .eq _ :: .eq _ :: .eq _ :: .eq _ :: .eq _ :: .eq _ :: .eq _ :: .eq _ :: .eq _ :: .eq _ :: .eq _ :: .eq _ :: .eq _ :: .eq _ :: .eq _ :: .eq _ :: .eq _ :: .eq _ :: []) (by kernel_rfl) (by kernel_rfl) trivial
    apply wpG_eq
    · intro W hW hs
      obtain ⟨f0, f1, f2, f3, f4⟩ := FX.out
      unfold opG
      go_simp
      first | exact resG_eq_mk _ _ _ | rfl
    simp only [Act.put, List.setIfInBounds_toArray, List.set_cons_zero, List.set_cons_succ]
    apply wpG_eq
    · intro W hW hs
      obtain ⟨f0, f1, f2, f3, f4⟩ := FX.out
      obtain ⟨t0, t1, t4⟩ := CW.out _ hW
      unfold opG
      go_simp
      first | exact resG_eq_mk _ _ _ | rfl
    simp only [Act.put, List.setIfInBounds_toArray, List.set_cons_zero, List.set_cons_succ]
    apply wpG_eq
    · intro W hW hs
      obtain ⟨f0, f1, f2, f3, f4⟩ := FX.out
      unfold opG
      go_simp
      first | exact resG_eq_mk _ _ _ | rfl
    simp only [Act.put, List.setIfInBounds_toArray, List.set_cons_zero, List.set_cons_succ]
    apply wpG_eq
    · intro W hW hs
      obtain ⟨f0, f1, f2, f3, f4⟩ := FX.out
      unfold opG
      go_simp
      first | exact resG_eq_mk _ _ _ | rfl
    simp only [Act.put, List.setIfInBounds_toArray, List.set_cons_zero, List.set_cons_succ]
    apply wpG_eq
    · intro W hW hs
      obtain ⟨f0, f1, f2, f3, f4⟩ := FX.out
      unfold opG
      go_simp
      first | exact resG_eq_mk _ _ _ | rfl
    simp only [Act.put, List.setIfInBounds_toArray, List.set_cons_zero, List.set_cons_succ]
    apply wpG_eq
    · intro W hW hs
      obtain ⟨f0, f1, f2, f3, f4⟩ := FX.out
      obtain ⟨t0, t1, t4⟩ := CW.out _ hW
      unfold opG
      go_simp
      first | exact resG_eq_mk _ _ _ | rfl
    simp only [Act.put, List.setIfInBounds_toArray, List.set_cons_zero, List.set_cons_succ]
    apply wpG_eq
    · intro W hW hs
      obtain ⟨f0, f1, f2, f3, f4⟩ := FX.out
      unfold opG
      go_simp
      first | exact resG_eq_mk _ _ _ | rfl
    simp only [Act.put, List.setIfInBounds_toArray, List.set_cons_zero, List.set_cons_succ]
    apply wpG_eq
    · intro W hW hs
      obtain ⟨f0, f1, f2, f3, f4⟩ := FX.out
      unfold opG
      go_simp
      first | exact resG_eq_mk _ _ _ | rfl
    simp only [Act.put, List.setIfInBounds_toArray, List.set_cons_zero, List.set_cons_succ]
    apply wpG_eq
    · intro W hW hs
      obtain ⟨f0, f1, f2, f3, f4⟩ := FX.out
      unfold opG
      go_simp
      first | exact resG_eq_mk _ _ _ | rfl
    simp only [Act.put, List.setIfInBounds_toArray, List.set_cons_zero, List.set_cons_succ]
    apply wpG_eq
    · intro W hW hs
      obtain ⟨f0, f1, f2, f3, f4⟩ := FX.out
      unfold opG
      go_simp
      first | exact resG_eq_mk _ _ _ | rfl
    simp only [Act.put, List.setIfInBounds_toArray, List.set_cons_zero, List.set_cons_succ]
    apply wpG_eq
    · intro W hW hs
      obtain ⟨f0, f1, f2, f3, f4⟩ := FX.out
      unfold opG
      go_simp
      first | exact resG_eq_mk _ _ _ | rfl
    simp only [Act.put, List.setIfInBounds_toArray, List.set_cons_zero, List.set_cons_succ]
    apply wpG_eq
    · intro W hW hs
      obtain ⟨f0, f1, f2, f3, f4⟩ := FX.out
      obtain ⟨t0, t1, t4⟩ := CW.out _ hW
      unfold opG
      go_simp
      first | exact resG_eq_mk _ _ _ | rfl
    simp only [Act.put, List.setIfInBounds_toArray, List.set_cons_zero, List.set_cons_succ]
    apply wpG_eq
    · intro W hW hs
      obtain ⟨f0, f1, f2, f3, f4⟩ := FX.out
      unfold opG
      go_simp
      first | exact resG_eq_mk _ _ _ | rfl
    simp only [Act.put, List.setIfInBounds_toArray, List.set_cons_zero, List.set_cons_succ]
    apply wpG_eq
    · intro W hW hs
      obtain ⟨f0, f1, f2, f3, f4⟩ := FX.out
      unfold opG
      go_simp
      first | exact resG_eq_mk _ _ _ | rfl
    simp only [Act.put, List.setIfInBounds_toArray, List.set_cons_zero, List.set_cons_succ]
    apply wpG_eq
    · intro W hW hs
      obtain ⟨f0, f1, f2, f3, f4⟩ := FX.out
      unfold opG
      go_simp
      first | exact resG_eq_mk _ _ _ | rfl
    simp only [Act.put, List.setIfInBounds_toArray, List.set_cons_zero, List.set_cons_succ]
    apply wpG_eq
    · intro W hW hs
      obtain ⟨f0, f1, f2, f3, f4⟩ := FX.out
      unfold opG
      go_simp
      first | exact resG_eq_mk _ _ _ | rfl
    simp only [Act.put, List.setIfInBounds_toArray, List.set_cons_zero, List.set_cons_succ]
    apply wpG_eq
    · intro W hW hs
      obtain ⟨f0, f1, f2, f3, f4⟩ := FX.out
      obtain ⟨t0, t1, t4⟩ := CW.out _ hW
      unfold opG
      go_simp
      first | exact resG_eq_mk _ _ _ | rfl
    simp only [Act.put, List.setIfInBounds_toArray, List.set_cons_zero, List.set_cons_succ]
    apply wpG_eq
    · intro W hW hs
      obtain ⟨f0, f1, f2, f3, f4⟩ := FX.out
      unfold opG
      go_simp
      first | exact resG_eq_mk _ _ _ | rfl
    simp only [Act.put, List.setIfInBounds_toArray, List.set_cons_zero, List.set_cons_succ]
    apply wpG_eq
    · intro W hW hs
      obtain ⟨f0, f1, f2, f3, f4⟩ := FX.out
      unfold opG
      go_simp
      first | exact resG_eq_mk _ _ _ | rfl
    simp only [Act.put, List.setIfInBounds_toArray, List.set_cons_zero, List.set_cons_succ]
    apply wpG_eq
    · intro W hW hs
      obtain ⟨f0, f1, f2, f3, f4⟩ := FX.out
      unfold opG
      go_simp
      first | exact resG_eq_mk _ _ _ | rfl
    simp only [Act.put, List.setIfInBounds_toArray, List.set_cons_zero, List.set_cons_succ]
    apply wpG_eq
    · intro W hW hs
      obtain ⟨f0, f1, f2, f3, f4⟩ := FX.out
      unfold opG
      go_simp
      first | exact resG_eq_mk _ _ _ | rfl
    simp only [Act.put, List.setIfInBounds_toArray, List.set_cons_zero, List.set_cons_succ]
    apply wpG_eq
    · intro W hW hs
      obtain ⟨f0, f1, f2, f3, f4⟩ := FX.out
      unfold opG
      go_simp
      first | exact resG_eq_mk _ _ _ | rfl
    simp only [Act.put, List.setIfInBounds_toArray, List.set_cons_zero, List.set_cons_succ]
    apply wpG_eq
    · intro W hW hs
      obtain ⟨f0, f1, f2, f3, f4⟩ := FX.out
      unfold opG
      go_simp
      first | exact resG_eq_mk _ _ _ | rfl
    simp only [Act.put, List.setIfInBounds_toArray, List.set_cons_zero, List.set_cons_succ]
    apply wpG_eq
    · intro W hW hs
      obtain ⟨f0, f1, f2, f3, f4⟩ := FX.out
      obtain ⟨t0, t1, t4⟩ := CW.out _ hW
      unfold opG
      go_simp
      first | exact resG_eq_mk _ _ _ | rfl
    simp only [Act.put, List.setIfInBounds_toArray, List.set_cons_zero, List.set_cons_succ]
    apply wpG_eq
    · intro W hW hs
      obtain ⟨f0, f1, f2, f3, f4⟩ := FX.out
      unfold opG
      go_simp
      first | exact resG_eq_mk _ _ _ | rfl
    simp only [Act.put, List.setIfInBounds_toArray, List.set_cons_zero, List.set_cons_succ]
    apply wpG_eq
    · intro W hW hs
      obtain ⟨f0, f1, f2, f3, f4⟩ := FX.out
      obtain ⟨t0, t1, t4⟩ := CW.out _ hW
      unfold opG
      go_simp
      first | exact resG_eq_mk _ _ _ | rfl
    simp only [Act.put, List.setIfInBounds_toArray, List.set_cons_zero, List.set_cons_succ]
    apply wpG_eq
    · intro W hW hs
      obtain ⟨f0, f1, f2, f3, f4⟩ := FX.out
      unfold opG
      go_simp
      first | exact resG_eq_mk _ _ _ | rfl
    simp only [Act.put, List.setIfInBounds_toArray, List.set_cons_zero, List.set_cons_succ]
    apply wpG_eq
    · intro W hW hs
      obtain ⟨f0, f1, f2, f3, f4⟩ := FX.out
      unfold opG
      go_simp
      first | exact resG_eq_mk _ _ _ | rfl
    simp only [Act.put, List.setIfInBounds_toArray, List.set_cons_zero, List.set_cons_succ]
    apply wpG_eq
    · intro W hW hs
      obtain ⟨f0, f1, f2, f3, f4⟩ := FX.out
      unfold opG
      go_simp
      first | exact resG_eq_mk _ _ _ | rfl
    simp only [Act.put, List.setIfInBounds_toArray, List.set_cons_zero, List.set_cons_succ]
    apply wpG_eq
    · intro W hW hs
      obtain ⟨f0, f1, f2, f3, f4⟩ := FX.out
      obtain ⟨t0, t1, t4⟩ := CW.out _ hW
      unfold opG
      go_simp
      first | exact resG_eq_mk _ _ _ | rfl
    simp only [Act.put, List.setIfInBounds_toArray, List.set_cons_zero, List.set_cons_succ]
    apply wpG_eq
    · intro W hW hs
      obtain ⟨f0, f1, f2, f3, f4⟩ := FX.out
      unfold opG
      go_simp
      first | exact resG_eq_mk _ _ _ | rfl
    simp only [Act.put, List.setIfInBounds_toArray, List.set_cons_zero, List.set_cons_succ]
    apply wpG_eq
    · intro W hW hs
      obtain ⟨f0, f1, f2, f3, f4⟩ := FX.out
      unfold opG
      go_simp
      first | exact resG_eq_mk _ _ _ | rfl
    simp only [Act.put, List.setIfInBounds_toArray, List.set_cons_zero, List.set_cons_succ]
    apply wpG_eq
    · intro W hW hs
      obtain ⟨f0, f1, f2, f3, f4⟩ := FX.out
      unfold opG
      go_simp
      first | exact resG_eq_mk _ _ _ | rfl
    simp only [Act.put, List.setIfInBounds_toArray, List.set_cons_zero, List.set_cons_succ]
    apply wpG_eq
    · intro W hW hs
      obtain ⟨f0, f1, f2, f3, f4⟩ := FX.out
      unfold opG
      go_simp
      first | exact resG_eq_mk _ _ _ | rfl
    simp only [Act.put, List.setIfInBounds_toArray, List.set_cons_zero, List.set_cons_succ]
    apply wpG_eq
    · intro W hW hs
      obtain ⟨f0, f1, f2, f3, f4⟩ := FX.out
      unfold opG
      go_simp
      first | exact resG_eq_mk _ _ _ | rfl
    simp only [Act.put, List.setIfInBounds_toArray, List.set_cons_zero, List.set_cons_succ]
    apply wpG_eq
    · intro W hW hs
      obtain ⟨f0, f1, f2, f3, f4⟩ := FX.out
      unfold opG
      go_simp
      first | exact resG_eq_mk _ _ _ | rfl
    simp only [Act.put, List.setIfInBounds_toArray, List.set_cons_zero, List.set_cons_succ]
    apply wpG_eq
    · intro W hW hs
      obtain ⟨f0, f1, f2, f3, f4⟩ := FX.out
      unfold opG
      go_simp
      first | exact resG_eq_mk _ _ _ | rfl
    simp only [Act.put, List.setIfInBounds_toArray, List.set_cons_zero, List.set_cons_succ]
    apply wpG_eq
    · intro W hW hs
      obtain ⟨f0, f1, f2, f3, f4⟩ := FX.out
      unfold opG
      go_simp
      first | exact resG_eq_mk _ _ _ | rfl
    simp only [Act.put, List.setIfInBounds_toArray, List.set_cons_zero, List.set_cons_succ]
    apply wpG_nil
    intro W9 hW9 hsAll
    have G9 := Gr.trans HG1.out (Gr.trans ((Gr.refl w1).drew) hW9)
    clear hsAll
    go_wp2
    go_ret
    exact ⟨KEY.out _ HR.out, G9⟩
  have H3 := Lib.hid h3
  clear h3
  by_cases h4 : (x.stamp.length : Int) = sites
  case neg =>
    have H4 := Lib.hid h4
    clear h4
    have FX := Lib.hid (show ((x.origin < 0) = False) ∧ ((sites ≤ x.origin) = False) ∧ (((x.seq : Int) < 1) = False) ∧ ((x.seq < 1) = False) ∧ ((x.seq = 0) = False) ∧ (((x.stamp.length : Int) == sites) = false) ∧ (((x.stamp.length : Int) != sites) = true) ∧ (((x.stamp.length : Int) = sites) = False) from ⟨eq_false (by have := H1.out; omega), eq_false (by have := H2.out; omega), eq_false (by have := H3.out; omega), eq_false (by have := H3.out; omega), eq_false (by have := H3.out; omega), (by rw [beq_eq_false_iff_ne]; exact H4.out), (by rw [bne_iff_ne]; exact H4.out), eq_false (by exact H4.out)⟩)
    have hr : badV x sites regions = true := by
      unfold badV; rw [decide_eq_false H4.out]; simp
    have HR := Lib.hid hr
    clear hr
    go_upto_region 3 with fail
    apply wp_region_draw_grow (.eq _ :: .eq _ :: .eq _ :: .eq _ :: .eq _ :: .eq _ :: .eq _ :: .eq _ :: .eq _ :: .eq _ :: .eq _ :: .eq _ :: .eq _ :: .eq _ :: .eq _ :: .eq _ :: .eq _ :: .eq _ :: .eq _ :: .eq _ :: .eq _ :: .eq _ :: .eq _ :: .eq _ :: .eq _ :: .eq _ :: .eq _ :: .eq _ :: .eq _ :: .eq _ :: .eq _ :: .eq _ :: .eq _ :: .eq _ :: .eq _ :: .eq _ :: .eq _ :: .eq _ :: []) (by kernel_rfl) (by kernel_rfl) trivial
    apply wpG_eq
    · intro W hW hs
      obtain ⟨f0, f1, f2, f3, f4, f5, f6, f7⟩ := FX.out
      unfold opG
      go_simp
      first | exact resG_eq_mk _ _ _ | rfl
    simp only [Act.put, List.setIfInBounds_toArray, List.set_cons_zero, List.set_cons_succ]
    apply wpG_eq
    · intro W hW hs
      obtain ⟨f0, f1, f2, f3, f4, f5, f6, f7⟩ := FX.out
      obtain ⟨t0, t1, t4⟩ := CW.out _ hW
      unfold opG
      go_simp
      first | exact resG_eq_mk _ _ _ | rfl
    simp only [Act.put, List.setIfInBounds_toArray, List.set_cons_zero, List.set_cons_succ]
    apply wpG_eq
    · intro W hW hs
      obtain ⟨f0, f1, f2, f3, f4, f5, f6, f7⟩ := FX.out
      unfold opG
      go_simp
      first | exact resG_eq_mk _ _ _ | rfl
    simp only [Act.put, List.setIfInBounds_toArray, List.set_cons_zero, List.set_cons_succ]
    apply wpG_eq
    · intro W hW hs
      obtain ⟨f0, f1, f2, f3, f4, f5, f6, f7⟩ := FX.out
      unfold opG
      go_simp
      first | exact resG_eq_mk _ _ _ | rfl
    simp only [Act.put, List.setIfInBounds_toArray, List.set_cons_zero, List.set_cons_succ]
    apply wpG_eq
    · intro W hW hs
      obtain ⟨f0, f1, f2, f3, f4, f5, f6, f7⟩ := FX.out
      unfold opG
      go_simp
      first | exact resG_eq_mk _ _ _ | rfl
    simp only [Act.put, List.setIfInBounds_toArray, List.set_cons_zero, List.set_cons_succ]
    apply wpG_eq
    · intro W hW hs
      obtain ⟨f0, f1, f2, f3, f4, f5, f6, f7⟩ := FX.out
      obtain ⟨t0, t1, t4⟩ := CW.out _ hW
      unfold opG
      go_simp
      first | exact resG_eq_mk _ _ _ | rfl
    simp only [Act.put, List.setIfInBounds_toArray, List.set_cons_zero, List.set_cons_succ]
    apply wpG_eq
    · intro W hW hs
      obtain ⟨f0, f1, f2, f3, f4, f5, f6, f7⟩ := FX.out
      unfold opG
      go_simp
      first | exact resG_eq_mk _ _ _ | rfl
    simp only [Act.put, List.setIfInBounds_toArray, List.set_cons_zero, List.set_cons_succ]
    apply wpG_eq
    · intro W hW hs
      obtain ⟨f0, f1, f2, f3, f4, f5, f6, f7⟩ := FX.out
      unfold opG
      go_simp
      first | exact resG_eq_mk _ _ _ | rfl
    simp only [Act.put, List.setIfInBounds_toArray, List.set_cons_zero, List.set_cons_succ]
    apply wpG_eq
    · intro W hW hs
      obtain ⟨f0, f1, f2, f3, f4, f5, f6, f7⟩ := FX.out
      unfold opG
      go_simp
      first | exact resG_eq_mk _ _ _ | rfl
    simp only [Act.put, List.setIfInBounds_toArray, List.set_cons_zero, List.set_cons_succ]
    apply wpG_eq
    · intro W hW hs
      obtain ⟨f0, f1, f2, f3, f4, f5, f6, f7⟩ := FX.out
      unfold opG
      go_simp
      first | exact resG_eq_mk _ _ _ | rfl
    simp only [Act.put, List.setIfInBounds_toArray, List.set_cons_zero, List.set_cons_succ]
    apply wpG_eq
    · intro W hW hs
      obtain ⟨f0, f1, f2, f3, f4, f5, f6, f7⟩ := FX.out
      unfold opG
      go_simp
      first | exact resG_eq_mk _ _ _ | rfl
    simp only [Act.put, List.setIfInBounds_toArray, List.set_cons_zero, List.set_cons_succ]
    apply wpG_eq
    · intro W hW hs
      obtain ⟨f0, f1, f2, f3, f4, f5, f6, f7⟩ := FX.out
      obtain ⟨t0, t1, t4⟩ := CW.out _ hW
      unfold opG
      go_simp
      first | exact resG_eq_mk _ _ _ | rfl
    simp only [Act.put, List.setIfInBounds_toArray, List.set_cons_zero, List.set_cons_succ]
    apply wpG_eq
    · intro W hW hs
      obtain ⟨f0, f1, f2, f3, f4, f5, f6, f7⟩ := FX.out
      unfold opG
      go_simp
      first | exact resG_eq_mk _ _ _ | rfl
    simp only [Act.put, List.setIfInBounds_toArray, List.set_cons_zero, List.set_cons_succ]
    apply wpG_eq
    · intro W hW hs
      obtain ⟨f0, f1, f2, f3, f4, f5, f6, f7⟩ := FX.out
      unfold opG
      go_simp
      first | exact resG_eq_mk _ _ _ | rfl
    simp only [Act.put, List.setIfInBounds_toArray, List.set_cons_zero, List.set_cons_succ]
    apply wpG_eq
    · intro W hW hs
      obtain ⟨f0, f1, f2, f3, f4, f5, f6, f7⟩ := FX.out
      unfold opG
      go_simp
      first | exact resG_eq_mk _ _ _ | rfl
    simp only [Act.put, List.setIfInBounds_toArray, List.set_cons_zero, List.set_cons_succ]
    apply wpG_eq
    · intro W hW hs
      obtain ⟨f0, f1, f2, f3, f4, f5, f6, f7⟩ := FX.out
      unfold opG
      go_simp
      first | exact resG_eq_mk _ _ _ | rfl
    simp only [Act.put, List.setIfInBounds_toArray, List.set_cons_zero, List.set_cons_succ]
    apply wpG_eq
    · intro W hW hs
      obtain ⟨f0, f1, f2, f3, f4, f5, f6, f7⟩ := FX.out
      obtain ⟨t0, t1, t4⟩ := CW.out _ hW
      unfold opG
      go_simp
      first | exact resG_eq_mk _ _ _ | rfl
    simp only [Act.put, List.setIfInBounds_toArray, List.set_cons_zero, List.set_cons_succ]
    apply wpG_eq
    · intro W hW hs
      obtain ⟨f0, f1, f2, f3, f4, f5, f6, f7⟩ := FX.out
      unfold opG
      go_simp
      first | exact resG_eq_mk _ _ _ | rfl
    simp only [Act.put, List.setIfInBounds_toArray, List.set_cons_zero, List.set_cons_succ]
    apply wpG_eq
    · intro W hW hs
      obtain ⟨f0, f1, f2, f3, f4, f5, f6, f7⟩ := FX.out
      unfold opG
      go_simp
      first | exact resG_eq_mk _ _ _ | rfl
    simp only [Act.put, List.setIfInBounds_toArray, List.set_cons_zero, List.set_cons_succ]
    apply wpG_eq
    · intro W hW hs
      obtain ⟨f0, f1, f2, f3, f4, f5, f6, f7⟩ := FX.out
      unfold opG
      go_simp
      first | exact resG_eq_mk _ _ _ | rfl
    simp only [Act.put, List.setIfInBounds_toArray, List.set_cons_zero, List.set_cons_succ]
    apply wpG_eq
    · intro W hW hs
      obtain ⟨f0, f1, f2, f3, f4, f5, f6, f7⟩ := FX.out
      unfold opG
      go_simp
      first | exact resG_eq_mk _ _ _ | rfl
    simp only [Act.put, List.setIfInBounds_toArray, List.set_cons_zero, List.set_cons_succ]
    apply wpG_eq
    · intro W hW hs
      obtain ⟨f0, f1, f2, f3, f4, f5, f6, f7⟩ := FX.out
      unfold opG
      go_simp
      first | exact resG_eq_mk _ _ _ | rfl
    simp only [Act.put, List.setIfInBounds_toArray, List.set_cons_zero, List.set_cons_succ]
    apply wpG_eq
    · intro W hW hs
      obtain ⟨f0, f1, f2, f3, f4, f5, f6, f7⟩ := FX.out
      unfold opG
      go_simp
      first | exact resG_eq_mk _ _ _ | rfl
    simp only [Act.put, List.setIfInBounds_toArray, List.set_cons_zero, List.set_cons_succ]
    apply wpG_eq
    · intro W hW hs
      obtain ⟨f0, f1, f2, f3, f4, f5, f6, f7⟩ := FX.out
      obtain ⟨t0, t1, t4⟩ := CW.out _ hW
      unfold opG
      go_simp
      first | exact resG_eq_mk _ _ _ | rfl
    simp only [Act.put, List.setIfInBounds_toArray, List.set_cons_zero, List.set_cons_succ]
    apply wpG_eq
    · intro W hW hs
      obtain ⟨f0, f1, f2, f3, f4, f5, f6, f7⟩ := FX.out
      unfold opG
      go_simp
      first | exact resG_eq_mk _ _ _ | rfl
    simp only [Act.put, List.setIfInBounds_toArray, List.set_cons_zero, List.set_cons_succ]
    apply wpG_eq
    · intro W hW hs
      obtain ⟨f0, f1, f2, f3, f4, f5, f6, f7⟩ := FX.out
      obtain ⟨t0, t1, t4⟩ := CW.out _ hW
      unfold opG
      go_simp
      first | exact resG_eq_mk _ _ _ | rfl
    simp only [Act.put, List.setIfInBounds_toArray, List.set_cons_zero, List.set_cons_succ]
    apply wpG_eq
    · intro W hW hs
      obtain ⟨f0, f1, f2, f3, f4, f5, f6, f7⟩ := FX.out
      unfold opG
      go_simp
      first | exact resG_eq_mk _ _ _ | rfl
    simp only [Act.put, List.setIfInBounds_toArray, List.set_cons_zero, List.set_cons_succ]
    apply wpG_eq
    · intro W hW hs
      obtain ⟨f0, f1, f2, f3, f4, f5, f6, f7⟩ := FX.out
      unfold opG
      go_simp
      first | exact resG_eq_mk _ _ _ | rfl
    simp only [Act.put, List.setIfInBounds_toArray, List.set_cons_zero, List.set_cons_succ]
    apply wpG_eq
    · intro W hW hs
      obtain ⟨f0, f1, f2, f3, f4, f5, f6, f7⟩ := FX.out
      unfold opG
      go_simp
      first | exact resG_eq_mk _ _ _ | rfl
    simp only [Act.put, List.setIfInBounds_toArray, List.set_cons_zero, List.set_cons_succ]
    apply wpG_eq
    · intro W hW hs
      obtain ⟨f0, f1, f2, f3, f4, f5, f6, f7⟩ := FX.out
      obtain ⟨t0, t1, t4⟩ := CW.out _ hW
      unfold opG
      go_simp
      first | exact resG_eq_mk _ _ _ | rfl
    simp only [Act.put, List.setIfInBounds_toArray, List.set_cons_zero, List.set_cons_succ]
    apply wpG_eq
    · intro W hW hs
      obtain ⟨f0, f1, f2, f3, f4, f5, f6, f7⟩ := FX.out
      unfold opG
      go_simp
      first | exact resG_eq_mk _ _ _ | rfl
    simp only [Act.put, List.setIfInBounds_toArray, List.set_cons_zero, List.set_cons_succ]
    apply wpG_eq
    · intro W hW hs
      obtain ⟨f0, f1, f2, f3, f4, f5, f6, f7⟩ := FX.out
      unfold opG
      go_simp
      first | exact resG_eq_mk _ _ _ | rfl
    simp only [Act.put, List.setIfInBounds_toArray, List.set_cons_zero, List.set_cons_succ]
    apply wpG_eq
    · intro W hW hs
      obtain ⟨f0, f1, f2, f3, f4, f5, f6, f7⟩ := FX.out
      unfold opG
      go_simp
      first | exact resG_eq_mk _ _ _ | rfl
    simp only [Act.put, List.setIfInBounds_toArray, List.set_cons_zero, List.set_cons_succ]
    apply wpG_eq
    · intro W hW hs
      obtain ⟨f0, f1, f2, f3, f4, f5, f6, f7⟩ := FX.out
      unfold opG
      go_simp
      first | exact resG_eq_mk _ _ _ | rfl
    simp only [Act.put, List.setIfInBounds_toArray, List.set_cons_zero, List.set_cons_succ]
    apply wpG_eq
    · intro W hW hs
      obtain ⟨f0, f1, f2, f3, f4, f5, f6, f7⟩ := FX.out
      unfold opG
      go_simp
      first | exact resG_eq_mk _ _ _ | rfl
    simp only [Act.put, List.setIfInBounds_toArray, List.set_cons_zero, List.set_cons_succ]
    apply wpG_eq
    · intro W hW hs
      obtain ⟨f0, f1, f2, f3, f4, f5, f6, f7⟩ := FX.out
      unfold opG
      go_simp
      first | exact resG_eq_mk _ _ _ | rfl
    simp only [Act.put, List.setIfInBounds_toArray, List.set_cons_zero, List.set_cons_succ]
    apply wpG_eq
    · intro W hW hs
      obtain ⟨f0, f1, f2, f3, f4, f5, f6, f7⟩ := FX.out
      unfold opG
      go_simp
      first | exact resG_eq_mk _ _ _ | rfl
    simp only [Act.put, List.setIfInBounds_toArray, List.set_cons_zero, List.set_cons_succ]
    apply wpG_eq
    · intro W hW hs
      obtain ⟨f0, f1, f2, f3, f4, f5, f6, f7⟩ := FX.out
      unfold opG
      go_simp
      first | exact resG_eq_mk _ _ _ | rfl
    simp only [Act.put, List.setIfInBounds_toArray, List.set_cons_zero, List.set_cons_succ]
    apply wpG_nil
    intro W9 hW9 hsAll
    have G9 := Gr.trans HG1.out (Gr.trans ((Gr.refl w1).drew) hW9)
    clear hsAll
    go_wp2
    go_ret
    exact ⟨KEY.out _ HR.out, G9⟩
  have H4 := Lib.hid h4
  clear h4
  obtain ⟨o, ho⟩ := Int.eq_ofNat_of_zero_le (show 0 ≤ x.origin by have := H1.out; omega)
  have HO := Lib.hid ho
  clear ho
  have hov : o < x.stamp.length := by have := HO.out; have := H2.out; have := H4.out; omega
  have hot : x.origin.toNat = o := by rw [HO.out]; rfl
  have HOT := Lib.hid hot
  clear hot
  have hvv : ∃ B oo, as_ = some ⟨B, oo, none⟩ ∧ ∀ W, Gr w1.drew W → W.cell? ⟨B, oo + x.origin.toNat, none⟩ = some (.int .u64 ((x.stamp.getD o 0 : Nat) : Int)) := by
    rw [HOT.out]
    obtain ⟨a', c', e, _, hc⟩ := HV.out
    injection e with e1 e2 e3
    subst e1
    rcases hc with hc | ⟨B, oo, rfl, hB, hc⟩
    · have := congrArg List.length hc; rw [nums_length] at this; have h9 : x.stamp.length = 0 := this; omega
    · refine ⟨B, oo, rfl, fun W hW => ?_⟩
      rw [(Gr.trans HG1.out (Gr.trans ((Gr.refl w1).drew) hW)).cell (p := ⟨B, oo + o, none⟩) hB, hc o (by rw [nums_length]; exact hov)]
      simp [nums, num64, hov]
  obtain ⟨B, oo, rfl, cv2⟩ := hvv
  have CV := Lib.hid cv2
  clear cv2 HV
  obtain ⟨c0, hc0⟩ : ∃ c0, c0 = x.stamp.getD o 0 := ⟨_, rfl⟩
  rw [← hc0] at CV
  have HC0 := Lib.hid hc0
  clear hc0
  have hsub : IntKind.u64.wrap ((x.seq : Int) - 1) = ((x.seq - 1 : Nat) : Int) := by have := H3.out; simp [IntKind.wrap, IntKind.bits, IntKind.signed]; omega
  have hsub2 : ((x.seq : Int) - 1) % 18446744073709551616 = ((x.seq - 1 : Nat) : Int) := by have := H3.out; omega
  have HSUB := Lib.hid hsub2
  have HSUW := Lib.hid hsub
  clear hsub hsub2
  have i1 : (0 : Int) ≤ x.origin := by have := H1.out; omega
  have i2 : x.origin < (x.stamp.length : Int) := by have := H2.out; have := H4.out; omega
  by_cases h5 : c0 = x.seq - 1
  case neg =>
    have H5 := Lib.hid h5
    clear h5
    have FX := Lib.hid (show ((x.origin < 0) = False) ∧ ((sites ≤ x.origin) = False) ∧ (((x.seq : Int) < 1) = False) ∧ ((x.seq < 1) = False) ∧ ((x.seq = 0) = False) ∧ (((x.stamp.length : Int) == sites) = true) ∧ (((x.stamp.length : Int) != sites) = false) ∧ (((x.stamp.length : Int) = sites) = True) ∧ (((c0 : Int) != IntKind.u64.wrap ((x.seq : Int) - 1)) = true) ∧ (((c0 : Int) = IntKind.u64.wrap ((x.seq : Int) - 1)) = False) ∧ (((c0 : Int) == ((x.seq : Int) - 1) % 18446744073709551616) = false) ∧ (((c0 : Int) != ((x.seq : Int) - 1) % 18446744073709551616) = true) from ⟨eq_false (by have := H1.out; omega), eq_false (by have := H2.out; omega), eq_false (by have := H3.out; omega), eq_false (by have := H3.out; omega), eq_false (by have := H3.out; omega), (by rw [beq_iff_eq]; exact H4.out), (by rw [H4.out]; simp), eq_true (by exact H4.out), (by rw [bne_iff_ne, HSUW.out]; have := H5.out; have := H3.out; omega), eq_false (by rw [HSUW.out]; have := H5.out; have := H3.out; omega), (by rw [beq_eq_false_iff_ne]; have := HSUB.out; have := H5.out; have := H3.out; omega), (by rw [bne_iff_ne]; have := HSUB.out; have := H5.out; have := H3.out; omega)⟩)
    have hr : badV x sites regions = true := by
      unfold badV; rw [HOT.out, ← HC0.out, decide_eq_false H5.out]; simp
    have HR := Lib.hid hr
    clear hr
    go_upto_region 3 with fail
    apply wp_region_draw_grow (.eq _ :: .eq _ :: .eq _ :: .eq _ :: .eq _ :: .eq _ :: .eq _ :: .eq _ :: .eq _ :: .eq _ :: .eq _ :: .eq _ :: .eq _ :: .eq _ :: .eq _ :: .eq _ :: .eq _ :: .eq _ :: .eq _ :: .eq _ :: .eq _ :: .eq _ :: .eq _ :: .eq _ :: .eq _ :: .eq _ :: .eq _ :: .eq _ :: .eq _ :: .eq _ :: .eq _ :: .eq _ :: .eq _ :: .eq _ :: .eq _ :: .eq _ :: .eq _ :: .eq _ :: []) (by kernel_rfl) (by kernel_rfl) trivial
    apply wpG_eq
    · intro W hW hs
      obtain ⟨f0, f1, f2, f3, f4, f5, f6, f7, f8, f9, f10, f11⟩ := FX.out
      unfold opG
      go_simp
      first | exact resG_eq_mk _ _ _ | rfl
    simp only [Act.put, List.setIfInBounds_toArray, List.set_cons_zero, List.set_cons_succ]
    apply wpG_eq
    · intro W hW hs
      obtain ⟨f0, f1, f2, f3, f4, f5, f6, f7, f8, f9, f10, f11⟩ := FX.out
      obtain ⟨t0, t1, t4⟩ := CW.out _ hW
      unfold opG
      go_simp
      first | exact resG_eq_mk _ _ _ | rfl
    simp only [Act.put, List.setIfInBounds_toArray, List.set_cons_zero, List.set_cons_succ]
    apply wpG_eq
    · intro W hW hs
      obtain ⟨f0, f1, f2, f3, f4, f5, f6, f7, f8, f9, f10, f11⟩ := FX.out
      unfold opG
      go_simp
      first | exact resG_eq_mk _ _ _ | rfl
    simp only [Act.put, List.setIfInBounds_toArray, List.set_cons_zero, List.set_cons_succ]
    apply wpG_eq
    · intro W hW hs
      obtain ⟨f0, f1, f2, f3, f4, f5, f6, f7, f8, f9, f10, f11⟩ := FX.out
      unfold opG
      go_simp
      first | exact resG_eq_mk _ _ _ | rfl
    simp only [Act.put, List.setIfInBounds_toArray, List.set_cons_zero, List.set_cons_succ]
    apply wpG_eq
    · intro W hW hs
      obtain ⟨f0, f1, f2, f3, f4, f5, f6, f7, f8, f9, f10, f11⟩ := FX.out
      unfold opG
      go_simp
      first | exact resG_eq_mk _ _ _ | rfl
    simp only [Act.put, List.setIfInBounds_toArray, List.set_cons_zero, List.set_cons_succ]
    apply wpG_eq
    · intro W hW hs
      obtain ⟨f0, f1, f2, f3, f4, f5, f6, f7, f8, f9, f10, f11⟩ := FX.out
      obtain ⟨t0, t1, t4⟩ := CW.out _ hW
      unfold opG
      go_simp
      first | exact resG_eq_mk _ _ _ | rfl
    simp only [Act.put, List.setIfInBounds_toArray, List.set_cons_zero, List.set_cons_succ]
    apply wpG_eq
    · intro W hW hs
      obtain ⟨f0, f1, f2, f3, f4, f5, f6, f7, f8, f9, f10, f11⟩ := FX.out
      unfold opG
      go_simp
      first | exact resG_eq_mk _ _ _ | rfl
    simp only [Act.put, List.setIfInBounds_toArray, List.set_cons_zero, List.set_cons_succ]
    apply wpG_eq
    · intro W hW hs
      obtain ⟨f0, f1, f2, f3, f4, f5, f6, f7, f8, f9, f10, f11⟩ := FX.out
      unfold opG
      go_simp
      first | exact resG_eq_mk _ _ _ | rfl
    simp only [Act.put, List.setIfInBounds_toArray, List.set_cons_zero, List.set_cons_succ]
    apply wpG_eq
    · intro W hW hs
      obtain ⟨f0, f1, f2, f3, f4, f5, f6, f7, f8, f9, f10, f11⟩ := FX.out
      unfold opG
      go_simp
      first | exact resG_eq_mk _ _ _ | rfl
    simp only [Act.put, List.setIfInBounds_toArray, List.set_cons_zero, List.set_cons_succ]
    apply wpG_eq
    · intro W hW hs
      obtain ⟨f0, f1, f2, f3, f4, f5, f6, f7, f8, f9, f10, f11⟩ := FX.out
      unfold opG
      go_simp
      first | exact resG_eq_mk _ _ _ | rfl
    simp only [Act.put, List.setIfInBounds_toArray, List.set_cons_zero, List.set_cons_succ]
    apply wpG_eq
    · intro W hW hs
      obtain ⟨f0, f1, f2, f3, f4, f5, f6, f7, f8, f9, f10, f11⟩ := FX.out
      unfold opG
      go_simp
      first | exact resG_eq_mk _ _ _ | rfl
    simp only [Act.put, List.setIfInBounds_toArray, List.set_cons_zero, List.set_cons_succ]
    apply wpG_eq
    · intro W hW hs
      obtain ⟨f0, f1, f2, f3, f4, f5, f6, f7, f8, f9, f10, f11⟩ := FX.out
      obtain ⟨t0, t1, t4⟩ := CW.out _ hW
      unfold opG
      go_simp
      first | exact resG_eq_mk _ _ _ | rfl
    simp only [Act.put, List.setIfInBounds_toArray, List.set_cons_zero, List.set_cons_succ]
    apply wpG_eq
    · intro W hW hs
      obtain ⟨f0, f1, f2, f3, f4, f5, f6, f7, f8, f9, f10, f11⟩ := FX.out
      unfold opG
      go_simp
      first | exact resG_eq_mk _ _ _ | rfl
    simp only [Act.put, List.setIfInBounds_toArray, List.set_cons_zero, List.set_cons_succ]
    apply wpG_eq
    · intro W hW hs
      obtain ⟨f0, f1, f2, f3, f4, f5, f6, f7, f8, f9, f10, f11⟩ := FX.out
      unfold opG
      go_simp
      first | exact resG_eq_mk _ _ _ | rfl
    simp only [Act.put, List.setIfInBounds_toArray, List.set_cons_zero, List.set_cons_succ]
    apply wpG_eq
    · intro W hW hs
      obtain ⟨f0, f1, f2, f3, f4, f5, f6, f7, f8, f9, f10, f11⟩ := FX.out
      unfold opG
      go_simp
      first | exact resG_eq_mk _ _ _ | rfl
    simp only [Act.put, List.setIfInBounds_toArray, List.set_cons_zero, List.set_cons_succ]
    apply wpG_eq
    · intro W hW hs
      obtain ⟨f0, f1, f2, f3, f4, f5, f6, f7, f8, f9, f10, f11⟩ := FX.out
      unfold opG
      go_simp
      first | exact resG_eq_mk _ _ _ | rfl
    simp only [Act.put, List.setIfInBounds_toArray, List.set_cons_zero, List.set_cons_succ]
    apply wpG_eq
    · intro W hW hs
      obtain ⟨f0, f1, f2, f3, f4, f5, f6, f7, f8, f9, f10, f11⟩ := FX.out
      obtain ⟨t0, t1, t4⟩ := CW.out _ hW
      unfold opG
      go_simp
      first | exact resG_eq_mk _ _ _ | rfl
    simp only [Act.put, List.setIfInBounds_toArray, List.set_cons_zero, List.set_cons_succ]
    apply wpG_eq
    · intro W hW hs
      obtain ⟨f0, f1, f2, f3, f4, f5, f6, f7, f8, f9, f10, f11⟩ := FX.out
      unfold opG
      go_simp
      first | exact resG_eq_mk _ _ _ | rfl
    simp only [Act.put, List.setIfInBounds_toArray, List.set_cons_zero, List.set_cons_succ]
    apply wpG_eq
    · intro W hW hs
      obtain ⟨f0, f1, f2, f3, f4, f5, f6, f7, f8, f9, f10, f11⟩ := FX.out
      unfold opG
      go_simp
      first | exact resG_eq_mk _ _ _ | rfl
    simp only [Act.put, List.setIfInBounds_toArray, List.set_cons_zero, List.set_cons_succ]
    apply wpG_eq
    · intro W hW hs
      obtain ⟨f0, f1, f2, f3, f4, f5, f6, f7, f8, f9, f10, f11⟩ := FX.out
      unfold opG
      go_simp
      first | exact resG_eq_mk _ _ _ | rfl
    simp only [Act.put, List.setIfInBounds_toArray, List.set_cons_zero, List.set_cons_succ]
    apply wpG_eq
    · intro W hW hs
      obtain ⟨f0, f1, f2, f3, f4, f5, f6, f7, f8, f9, f10, f11⟩ := FX.out
      unfold opG
      go_simp
      first | exact resG_eq_mk _ _ _ | rfl
    simp only [Act.put, List.setIfInBounds_toArray, List.set_cons_zero, List.set_cons_succ]
    apply wpG_eq
    · intro W hW hs
      obtain ⟨f0, f1, f2, f3, f4, f5, f6, f7, f8, f9, f10, f11⟩ := FX.out
      unfold opG
      go_simp
      first | exact resG_eq_mk _ _ _ | rfl
    simp only [Act.put, List.setIfInBounds_toArray, List.set_cons_zero, List.set_cons_succ]
    apply wpG_eq
    · intro W hW hs
      obtain ⟨f0, f1, f2, f3, f4, f5, f6, f7, f8, f9, f10, f11⟩ := FX.out
      unfold opG
      go_simp
      first | exact resG_eq_mk _ _ _ | rfl
    simp only [Act.put, List.setIfInBounds_toArray, List.set_cons_zero, List.set_cons_succ]
    apply wpG_eq
    · intro W hW hs
      obtain ⟨f0, f1, f2, f3, f4, f5, f6, f7, f8, f9, f10, f11⟩ := FX.out
      obtain ⟨t0, t1, t4⟩ := CW.out _ hW
      unfold opG
      go_simp
      first | exact resG_eq_mk _ _ _ | rfl
    simp only [Act.put, List.setIfInBounds_toArray, List.set_cons_zero, List.set_cons_succ]
    apply wpG_eq
    · intro W hW hs
      obtain ⟨f0, f1, f2, f3, f4, f5, f6, f7, f8, f9, f10, f11⟩ := FX.out
      unfold opG
      go_simp
      first | exact resG_eq_mk _ _ _ | rfl
    simp only [Act.put, List.setIfInBounds_toArray, List.set_cons_zero, List.set_cons_succ]
    apply wpG_eq
    · intro W hW hs
      obtain ⟨f0, f1, f2, f3, f4, f5, f6, f7, f8, f9, f10, f11⟩ := FX.out
      obtain ⟨t0, t1, t4⟩ := CW.out _ hW
      unfold opG
      go_simp
      first | exact resG_eq_mk _ _ _ | rfl
    simp only [Act.put, List.setIfInBounds_toArray, List.set_cons_zero, List.set_cons_succ]
    apply wpG_eq
    · intro W hW hs
      obtain ⟨f0, f1, f2, f3, f4, f5, f6, f7, f8, f9, f10, f11⟩ := FX.out
      unfold opG
      go_simp
      first | exact resG_eq_mk _ _ _ | rfl
    simp only [Act.put, List.setIfInBounds_toArray, List.set_cons_zero, List.set_cons_succ]
    apply wpG_eq
    · intro W hW hs
      obtain ⟨f0, f1, f2, f3, f4, f5, f6, f7, f8, f9, f10, f11⟩ := FX.out
      have h1 := (CV.out) _ hW
      unfold opG
      go_simp
      first | exact resG_eq_mk _ _ _ | rfl
    simp only [Act.put, List.setIfInBounds_toArray, List.set_cons_zero, List.set_cons_succ]
    apply wpG_eq
    · intro W hW hs
      obtain ⟨f0, f1, f2, f3, f4, f5, f6, f7, f8, f9, f10, f11⟩ := FX.out
      unfold opG
      go_simp
      first | exact resG_eq_mk _ _ _ | rfl
    simp only [Act.put, List.setIfInBounds_toArray, List.set_cons_zero, List.set_cons_succ]
    apply wpG_eq
    · intro W hW hs
      obtain ⟨f0, f1, f2, f3, f4, f5, f6, f7, f8, f9, f10, f11⟩ := FX.out
      obtain ⟨t0, t1, t4⟩ := CW.out _ hW
      unfold opG
      go_simp
      first | exact resG_eq_mk _ _ _ | rfl
    simp only [Act.put, List.setIfInBounds_toArray, List.set_cons_zero, List.set_cons_succ]
    apply wpG_eq
    · intro W hW hs
      obtain ⟨f0, f1, f2, f3, f4, f5, f6, f7, f8, f9, f10, f11⟩ := FX.out
      unfold opG
      go_simp
      first | exact resG_eq_mk _ _ _ | rfl
    simp only [Act.put, List.setIfInBounds_toArray, List.set_cons_zero, List.set_cons_succ]
    apply wpG_eq
    · intro W hW hs
      obtain ⟨f0, f1, f2, f3, f4, f5, f6, f7, f8, f9, f10, f11⟩ := FX.out
      unfold opG
      go_simp
      first | exact resG_eq_mk _ _ _ | rfl
    simp only [Act.put, List.setIfInBounds_toArray, List.set_cons_zero, List.set_cons_succ]
    apply wpG_eq
    · intro W hW hs
      obtain ⟨f0, f1, f2, f3, f4, f5, f6, f7, f8, f9, f10, f11⟩ := FX.out
      unfold opG
      go_simp
      first | exact resG_eq_mk _ _ _ | rfl
    simp only [Act.put, List.setIfInBounds_toArray, List.set_cons_zero, List.set_cons_succ]
    apply wpG_eq
    · intro W hW hs
      obtain ⟨f0, f1, f2, f3, f4, f5, f6, f7, f8, f9, f10, f11⟩ := FX.out
      unfold opG
      go_simp
      first | exact resG_eq_mk _ _ _ | rfl
    simp only [Act.put, List.setIfInBounds_toArray, List.set_cons_zero, List.set_cons_succ]
    apply wpG_eq
    · intro W hW hs
      obtain ⟨f0, f1, f2, f3, f4, f5, f6, f7, f8, f9, f10, f11⟩ := FX.out
      unfold opG
      go_simp
      first | exact resG_eq_mk _ _ _ | rfl
    simp only [Act.put, List.setIfInBounds_toArray, List.set_cons_zero, List.set_cons_succ]
    apply wpG_eq
    · intro W hW hs
      obtain ⟨f0, f1, f2, f3, f4, f5, f6, f7, f8, f9, f10, f11⟩ := FX.out
      unfold opG
      go_simp
      first | exact resG_eq_mk _ _ _ | rfl
    simp only [Act.put, List.setIfInBounds_toArray, List.set_cons_zero, List.set_cons_succ]
    apply wpG_eq
    · intro W hW hs
      obtain ⟨f0, f1, f2, f3, f4, f5, f6, f7, f8, f9, f10, f11⟩ := FX.out
      unfold opG
      go_simp
      first | exact resG_eq_mk _ _ _ | rfl
    simp only [Act.put, List.setIfInBounds_toArray, List.set_cons_zero, List.set_cons_succ]
    apply wpG_eq
    · intro W hW hs
      obtain ⟨f0, f1, f2, f3, f4, f5, f6, f7, f8, f9, f10, f11⟩ := FX.out
      unfold opG
      go_simp
      first | exact resG_eq_mk _ _ _ | rfl
    simp only [Act.put, List.setIfInBounds_toArray, List.set_cons_zero, List.set_cons_succ]
    apply wpG_nil
    intro W9 hW9 hsAll
    have G9 := Gr.trans HG1.out (Gr.trans ((Gr.refl w1).drew) hW9)
    clear hsAll
    go_wp2
    go_ret
    exact ⟨KEY.out _ HR.out, G9⟩
  have H5 := Lib.hid h5
  clear h5
  have h6 : badV x sites regions = (bw == bc) := by
    unfold badV; rw [HOT.out, ← HC0.out, decide_eq_true H5.out, decide_eq_false H1.out, decide_eq_false H2.out, decide_eq_false H3.out, decide_eq_true H4.out, ← HBW.out, ← HBC.out]; rfl
  have H6 := Lib.hid h6
  clear h6
  rcases bw with _ | _
  · rcases bc with _ | _
    · have FX := Lib.hid (show ((x.origin < 0) = False) ∧ ((sites ≤ x.origin) = False) ∧ (((x.seq : Int) < 1) = False) ∧ ((x.seq < 1) = False) ∧ ((x.seq = 0) = False) ∧ (((x.stamp.length : Int) == sites) = true) ∧ (((x.stamp.length : Int) != sites) = false) ∧ (((x.stamp.length : Int) = sites) = True) ∧ (((c0 : Int) != IntKind.u64.wrap ((x.seq : Int) - 1)) = false) ∧ (((c0 : Int) = IntKind.u64.wrap ((x.seq : Int) - 1)) = True) ∧ (((c0 : Int) == ((x.seq : Int) - 1) % 18446744073709551616) = true) ∧ (((c0 : Int) != ((x.seq : Int) - 1) % 18446744073709551616) = false) from ⟨eq_false (by have := H1.out; omega), eq_false (by have := H2.out; omega), eq_false (by have := H3.out; omega), eq_false (by have := H3.out; omega), eq_false (by have := H3.out; omega), (by rw [beq_iff_eq]; exact H4.out), (by rw [H4.out]; simp), eq_true (by exact H4.out), (by rw [bne_eq_false_iff_eq, HSUW.out]; have := H5.out; omega), eq_true (by rw [HSUW.out]; have := H5.out; omega), (by rw [beq_iff_eq]; have := HSUB.out; have := H5.out; omega), (by rw [bne_eq_false_iff_eq]; have := HSUB.out; have := H5.out; omega)⟩)
      have hr : badV x sites regions = true := by
        rw [H6.out]; rfl
      have HR := Lib.hid hr
      clear hr
      go_upto_region 3 with fail
      apply wp_region_draw_grow (.eq _ :: .eq _ :: .eq _ :: .eq _ :: .eq _ :: .eq _ :: .eq _ :: .eq _ :: .eq _ :: .eq _ :: .eq _ :: .eq _ :: .eq _ :: .eq _ :: .eq _ :: .eq _ :: .eq _ :: .eq _ :: .eq _ :: .eq _ :: .eq _ :: .eq _ :: .eq _ :: .eq _ :: .eq _ :: .eq _ :: .eq _ :: .eq _ :: .eq _ :: .eq _ :: .eq _ :: .eq _ :: .eq _ :: .eq _ :: .eq _ :: .eq _ :: .eq _ :: .eq _ :: []) (by kernel_rfl) (by kernel_rfl) trivial
      apply wpG_eq
      · intro W hW hs
        obtain ⟨f0, f1, f2, f3, f4, f5, f6, f7, f8, f9, f10, f11⟩ := FX.out
        unfold opG
        go_simp
        first | exact resG_eq_mk _ _ _ | rfl
      simp only [Act.put, List.setIfInBounds_toArray, List.set_cons_zero, List.set_cons_succ]
      apply wpG_eq
      · intro W hW hs
        obtain ⟨f0, f1, f2, f3, f4, f5, f6, f7, f8, f9, f10, f11⟩ := FX.out
        obtain ⟨t0, t1, t4⟩ := CW.out _ hW
        unfold opG
        go_simp
        first | exact resG_eq_mk _ _ _ | rfl
      simp only [Act.put, List.setIfInBounds_toArray, List.set_cons_zero, List.set_cons_succ]
      apply wpG_eq
      · intro W hW hs
        obtain ⟨f0, f1, f2, f3, f4, f5, f6, f7, f8, f9, f10, f11⟩ := FX.out
        unfold opG
        go_simp
        first | exact resG_eq_mk _ _ _ | rfl
      simp only [Act.put, List.setIfInBounds_toArray, List.set_cons_zero, List.set_cons_succ]
      apply wpG_eq
      · intro W hW hs
        obtain ⟨f0, f1, f2, f3, f4, f5, f6, f7, f8, f9, f10, f11⟩ := FX.out
        unfold opG
        go_simp
        first | exact resG_eq_mk _ _ _ | rfl
      simp only [Act.put, List.setIfInBounds_toArray, List.set_cons_zero, List.set_cons_succ]
      apply wpG_eq
      · intro W hW hs
        obtain ⟨f0, f1, f2, f3, f4, f5, f6, f7, f8, f9, f10, f11⟩ := FX.out
        unfold opG
        go_simp
        first | exact resG_eq_mk _ _ _ | rfl
      simp only [Act.put, List.setIfInBounds_toArray, List.set_cons_zero, List.set_cons_succ]
      apply wpG_eq
      · intro W hW hs
        obtain ⟨f0, f1, f2, f3, f4, f5, f6, f7, f8, f9, f10, f11⟩ := FX.out
        obtain ⟨t0, t1, t4⟩ := CW.out _ hW
        unfold opG
        go_simp
        first | exact resG_eq_mk _ _ _ | rfl
      simp only [Act.put, List.setIfInBounds_toArray, List.set_cons_zero, List.set_cons_succ]
      apply wpG_eq
      · intro W hW hs
        obtain ⟨f0, f1, f2, f3, f4, f5, f6, f7, f8, f9, f10, f11⟩ := FX.out
        unfold opG
        go_simp
        first | exact resG_eq_mk _ _ _ | rfl
      simp only [Act.put, List.setIfInBounds_toArray, List.set_cons_zero, List.set_cons_succ]
      apply wpG_eq
      · intro W hW hs
        obtain ⟨f0, f1, f2, f3, f4, f5, f6, f7, f8, f9, f10, f11⟩ := FX.out
        unfold opG
        go_simp
        first | exact resG_eq_mk _ _ _ | rfl
      simp only [Act.put, List.setIfInBounds_toArray, List.set_cons_zero, List.set_cons_succ]
      apply wpG_eq
      · intro W hW hs
        obtain ⟨f0, f1, f2, f3, f4, f5, f6, f7, f8, f9, f10, f11⟩ := FX.out
        unfold opG
        go_simp
        first | exact resG_eq_mk _ _ _ | rfl
      simp only [Act.put, List.setIfInBounds_toArray, List.set_cons_zero, List.set_cons_succ]
      apply wpG_eq
      · intro W hW hs
        obtain ⟨f0, f1, f2, f3, f4, f5, f6, f7, f8, f9, f10, f11⟩ := FX.out
        unfold opG
        go_simp
        first | exact resG_eq_mk _ _ _ | rfl
      simp only [Act.put, List.setIfInBounds_toArray, List.set_cons_zero, List.set_cons_succ]
      apply wpG_eq
      · intro W hW hs
        obtain ⟨f0, f1, f2, f3, f4, f5, f6, f7, f8, f9, f10, f11⟩ := FX.out
        unfold opG
        go_simp
        first | exact resG_eq_mk _ _ _ | rfl
      simp only [Act.put, List.setIfInBounds_toArray, List.set_cons_zero, List.set_cons_succ]
      apply wpG_eq
      · intro W hW hs
        obtain ⟨f0, f1, f2, f3, f4, f5, f6, f7, f8, f9, f10, f11⟩ := FX.out
        obtain ⟨t0, t1, t4⟩ := CW.out _ hW
        unfold opG
        go_simp
        first | exact resG_eq_mk _ _ _ | rfl
      simp only [Act.put, List.setIfInBounds_toArray, List.set_cons_zero, List.set_cons_succ]
      apply wpG_eq
      · intro W hW hs
        obtain ⟨f0, f1, f2, f3, f4, f5, f6, f7, f8, f9, f10, f11⟩ := FX.out
        unfold opG
        go_simp
        first | exact resG_eq_mk _ _ _ | rfl
      simp only [Act.put, List.setIfInBounds_toArray, List.set_cons_zero, List.set_cons_succ]
      apply wpG_eq
      · intro W hW hs
        obtain ⟨f0, f1, f2, f3, f4, f5, f6, f7, f8, f9, f10, f11⟩ := FX.out
        unfold opG
        go_simp
        first | exact resG_eq_mk _ _ _ | rfl
      simp only [Act.put, List.setIfInBounds_toArray, List.set_cons_zero, List.set_cons_succ]
      apply wpG_eq
      · intro W hW hs
        obtain ⟨f0, f1, f2, f3, f4, f5, f6, f7, f8, f9, f10, f11⟩ := FX.out
        unfold opG
        go_simp
        first | exact resG_eq_mk _ _ _ | rfl
      simp only [Act.put, List.setIfInBounds_toArray, List.set_cons_zero, List.set_cons_succ]
      apply wpG_eq
      · intro W hW hs
        obtain ⟨f0, f1, f2, f3, f4, f5, f6, f7, f8, f9, f10, f11⟩ := FX.out
        unfold opG
        go_simp
        first | exact resG_eq_mk _ _ _ | rfl
      simp only [Act.put, List.setIfInBounds_toArray, List.set_cons_zero, List.set_cons_succ]
      apply wpG_eq
      · intro W hW hs
        obtain ⟨f0, f1, f2, f3, f4, f5, f6, f7, f8, f9, f10, f11⟩ := FX.out
        obtain ⟨t0, t1, t4⟩ := CW.out _ hW
        unfold opG
        go_simp
        first | exact resG_eq_mk _ _ _ | rfl
      simp only [Act.put, List.setIfInBounds_toArray, List.set_cons_zero, List.set_cons_succ]
      apply wpG_eq
      · intro W hW hs
        obtain ⟨f0, f1, f2, f3, f4, f5, f6, f7, f8, f9, f10, f11⟩ := FX.out
        unfold opG
        go_simp
        first | exact resG_eq_mk _ _ _ | rfl
      simp only [Act.put, List.setIfInBounds_toArray, List.set_cons_zero, List.set_cons_succ]
      apply wpG_eq
      · intro W hW hs
        obtain ⟨f0, f1, f2, f3, f4, f5, f6, f7, f8, f9, f10, f11⟩ := FX.out
        unfold opG
        go_simp
        first | exact resG_eq_mk _ _ _ | rfl
      simp only [Act.put, List.setIfInBounds_toArray, List.set_cons_zero, List.set_cons_succ]
      apply wpG_eq
      · intro W hW hs
        obtain ⟨f0, f1, f2, f3, f4, f5, f6, f7, f8, f9, f10, f11⟩ := FX.out
        unfold opG
        go_simp
        first | exact resG_eq_mk _ _ _ | rfl
      simp only [Act.put, List.setIfInBounds_toArray, List.set_cons_zero, List.set_cons_succ]
      apply wpG_eq
      · intro W hW hs
        obtain ⟨f0, f1, f2, f3, f4, f5, f6, f7, f8, f9, f10, f11⟩ := FX.out
        unfold opG
        go_simp
        first | exact resG_eq_mk _ _ _ | rfl
      simp only [Act.put, List.setIfInBounds_toArray, List.set_cons_zero, List.set_cons_succ]
      apply wpG_eq
      · intro W hW hs
        obtain ⟨f0, f1, f2, f3, f4, f5, f6, f7, f8, f9, f10, f11⟩ := FX.out
        unfold opG
        go_simp
        first | exact resG_eq_mk _ _ _ | rfl
      simp only [Act.put, List.setIfInBounds_toArray, List.set_cons_zero, List.set_cons_succ]
      apply wpG_eq
      · intro W hW hs
        obtain ⟨f0, f1, f2, f3, f4, f5, f6, f7, f8, f9, f10, f11⟩ := FX.out
        unfold opG
        go_simp
        first | exact resG_eq_mk _ _ _ | rfl
      simp only [Act.put, List.setIfInBounds_toArray, List.set_cons_zero, List.set_cons_succ]
      apply wpG_eq
      · intro W hW hs
        obtain ⟨f0, f1, f2, f3, f4, f5, f6, f7, f8, f9, f10, f11⟩ := FX.out
        obtain ⟨t0, t1, t4⟩ := CW.out _ hW
        unfold opG
        go_simp
        first | exact resG_eq_mk _ _ _ | rfl
      simp only [Act.put, List.setIfInBounds_toArray, List.set_cons_zero, List.set_cons_succ]
      apply wpG_eq
      · intro W hW hs
        obtain ⟨f0, f1, f2, f3, f4, f5, f6, f7, f8, f9, f10, f11⟩ := FX.out
        unfold opG
        go_simp
        first | exact resG_eq_mk _ _ _ | rfl
      simp only [Act.put, List.setIfInBounds_toArray, List.set_cons_zero, List.set_cons_succ]
      apply wpG_eq
      · intro W hW hs
        obtain ⟨f0, f1, f2, f3, f4, f5, f6, f7, f8, f9, f10, f11⟩ := FX.out
        obtain ⟨t0, t1, t4⟩ := CW.out _ hW
        unfold opG
        go_simp
        first | exact resG_eq_mk _ _ _ | rfl
      simp only [Act.put, List.setIfInBounds_toArray, List.set_cons_zero, List.set_cons_succ]
      apply wpG_eq
      · intro W hW hs
        obtain ⟨f0, f1, f2, f3, f4, f5, f6, f7, f8, f9, f10, f11⟩ := FX.out
        unfold opG
        go_simp
        first | exact resG_eq_mk _ _ _ | rfl
      simp only [Act.put, List.setIfInBounds_toArray, List.set_cons_zero, List.set_cons_succ]
      apply wpG_eq
      · intro W hW hs
        obtain ⟨f0, f1, f2, f3, f4, f5, f6, f7, f8, f9, f10, f11⟩ := FX.out
        have h1 := (CV.out) _ hW
        unfold opG
        go_simp
        first | exact resG_eq_mk _ _ _ | rfl
      simp only [Act.put, List.setIfInBounds_toArray, List.set_cons_zero, List.set_cons_succ]
      apply wpG_eq
      · intro W hW hs
        obtain ⟨f0, f1, f2, f3, f4, f5, f6, f7, f8, f9, f10, f11⟩ := FX.out
        unfold opG
        go_simp
        first | exact resG_eq_mk _ _ _ | rfl
      simp only [Act.put, List.setIfInBounds_toArray, List.set_cons_zero, List.set_cons_succ]
      apply wpG_eq
      · intro W hW hs
        obtain ⟨f0, f1, f2, f3, f4, f5, f6, f7, f8, f9, f10, f11⟩ := FX.out
        obtain ⟨t0, t1, t4⟩ := CW.out _ hW
        unfold opG
        go_simp
        first | exact resG_eq_mk _ _ _ | rfl
      simp only [Act.put, List.setIfInBounds_toArray, List.set_cons_zero, List.set_cons_succ]
      apply wpG_eq
      · intro W hW hs
        obtain ⟨f0, f1, f2, f3, f4, f5, f6, f7, f8, f9, f10, f11⟩ := FX.out
        unfold opG
        go_simp
        first | exact resG_eq_mk _ _ _ | rfl
      simp only [Act.put, List.setIfInBounds_toArray, List.set_cons_zero, List.set_cons_succ]
      apply wpG_eq
      · intro W hW hs
        obtain ⟨f0, f1, f2, f3, f4, f5, f6, f7, f8, f9, f10, f11⟩ := FX.out
        unfold opG
        go_simp
        first | exact resG_eq_mk _ _ _ | rfl
      simp only [Act.put, List.setIfInBounds_toArray, List.set_cons_zero, List.set_cons_succ]
      apply wpG_eq
      · intro W hW hs
        obtain ⟨f0, f1, f2, f3, f4, f5, f6, f7, f8, f9, f10, f11⟩ := FX.out
        unfold opG
        go_simp
        first | exact resG_eq_mk _ _ _ | rfl
      simp only [Act.put, List.setIfInBounds_toArray, List.set_cons_zero, List.set_cons_succ]
      apply wpG_eq
      · intro W hW hs
        obtain ⟨f0, f1, f2, f3, f4, f5, f6, f7, f8, f9, f10, f11⟩ := FX.out
        unfold opG
        go_simp
        first | exact resG_eq_mk _ _ _ | rfl
      simp only [Act.put, List.setIfInBounds_toArray, List.set_cons_zero, List.set_cons_succ]
      apply wpG_eq
      · intro W hW hs
        obtain ⟨f0, f1, f2, f3, f4, f5, f6, f7, f8, f9, f10, f11⟩ := FX.out
        unfold opG
        go_simp
        first | exact resG_eq_mk _ _ _ | rfl
      simp only [Act.put, List.setIfInBounds_toArray, List.set_cons_zero, List.set_cons_succ]
      apply wpG_eq
      · intro W hW hs
        obtain ⟨f0, f1, f2, f3, f4, f5, f6, f7, f8, f9, f10, f11⟩ := FX.out
        unfold opG
        go_simp
        first | exact resG_eq_mk _ _ _ | rfl
      simp only [Act.put, List.setIfInBounds_toArray, List.set_cons_zero, List.set_cons_succ]
      apply wpG_eq
      · intro W hW hs
        obtain ⟨f0, f1, f2, f3, f4, f5, f6, f7, f8, f9, f10, f11⟩ := FX.out
        unfold opG
        go_simp
        first | exact resG_eq_mk _ _ _ | rfl
      simp only [Act.put, List.setIfInBounds_toArray, List.set_cons_zero, List.set_cons_succ]
      apply wpG_eq
      · intro W hW hs
        obtain ⟨f0, f1, f2, f3, f4, f5, f6, f7, f8, f9, f10, f11⟩ := FX.out
        unfold opG
        go_simp
        first | exact resG_eq_mk _ _ _ | rfl
      simp only [Act.put, List.setIfInBounds_toArray, List.set_cons_zero, List.set_cons_succ]
      apply wpG_nil
      intro W9 hW9 hsAll
      have G9 := Gr.trans HG1.out (Gr.trans ((Gr.refl w1).drew) hW9)
      clear hsAll
      go_wp2
      go_ret
      exact ⟨KEY.out _ HR.out, G9⟩
    · have FX := Lib.hid (show ((x.origin < 0) = False) ∧ ((sites ≤ x.origin) = False) ∧ (((x.seq : Int) < 1) = False) ∧ ((x.seq < 1) = False) ∧ ((x.seq = 0) = False) ∧ (((x.stamp.length : Int) == sites) = true) ∧ (((x.stamp.length : Int) != sites) = false) ∧ (((x.stamp.length : Int) = sites) = True) ∧ (((c0 : Int) != IntKind.u64.wrap ((x.seq : Int) - 1)) = false) ∧ (((c0 : Int) = IntKind.u64.wrap ((x.seq : Int) - 1)) = True) ∧ (((c0 : Int) == ((x.seq : Int) - 1) % 18446744073709551616) = true) ∧ (((c0 : Int) != ((x.seq : Int) - 1) % 18446744073709551616) = false) from ⟨eq_false (by have := H1.out; omega), eq_false (by have := H2.out; omega), eq_false (by have := H3.out; omega), eq_false (by have := H3.out; omega), eq_false (by have := H3.out; omega), (by rw [beq_iff_eq]; exact H4.out), (by rw [H4.out]; simp), eq_true (by exact H4.out), (by rw [bne_eq_false_iff_eq, HSUW.out]; have := H5.out; omega), eq_true (by rw [HSUW.out]; have := H5.out; omega), (by rw [beq_iff_eq]; have := HSUB.out; have := H5.out; omega), (by rw [bne_eq_false_iff_eq]; have := HSUB.out; have := H5.out; omega)⟩)
      have hr : badV x sites regions = false := by
        rw [H6.out]; rfl
      have HR := Lib.hid hr
      clear hr
      go_upto_region 3 with fail
      apply wp_region_draw_grow (.eq _ :: .eq _ :: .eq _ :: .eq _ :: .eq _ :: .eq _ :: .eq _ :: .eq _ :: .eq _ :: .eq _ :: .eq _ :: .eq _ :: .eq _ :: .eq _ :: .eq _ :: .eq _ :: .eq _ :: .eq _ :: .eq _ :: .eq _ :: .eq _ :: .eq _ :: .eq _ :: .eq _ :: .eq _ :: .eq _ :: .eq _ :: .eq _ :: .eq _ :: .eq _ :: .eq _ :: .eq _ :: .eq _ :: .eq _ :: .eq _ :: .eq _ :: .eq _ :: .eq _ :: []) (by kernel_rfl) (by kernel_rfl) trivial
      apply wpG_eq
      · intro W hW hs
        obtain ⟨f0, f1, f2, f3, f4, f5, f6, f7, f8, f9, f10, f11⟩ := FX.out
        unfold opG
        go_simp
        first | exact resG_eq_mk _ _ _ | rfl
      simp only [Act.put, List.setIfInBounds_toArray, List.set_cons_zero, List.set_cons_succ]
      apply wpG_eq
      · intro W hW hs
        obtain ⟨f0, f1, f2, f3, f4, f5, f6, f7, f8, f9, f10, f11⟩ := FX.out
        obtain ⟨t0, t1, t4⟩ := CW.out _ hW
        unfold opG
        go_simp
        first | exact resG_eq_mk _ _ _ | rfl
      simp only [Act.put, List.setIfInBounds_toArray, List.set_cons_zero, List.set_cons_succ]
      apply wpG_eq
      · intro W hW hs
        obtain ⟨f0, f1, f2, f3, f4, f5, f6, f7, f8, f9, f10, f11⟩ := FX.out
        unfold opG
        go_simp
        first | exact resG_eq_mk _ _ _ | rfl
      simp only [Act.put, List.setIfInBounds_toArray, List.set_cons_zero, List.set_cons_succ]
      apply wpG_eq
      · intro W hW hs
        obtain ⟨f0, f1, f2, f3, f4, f5, f6, f7, f8, f9, f10, f11⟩ := FX.out
        unfold opG
        go_simp
        first | exact resG_eq_mk _ _ _ | rfl
      simp only [Act.put, List.setIfInBounds_toArray, List.set_cons_zero, List.set_cons_succ]
      apply wpG_eq
      · intro W hW hs
        obtain ⟨f0, f1, f2, f3, f4, f5, f6, f7, f8, f9, f10, f11⟩ := FX.out
        unfold opG
        go_simp
        first | exact resG_eq_mk _ _ _ | rfl
      simp only [Act.put, List.setIfInBounds_toArray, List.set_cons_zero, List.set_cons_succ]
      apply wpG_eq
      · intro W hW hs
        obtain ⟨f0, f1, f2, f3, f4, f5, f6, f7, f8, f9, f10, f11⟩ := FX.out
        obtain ⟨t0, t1, t4⟩ := CW.out _ hW
        unfold opG
        go_simp
        first | exact resG_eq_mk _ _ _ | rfl
      simp only [Act.put, List.setIfInBounds_toArray, List.set_cons_zero, List.set_cons_succ]
      apply wpG_eq
      · intro W hW hs
        obtain ⟨f0, f1, f2, f3, f4, f5, f6, f7, f8, f9, f10, f11⟩ := FX.out
        unfold opG
        go_simp
        first | exact resG_eq_mk _ _ _ | rfl
      simp only [Act.put, List.setIfInBounds_toArray, List.set_cons_zero, List.set_cons_succ]
      apply wpG_eq
      · intro W hW hs
        obtain ⟨f0, f1, f2, f3, f4, f5, f6, f7, f8, f9, f10, f11⟩ := FX.out
        unfold opG
        go_simp
        first | exact resG_eq_mk _ _ _ | rfl
      simp only [Act.put, List.setIfInBounds_toArray, List.set_cons_zero, List.set_cons_succ]
      apply wpG_eq
      · intro W hW hs
        obtain ⟨f0, f1, f2, f3, f4, f5, f6, f7, f8, f9, f10, f11⟩ := FX.out
        unfold opG
        go_simp
        first | exact resG_eq_mk _ _ _ | rfl
      simp only [Act.put, List.setIfInBounds_toArray, List.set_cons_zero, List.set_cons_succ]
      apply wpG_eq
      · intro W hW hs
        obtain ⟨f0, f1, f2, f3, f4, f5, f6, f7, f8, f9, f10, f11⟩ := FX.out
        unfold opG
        go_simp
        first | exact resG_eq_mk _ _ _ | rfl
      simp only [Act.put, List.setIfInBounds_toArray, List.set_cons_zero, List.set_cons_succ]
      apply wpG_eq
      · intro W hW hs
        obtain ⟨f0, f1, f2, f3, f4, f5, f6, f7, f8, f9, f10, f11⟩ := FX.out
        unfold opG
        go_simp
        first | exact resG_eq_mk _ _ _ | rfl
      simp only [Act.put, List.setIfInBounds_toArray, List.set_cons_zero, List.set_cons_succ]
      apply wpG_eq
      · intro W hW hs
        obtain ⟨f0, f1, f2, f3, f4, f5, f6, f7, f8, f9, f10, f11⟩ := FX.out
        obtain ⟨t0, t1, t4⟩ := CW.out _ hW
        unfold opG
        go_simp
        first | exact resG_eq_mk _ _ _ | rfl
      simp only [Act.put, List.setIfInBounds_toArray, List.set_cons_zero, List.set_cons_succ]
      apply wpG_eq
      · intro W hW hs
        obtain ⟨f0, f1, f2, f3, f4, f5, f6, f7, f8, f9, f10, f11⟩ := FX.out
        unfold opG
        go_simp
        first | exact resG_eq_mk _ _ _ | rfl
      simp only [Act.put, List.setIfInBounds_toArray, List.set_cons_zero, List.set_cons_succ]
      apply wpG_eq
      · intro W hW hs
        obtain ⟨f0, f1, f2, f3, f4, f5, f6, f7, f8, f9, f10, f11⟩ := FX.out
        unfold opG
        go_simp
        first | exact resG_eq_mk _ _ _ | rfl
      simp only [Act.put, List.setIfInBounds_toArray, List.set_cons_zero, List.set_cons_succ]
      apply wpG_eq
      · intro W hW hs
        obtain ⟨f0, f1, f2, f3, f4, f5, f6, f7, f8, f9, f10, f11⟩ := FX.out
        unfold opG
        go_simp
        first | exact resG_eq_mk _ _ _ | rfl
      simp only [Act.put, List.setIfInBounds_toArray, List.set_cons_zero, List.set_cons_succ]
      apply wpG_eq
      · intro W hW hs
        obtain ⟨f0, f1, f2, f3, f4, f5, f6, f7, f8, f9, f10, f11⟩ := FX.out
        unfold opG
        go_simp
        first | exact resG_eq_mk _ _ _ | rfl
      simp only [Act.put, List.setIfInBounds_toArray, List.set_cons_zero, List.set_cons_succ]
      apply wpG_eq
      · intro W hW hs
        obtain ⟨f0, f1, f2, f3, f4, f5, f6, f7, f8, f9, f10, f11⟩ := FX.out
        obtain ⟨t0, t1, t4⟩ := CW.out _ hW
        unfold opG
        go_simp
        first | exact resG_eq_mk _ _ _ | rfl
      simp only [Act.put, List.setIfInBounds_toArray, List.set_cons_zero, List.set_cons_succ]
      apply wpG_eq
      · intro W hW hs
        obtain ⟨f0, f1, f2, f3, f4, f5, f6, f7, f8, f9, f10, f11⟩ := FX.out
        unfold opG
        go_simp
        first | exact resG_eq_mk _ _ _ | rfl
      simp only [Act.put, List.setIfInBounds_toArray, List.set_cons_zero, List.set_cons_succ]
      apply wpG_eq
      · intro W hW hs
        obtain ⟨f0, f1, f2, f3, f4, f5, f6, f7, f8, f9, f10, f11⟩ := FX.out
        unfold opG
        go_simp
        first | exact resG_eq_mk _ _ _ | rfl
      simp only [Act.put, List.setIfInBounds_toArray, List.set_cons_zero, List.set_cons_succ]
      apply wpG_eq
      · intro W hW hs
        obtain ⟨f0, f1, f2, f3, f4, f5, f6, f7, f8, f9, f10, f11⟩ := FX.out
        unfold opG
        go_simp
        first | exact resG_eq_mk _ _ _ | rfl
      simp only [Act.put, List.setIfInBounds_toArray, List.set_cons_zero, List.set_cons_succ]
      apply wpG_eq
      · intro W hW hs
        obtain ⟨f0, f1, f2, f3, f4, f5, f6, f7, f8, f9, f10, f11⟩ := FX.out
        unfold opG
        go_simp
        first | exact resG_eq_mk _ _ _ | rfl
      simp only [Act.put, List.setIfInBounds_toArray, List.set_cons_zero, List.set_cons_succ]
      apply wpG_eq
      · intro W hW hs
        obtain ⟨f0, f1, f2, f3, f4, f5, f6, f7, f8, f9, f10, f11⟩ := FX.out
        unfold opG
        go_simp
        first | exact resG_eq_mk _ _ _ | rfl
      simp only [Act.put, List.setIfInBounds_toArray, List.set_cons_zero, List.set_cons_succ]
      apply wpG_eq
      · intro W hW hs
        obtain ⟨f0, f1, f2, f3, f4, f5, f6, f7, f8, f9, f10, f11⟩ := FX.out
        unfold opG
        go_simp
        first | exact resG_eq_mk _ _ _ | rfl
      simp only [Act.put, List.setIfInBounds_toArray, List.set_cons_zero, List.set_cons_succ]
      apply wpG_eq
      · intro W hW hs
        obtain ⟨f0, f1, f2, f3, f4, f5, f6, f7, f8, f9, f10, f11⟩ := FX.out
        obtain ⟨t0, t1, t4⟩ := CW.out _ hW
        unfold opG
        go_simp
        first | exact resG_eq_mk _ _ _ | rfl
      simp only [Act.put, List.setIfInBounds_toArray, List.set_cons_zero, List.set_cons_succ]
      apply wpG_eq
      · intro W hW hs
        obtain ⟨f0, f1, f2, f3, f4, f5, f6, f7, f8, f9, f10, f11⟩ := FX.out
        unfold opG
        go_simp
        first | exact resG_eq_mk _ _ _ | rfl
      simp only [Act.put, List.setIfInBounds_toArray, List.set_cons_zero, List.set_cons_succ]
      apply wpG_eq
      · intro W hW hs
        obtain ⟨f0, f1, f2, f3, f4, f5, f6, f7, f8, f9, f10, f11⟩ := FX.out
        obtain ⟨t0, t1, t4⟩ := CW.out _ hW
        unfold opG
        go_simp
        first | exact resG_eq_mk _ _ _ | rfl
      simp only [Act.put, List.setIfInBounds_toArray, List.set_cons_zero, List.set_cons_succ]
      apply wpG_eq
      · intro W hW hs
        obtain ⟨f0, f1, f2, f3, f4, f5, f6, f7, f8, f9, f10, f11⟩ := FX.out
        unfold opG
        go_simp
        first | exact resG_eq_mk _ _ _ | rfl
      simp only [Act.put, List.setIfInBounds_toArray, List.set_cons_zero, List.set_cons_succ]
      apply wpG_eq
      · intro W hW hs
        obtain ⟨f0, f1, f2, f3, f4, f5, f6, f7, f8, f9, f10, f11⟩ := FX.out
        have h1 := (CV.out) _ hW
        unfold opG
        go_simp
        first | exact resG_eq_mk _ _ _ | rfl
      simp only [Act.put, List.setIfInBounds_toArray, List.set_cons_zero, List.set_cons_succ]
      apply wpG_eq
      · intro W hW hs
        obtain ⟨f0, f1, f2, f3, f4, f5, f6, f7, f8, f9, f10, f11⟩ := FX.out
        unfold opG
        go_simp
        first | exact resG_eq_mk _ _ _ | rfl
      simp only [Act.put, List.setIfInBounds_toArray, List.set_cons_zero, List.set_cons_succ]
      apply wpG_eq
      · intro W hW hs
        obtain ⟨f0, f1, f2, f3, f4, f5, f6, f7, f8, f9, f10, f11⟩ := FX.out
        obtain ⟨t0, t1, t4⟩ := CW.out _ hW
        unfold opG
        go_simp
        first | exact resG_eq_mk _ _ _ | rfl
      simp only [Act.put, List.setIfInBounds_toArray, List.set_cons_zero, List.set_cons_succ]
      apply wpG_eq
      · intro W hW hs
        obtain ⟨f0, f1, f2, f3, f4, f5, f6, f7, f8, f9, f10, f11⟩ := FX.out
        unfold opG
        go_simp
        first | exact resG_eq_mk _ _ _ | rfl
      simp only [Act.put, List.setIfInBounds_toArray, List.set_cons_zero, List.set_cons_succ]
      apply wpG_eq
      · intro W hW hs
        obtain ⟨f0, f1, f2, f3, f4, f5, f6, f7, f8, f9, f10, f11⟩ := FX.out
        unfold opG
        go_simp
        first | exact resG_eq_mk _ _ _ | rfl
      simp only [Act.put, List.setIfInBounds_toArray, List.set_cons_zero, List.set_cons_succ]
      apply wpG_eq
      · intro W hW hs
        obtain ⟨f0, f1, f2, f3, f4, f5, f6, f7, f8, f9, f10, f11⟩ := FX.out
        unfold opG
        go_simp
        first | exact resG_eq_mk _ _ _ | rfl
      simp only [Act.put, List.setIfInBounds_toArray, List.set_cons_zero, List.set_cons_succ]
      apply wpG_eq
      · intro W hW hs
        obtain ⟨f0, f1, f2, f3, f4, f5, f6, f7, f8, f9, f10, f11⟩ := FX.out
        unfold opG
        go_simp
        first | exact resG_eq_mk _ _ _ | rfl
      simp only [Act.put, List.setIfInBounds_toArray, List.set_cons_zero, List.set_cons_succ]
      apply wpG_eq
      · intro W hW hs
        obtain ⟨f0, f1, f2, f3, f4, f5, f6, f7, f8, f9, f10, f11⟩ := FX.out
        unfold opG
        go_simp
        first | exact resG_eq_mk _ _ _ | rfl
      simp only [Act.put, List.setIfInBounds_toArray, List.set_cons_zero, List.set_cons_succ]
      apply wpG_eq
      · intro W hW hs
        obtain ⟨f0, f1, f2, f3, f4, f5, f6, f7, f8, f9, f10, f11⟩ := FX.out
        unfold opG
        go_simp
        first | exact resG_eq_mk _ _ _ | rfl
      simp only [Act.put, List.setIfInBounds_toArray, List.set_cons_zero, List.set_cons_succ]
      apply wpG_eq
      · intro W hW hs
        obtain ⟨f0, f1, f2, f3, f4, f5, f6, f7, f8, f9, f10, f11⟩ := FX.out
        unfold opG
        go_simp
        first | exact resG_eq_mk _ _ _ | rfl
      simp only [Act.put, List.setIfInBounds_toArray, List.set_cons_zero, List.set_cons_succ]
      apply wpG_eq
      · intro W hW hs
        obtain ⟨f0, f1, f2, f3, f4, f5, f6, f7, f8, f9, f10, f11⟩ := FX.out
        unfold opG
        go_simp
        first | exact resG_eq_mk _ _ _ | rfl
      simp only [Act.put, List.setIfInBounds_toArray, List.set_cons_zero, List.set_cons_succ]
      apply wpG_nil
      intro W9 hW9 hsAll
      have G9 := Gr.trans HG1.out (Gr.trans ((Gr.refl w1).drew) hW9)
      clear hsAll
      go_wp2
      go_ret
      exact ⟨KEY.out _ HR.out, G9⟩
  · rcases bc with _ | _
    · have FX := Lib.hid (show ((x.origin < 0) = False) ∧ ((sites ≤ x.origin) = False) ∧ (((x.seq : Int) < 1) = False) ∧ ((x.seq < 1) = False) ∧ ((x.seq = 0) = False) ∧ (((x.stamp.length : Int) == sites) = true) ∧ (((x.stamp.length : Int) != sites) = false) ∧ (((x.stamp.length : Int) = sites) = True) ∧ (((c0 : Int) != IntKind.u64.wrap ((x.seq : Int) - 1)) = false) ∧ (((c0 : Int) = IntKind.u64.wrap ((x.seq : Int) - 1)) = True) ∧ (((c0 : Int) == ((x.seq : Int) - 1) % 18446744073709551616) = true) ∧ (((c0 : Int) != ((x.seq : Int) - 1) % 18446744073709551616) = false) from ⟨eq_false (by have := H1.out; omega), eq_false (by have := H2.out; omega), eq_false (by have := H3.out; omega), eq_false (by have := H3.out; omega), eq_false (by have := H3.out; omega), (by rw [beq_iff_eq]; exact H4.out), (by rw [H4.out]; simp), eq_true (by exact H4.out), (by rw [bne_eq_false_iff_eq, HSUW.out]; have := H5.out; omega), eq_true (by rw [HSUW.out]; have := H5.out; omega), (by rw [beq_iff_eq]; have := HSUB.out; have := H5.out; omega), (by rw [bne_eq_false_iff_eq]; have := HSUB.out; have := H5.out; omega)⟩)
      have hr : badV x sites regions = false := by
        rw [H6.out]; rfl
      have HR := Lib.hid hr
      clear hr
      go_upto_region 3 with fail
      apply wp_region_draw_grow (.eq _ :: .eq _ :: .eq _ :: .eq _ :: .eq _ :: .eq _ :: .eq _ :: .eq _ :: .eq _ :: .eq _ :: .eq _ :: .eq _ :: .eq _ :: .eq _ :: .eq _ :: .eq _ :: .eq _ :: .eq _ :: .eq _ :: .eq _ :: .eq _ :: .eq _ :: .eq _ :: .eq _ :: .eq _ :: .eq _ :: .eq _ :: .eq _ :: .eq _ :: .eq _ :: .eq _ :: .eq _ :: .eq _ :: .eq _ :: .eq _ :: .eq _ :: .eq _ :: .eq _ :: []) (by kernel_rfl) (by kernel_rfl) trivial
      apply wpG_eq
      · intro W hW hs
        obtain ⟨f0, f1, f2, f3, f4, f5, f6, f7, f8, f9, f10, f11⟩ := FX.out
        unfold opG
        go_simp
        first | exact resG_eq_mk _ _ _ | rfl
      simp only [Act.put, List.setIfInBounds_toArray, List.set_cons_zero, List.set_cons_succ]
      apply wpG_eq
      · intro W hW hs
        obtain ⟨f0, f1, f2, f3, f4, f5, f6, f7, f8, f9, f10, f11⟩ := FX.out
        obtain ⟨t0, t1, t4⟩ := CW.out _ hW
        unfold opG
        go_simp
        first | exact resG_eq_mk _ _ _ | rfl
      simp only [Act.put, List.setIfInBounds_toArray, List.set_cons_zero, List.set_cons_succ]
      apply wpG_eq
      · intro W hW hs
        obtain ⟨f0, f1, f2, f3, f4, f5, f6, f7, f8, f9, f10, f11⟩ := FX.out
        unfold opG
        go_simp
        first | exact resG_eq_mk _ _ _ | rfl
      simp only [Act.put, List.setIfInBounds_toArray, List.set_cons_zero, List.set_cons_succ]
      apply wpG_eq
      · intro W hW hs
        obtain ⟨f0, f1, f2, f3, f4, f5, f6, f7, f8, f9, f10, f11⟩ := FX.out
        unfold opG
        go_simp
        first | exact resG_eq_mk _ _ _ | rfl
      simp only [Act.put, List.setIfInBounds_toArray, List.set_cons_zero, List.set_cons_succ]
      apply wpG_eq
      · intro W hW hs
        obtain ⟨f0, f1, f2, f3, f4, f5, f6, f7, f8, f9, f10, f11⟩ := FX.out
        unfold opG
        go_simp
        first | exact resG_eq_mk _ _ _ | rfl
      simp only [Act.put, List.setIfInBounds_toArray, List.set_cons_zero, List.set_cons_succ]
      apply wpG_eq
      · intro W hW hs
        obtain ⟨f0, f1, f2, f3, f4, f5, f6, f7, f8, f9, f10, f11⟩ := FX.out
        obtain ⟨t0, t1, t4⟩ := CW.out _ hW
        unfold opG
        go_simp
        first | exact resG_eq_mk _ _ _ | rfl
      simp only [Act.put, List.setIfInBounds_toArray, List.set_cons_zero, List.set_cons_succ]
      apply wpG_eq
      · intro W hW hs
        obtain ⟨f0, f1, f2, f3, f4, f5, f6, f7, f8, f9, f10, f11⟩ := FX.out
        unfold opG
        go_simp
        first | exact resG_eq_mk _ _ _ | rfl
      simp only [Act.put, List.setIfInBounds_toArray, List.set_cons_zero, List.set_cons_succ]
      apply wpG_eq
      · intro W hW hs
        obtain ⟨f0, f1, f2, f3, f4, f5, f6, f7, f8, f9, f10, f11⟩ := FX.out
        unfold opG
        go_simp
        first | exact resG_eq_mk _ _ _ | rfl
      simp only [Act.put, List.setIfInBounds_toArray, List.set_cons_zero, List.set_cons_succ]
      apply wpG_eq
      · intro W hW hs
        obtain ⟨f0, f1, f2, f3, f4, f5, f6, f7, f8, f9, f10, f11⟩ := FX.out
        unfold opG
        go_simp
        first | exact resG_eq_mk _ _ _ | rfl
      simp only [Act.put, List.setIfInBounds_toArray, List.set_cons_zero, List.set_cons_succ]
      apply wpG_eq
      · intro W hW hs
        obtain ⟨f0, f1, f2, f3, f4, f5, f6, f7, f8, f9, f10, f11⟩ := FX.out
        unfold opG
        go_simp
        first | exact resG_eq_mk _ _ _ | rfl
      simp only [Act.put, List.setIfInBounds_toArray, List.set_cons_zero, List.set_cons_succ]
      apply wpG_eq
      · intro W hW hs
        obtain ⟨f0, f1, f2, f3, f4, f5, f6, f7, f8, f9, f10, f11⟩ := FX.out
        unfold opG
        go_simp
        first | exact resG_eq_mk _ _ _ | rfl
      simp only [Act.put, List.setIfInBounds_toArray, List.set_cons_zero, List.set_cons_succ]
      apply wpG_eq
      · intro W hW hs
        obtain ⟨f0, f1, f2, f3, f4, f5, f6, f7, f8, f9, f10, f11⟩ := FX.out
        obtain ⟨t0, t1, t4⟩ := CW.out _ hW
        unfold opG
        go_simp
        first | exact resG_eq_mk _ _ _ | rfl
      simp only [Act.put, List.setIfInBounds_toArray, List.set_cons_zero, List.set_cons_succ]
      apply wpG_eq
      · intro W hW hs
        obtain ⟨f0, f1, f2, f3, f4, f5, f6, f7, f8, f9, f10, f11⟩ := FX.out
        unfold opG
        go_simp
        first | exact resG_eq_mk _ _ _ | rfl
      simp only [Act.put, List.setIfInBounds_toArray, List.set_cons_zero, List.set_cons_succ]
      apply wpG_eq
      · intro W hW hs
        obtain ⟨f0, f1, f2, f3, f4, f5, f6, f7, f8, f9, f10, f11⟩ := FX.out
        unfold opG
        go_simp
        first | exact resG_eq_mk _ _ _ | rfl
      simp only [Act.put, List.setIfInBounds_toArray, List.set_cons_zero, List.set_cons_succ]
      apply wpG_eq
      · intro W hW hs
        obtain ⟨f0, f1, f2, f3, f4, f5, f6, f7, f8, f9, f10, f11⟩ := FX.out
        unfold opG
        go_simp
        first | exact resG_eq_mk _ _ _ | rfl
      simp only [Act.put, List.setIfInBounds_toArray, List.set_cons_zero, List.set_cons_succ]
      apply wpG_eq
      · intro W hW hs
        obtain ⟨f0, f1, f2, f3, f4, f5, f6, f7, f8, f9, f10, f11⟩ := FX.out
        unfold opG
        go_simp
        first | exact resG_eq_mk _ _ _ | rfl
      simp only [Act.put, List.setIfInBounds_toArray, List.set_cons_zero, List.set_cons_succ]
      apply wpG_eq
      · intro W hW hs
        obtain ⟨f0, f1, f2, f3, f4, f5, f6, f7, f8, f9, f10, f11⟩ := FX.out
        obtain ⟨t0, t1, t4⟩ := CW.out _ hW
        unfold opG
        go_simp
        first | exact resG_eq_mk _ _ _ | rfl
      simp only [Act.put, List.setIfInBounds_toArray, List.set_cons_zero, List.set_cons_succ]
      apply wpG_eq
      · intro W hW hs
        obtain ⟨f0, f1, f2, f3, f4, f5, f6, f7, f8, f9, f10, f11⟩ := FX.out
        unfold opG
        go_simp
        first | exact resG_eq_mk _ _ _ | rfl
      simp only [Act.put, List.setIfInBounds_toArray, List.set_cons_zero, List.set_cons_succ]
      apply wpG_eq
      · intro W hW hs
        obtain ⟨f0, f1, f2, f3, f4, f5, f6, f7, f8, f9, f10, f11⟩ := FX.out
        unfold opG
        go_simp
        first | exact resG_eq_mk _ _ _ | rfl
      simp only [Act.put, List.setIfInBounds_toArray, List.set_cons_zero, List.set_cons_succ]
      apply wpG_eq
      · intro W hW hs
        obtain ⟨f0, f1, f2, f3, f4, f5, f6, f7, f8, f9, f10, f11⟩ := FX.out
        unfold opG
        go_simp
        first | exact resG_eq_mk _ _ _ | rfl
      simp only [Act.put, List.setIfInBounds_toArray, List.set_cons_zero, List.set_cons_succ]
      apply wpG_eq
      · intro W hW hs
        obtain ⟨f0, f1, f2, f3, f4, f5, f6, f7, f8, f9, f10, f11⟩ := FX.out
        unfold opG
        go_simp
        first | exact resG_eq_mk _ _ _ | rfl
      simp only [Act.put, List.setIfInBounds_toArray, List.set_cons_zero, List.set_cons_succ]
      apply wpG_eq
      · intro W hW hs
        obtain ⟨f0, f1, f2, f3, f4, f5, f6, f7, f8, f9, f10, f11⟩ := FX.out
        unfold opG
        go_simp
        first | exact resG_eq_mk _ _ _ | rfl
      simp only [Act.put, List.setIfInBounds_toArray, List.set_cons_zero, List.set_cons_succ]
      apply wpG_eq
      · intro W hW hs
        obtain ⟨f0, f1, f2, f3, f4, f5, f6, f7, f8, f9, f10, f11⟩ := FX.out
        unfold opG
        go_simp
        first | exact resG_eq_mk _ _ _ | rfl
      simp only [Act.put, List.setIfInBounds_toArray, List.set_cons_zero, List.set_cons_succ]
      apply wpG_eq
      · intro W hW hs
        obtain ⟨f0, f1, f2, f3, f4, f5, f6, f7, f8, f9, f10, f11⟩ := FX.out
        obtain ⟨t0, t1, t4⟩ := CW.out _ hW
        unfold opG
        go_simp
        first | exact resG_eq_mk _ _ _ | rfl
      simp only [Act.put, List.setIfInBounds_toArray, List.set_cons_zero, List.set_cons_succ]
      apply wpG_eq
      · intro W hW hs
        obtain ⟨f0, f1, f2, f3, f4, f5, f6, f7, f8, f9, f10, f11⟩ := FX.out
        unfold opG
        go_simp
        first | exact resG_eq_mk _ _ _ | rfl
      simp only [Act.put, List.setIfInBounds_toArray, List.set_cons_zero, List.set_cons_succ]
      apply wpG_eq
      · intro W hW hs
        obtain ⟨f0, f1, f2, f3, f4, f5, f6, f7, f8, f9, f10, f11⟩ := FX.out
        obtain ⟨t0, t1, t4⟩ := CW.out _ hW
        unfold opG
        go_simp
        first | exact resG_eq_mk _ _ _ | rfl
      simp only [Act.put, List.setIfInBounds_toArray, List.set_cons_zero, List.set_cons_succ]
      apply wpG_eq
      · intro W hW hs
        obtain ⟨f0, f1, f2, f3, f4, f5, f6, f7, f8, f9, f10, f11⟩ := FX.out
        unfold opG
        go_simp
        first | exact resG_eq_mk _ _ _ | rfl
      simp only [Act.put, List.setIfInBounds_toArray, List.set_cons_zero, List.set_cons_succ]
      apply wpG_eq
      · intro W hW hs
        obtain ⟨f0, f1, f2, f3, f4, f5, f6, f7, f8, f9, f10, f11⟩ := FX.out
        have h1 := (CV.out) _ hW
        unfold opG
        go_simp
        first | exact resG_eq_mk _ _ _ | rfl
      simp only [Act.put, List.setIfInBounds_toArray, List.set_cons_zero, List.set_cons_succ]
      apply wpG_eq
      · intro W hW hs
        obtain ⟨f0, f1, f2, f3, f4, f5, f6, f7, f8, f9, f10, f11⟩ := FX.out
        unfold opG
        go_simp
        first | exact resG_eq_mk _ _ _ | rfl
      simp only [Act.put, List.setIfInBounds_toArray, List.set_cons_zero, List.set_cons_succ]
      apply wpG_eq
      · intro W hW hs
        obtain ⟨f0, f1, f2, f3, f4, f5, f6, f7, f8, f9, f10, f11⟩ := FX.out
        obtain ⟨t0, t1, t4⟩ := CW.out _ hW
        unfold opG
        go_simp
        first | exact resG_eq_mk _ _ _ | rfl
      simp only [Act.put, List.setIfInBounds_toArray, List.set_cons_zero, List.set_cons_succ]
      apply wpG_eq
      · intro W hW hs
        obtain ⟨f0, f1, f2, f3, f4, f5, f6, f7, f8, f9, f10, f11⟩ := FX.out
        unfold opG
        go_simp
        first | exact resG_eq_mk _ _ _ | rfl
      simp only [Act.put, List.setIfInBounds_toArray, List.set_cons_zero, List.set_cons_succ]
      apply wpG_eq
      · intro W hW hs
        obtain ⟨f0, f1, f2, f3, f4, f5, f6, f7, f8, f9, f10, f11⟩ := FX.out
        unfold opG
        go_simp
        first | exact resG_eq_mk _ _ _ | rfl
      simp only [Act.put, List.setIfInBounds_toArray, List.set_cons_zero, List.set_cons_succ]
      apply wpG_eq
      · intro W hW hs
        obtain ⟨f0, f1, f2, f3, f4, f5, f6, f7, f8, f9, f10, f11⟩ := FX.out
        unfold opG
        go_simp
        first | exact resG_eq_mk _ _ _ | rfl
      simp only [Act.put, List.setIfInBounds_toArray, List.set_cons_zero, List.set_cons_succ]
      apply wpG_eq
      · intro W hW hs
        obtain ⟨f0, f1, f2, f3, f4, f5, f6, f7, f8, f9, f10, f11⟩ := FX.out
        unfold opG
        go_simp
        first | exact resG_eq_mk _ _ _ | rfl
      simp only [Act.put, List.setIfInBounds_toArray, List.set_cons_zero, List.set_cons_succ]
      apply wpG_eq
      · intro W hW hs
        obtain ⟨f0, f1, f2, f3, f4, f5, f6, f7, f8, f9, f10, f11⟩ := FX.out
        unfold opG
        go_simp
        first | exact resG_eq_mk _ _ _ | rfl
      simp only [Act.put, List.setIfInBounds_toArray, List.set_cons_zero, List.set_cons_succ]
      apply wpG_eq
      · intro W hW hs
        obtain ⟨f0, f1, f2, f3, f4, f5, f6, f7, f8, f9, f10, f11⟩ := FX.out
        unfold opG
        go_simp
        first | exact resG_eq_mk _ _ _ | rfl
      simp only [Act.put, List.setIfInBounds_toArray, List.set_cons_zero, List.set_cons_succ]
      apply wpG_eq
      · intro W hW hs
        obtain ⟨f0, f1, f2, f3, f4, f5, f6, f7, f8, f9, f10, f11⟩ := FX.out
        unfold opG
        go_simp
        first | exact resG_eq_mk _ _ _ | rfl
      simp only [Act.put, List.setIfInBounds_toArray, List.set_cons_zero, List.set_cons_succ]
      apply wpG_eq
      · intro W hW hs
        obtain ⟨f0, f1, f2, f3, f4, f5, f6, f7, f8, f9, f10, f11⟩ := FX.out
        unfold opG
        go_simp
        first | exact resG_eq_mk _ _ _ | rfl
      simp only [Act.put, List.setIfInBounds_toArray, List.set_cons_zero, List.set_cons_succ]
      apply wpG_nil
      intro W9 hW9 hsAll
      have G9 := Gr.trans HG1.out (Gr.trans ((Gr.refl w1).drew) hW9)
      clear hsAll
      go_wp2
      go_ret
      exact ⟨KEY.out _ HR.out, G9⟩
    · have FX := Lib.hid (show ((x.origin < 0) = False) ∧ ((sites ≤ x.origin) = False) ∧ (((x.seq : Int) < 1) = False) ∧ ((x.seq < 1) = False) ∧ ((x.seq = 0) = False) ∧ (((x.stamp.length : Int) == sites) = true) ∧ (((x.stamp.length : Int) != sites) = false) ∧ (((x.stamp.length : Int) = sites) = True) ∧ (((c0 : Int) != IntKind.u64.wrap ((x.seq : Int) - 1)) = false) ∧ (((c0 : Int) = IntKind.u64.wrap ((x.seq : Int) - 1)) = True) ∧ (((c0 : Int) == ((x.seq : Int) - 1) % 18446744073709551616) = true) ∧ (((c0 : Int) != ((x.seq : Int) - 1) % 18446744073709551616) = false) from ⟨eq_false (by have := H1.out; omega), eq_false (by have := H2.out; omega), eq_false (by have := H3.out; omega), eq_false (by have := H3.out; omega), eq_false (by have := H3.out; omega), (by rw [beq_iff_eq]; exact H4.out), (by rw [H4.out]; simp), eq_true (by exact H4.out), (by rw [bne_eq_false_iff_eq, HSUW.out]; have := H5.out; omega), eq_true (by rw [HSUW.out]; have := H5.out; omega), (by rw [beq_iff_eq]; have := HSUB.out; have := H5.out; omega), (by rw [bne_eq_false_iff_eq]; have := HSUB.out; have := H5.out; omega)⟩)
      have hr : badV x sites regions = true := by
        rw [H6.out]; rfl
      have HR := Lib.hid hr
      clear hr
      go_upto_region 3 with fail
      apply wp_region_draw_grow (.eq _ :: .eq _ :: .eq _ :: .eq _ :: .eq _ :: .eq _ :: .eq _ :: .eq _ :: .eq _ :: .eq _ :: .eq _ :: .eq _ :: .eq _ :: .eq _ :: .eq _ :: .eq _ :: .eq _ :: .eq _ :: .eq _ :: .eq _ :: .eq _ :: .eq _ :: .eq _ :: .eq _ :: .eq _ :: .eq _ :: .eq _ :: .eq _ :: .eq _ :: .eq _ :: .eq _ :: .eq _ :: .eq _ :: .eq _ :: .eq _ :: .eq _ :: .eq _ :: .eq _ :: []) (by kernel_rfl) (by kernel_rfl) trivial
      apply wpG_eq
      · intro W hW hs
        obtain ⟨f0, f1, f2, f3, f4, f5, f6, f7, f8, f9, f10, f11⟩ := FX.out
        unfold opG
        go_simp
        first | exact resG_eq_mk _ _ _ | rfl
      simp only [Act.put, List.setIfInBounds_toArray, List.set_cons_zero, List.set_cons_succ]
      apply wpG_eq
      · intro W hW hs
        obtain ⟨f0, f1, f2, f3, f4, f5, f6, f7, f8, f9, f10, f11⟩ := FX.out
        obtain ⟨t0, t1, t4⟩ := CW.out _ hW
        unfold opG
        go_simp
        first | exact resG_eq_mk _ _ _ | rfl
      simp only [Act.put, List.setIfInBounds_toArray, List.set_cons_zero, List.set_cons_succ]
      apply wpG_eq
      · intro W hW hs
        obtain ⟨f0, f1, f2, f3, f4, f5, f6, f7, f8, f9, f10, f11⟩ := FX.out
        unfold opG
        go_simp
        first | exact resG_eq_mk _ _ _ | rfl
      simp only [Act.put, List.setIfInBounds_toArray, List.set_cons_zero, List.set_cons_succ]
      apply wpG_eq
      · intro W hW hs
        obtain ⟨f0, f1, f2, f3, f4, f5, f6, f7, f8, f9, f10, f11⟩ := FX.out
        unfold opG
        go_simp
        first | exact resG_eq_mk _ _ _ | rfl
      simp only [Act.put, List.setIfInBounds_toArray, List.set_cons_zero, List.set_cons_succ]
      apply wpG_eq
      · intro W hW hs
        obtain ⟨f0, f1, f2, f3, f4, f5, f6, f7, f8, f9, f10, f11⟩ := FX.out
        unfold opG
        go_simp
        first | exact resG_eq_mk _ _ _ | rfl
      simp only [Act.put, List.setIfInBounds_toArray, List.set_cons_zero, List.set_cons_succ]
      apply wpG_eq
      · intro W hW hs
        obtain ⟨f0, f1, f2, f3, f4, f5, f6, f7, f8, f9, f10, f11⟩ := FX.out
        obtain ⟨t0, t1, t4⟩ := CW.out _ hW
        unfold opG
        go_simp
        first | exact resG_eq_mk _ _ _ | rfl
      simp only [Act.put, List.setIfInBounds_toArray, List.set_cons_zero, List.set_cons_succ]
      apply wpG_eq
      · intro W hW hs
        obtain ⟨f0, f1, f2, f3, f4, f5, f6, f7, f8, f9, f10, f11⟩ := FX.out
        unfold opG
        go_simp
        first | exact resG_eq_mk _ _ _ | rfl
      simp only [Act.put, List.setIfInBounds_toArray, List.set_cons_zero, List.set_cons_succ]
      apply wpG_eq
      · intro W hW hs
        obtain ⟨f0, f1, f2, f3, f4, f5, f6, f7, f8, f9, f10, f11⟩ := FX.out
        unfold opG
        go_simp
        first | exact resG_eq_mk _ _ _ | rfl
      simp only [Act.put, List.setIfInBounds_toArray, List.set_cons_zero, List.set_cons_succ]
      apply wpG_eq
      · intro W hW hs
        obtain ⟨f0, f1, f2, f3, f4, f5, f6, f7, f8, f9, f10, f11⟩ := FX.out
        unfold opG
        go_simp
        first | exact resG_eq_mk _ _ _ | rfl
      simp only [Act.put, List.setIfInBounds_toArray, List.set_cons_zero, List.set_cons_succ]
      apply wpG_eq
      · intro W hW hs
        obtain ⟨f0, f1, f2, f3, f4, f5, f6, f7, f8, f9, f10, f11⟩ := FX.out
        unfold opG
        go_simp
        first | exact resG_eq_mk _ _ _ | rfl
      simp only [Act.put, List.setIfInBounds_toArray, List.set_cons_zero, List.set_cons_succ]
      apply wpG_eq
      · intro W hW hs
        obtain ⟨f0, f1, f2, f3, f4, f5, f6, f7, f8, f9, f10, f11⟩ := FX.out
        unfold opG
        go_simp
        first | exact resG_eq_mk _ _ _ | rfl
      simp only [Act.put, List.setIfInBounds_toArray, List.set_cons_zero, List.set_cons_succ]
      apply wpG_eq
      · intro W hW hs
        obtain ⟨f0, f1, f2, f3, f4, f5, f6, f7, f8, f9, f10, f11⟩ := FX.out
        obtain ⟨t0, t1, t4⟩ := CW.out _ hW
        unfold opG
        go_simp
        first | exact resG_eq_mk _ _ _ | rfl
      simp only [Act.put, List.setIfInBounds_toArray, List.set_cons_zero, List.set_cons_succ]
      apply wpG_eq
      · intro W hW hs
        obtain ⟨f0, f1, f2, f3, f4, f5, f6, f7, f8, f9, f10, f11⟩ := FX.out
        unfold opG
        go_simp
        first | exact resG_eq_mk _ _ _ | rfl
      simp only [Act.put, List.setIfInBounds_toArray, List.set_cons_zero, List.set_cons_succ]
      apply wpG_eq
      · intro W hW hs
        obtain ⟨f0, f1, f2, f3, f4, f5, f6, f7, f8, f9, f10, f11⟩ := FX.out
        unfold opG
        go_simp
        first | exact resG_eq_mk _ _ _ | rfl
      simp only [Act.put, List.setIfInBounds_toArray, List.set_cons_zero, List.set_cons_succ]
      apply wpG_eq
      · intro W hW hs
        obtain ⟨f0, f1, f2, f3, f4, f5, f6, f7, f8, f9, f10, f11⟩ := FX.out
        unfold opG
        go_simp
        first | exact resG_eq_mk _ _ _ | rfl
      simp only [Act.put, List.setIfInBounds_toArray, List.set_cons_zero, List.set_cons_succ]
      apply wpG_eq
      · intro W hW hs
        obtain ⟨f0, f1, f2, f3, f4, f5, f6, f7, f8, f9, f10, f11⟩ := FX.out
        unfold opG
        go_simp
        first | exact resG_eq_mk _ _ _ | rfl
      simp only [Act.put, List.setIfInBounds_toArray, List.set_cons_zero, List.set_cons_succ]
      apply wpG_eq
      · intro W hW hs
        obtain ⟨f0, f1, f2, f3, f4, f5, f6, f7, f8, f9, f10, f11⟩ := FX.out
        obtain ⟨t0, t1, t4⟩ := CW.out _ hW
        unfold opG
        go_simp
        first | exact resG_eq_mk _ _ _ | rfl
      simp only [Act.put, List.setIfInBounds_toArray, List.set_cons_zero, List.set_cons_succ]
      apply wpG_eq
      · intro W hW hs
        obtain ⟨f0, f1, f2, f3, f4, f5, f6, f7, f8, f9, f10, f11⟩ := FX.out
        unfold opG
        go_simp
        first | exact resG_eq_mk _ _ _ | rfl
      simp only [Act.put, List.setIfInBounds_toArray, List.set_cons_zero, List.set_cons_succ]
      apply wpG_eq
      · intro W hW hs
        obtain ⟨f0, f1, f2, f3, f4, f5, f6, f7, f8, f9, f10, f11⟩ := FX.out
        unfold opG
        go_simp
        first | exact resG_eq_mk _ _ _ | rfl
      simp only [Act.put, List.setIfInBounds_toArray, List.set_cons_zero, List.set_cons_succ]
      apply wpG_eq
      · intro W hW hs
        obtain ⟨f0, f1, f2, f3, f4, f5, f6, f7, f8, f9, f10, f11⟩ := FX.out
        unfold opG
        go_simp
        first | exact resG_eq_mk _ _ _ | rfl
      simp only [Act.put, List.setIfInBounds_toArray, List.set_cons_zero, List.set_cons_succ]
      apply wpG_eq
      · intro W hW hs
        obtain ⟨f0, f1, f2, f3, f4, f5, f6, f7, f8, f9, f10, f11⟩ := FX.out
        unfold opG
        go_simp
        first | exact resG_eq_mk _ _ _ | rfl
      simp only [Act.put, List.setIfInBounds_toArray, List.set_cons_zero, List.set_cons_succ]
      apply wpG_eq
      · intro W hW hs
        obtain ⟨f0, f1, f2, f3, f4, f5, f6, f7, f8, f9, f10, f11⟩ := FX.out
        unfold opG
        go_simp
        first | exact resG_eq_mk _ _ _ | rfl
      simp only [Act.put, List.setIfInBounds_toArray, List.set_cons_zero, List.set_cons_succ]
      apply wpG_eq
      · intro W hW hs
        obtain ⟨f0, f1, f2, f3, f4, f5, f6, f7, f8, f9, f10, f11⟩ := FX.out
        unfold opG
        go_simp
        first | exact resG_eq_mk _ _ _ | rfl
      simp only [Act.put, List.setIfInBounds_toArray, List.set_cons_zero, List.set_cons_succ]
      apply wpG_eq
      · intro W hW hs
        obtain ⟨f0, f1, f2, f3, f4, f5, f6, f7, f8, f9, f10, f11⟩ := FX.out
        obtain ⟨t0, t1, t4⟩ := CW.out _ hW
        unfold opG
        go_simp
        first | exact resG_eq_mk _ _ _ | rfl
      simp only [Act.put, List.setIfInBounds_toArray, List.set_cons_zero, List.set_cons_succ]
      apply wpG_eq
      · intro W hW hs
        obtain ⟨f0, f1, f2, f3, f4, f5, f6, f7, f8, f9, f10, f11⟩ := FX.out
        unfold opG
        go_simp
        first | exact resG_eq_mk _ _ _ | rfl
      simp only [Act.put, List.setIfInBounds_toArray, List.set_cons_zero, List.set_cons_succ]
      apply wpG_eq
      · intro W hW hs
        obtain ⟨f0, f1, f2, f3, f4, f5, f6, f7, f8, f9, f10, f11⟩ := FX.out
        obtain ⟨t0, t1, t4⟩ := CW.out _ hW
        unfold opG
        go_simp
        first | exact resG_eq_mk _ _ _ | rfl
      simp only [Act.put, List.setIfInBounds_toArray, List.set_cons_zero, List.set_cons_succ]
      apply wpG_eq
      · intro W hW hs
        obtain ⟨f0, f1, f2, f3, f4, f5, f6, f7, f8, f9, f10, f11⟩ := FX.out
        unfold opG
        go_simp
        first | exact resG_eq_mk _ _ _ | rfl
      simp only [Act.put, List.setIfInBounds_toArray, List.set_cons_zero, List.set_cons_succ]
      apply wpG_eq
      · intro W hW hs
        obtain ⟨f0, f1, f2, f3, f4, f5, f6, f7, f8, f9, f10, f11⟩ := FX.out
        have h1 := (CV.out) _ hW
        unfold opG
        go_simp
        first | exact resG_eq_mk _ _ _ | rfl
      simp only [Act.put, List.setIfInBounds_toArray, List.set_cons_zero, List.set_cons_succ]
      apply wpG_eq
      · intro W hW hs
        obtain ⟨f0, f1, f2, f3, f4, f5, f6, f7, f8, f9, f10, f11⟩ := FX.out
        unfold opG
        go_simp
        first | exact resG_eq_mk _ _ _ | rfl
      simp only [Act.put, List.setIfInBounds_toArray, List.set_cons_zero, List.set_cons_succ]
      apply wpG_eq
      · intro W hW hs
        obtain ⟨f0, f1, f2, f3, f4, f5, f6, f7, f8, f9, f10, f11⟩ := FX.out
        obtain ⟨t0, t1, t4⟩ := CW.out _ hW
        unfold opG
        go_simp
        first | exact resG_eq_mk _ _ _ | rfl
      simp only [Act.put, List.setIfInBounds_toArray, List.set_cons_zero, List.set_cons_succ]
      apply wpG_eq
      · intro W hW hs
        obtain ⟨f0, f1, f2, f3, f4, f5, f6, f7, f8, f9, f10, f11⟩ := FX.out
        unfold opG
        go_simp
        first | exact resG_eq_mk _ _ _ | rfl
      simp only [Act.put, List.setIfInBounds_toArray, List.set_cons_zero, List.set_cons_succ]
      apply wpG_eq
      · intro W hW hs
        obtain ⟨f0, f1, f2, f3, f4, f5, f6, f7, f8, f9, f10, f11⟩ := FX.out
        unfold opG
        go_simp
        first | exact resG_eq_mk _ _ _ | rfl
      simp only [Act.put, List.setIfInBounds_toArray, List.set_cons_zero, List.set_cons_succ]
      apply wpG_eq
      · intro W hW hs
        obtain ⟨f0, f1, f2, f3, f4, f5, f6, f7, f8, f9, f10, f11⟩ := FX.out
        unfold opG
        go_simp
        first | exact resG_eq_mk _ _ _ | rfl
      simp only [Act.put, List.setIfInBounds_toArray, List.set_cons_zero, List.set_cons_succ]
      apply wpG_eq
      · intro W hW hs
        obtain ⟨f0, f1, f2, f3, f4, f5, f6, f7, f8, f9, f10, f11⟩ := FX.out
        unfold opG
        go_simp
        first | exact resG_eq_mk _ _ _ | rfl
      simp only [Act.put, List.setIfInBounds_toArray, List.set_cons_zero, List.set_cons_succ]
      apply wpG_eq
      · intro W hW hs
        obtain ⟨f0, f1, f2, f3, f4, f5, f6, f7, f8, f9, f10, f11⟩ := FX.out
        unfold opG
        go_simp
        first | exact resG_eq_mk _ _ _ | rfl
      simp only [Act.put, List.setIfInBounds_toArray, List.set_cons_zero, List.set_cons_succ]
      apply wpG_eq
      · intro W hW hs
        obtain ⟨f0, f1, f2, f3, f4, f5, f6, f7, f8, f9, f10, f11⟩ := FX.out
        unfold opG
        go_simp
        first | exact resG_eq_mk _ _ _ | rfl
      simp only [Act.put, List.setIfInBounds_toArray, List.set_cons_zero, List.set_cons_succ]
      apply wpG_eq
      · intro W hW hs
        obtain ⟨f0, f1, f2, f3, f4, f5, f6, f7, f8, f9, f10, f11⟩ := FX.out
        unfold opG
        go_simp
        first | exact resG_eq_mk _ _ _ | rfl
      simp only [Act.put, List.setIfInBounds_toArray, List.set_cons_zero, List.set_cons_succ]
      apply wpG_eq
      · intro W hW hs
        obtain ⟨f0, f1, f2, f3, f4, f5, f6, f7, f8, f9, f10, f11⟩ := FX.out
        unfold opG
        go_simp
        first | exact resG_eq_mk _ _ _ | rfl
      simp only [Act.put, List.setIfInBounds_toArray, List.set_cons_zero, List.set_cons_succ]
      apply wpG_nil
      intro W9 hW9 hsAll
      have G9 := Gr.trans HG1.out (Gr.trans ((Gr.refl w1).drew) hW9)
      clear hsAll
      go_wp2
      go_ret
      exact ⟨KEY.out _ HR.out, G9⟩
end Go.Proofs.Ytpdninnnpoiblaa
