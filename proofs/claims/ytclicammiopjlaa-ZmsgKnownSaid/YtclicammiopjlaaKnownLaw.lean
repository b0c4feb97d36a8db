/-
  ZmsgKnown: the chapter's examples; each kind; limits. No input; no conditions.
-/
import Derived.Test.YtclicammiopjlaaKnownA
set_option linter.unusedVariables false
namespace Go.Proofs.Ytclicammiopjlaa
open Go.RowKit

/-- A message of kind 4 and epoch 3 with lines ls. -/
def Adopt (ls : List LineD) (u : Value) (W : World) : Prop := ∃ lv, u = .agg #[.int .u8 4, .int .u64 3, .int .u64 0, .int .i64 0, .int .i64 0, lv] ∧ Lines W lv ls
theorem Adopt.gr {ls : List LineD} {u : Value} {W W' : World} (h : Adopt ls u W) (g : Gr W W') : Adopt ls u W' := by
  obtain ⟨lv, e, h⟩ := h; exact ⟨lv, e, h.below g⟩
/-- A line of epoch 1 with the bytes b. -/
def LineV (b : List UInt8) (u : Value) (W : World) : Prop := ∃ v, u = .agg #[.int .u64 1, v] ∧ Sl W v (bytes b)
theorem lines_alloc (w : World) (x : LineD) (v : Value) (hv : Sl w v (bytes x.b)) (he : x.e < 2 ^ 64) : Lines (w.alloc (.cells #[.int .u64 (x.e : Int), v] 37)) (.slice (some ⟨w.heap.size, 0, none⟩) 1 1) [x] :=
  lines_one _ _ x v (heap_alloc_new w _) (hv.below ((Gr.refl w).alloc _)) he

theorem putV_le (m : MsgD) (h : mayV m = true) : (putV m).length ≤ 1000000000 := by
  have h1 := mayV_facts h
  have h2 := flat_le (ls := m.ls) h1.2.2.2.2.2.2.2.2.2.2
  have h3 := five_length m 5
  have h4 : (five m).take 5 = five m := List.take_of_length_le (by simp [five])
  rw [h4] at h3
  have h5 := h1.2.2.2.2.2.2.2.2.2.1
  unfold putV headB
  rw [List.length_append, List.length_append, be_length]
  omega

set_option maxHeartbeats 8000000 in
set_option maxRecDepth 100000 in
theorem known_walk (w : World) : Calls Try.prog 8 #[] w fun e w' => e = .returned (.bool true) ∧ Below w.heap.size w w' := by
  have HS : Hid ((.agg #[.int .u8 1, .int .u64 3, .int .u64 0, .int .i64 0, .int .i64 0, .slice none 0 0] : Value) = .agg (msgCells staD (.slice none 0 0))) := Lib.hid rfl
  go_enter Try.func8, Try.ntmps8
  go_wp2_with fail
  rw [HS.out]
  refine (putown_yes _ staD _ (Lines.nil _) staD_ok (by decide) staD_may).mono ?_
  rintro e w1 ⟨v1, rfl, o1, g1⟩
  obtain ⟨B1, hB1, o1⟩ := o1
  have hne : bytes (putV staD) ≠ [] := fun e => by rw [bytes_nil] at e; have := staD_len; rw [e] at this; cases this
  obtain ⟨ga, ca, rfl, hga, hga1, hca⟩ := o1.form hne
  rw [bytes_length] at o1 hca ⊢
  have x0 : w1.cell? ⟨ga, 0, none⟩ = some (.int .u8 1) := o1.cellByte 0 1 staD_0
  have x8 : w1.cell? ⟨ga, 8, none⟩ = some (.int .u8 3) := o1.cellByte 8 3 staD_8
  rw [staD_len] at *
  have O1 := Lib.hid o1
  have G1 := Lib.hid g1
  clear o1 hne g1
  obtain ⟨w2, hw2⟩ : ∃ w2, w2 = w1.alloc (.cells #[.int .u8 7] 5) := ⟨_, rfl⟩
  have e2 : w2.heap.size = w1.heap.size + 1 := by rw [hw2]; simp
  obtain ⟨w3, hw3⟩ : ∃ w3, w3 = w2.alloc (.cells #[.int .u64 1, .slice (some ⟨w1.heap.size, 0, none⟩) 1 1] 37) := ⟨_, rfl⟩
  have g2 : Gr w1 w2 := by rw [hw2]; exact (Gr.refl w1).alloc _
  have g3 : Gr w2 w3 := by rw [hw3]; exact (Gr.refl w2).alloc _
  have s2 : Sl w2 (.slice (some ⟨w1.heap.size, 0, none⟩) 1 1) (bytes [7]) := by rw [hw2]; exact Sl.new w1 (bytes [7]) 5 (0, 0) 1 1 rfl (by decide)
  have l3 : Lines w3 (.slice (some ⟨w1.heap.size + 1, 0, none⟩) 1 1) [lD] := by rw [hw3, ← e2]; exact lines_alloc w2 lD _ s2 (by decide)
  have HW2 := Lib.hid hw2
  have HW3 := Lib.hid hw3
  have L3 := Lib.hid l3
  have G13 := Lib.hid (Gr.trans g2 g3)
  clear hw2 hw3 l3 g2 g3 s2 e2
  go_wp2_with fail
  rw [← HW2.out, ← HW3.out]
  apply wp_region_draw_grow (.eq _ :: .eq _ :: .eq _ :: .eq _ :: .eq _ :: .eq _ :: .eq _ :: .eq _ :: .eq _ :: .eq _ :: .eq _ :: .eq _ :: .eq _ :: .eq _ :: .eq _ :: .eq _ :: .ok (fun u W => Lines W u [⟨0, []⟩]) :: .ok (Adopt [⟨0, []⟩]) :: .eq _ :: .ok (fun u W => Lines W u [⟨1, []⟩]) :: .ok (Adopt [⟨1, []⟩]) :: .ok (fun u W => (∃ b, u = .slice (some ⟨b, 0, none⟩) 4097 4097) ∧ Sl W u (bytes (zb 4097))) :: .ok (LineV (zb 4097)) :: .ok (fun u W => Lines W u [⟨1, zb 4097⟩]) :: .ok (Adopt [⟨1, zb 4097⟩]) :: .ok (fun u W => MsgRows W u badD) :: .ok (fun u W => MsgRows W u badD) :: []) (by kernel_rfl) (by kernel_rfl) ⟨(fun _ _ _ hg h => Lines.below h hg), (fun _ _ _ hg h => Adopt.gr h hg), (fun _ _ _ hg h => Lines.below h hg), (fun _ _ _ hg h => Adopt.gr h hg), (fun _ _ _ hg h => ⟨h.1, Sl.below h.2 hg⟩), (fun _ _ _ hg h => by obtain ⟨v, e, h⟩ := h; exact ⟨v, e, Sl.below h hg⟩), (fun _ _ _ hg h => Lines.below h hg), (fun _ _ _ hg h => Adopt.gr h hg), (fun _ _ _ hg h => MsgRows.gr h hg), (fun _ _ _ hg h => MsgRows.gr h hg), trivial⟩
  apply wpG_eq
  · intro W hW hs
    unfold opG
    go_simp
    first | exact resG_eq_mk _ _ _ | rfl
  simp only [Act.put, List.setIfInBounds_toArray, List.set_cons_zero, List.set_cons_succ]
  apply wpG_eq
  · intro W hW hs
    unfold opG
    go_simp
    first | exact resG_eq_mk _ _ _ | rfl
  simp only [Act.put, List.setIfInBounds_toArray, List.set_cons_zero, List.set_cons_succ]
  apply wpG_eq
  · intro W hW hs
    unfold opG
    go_simp
    first | exact resG_eq_mk _ _ _ | rfl
  simp only [Act.put, List.setIfInBounds_toArray, List.set_cons_zero, List.set_cons_succ]
  apply wpG_eq
  · intro W hW hs
    unfold opG
    go_simp
    first | exact resG_eq_mk _ _ _ | rfl
  simp only [Act.put, List.setIfInBounds_toArray, List.set_cons_zero, List.set_cons_succ]
  apply wpG_eq
  · intro W hW hs
    unfold opG
    go_simp
    first | exact resG_eq_mk _ _ _ | rfl
  simp only [Act.put, List.setIfInBounds_toArray, List.set_cons_zero, List.set_cons_succ]
  apply wpG_eq
  · intro W hW hs
    unfold opG
    go_simp
    first | exact resG_eq_mk _ _ _ | rfl
  simp only [Act.put, List.setIfInBounds_toArray, List.set_cons_zero, List.set_cons_succ]
  apply wpG_eq
  · intro W hW hs
    unfold opG
    go_simp
    first | exact resG_eq_mk _ _ _ | rfl
  simp only [Act.put, List.setIfInBounds_toArray, List.set_cons_zero, List.set_cons_succ]
  apply wpG_eq
  · intro W hW hs
    unfold opG
    go_simp
    first | exact resG_eq_mk _ _ _ | rfl
  simp only [Act.put, List.setIfInBounds_toArray, List.set_cons_zero, List.set_cons_succ]
  apply wpG_eq
  · intro W hW hs
    unfold opG
    go_simp
    first | exact resG_eq_mk _ _ _ | rfl
  simp only [Act.put, List.setIfInBounds_toArray, List.set_cons_zero, List.set_cons_succ]
  apply wpG_eq
  · intro W hW hs
    unfold opG
    go_simp
    first | exact resG_eq_mk _ _ _ | rfl
  simp only [Act.put, List.setIfInBounds_toArray, List.set_cons_zero, List.set_cons_succ]
  apply wpG_eq
  · intro W hW hs
    unfold opG
    go_simp
    first | exact resG_eq_mk _ _ _ | rfl
  simp only [Act.put, List.setIfInBounds_toArray, List.set_cons_zero, List.set_cons_succ]
  apply wpG_eq
  · intro W hW hs
    unfold opG
    go_simp
    first | exact resG_eq_mk _ _ _ | rfl
  simp only [Act.put, List.setIfInBounds_toArray, List.set_cons_zero, List.set_cons_succ]
  apply wpG_eq
  · intro W hW hs
    unfold opG
    go_simp
    first | exact resG_eq_mk _ _ _ | rfl
  simp only [Act.put, List.setIfInBounds_toArray, List.set_cons_zero, List.set_cons_succ]
  apply wpG_eq
  · intro W hW hs
    unfold opG
    go_simp
    first | exact resG_eq_mk _ _ _ | rfl
  simp only [Act.put, List.setIfInBounds_toArray, List.set_cons_zero, List.set_cons_succ]
  apply wpG_eq
  · intro W hW hs
    unfold opG
    go_simp
    first | exact resG_eq_mk _ _ _ | rfl
  simp only [Act.put, List.setIfInBounds_toArray, List.set_cons_zero, List.set_cons_succ]
  apply wpG_eq
  · intro W hW hs
    unfold opG
    go_simp
    first | exact resG_eq_mk _ _ _ | rfl
  simp only [Act.put, List.setIfInBounds_toArray, List.set_cons_zero, List.set_cons_succ]
  apply wpG_ok
  · intro W hW hs
    obtain ⟨w5, hr, hl, hg⟩ := make_line W
    unfold opG
    go_simp
    exact resG_mk hg hl
  intro v16
  simp only [Act.put, List.setIfInBounds_toArray, List.set_cons_zero, List.set_cons_succ]
  apply wpG_ok
  · intro W hW hs
    have hl := hs _ (.head _) rfl
    obtain ⟨la, lc, rfl⟩ := Lines.shape hl
    unfold opG
    go_simp
    exact resG_mk (Gr.refl _) ⟨_, rfl, hl⟩
  intro v17
  simp only [Act.put, List.setIfInBounds_toArray, List.set_cons_zero, List.set_cons_succ]
  apply wpG_eq
  · intro W hW hs
    unfold opG
    go_simp
    first | exact resG_eq_mk _ _ _ | rfl
  simp only [Act.put, List.setIfInBounds_toArray, List.set_cons_zero, List.set_cons_succ]
  apply wpG_ok
  · intro W hW hs
    unfold opG
    go_simp
    exact resG_mk ((Gr.refl _).alloc _) (lines_alloc W ⟨1, []⟩ _ (Sl.nil _ _ _) (by decide))
  intro v19
  simp only [Act.put, List.setIfInBounds_toArray, List.set_cons_zero, List.set_cons_succ]
  apply wpG_ok
  · intro W hW hs
    have hl := hs _ (.head _) rfl
    obtain ⟨la, lc, rfl⟩ := Lines.shape hl
    unfold opG
    go_simp
    exact resG_mk (Gr.refl _) ⟨_, rfl, hl⟩
  intro v20
  simp only [Act.put, List.setIfInBounds_toArray, List.set_cons_zero, List.set_cons_succ]
  apply wpG_ok
  · intro W hW hs
    obtain ⟨w5, hr, ho, hg⟩ := run_make_u8 W 4097 (by decide)
    have hr : (Instr.makeSlice 27 (.int .i64 4097) (.int .i64 4097)).run Try.prog W = .ok (.slice (some ⟨W.heap.size, 0, none⟩) 4097 4097) w5 := hr
    unfold opG
    go_simp
    exact resG_mk hg ⟨⟨_, rfl⟩, ho.sl⟩
  intro v21
  simp only [Act.put, List.setIfInBounds_toArray, List.set_cons_zero, List.set_cons_succ]
  apply wpG_ok
  · intro W hW hs
    obtain ⟨⟨b, rfl⟩, hl⟩ := hs _ (.head _) rfl
    unfold opG
    go_simp
    exact resG_mk (Gr.refl _) ⟨_, rfl, hl⟩
  intro v22
  simp only [Act.put, List.setIfInBounds_toArray, List.set_cons_zero, List.set_cons_succ]
  apply wpG_ok
  · intro W hW hs
    obtain ⟨v, rfl, hl⟩ := hs _ (.head _) rfl
    obtain ⟨va, vc, rfl, _⟩ := hl.bytes
    unfold opG
    go_simp
    exact resG_mk ((Gr.refl _).alloc _) (lines_alloc W ⟨1, zb 4097⟩ _ hl (by decide))
  intro v23
  simp only [Act.put, List.setIfInBounds_toArray, List.set_cons_zero, List.set_cons_succ]
  apply wpG_ok
  · intro W hW hs
    have hl := hs _ (.head _) rfl
    obtain ⟨la, lc, rfl⟩ := Lines.shape hl
    unfold opG
    go_simp
    exact resG_mk (Gr.refl _) ⟨_, rfl, hl⟩
  intro v24
  simp only [Act.put, List.setIfInBounds_toArray, List.set_cons_zero, List.set_cons_succ]
  apply wpG_ok
  · intro W hW hs
    have gW := Gr.trans ((Gr.refl w3).drew) hW
    obtain ⟨l24, rfl, h24⟩ := hs _ (.head _) rfl
    obtain ⟨l20, rfl, h20⟩ := hs _ (.tail _ (.tail _ (.tail _ (.tail _ (.head _))))) rfl
    obtain ⟨l17, rfl, h17⟩ := hs _ (.tail _ (.tail _ (.tail _ (.tail _ (.tail _ (.tail _ (.head _))))))) rfl
    obtain ⟨xa, xc, rfl⟩ := Lines.shape h24
    obtain ⟨ya, yc, rfl⟩ := Lines.shape h20
    obtain ⟨za, zc, rfl⟩ := Lines.shape h17
    unfold opG
    go_simp
    refine resG_mk ((Gr.refl _).alloc _) ⟨_, _, [_, _, _, _, _, _, _, _, _, _, _, _, _, _, _, _, _], rfl, heap_alloc_new W _, ?_, ⟨_, rfl, Lines.nil _⟩, ⟨_, rfl, Lines.nil _⟩, ⟨_, rfl, Lines.nil _⟩, ⟨_, rfl, Lines.nil _⟩, ⟨_, rfl, Lines.nil _⟩, ⟨_, rfl, L3.out.below (Gr.trans gW ((Gr.refl W).alloc _))⟩, ⟨_, rfl, Lines.nil _⟩, ⟨_, rfl, Lines.nil _⟩, ⟨_, rfl, Lines.nil _⟩, ⟨_, rfl, Lines.nil _⟩, ⟨_, rfl, Lines.nil _⟩, ⟨_, rfl, Lines.nil _⟩, ⟨_, rfl, Lines.nil _⟩, ⟨_, rfl, L3.out.below (Gr.trans gW ((Gr.refl W).alloc _))⟩, ⟨_, rfl, h17.below ((Gr.refl W).alloc _)⟩, ⟨_, rfl, h20.below ((Gr.refl W).alloc _)⟩, ⟨_, rfl, h24.below ((Gr.refl W).alloc _)⟩, trivial⟩
    rfl
  intro v25
  simp only [Act.put, List.setIfInBounds_toArray, List.set_cons_zero, List.set_cons_succ]
  apply wpG_ok
  · intro W hW hs
    have h := hs _ (.head _) rfl
    unfold opG
    go_simp
    exact resG_mk (Gr.refl _) h
  intro v26
  simp only [Act.put, List.setIfInBounds_toArray, List.set_cons_zero, List.set_cons_succ]
  apply wpG_nil
  intro W9 hW9 hsAll
  have hmr := hsAll _ (.head _)
  have G3D := Gr.trans ((Gr.refl w3).drew) hW9
  obtain ⟨bb, hbb⟩ := hmr.shape
  have hbb : v26 = .slice (some ⟨bb, 0, none⟩) 17 17 := hbb
  subst hbb
  have HMR := Lib.hid hmr
  have HG3D := Lib.hid G3D
  clear hsAll hW9 hmr G3D
  go_wp2_with fail
  go_loopw [5, 6, 7] (fun i s6 s7 wr => ∃ k : Nat, k ≤ 17 ∧ i = .int .i64 k ∧ Gr W9 wr) (fun i _ _ _ => 17 - (intOf i).toNat)
  case atStart => exact ⟨0, by decide, rfl, Gr.refl _⟩
  case round =>
    obtain ⟨k, hk, rfl, gw⟩ := hrel
    obtain ⟨wo, rfl⟩ : ∃ wo : World, wo = wr := ⟨_, rfl⟩
    by_cases hlt : k < 17
    · have hlt' : k < badD.length := hlt
      obtain ⟨la, lc, hl, c0, c1, c2, c3, c4, c5, hb⟩ := MsgRows.row (ds := badD) (HMR.out.gr gw) k hlt'
      have hall := badD_all badD[k] (List.getElem_mem hlt')
      generalize badD[k] = d at *
      have HL := Lib.hid hl
      have HALL := Lib.hid hall
      have HA : Hid ((.agg #[.int .u8 (d.kind : Int), .int .u64 (d.epoch : Int), .int .u64 (d.current : Int), .int .i64 d.at_, .int .i64 d.commit, .slice la d.ls.length lc] : Value) = .agg (msgCells d (.slice la d.ls.length lc))) := Lib.hid rfl
      have i1 : (0 : Int) ≤ (k : Int) := by omega
      have i2 : (k : Int) < 17 := by omega
      clear hl hall hlt'
      go_wp2_with fail
      rw [HA.out]
      refine (put_no _ d _ HL.out HALL.out.2.1 HALL.out.2.2 HALL.out.1).mono ?_
      rintro e w5 ⟨rfl, g5⟩
      have G5 := Lib.hid (Gr.trans gw g5)
      clear g5 gw c0 c1 c2 c3 c4 c5 hb
      go_wp2
      go_roundw
      case rel => exact ⟨k + 1, by omega, by go_num, G5.out⟩
      case measure => simp [intOf]; omega
    · obtain rfl : k = 17 := by omega
      obtain ⟨wa, hr, ho, hg⟩ := run_make_u8 wo 4096 (by decide)
      have hr : (Instr.makeSlice 27 (.int .i64 4096) (.int .i64 4096)).run Try.prog wo = .ok (.slice (some ⟨wo.heap.size, 0, none⟩) 4096 4096) wa := hr
      have sa : Sl wa (.slice (some ⟨wo.heap.size, 0, none⟩) 4096 4096) (bytes (zb 4096)) := ho.sl
      obtain ⟨wb, hwb⟩ : ∃ wb, wb = wa.alloc (.cells #[.int .u64 281474976710656, .slice (some ⟨wo.heap.size, 0, none⟩) 4096 4096] 37) := ⟨_, rfl⟩
      have gb : Gr wa wb := by rw [hwb]; exact (Gr.refl wa).alloc _
      have eb : wb.heap.size = wa.heap.size + 1 := by rw [hwb]; simp
      have lb : Lines wb (.slice (some ⟨wa.heap.size, 0, none⟩) 1 1) [⟨281474976710656, zb 4096⟩] := by rw [hwb]; exact lines_alloc wa ⟨281474976710656, zb 4096⟩ _ sa (by decide)
      obtain ⟨wc, hwc⟩ : ∃ wc, wc = wb.alloc (.cells #[.int .u8 3, .int .u64 281474976710656, .int .u64 0, .int .i64 0, .int .i64 0, .slice none 0 0, .int .u8 2, .int .u64 3, .int .u64 3, .int .i64 0, .int .i64 0, .slice (some ⟨w1.heap.size + 1, 0, none⟩) 1 1, .int .u8 4, .int .u64 3, .int .u64 0, .int .i64 0, .int .i64 0, .slice (some ⟨w1.heap.size + 1, 0, none⟩) 1 1, .int .u8 5, .int .u64 3, .int .u64 0, .int .i64 256, .int .i64 256, .slice (some ⟨w1.heap.size + 1, 0, none⟩) 1 1, .int .u8 6, .int .u64 3, .int .u64 0, .int .i64 256, .int .i64 0, .slice none 0 0, .int .u8 4, .int .u64 1, .int .u64 0, .int .i64 0, .int .i64 0, .slice (some ⟨wa.heap.size, 0, none⟩) 1 1] 25) := ⟨_, rfl⟩
      have gc : Gr wb wc := by rw [hwc]; exact (Gr.refl wb).alloc _
      have gac := Gr.trans (Gr.trans hg gb) gc
      have l3c := L3.out.below (Gr.trans (Gr.trans HG3D.out gw) gac)
      have mr : MsgRows wc (.slice (some ⟨wa.heap.size + 1, 0, none⟩) 6 6) goodD := by
        refine ⟨wa.heap.size + 1, _, [_, _, _, _, _, _], rfl, by rw [hwc, ← eb]; exact heap_alloc_new wb _, ?_, ⟨_, rfl, Lines.nil _⟩, ⟨_, rfl, l3c⟩, ⟨_, rfl, l3c⟩, ⟨_, rfl, l3c⟩, ⟨_, rfl, Lines.nil _⟩, ⟨_, rfl, lb.below gc⟩, trivial⟩
        rfl
      have GWC := Lib.hid (Gr.trans (Gr.trans G13.out HG3D.out) (Gr.trans gw gac))
      have HWB := Lib.hid hwb
      have HWC := Lib.hid hwc
      have MR := Lib.hid mr
      clear hwb hwc mr gac gc gb eb lb l3c sa ho hg gw HG3D HMR L3 G13
      go_wp2_with fail
      rw [← HWB.out, ← HWC.out]
      clear hr
      generalize wa.heap.size + 1 = bg at *
      clear HWB HWC
      go_loopw [9, 10, 11, 12, 13] (fun i _ _ _ _ wr => ∃ k : Nat, k ≤ 6 ∧ i = .int .i64 k ∧ Gr wc wr) (fun i _ _ _ _ _ => 6 - (intOf i).toNat)
      case atStart => exact ⟨0, by decide, rfl, Gr.refl _⟩
      case round =>
        obtain ⟨k, hk, rfl, gw⟩ := hrel
        obtain ⟨wq, rfl⟩ : ∃ wq : World, wq = wr := ⟨_, rfl⟩
        by_cases hlt : k < 6
        · have hlt' : k < goodD.length := hlt
          have hrow := fun W (hW : Gr wq W) => MsgRows.row (ds := goodD) (MR.out.gr (Gr.trans gw hW)) k hlt'
          obtain ⟨la, lc, hl, c0, c1, c2, c3, c4, c5, hb⟩ := hrow wq (Gr.refl _)
          have hall := goodD_all goodD[k] (List.getElem_mem hlt')
          clear hrow
          generalize goodD[k] = d at *
          have HL := Lib.hid hl
          have HALL := Lib.hid hall
          have HA : Hid ((.agg #[.int .u8 (d.kind : Int), .int .u64 (d.epoch : Int), .int .u64 (d.current : Int), .int .i64 d.at_, .int .i64 d.commit, .slice la d.ls.length lc] : Value) = .agg (msgCells d (.slice la d.ls.length lc))) := Lib.hid rfl
          have i1 : (0 : Int) ≤ (k : Int) := by omega
          have i2 : (k : Int) < 6 := by omega
          have CG : Hid (∀ W, Gr wq W → W.cell? ⟨bg, k * 6, none⟩ = some (.int .u8 (d.kind : Int)) ∧ W.cell? ⟨bg, k * 6 + 1, none⟩ = some (.int .u64 (d.epoch : Int)) ∧ W.cell? ⟨bg, k * 6 + 2, none⟩ = some (.int .u64 (d.current : Int)) ∧ W.cell? ⟨bg, k * 6 + 3, none⟩ = some (.int .i64 d.at_) ∧ W.cell? ⟨bg, k * 6 + 4, none⟩ = some (.int .i64 d.commit) ∧ W.cell? ⟨bg, k * 6 + 5, none⟩ = some (.slice la d.ls.length lc)) := Lib.hid fun W hW =>
            ⟨(hW.cell (p := ⟨bg, k * 6, none⟩) hb).trans c0, (hW.cell (p := ⟨bg, k * 6 + 1, none⟩) hb).trans c1, (hW.cell (p := ⟨bg, k * 6 + 2, none⟩) hb).trans c2, (hW.cell (p := ⟨bg, k * 6 + 3, none⟩) hb).trans c3, (hW.cell (p := ⟨bg, k * 6 + 4, none⟩) hb).trans c4, (hW.cell (p := ⟨bg, k * 6 + 5, none⟩) hb).trans c5⟩
          clear hl hall hlt' hb
          go_wp2_with fail
          rw [HA.out]
          refine (put_yes _ d _ HL.out HALL.out.2.1 HALL.out.2.2 HALL.out.1).mono ?_
          rintro e w5 ⟨v5, rfl, s5, g5⟩
          obtain ⟨a5, c5', rfl, _, _⟩ := s5.bytes
          obtain ⟨hgy, hgm⟩ := getV_put d HALL.out.1
          have hpl := (putV_le d HALL.out.1)
          have S5 := Lib.hid s5
          have HGM := Lib.hid hgm
          have HGY := Lib.hid hgy
          have HPL := Lib.hid hpl
          clear s5 c0 c1 c2 c3 c4 c5 hgm hgy hpl
          go_wp2_with fail
          refine (get_yes _ _ (putV d) S5.out HPL.out HGY.out).mono ?_
          rw [HGM.out]
          rintro e w6 ⟨l6, rfl, hl6, g6⟩
          obtain ⟨a6, c6, rfl⟩ := hl6.shape
          have hl6' := hl6.lines
          obtain ⟨w7, hw7⟩ : ∃ w7, w7 = w6.alloc (.cells #[.int .u8 (d.kind : Int), .int .u64 (d.epoch : Int), .int .u64 (d.current : Int), .int .i64 d.at_, .int .i64 d.commit, .slice a6 d.ls.length c6] 25) := ⟨_, rfl⟩
          have g7 : Gr w6 w7 := by rw [hw7]; exact (Gr.refl w6).alloc _
          have b7 : MsgAt w7 w6.heap.size d (.slice a6 d.ls.length c6) := by unfold MsgAt; rw [hw7]; exact heap_alloc_new w6 _
          have GQ7 := Lib.hid (Gr.trans g5 (Gr.trans g6 g7))
          have L7 := Lib.hid (hl6'.below g7)
          have B7 := Lib.hid b7
          have HW7 := Lib.hid hw7
          have HA6 : Hid ((.agg #[.int .u8 (d.kind : Int), .int .u64 (d.epoch : Int), .int .u64 (d.current : Int), .int .i64 d.at_, .int .i64 d.commit, .slice a6 d.ls.length c6] : Value) = .agg (msgCells d (.slice a6 d.ls.length c6))) := Lib.hid rfl
          clear hw7 b7 hl6 hl6' g7 g6 g5 S5
          unfold msgCells
          go_wp2_with fail
          rw [← HW7.out]
          apply wp_region_draw_grow (.eq _ :: .eq _ :: .eq _ :: .eq _ :: .eq _ :: .eq _ :: .eq _ :: .eq _ :: .eq _ :: .eq _ :: .eq _ :: .eq _ :: .eq _ :: .eq _ :: .eq _ :: []) (by kernel_rfl) (by kernel_rfl) trivial
          apply wpG_eq
          · intro W hW hs
            unfold opG
            go_simp
            first | exact resG_eq_mk _ _ _ | rfl
          simp only [Act.put, List.setIfInBounds_toArray, List.set_cons_zero, List.set_cons_succ]
          apply wpG_eq
          · intro W hW hs
            unfold opG
            go_simp
            first | exact resG_eq_mk _ _ _ | rfl
          simp only [Act.put, List.setIfInBounds_toArray, List.set_cons_zero, List.set_cons_succ]
          apply wpG_eq
          · intro W hW hs
            unfold opG
            go_simp
            first | exact resG_eq_mk _ _ _ | rfl
          simp only [Act.put, List.setIfInBounds_toArray, List.set_cons_zero, List.set_cons_succ]
          apply wpG_eq
          · intro W hW hs
            unfold opG
            go_simp
            first | exact resG_eq_mk _ _ _ | rfl
          simp only [Act.put, List.setIfInBounds_toArray, List.set_cons_zero, List.set_cons_succ]
          apply wpG_eq
          · intro W hW hs
            unfold opG
            go_simp
            first | exact resG_eq_mk _ _ _ | rfl
          simp only [Act.put, List.setIfInBounds_toArray, List.set_cons_zero, List.set_cons_succ]
          apply wpG_eq
          · intro W hW hs
            unfold opG
            go_simp
            first | exact resG_eq_mk _ _ _ | rfl
          simp only [Act.put, List.setIfInBounds_toArray, List.set_cons_zero, List.set_cons_succ]
          apply wpG_eq
          · intro W hW hs
            unfold opG
            go_simp
            first | exact resG_eq_mk _ _ _ | rfl
          simp only [Act.put, List.setIfInBounds_toArray, List.set_cons_zero, List.set_cons_succ]
          apply wpG_eq
          · intro W hW hs
            have hg := Gr.trans ((Gr.refl w7).drew) hW
            obtain ⟨q0, q1, q2, q3, q4, q5, _⟩ := (B7.out.block (hg.block _ B7.out.lt)).cells
            unfold opG
            go_simp
            first | exact resG_eq_mk _ _ _ | rfl
          simp only [Act.put, List.setIfInBounds_toArray, List.set_cons_zero, List.set_cons_succ]
          apply wpG_eq
          · intro W hW hs
            unfold opG
            go_simp
            first | exact resG_eq_mk _ _ _ | rfl
          simp only [Act.put, List.setIfInBounds_toArray, List.set_cons_zero, List.set_cons_succ]
          apply wpG_eq
          · intro W hW hs
            unfold opG
            go_simp
            first | exact resG_eq_mk _ _ _ | rfl
          simp only [Act.put, List.setIfInBounds_toArray, List.set_cons_zero, List.set_cons_succ]
          apply wpG_eq
          · intro W hW hs
            unfold opG
            go_simp
            first | exact resG_eq_mk _ _ _ | rfl
          simp only [Act.put, List.setIfInBounds_toArray, List.set_cons_zero, List.set_cons_succ]
          apply wpG_eq
          · intro W hW hs
            have hg := Gr.trans ((Gr.refl w7).drew) hW
            obtain ⟨q0, q1, q2, q3, q4, q5⟩ := CG.out W (Gr.trans GQ7.out hg)
            unfold opG
            go_simp
            first | exact resG_eq_mk _ _ _ | rfl
          simp only [Act.put, List.setIfInBounds_toArray, List.set_cons_zero, List.set_cons_succ]
          apply wpG_eq
          · intro W hW hs
            have hg := Gr.trans ((Gr.refl w7).drew) hW
            unfold opG
            go_simp
            rw [HA.out, HA6.out]
            refine resG_call ((same_any _ d d _ _ (L7.out.below hg) (HL.out.below (Gr.trans GQ7.out hg)) HALL.out.2.2 HALL.out.2.2).mono ?_)
            rintro e W2 ⟨z, rfl, hz, g⟩
            obtain rfl : z = true := hz.2 rfl
            exact ⟨_, rfl, g, rfl⟩
          simp only [Act.put, List.setIfInBounds_toArray, List.set_cons_zero, List.set_cons_succ]
          apply wpG_eq
          · intro W hW hs
            unfold opG
            go_simp
            first | exact resG_eq_mk _ _ _ | rfl
          simp only [Act.put, List.setIfInBounds_toArray, List.set_cons_zero, List.set_cons_succ]
          apply wpG_eq
          · intro W hW hs
            unfold opG
            go_simp
            first | exact resG_eq_mk _ _ _ | rfl
          simp only [Act.put, List.setIfInBounds_toArray, List.set_cons_zero, List.set_cons_succ]
          apply wpG_nil
          intro W8 hW8 hsAll
          have G9 := Lib.hid (Gr.trans (Gr.trans gw GQ7.out) (Gr.trans ((Gr.refl w7).drew) hW8))
          clear hsAll hW8 gw
          go_wp2
          go_roundw
          case rel => first | exact ⟨k + 1, by omega, by go_num, G9.out⟩ | ((repeat apply Exists.intro); apply And.intro; rotate_left; rfl; exact ⟨k + 1, by omega, by go_num, G9.out⟩)
          case measure => simp [intOf]; omega
        · obtain rfl : k = 6 := by omega
          have g19 := Gr.trans GWC.out gw
          have o9 : Own wq B1 5 (.slice (some ⟨ga, 0, none⟩) (putV staD).length ca) (bytes (putV staD)) := by rw [staD_len]; exact O1.out.gr g19
          have f9 := o9.frozenByte 0
          have x9 : wq.cell? ⟨ga, 0, none⟩ = some (.int .u8 1) := o9.cellByte 0 1 staD_0
          have o10 : Own (wq.setCell ⟨ga, 0, none⟩ (.int .u8 7)) B1 5 (.slice (some ⟨ga, 0, none⟩) (putV staD).length ca) (bytes ((putV staD).set 0 7)) := o9.storeByte 0 7
          rw [staD_len] at o10
          have sz := G1.out.size
          have gfin : Below w.heap.size w (wq.setCell ⟨ga, 0, none⟩ (.int .u8 7)) := Below.trans (show Below w.heap.size w wq from Gr.trans G1.out g19) (setCell_below wq (.int .u8 7) 0 (Nat.le_trans hB1 hga))
          have GF := Lib.hid gfin
          have S10 := Lib.hid o10.sl
          clear o9 o10 gfin
          go_wp2_with fail
          refine (get_no _ _ _ S10.out (by simp [staD_len]) staD_bad).mono ?_
          rintro e w11 ⟨rfl, g11⟩
          have GF2 := Lib.hid (GF.out.trans (Below.mono (Gr.trans g11 ((Gr.refl w11).alloc (.cells zeroM 25))) GF.out.size))
          clear g11 f9 x9
          unfold zeroM at GF2 ⊢
          go_wp2_with fail
          refine (tells_any _).mono ?_
          rintro e w12 ⟨rfl, g12⟩
          have gz := GF2.out.trans (Below.mono g12 GF2.out.size)
          clear g12
          go_wp2
          go_ret
          exact ⟨rfl, gz⟩

open Go.ChangeShapes Go.WideShapes Go.ChangeAt Go.RowKit
open Go.ChangeMaps (open_string shut_string)
theorem own_zmsgKnown : ownKnob Try.prog.godebug = none := by kernel_rfl
theorem laidOut_zmsgKnown : laidOutB Try.prog = true := by kernel_rfl
set_option maxRecDepth 100000 in
theorem lifted_zmsgKnown (os : Os) (started : os.Started) (H : Type) (enc : TypeId × Value → H) :
    ReturnsInHanded {} Try.checked os 8 .any (Rows.zmsgKnownSpec.pre6 enc Try.prog Try.f8 Rows.zmsgKnownRow.domain false) (Rows.zmsgKnownSpec.post enc Try.prog Try.f8 false true false false) := by
  refine returnsInHanded_of_change (C := Try.checked) own_zmsgKnown started (by kernel_rfl) Try.func8
    (ChangeSpec.witness6 (enc := enc) (C := Try.checked) false ⟨#[], #[], []⟩ 8 (by kernel_rfl) (by kernel_rfl) (by kernel_rfl) (by kernel_rfl)) ?_
  intro W base args ds gs before hval0 hW hcnd _
  have hval : ∀ (j : Nat) t v, Try.f8.params[j]? = some t → args[j]? = some v → Value.okWide Try.prog W .any base t v := hval0
  have hW' := hW
  obtain ⟨p, q, hA0, hV, rfl, hfz, hnd⟩ := hW
  have hA : DataW.TrodAll enc Try.prog W 0 (fun _ => true) true Try.f8.params.toList args.toList ds p := hA0
  rw [Try.params8] at hA hval
  obtain ⟨rfl, rfl, rfl⟩ := trodAll_none hA
  obtain ⟨rfl, rfl⟩ := trodVars_none hV
  clear hA0 hval0
  simp only [List.append_nil] at hW'
  refine (known_walk W ).mono fun e W' ⟨he, bel⟩ => ?_
  subst he
  exact ⟨_, rfl, _, _, _, [], _, [], hW', trodAll_mk1 (shut_bool Try.underlying4 _), trodAll_mk0, rfl, bel.frame _, fun h => by cases h⟩

theorem over_zmsgKnown : Rows.zmsgKnownRow.holds Try.pinned (OpenSpec.ofChange Rows.zmsgKnownSpec) :=
  OpenClaim.holds_of_wide 8 Try.f8 rfl rfl rfl rfl rfl rfl rfl ⟨rfl, rfl, rfl, rfl, rfl⟩ rfl rfl rfl rfl rfl (by kernel_rfl) Try.func8 (by kernel_rfl)
    (of_decide_eq_true (by kernel_rfl)) (by unfold Func.isWrapper; first | (rw [if_pos (by decide +kernel)]; kernel_rfl) | (rw [if_neg (by decide +kernel)]; exact ⟨rfl, rfl⟩))
    (fun os started H enc _ => lifted_zmsgKnown os started H enc)

theorem zmsgKnown_proved : Rows.ZmsgKnownSaid := over_zmsgKnown
#print axioms zmsgKnown_proved
end Go.Proofs.Ytclicammiopjlaa
