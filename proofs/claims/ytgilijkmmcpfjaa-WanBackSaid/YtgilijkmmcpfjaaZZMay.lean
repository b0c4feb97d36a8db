/-
  zmsg.may, the call.
-/
import Derived.Test.YtgilijkmmcpfjaaZS
set_option linter.unusedVariables false
set_option maxRecDepth 100000
namespace Go.Proofs.Ytgilijkmmcpfjaa
open Go.RowKit
set_option maxHeartbeats 4000000 in
theorem zmay_any (w : World) (m : MsgD) (lv : Value) (hl : Lines w lv m.ls) (hok : MsgOk m) (hlen : m.ls.length ≤ maxLen) :
    Calls Try.prog 47 #[.agg (msgCells m lv)] w fun e w' => e = .returned (.bool (mayV m)) ∧ Gr w w' := by
  obtain ⟨hk, hep, hcu, hat, hco⟩ := hok
  obtain ⟨a, cap, rfl⟩ := hl.shape
  have hmx : m.ls.length ≤ 9223372036854775807 := Nat.le_trans hlen (by decide)
  have key : ∀ b : Bool, mayV m = b → Ending.returned (.bool b) = .returned (.bool (mayV m)) := fun b h => by rw [h]
  have KEY := Lib.hid key
  clear key
  unfold msgCells
  obtain ⟨w0, hw0⟩ : ∃ w0, w0 = w.alloc (.cells #[.int .u8 (m.kind : Int), .int .u64 (m.epoch : Int), .int .u64 (m.current : Int), .int .i64 m.at_, .int .i64 m.commit, .slice a m.ls.length cap] 50) := ⟨_, rfl⟩
  have gA : Gr w w0 := by rw [hw0]; exact (Gr.refl w).alloc _
  have hb0 : w0.heap[w.heap.size]? = some (.cells #[.int .u8 (m.kind : Int), .int .u64 (m.epoch : Int), .int .u64 (m.current : Int), .int .i64 m.at_, .int .i64 m.commit, .slice a m.ls.length cap] 50 (0, 0)) := by rw [hw0]; exact heap_alloc_new w _
  have hz0 : w.heap.size < w0.heap.size := by rw [hw0]; simp
  have c0 : w0.cell? ⟨w.heap.size, 0, none⟩ = some (.int .u8 (m.kind : Int)) := by rw [cell_of_row w0 _ 0 _ 50 (0, 0) hb0]; rfl
  have HW0 := Lib.hid hw0
  go_enter Try.func47, Try.ntmps47
  go_wp2_with fail
  rw [← HW0.out]
  clear hw0
  apply wp_region_draw_late 8 6 (.ok (fun v W => ∃ g, v = .map (some g) ∧ zKindMap W g) :: .eq _ :: .eq _ :: .eq (.tuple #[zkindA m.kind, .bool (zkindV m.kind).ok]) :: .eq _ :: .eq _ :: .eq _ :: .ok (fun v W => ∃ h, v = .pointer (some ⟨h, 0, none⟩) ∧ W.heap[h]? = some (.cells #[.bool false, .bool false, .bool false, .bool false] 113 (0, 0)) ∧ w0.heap.size ≤ h) :: []) rfl rfl rfl (by kernel_rfl) (by kernel_rfl) ⟨fun v W W' hg ⟨g, e, hk⟩ => ⟨g, e, hk.below hg⟩, fun v W W' hg ⟨h, e, hb, hs⟩ => ⟨h, e, (hg.block h (Array.getElem?_eq_some_iff.1 hb).1).trans hb, hs⟩, trivial⟩ (extract_pure rfl).1 (extract_pure rfl).2
  simp only [List.take_succ_cons, List.take_zero, List.drop_succ_cons, List.drop_zero]
  apply wpG_ok
  · intro W hW hs
    unfold opG
    go_simp
    refine resG_call ((zkinds_any _).mono ?_)
    rintro e W2 ⟨g, rfl, hk, hg⟩
    exact ⟨_, rfl, hg, g, rfl, hk⟩
  intro v1
  simp only [Act.put, pt1, pt2, pt3]
  iterate 2
   apply wpG_eq
   · intro W hW hs
     have q0 := ((Gr.trans ((Gr.refl w0).drew) hW).cell (p := ⟨w.heap.size, 0, none⟩) hz0).trans c0
     unfold opG
     go_simp
     first | exact resG_eq_mk _ _ _ | rfl
   simp only [Act.put, pt1, pt2, pt3]
  apply wpG_eq
  · intro W hW hs
    obtain ⟨g, rfl, hkm⟩ := hs _ (.head _) rfl
    have q1 := hkm.look m.kind hk
    unfold opG
    go_simp
    exact resG_eq_mk _ _ _
  simp only [Act.put, pt1, pt2, pt3]
  apply wpG_eq
  · intro W hW hs
    unfold opG
    go_simp
    first | exact resG_eq_mk _ _ _ | rfl
  simp only [Act.put, pt1, pt2, pt3]
  unfold zkindA zhasA
  iterate 2
   apply wpG_eq
   · intro W hW hs
     unfold opG
     go_simp
     first | exact resG_eq_mk _ _ _ | rfl
   simp only [Act.put, pt1, pt2, pt3]
  apply wpG_ok
  · intro W hW hs
    unfold opG
    go_simp
    exact resG_mk ((Gr.refl W).alloc _) ⟨_, rfl, heap_alloc_new W _, hW.size⟩
  intro v2
  simp only [Act.put, pt1, pt2, pt3]
  apply wpG_nil
  intro W1 hW1 hsAll
  obtain ⟨h, rfl, hbh, hsz⟩ := hsAll _ (.head _)
  have f0 : W1.cell? ⟨h, 0, none⟩ = some (.bool false) := by rw [cell_of_row W1 h 0 _ 113 (0, 0) hbh]; rfl
  have f1 : W1.cell? ⟨h, 1, none⟩ = some (.bool false) := by rw [cell_of_row W1 h 1 _ 113 (0, 0) hbh]; rfl
  have f2 : W1.cell? ⟨h, 2, none⟩ = some (.bool false) := by rw [cell_of_row W1 h 2 _ 113 (0, 0) hbh]; rfl
  have f3 : W1.cell? ⟨h, 3, none⟩ = some (.bool false) := by rw [cell_of_row W1 h 3 _ 113 (0, 0) hbh]; rfl
  have z0 := frozen_of_row W1 h 0 _ 113 hbh
  have z1 := frozen_of_row W1 h 1 _ 113 hbh
  have z2 := frozen_of_row W1 h 2 _ 113 hbh
  have z3 := frozen_of_row W1 h 3 _ 113 hbh
  clear hsAll
  apply Exists.intro
  apply And.intro
  · go_simp
    rfl
  obtain ⟨w2, hw2⟩ : ∃ w2, w2 = (((W1.setCell ⟨h, 0, none⟩ (.bool (zkindV m.kind).current)).setCell ⟨h, 1, none⟩ (.bool (zkindV m.kind).at_)).setCell ⟨h, 2, none⟩ (.bool (zkindV m.kind).commit)).setCell ⟨h, 3, none⟩ (.bool (zkindV m.kind).lines) := ⟨_, rfl⟩
  rw [← hw2]
  have x0 : w2.cell? ⟨h, 0, none⟩ = some (.bool (zkindV m.kind).current) := by rw [hw2]; go_simp
  have x1 : w2.cell? ⟨h, 1, none⟩ = some (.bool (zkindV m.kind).at_) := by rw [hw2]; go_simp
  have x2 : w2.cell? ⟨h, 2, none⟩ = some (.bool (zkindV m.kind).commit) := by rw [hw2]; go_simp
  have x3 : w2.cell? ⟨h, 3, none⟩ = some (.bool (zkindV m.kind).lines) := by rw [hw2]; go_simp
  have bel : Below w0.heap.size w0 w2 := by
    rw [hw2]
    exact ((((Gr.trans ((Gr.refl w0).drew) hW1).setCell (p := ⟨h, 0, none⟩) hsz _).setCell (p := ⟨h, 1, none⟩) hsz _).setCell (p := ⟨h, 2, none⟩) hsz _).setCell (p := ⟨h, 3, none⟩) hsz _
  have hc : ∀ j v, (#[.int .u8 (m.kind : Int), .int .u64 (m.epoch : Int), .int .u64 (m.current : Int), .int .i64 m.at_, .int .i64 m.commit, .slice a m.ls.length cap] : Array Value)[j]? = some v → w2.cell? ⟨w.heap.size, j, none⟩ = some v := fun j v hv => by
    rw [bel.cell (p := ⟨w.heap.size, j, none⟩) hz0, cell_of_row w0 _ j _ 50 (0, 0) hb0]; exact hv
  have y1 := hc 1 _ rfl
  have y2 := hc 2 _ rfl
  have y3 := hc 3 _ rfl
  have y4 := hc 4 _ rfl
  have y5 := hc 5 _ rfl
  have gg : Gr w w2 := Below.trans gA (Below.mono bel gA.size)
  have hl4 := hl.below gg
  have G4 := Lib.hid gg
  have hmay : mayV m = ((zkindV m.kind).ok && decide (1 ≤ m.epoch) && decide (m.epoch ≤ 281474976710656) && (m.current == 0 || ((zkindV m.kind).current && decide (m.current ≤ m.epoch))) &&
    withinV m.at_ (zkindV m.kind).at_ && withinV m.commit (zkindV m.kind).commit && withinV m.ls.length (zkindV m.kind).lines && m.ls.all lineV) := rfl
  clear gg bel hc hw2 f0 f1 f2 f3 z0 z1 z2 z3 hbh hW1 hb0 c0 gA HW0 hl hz0 hsz
  generalize zkindV m.kind = K at *
  obtain ⟨kc, ka, ko, kl, kok⟩ := K
  simp only at hmay x0 x1 x2 x3 ⊢
  have HM := Lib.hid hmay
  clear hmay
  cases kok with
  | false =>
    go_wp2
    go_ret
    exact ⟨KEY.out _ (by rw [HM.out]; simp []), G4.out⟩
  | true =>
  by_cases h2 : 1 ≤ m.epoch
  case neg =>
    have h2' : m.epoch < 1 := by omega
    go_wp2
    go_ret
    exact ⟨KEY.out _ (by rw [HM.out]; simp [h2]), G4.out⟩
  by_cases h3 : m.epoch ≤ 281474976710656
  case neg =>
    go_wp2
    go_ret
    exact ⟨KEY.out _ (by rw [HM.out]; simp [h3]), G4.out⟩
  by_cases h4 : m.current = 0
  case pos =>
    have hb4 : ((m.current : Int) == 0) = true := by simp [h4]
    cases h5 : withinV m.at_ ka with
    | false =>
      go_wp2_with fail
      refine (within_any _ m.at_ ka).mono ?_
      rintro e wX ⟨rfl, rfl⟩
      rw [h5]
      go_wp2
      go_ret
      exact ⟨KEY.out _ (by rw [HM.out]; simp [h5]), G4.out⟩
    | true =>
    cases h6 : withinV m.commit ko with
    | false =>
      go_wp2_with fail
      refine (within_any _ m.at_ ka).mono ?_
      rintro e wX ⟨rfl, rfl⟩
      rw [h5]
      go_wp2_with fail
      refine (within_any _ m.commit ko).mono ?_
      rintro e wX ⟨rfl, rfl⟩
      rw [h6]
      go_wp2
      go_ret
      exact ⟨KEY.out _ (by rw [HM.out]; simp [h5, h6]), G4.out⟩
    | true =>
    cases h7 : withinV m.ls.length kl with
    | false =>
      go_wp2_with fail
      refine (within_any _ m.at_ ka).mono ?_
      rintro e wX ⟨rfl, rfl⟩
      rw [h5]
      go_wp2_with fail
      refine (within_any _ m.commit ko).mono ?_
      rintro e wX ⟨rfl, rfl⟩
      rw [h6]
      go_wp2_with fail
      refine (within_any _ (m.ls.length : Int) kl).mono ?_
      rintro e wX ⟨rfl, rfl⟩
      rw [h7]
      go_wp2
      go_ret
      exact ⟨KEY.out _ (by rw [HM.out]; simp [h5, h6, h7]), G4.out⟩
    | true =>
    go_wp2_with fail
    refine (within_any _ m.at_ ka).mono ?_
    rintro e wX ⟨rfl, rfl⟩
    rw [h5]
    go_wp2_with fail
    refine (within_any _ m.commit ko).mono ?_
    rintro e wX ⟨rfl, rfl⟩
    rw [h6]
    go_wp2_with fail
    refine (within_any _ (m.ls.length : Int) kl).mono ?_
    rintro e wX ⟨rfl, rfl⟩
    rw [h7]
    go_wp2_with fail
    refine (zcontains_any _ _ m.ls hl4 hlen).mono ?_
    rintro e w5 ⟨rfl, g5⟩
    go_wp2
    go_ret
    exact ⟨KEY.out _ (by rw [HM.out]; simp [h5, h6, h7, h2, h3, h4] <;> simp [*]), Gr.trans G4.out g5⟩
  have hb4 : ((m.current : Int) == 0) = false := by simp; omega
  cases kc with
  | false =>
    go_wp2
    go_ret
    exact ⟨KEY.out _ (by rw [HM.out]; simp [h4]), G4.out⟩
  | true =>
  by_cases h8 : m.current ≤ m.epoch
  case neg =>
    go_wp2
    go_ret
    exact ⟨KEY.out _ (by rw [HM.out]; simp [h4, h8]), G4.out⟩
  cases h5 : withinV m.at_ ka with
  | false =>
    go_wp2_with fail
    refine (within_any _ m.at_ ka).mono ?_
    rintro e wX ⟨rfl, rfl⟩
    rw [h5]
    go_wp2
    go_ret
    exact ⟨KEY.out _ (by rw [HM.out]; simp [h5]), G4.out⟩
  | true =>
  cases h6 : withinV m.commit ko with
  | false =>
    go_wp2_with fail
    refine (within_any _ m.at_ ka).mono ?_
    rintro e wX ⟨rfl, rfl⟩
    rw [h5]
    go_wp2_with fail
    refine (within_any _ m.commit ko).mono ?_
    rintro e wX ⟨rfl, rfl⟩
    rw [h6]
    go_wp2
    go_ret
    exact ⟨KEY.out _ (by rw [HM.out]; simp [h5, h6]), G4.out⟩
  | true =>
  cases h7 : withinV m.ls.length kl with
  | false =>
    go_wp2_with fail
    refine (within_any _ m.at_ ka).mono ?_
    rintro e wX ⟨rfl, rfl⟩
    rw [h5]
    go_wp2_with fail
    refine (within_any _ m.commit ko).mono ?_
    rintro e wX ⟨rfl, rfl⟩
    rw [h6]
    go_wp2_with fail
    refine (within_any _ (m.ls.length : Int) kl).mono ?_
    rintro e wX ⟨rfl, rfl⟩
    rw [h7]
    go_wp2
    go_ret
    exact ⟨KEY.out _ (by rw [HM.out]; simp [h5, h6, h7]), G4.out⟩
  | true =>
  go_wp2_with fail
  refine (within_any _ m.at_ ka).mono ?_
  rintro e wX ⟨rfl, rfl⟩
  rw [h5]
  go_wp2_with fail
  refine (within_any _ m.commit ko).mono ?_
  rintro e wX ⟨rfl, rfl⟩
  rw [h6]
  go_wp2_with fail
  refine (within_any _ (m.ls.length : Int) kl).mono ?_
  rintro e wX ⟨rfl, rfl⟩
  rw [h7]
  go_wp2_with fail
  refine (zcontains_any _ _ m.ls hl4 hlen).mono ?_
  rintro e w5 ⟨rfl, g5⟩
  go_wp2
  go_ret
  exact ⟨KEY.out _ (by rw [HM.out]; simp [h5, h6, h7, h2, h3, h8] <;> simp [*]), Gr.trans G4.out g5⟩
end Go.Proofs.Ytgilijkmmcpfjaa
