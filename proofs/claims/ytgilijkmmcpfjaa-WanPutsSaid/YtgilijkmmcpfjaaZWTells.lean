/-
  Of the statements of package wan: tells.
-/
import Derived.Test.YtgilijkmmcpfjaaZWSame
set_option linter.unusedVariables false
set_option linter.unusedSimpArgs false
set_option maxRecDepth 100000
namespace Go.Proofs.Ytgilijkmmcpfjaa
open Go.RowKit
def tX : WanD := ⟨5, 1, [], [], 2, 0, []⟩
def tY : WanD := ⟨5, 0, [], [], 0, 1, []⟩
def tL : List UInt8 := [21, 1, 0, 0, 0, 0, 0, 0, 0, 2]
def tB : List UInt8 := [5, 1, 0, 0, 0, 0, 0, 0, 0, 2]
def nC (x : WanD) : List Value := wanCells x (.slice none 0 0) (.slice none 0 0) (.slice none 0 0)
theorem tX_put : (putW tX).1 = tL ∧ (putW tX).2 = 0 := by decide +kernel
theorem tY_put : (putW tY).1 = [] ∧ (putW tY).2 = 1 := by decide +kernel
theorem tL_get : (getW tL).1.kind = 5 ∧ (getW tL).1.site = 1 ∧ (getW tL).1.region = 2 ∧ (getW tL).2 = 0 := by decide +kernel
theorem tB_get : (getW tB).2 = 2 := by decide +kernel
theorem tX_ok : WanOk tX := ⟨by decide, by unfold I64 tX; simp, fun k hk => by simp [tX] at hk, fun k hk => by simp [tX] at hk, by unfold I64 tX; simp, by decide, fun k hk => by simp [tX] at hk⟩
theorem tY_ok : WanOk tY := ⟨by decide, by unfold I64 tY; simp, fun k hk => by simp [tY] at hk, fun k hk => by simp [tY] at hk, by unfold I64 tY; simp, by decide, fun k hk => by simp [tY] at hk⟩
theorem nC_p (w : World) (x : WanD) (h1 : x.vector = []) (h2 : x.items = []) (h3 : x.frontier = []) : WanP Any w x (.slice none 0 0) (.slice none 0 0) (.slice none 0 0) := by
  refine ⟨?_, ?_, ?_⟩
  · rw [h1]; exact SlP.nil _ _ _ _
  · rw [h2]; exact ItemsP.nil _ _ _ _
  · rw [h3]; exact SlP.nil _ _ _ _
theorem tX_len : WanLen tX := ⟨by decide, fun y hy => by simp [tX] at hy⟩
theorem tY_len : WanLen tY := ⟨by decide, fun y hy => by simp [tY] at hy⟩
theorem built_tX : Try.prog.built 26 [(0, .int .u8 5), (1, .int .i64 1), (4, .int .i64 2)] = some (nC tX).toArray := by kernel_rfl
theorem built_tY : Try.prog.built 26 [(0, .int .u8 5), (5, .int .u64 1)] = some (nC tY).toArray := by kernel_rfl
set_option maxHeartbeats 4000000 in
theorem tells_any (w : World) : Calls Try.prog 12 #[] w fun e w' => e = .returned (.bool true) ∧ Gr w w' := by
  have P1 : Hid (∀ W, Calls Try.prog 10 #[.agg (nC tX).toArray] W (RetPutW W tX)) := Lib.hid fun W => putW_any W tX _ _ _ (nC_p W tX rfl rfl rfl) tX_ok tX_len
  have P2 : Hid (∀ W, Calls Try.prog 10 #[.agg (nC tY).toArray] W (RetPutW W tY)) := Lib.hid fun W => putW_any W tY _ _ _ (nC_p W tY rfl rfl rfl) tY_ok tY_len
  obtain ⟨E1, hE1⟩ : ∃ E, E = nC tX := ⟨_, rfl⟩
  obtain ⟨E2, hE2⟩ : ∃ E, E = nC tY := ⟨_, rfl⟩
  have B1 := built_tX
  have B2 := built_tY
  rw [← hE1] at P1 B1
  rw [← hE2] at P2 B2
  have BH1 := Lib.hid B1
  have BH2 := Lib.hid B2
  clear B1 B2 hE1 hE2
  go_enter Try.func12, Try.ntmps12
  go_wp2_with (first | (refine wpList_buildTo rfl 26 _ rfl (some 10) rfl _ (by simp only [List.map_toArray, List.map_cons, List.map_nil]; exact BH1.out) ?_) | fail)
  refine (P1.out w).mono ?_
  rintro en w1 ⟨v1, rfl, s1, g1⟩
  rw [tX_put.1] at s1
  rw [tX_put.2]
  obtain ⟨a1, c1, hv⟩ := s1.oneCells
  rw [bytes_length, show tL.length = 10 from rfl] at hv
  subst hv
  have S1 := Lib.hid s1
  have G1 := Lib.hid g1
  clear s1 g1 P1 BH1
  go_wp2_with fail
  refine (getW_any w1 _ tL S1.out (by decide)).mono ?_
  rintro en w2 ⟨vv2, iv2, fv2, rfl, p2, g2⟩
  obtain ⟨y, hy⟩ : ∃ y, y = (getW tL).1 := ⟨_, rfl⟩
  have hyk : y.kind = 5 := by rw [hy]; exact tL_get.1
  have hys : y.site = 1 := by rw [hy]; exact tL_get.2.1
  have hyr : y.region = 2 := by rw [hy]; exact tL_get.2.2.1
  rw [tL_get.2.2.2, ← hy]
  obtain ⟨E, hE⟩ : ∃ E, E = wanCells y vv2 iv2 fv2 := ⟨_, rfl⟩
  have EN : Hid (E.length = 7) := Lib.hid (by rw [hE]; rfl)
  have E1h : Hid (oneAll E) := Lib.hid (by rw [hE, hy]; exact wan_one p2)
  have CE : Hid (∀ W B, CellsAt W B E 26 → W.cell? ⟨B, 0, none⟩ = some (.int .u8 5) ∧ W.cell? ⟨B, 1, none⟩ = some (.int .i64 1) ∧ W.cell? ⟨B, 4, none⟩ = some (.int .i64 2)) := Lib.hid fun W B h => by
    rw [hE] at h
    have h0 : W.cell? ⟨B, 0, none⟩ = some (.int .u8 (y.kind : Int)) := h.cell 0
    have h1 : W.cell? ⟨B, 1, none⟩ = some (.int .i64 y.site) := h.cell 1
    have h2 : W.cell? ⟨B, 4, none⟩ = some (.int .i64 y.region) := h.cell 4
    rw [hyk] at h0
    rw [hys] at h1
    rw [hyr] at h2
    exact ⟨h0, h1, h2⟩
  have G2 := Lib.hid (G1.out.trans g2)
  have S2 := Lib.hid (S1.out.below g2)
  rw [← hE]
  clear hy hE p2 g2 hyk hyr hys S1
  go_wp2_with (first | (refine wpList_storeE wanTy _ _ rfl rfl rfl rfl (CellsAt.new _ _ _) EN.out rfl E1h.out ?_) | fail)
  intro w3 k3 ch3
  have g3 : Gr w2 w3 := Below.trans ((Gr.refl w2).alloc _) (ch3.below ((Gr.refl w2).alloc _).size (fun k hk => by have : k = w2.heap.size := hk; omega))
  have K3 := Lib.hid k3
  have G3 := Lib.hid (G2.out.trans g3)
  have S3 := Lib.hid (S2.out.below g3)
  clear k3 ch3 g3 S2
  go_wp2_with (first | (refine wpList_buildTo rfl 26 _ rfl (some 20) rfl _ (by simp only [List.map_toArray, List.map_cons, List.map_nil]; exact BH2.out) ?_) | fail)
  refine (P2.out w3).mono ?_
  rintro en w4 ⟨v4, rfl, s4, g4⟩
  rw [tY_put.2]
  have K4 := Lib.hid (K3.out.gr g4)
  have G4 := Lib.hid (G3.out.trans g4)
  have S4 := Lib.hid (S3.out.below g4)
  clear s4 g4 P2 BH2 K3 S3
  have sl : Sl (w4.alloc (.cells #[.int .u8 5, .int .u8 1, .int .u8 0, .int .u8 0, .int .u8 0, .int .u8 0, .int .u8 0, .int .u8 0, .int .u8 0, .int .u8 2] 5)) (.slice (some ⟨w4.heap.size, 0, none⟩) 10 10) (bytes tB) := Sl.new w4 (bytes tB) _ _ _ _ rfl (by decide)
  have SL := Lib.hid sl
  clear sl
  go_wp2_with fail
  refine (getW_any _ _ tB SL.out (by decide)).mono ?_
  rintro en w5 ⟨vv5, iv5, fv5, rfl, p5, g5⟩
  rw [tB_get]
  obtain ⟨F, hF⟩ : ∃ E, E = wanCells (getW tB).1 vv5 iv5 fv5 := ⟨_, rfl⟩
  have FN : Hid (F.length = 7) := Lib.hid (by rw [hF]; rfl)
  have F1h : Hid (oneAll F) := Lib.hid (by rw [hF]; exact wan_one p5)
  have ga : Gr w4 w5 := Below.trans ((Gr.refl w4).alloc _) (Below.mono g5 ((Gr.refl w4).alloc _).size)
  have K5 := Lib.hid (K4.out.gr ga)
  have G5 := Lib.hid (G4.out.trans ga)
  have S5 := Lib.hid (S4.out.below ga)
  rw [← hF]
  clear hF p5 g5 ga K4 S4 SL
  go_wp2_with (first | (refine wpList_storeE wanTy _ _ rfl rfl rfl rfl (CellsAt.new _ _ _) FN.out rfl F1h.out ?_) | fail)
  intro w6 k6 ch6
  have g6 : Gr w5 w6 := Below.trans ((Gr.refl w5).alloc _) (ch6.below ((Gr.refl w5).alloc _).size (fun k hk => by have : k = w5.heap.size := hk; omega))
  obtain ⟨x0, x1, x4⟩ := CE.out _ _ (K5.out.gr g6)
  have G6 := Lib.hid (G5.out.trans g6)
  have r1 := run_string_sl (P := Try.prog) 28 5 9 Try.underlying28 Try.underlying5 Try.underlying9 (S5.out.below g6)
  unfold tL at r1
  clear k6 ch6 g6 K5 S5
  go_wp2
  go_ret
  exact ⟨rfl, G6.out⟩
end Go.Proofs.Ytgilijkmmcpfjaa
