/-
  Of the statements of package entry: tells.
-/
import Derived.Test.YtiemgmbjhllmbaaYDRead6
import Derived.Test.YtiemgmbjhllmbaaYEnPutX
set_option linter.unusedVariables false
set_option linter.unusedSimpArgs false
set_option maxRecDepth 100000
namespace Go.Proofs.Ytiemgmbjhllmbaa
open Go.RowKit
def tX : EntD := { zeroX with kind := 7, region := 2 }
def tY : EntD := { zeroX with kind := 7, epoch := 1 }
def tL : List UInt8 := [7, 0, 0, 0, 0, 0, 0, 0, 2]
theorem tX_put : (putV tX).1 = tL ∧ (putV tX).2 = 0 := by decide +kernel
theorem tY_put : (putV tY).1 = [] ∧ (putV tY).2 = 1 := by decide +kernel
theorem tL_get : (getV tL).1.kind = 7 ∧ (getV tL).1.region = 2 ∧ (getV tL).2 = 0 := by decide +kernel
theorem t0_get : (getV []).2 = 2 := by decide +kernel
theorem zeroO_op : OpOk zeroO := zeroO_ok
theorem tX_ok : EntOk tX := ⟨by decide, by decide, by decide, by unfold I64 tX zeroX; simp, by decide, zeroO_ok, zeroI_ok, by unfold I64 tX zeroX; simp, by unfold I64 tX; simp, by decide, fun k hk => by simp [tX, zeroX] at hk⟩
theorem tY_ok : EntOk tY := ⟨by decide, by decide, by decide, by unfold I64 tY zeroX; simp, by decide, zeroO_ok, zeroI_ok, by unfold I64 tY zeroX; simp, by unfold I64 tY zeroX; simp, by decide, fun k hk => by simp [tY, zeroX] at hk⟩
theorem bdz (k : Nat) : Bd { zeroX with kind := k } := bd_zero k
theorem tX_bd : Bd tX := by obtain ⟨h1, h2, h3, h4, h5, h6⟩ := bd_zero 7; exact ⟨h1, h2, h3, h4, h5, h6⟩
theorem tY_bd : Bd tY := by obtain ⟨h1, h2, h3, h4, h5, h6⟩ := bd_zero 7; exact ⟨h1, h2, h3, h4, h5, h6⟩
theorem tX_p (w : World) : EntP Any w tX zeroQ := EntP.zero Any w 7
theorem tY_p (w : World) : EntP Any w tY zeroQ := EntP.zero Any w 7
theorem built_tX : Try.prog.built 39 [(0, .int .u8 7), (7, .int .i64 2)] = some (entCells tX zeroQ).toArray := by kernel_rfl
theorem built_tY : Try.prog.built 39 [(0, .int .u8 7), (8, .int .u64 1)] = some (entCells tY zeroQ).toArray := by kernel_rfl
set_option maxHeartbeats 4000000 in
theorem tells_any (w : World) : Calls Try.prog 7 #[] w fun e w' => e = .returned (.bool true) ∧ Gr w w' := by
  have P1 : Hid (∀ W, Calls Try.prog 4 #[.agg (entCells tX zeroQ).toArray] W (RetPut W tX)) := Lib.hid fun W => put_any W tX zeroQ (tX_p W) tX_ok tX_bd.big
  have P2 : Hid (∀ W, Calls Try.prog 4 #[.agg (entCells tY zeroQ).toArray] W (RetPut W tY)) := Lib.hid fun W => put_any W tY zeroQ (tY_p W) tY_ok tY_bd.big
  obtain ⟨E1, hE1⟩ : ∃ E, E = entCells tX zeroQ := ⟨_, rfl⟩
  obtain ⟨E2, hE2⟩ : ∃ E, E = entCells tY zeroQ := ⟨_, rfl⟩
  have B1 := built_tX
  have B2 := built_tY
  rw [← hE1] at P1 B1
  rw [← hE2] at P2 B2
  have BH1 := Lib.hid B1
  have BH2 := Lib.hid B2
  clear B1 B2 hE1 hE2
  go_enter Try.func7, Try.ntmps7
  go_wp2_with (first | (refine wpList_buildTo rfl 39 _ rfl (some 10) rfl _ (by simp only [List.map_toArray, List.map_cons, List.map_nil]; exact BH1.out) ?_) | fail)
  refine (P1.out w).mono ?_
  rintro en w1 ⟨v1, rfl, s1, g1⟩
  rw [tX_put.1] at s1
  rw [tX_put.2]
  obtain ⟨a1, c1, hv⟩ := s1.oneCells
  rw [bytes_length, show tL.length = 9 from rfl] at hv
  subst hv
  have S1 := Lib.hid s1
  have G1 := Lib.hid g1
  clear s1 g1 P1 BH1
  go_wp2_with fail
  refine (get_any w1 _ tL S1.out (by decide)).mono ?_
  rintro en w2 ⟨q2, rfl, p2, g2⟩
  obtain ⟨y, hy⟩ : ∃ y, y = (getV tL).1 := ⟨_, rfl⟩
  have hyk : y.kind = 7 := by rw [hy]; exact tL_get.1
  have hyr : y.region = 2 := by rw [hy]; exact tL_get.2.1
  rw [tL_get.2.2, ← hy]
  obtain ⟨E, hE⟩ : ∃ E, E = entCells y q2 := ⟨_, rfl⟩
  have EN : Hid (E.length = 23) := Lib.hid (by rw [hE]; rfl)
  have E1h : Hid (oneAll E) := Lib.hid (by rw [hE]; exact p2.one)
  have CE : Hid (∀ W B, CellsAt W B E 39 → W.cell? ⟨B, 0, none⟩ = some (.int .u8 7) ∧ W.cell? ⟨B, 20, none⟩ = some (.int .i64 2)) := Lib.hid fun W B h => by
    rw [hE] at h
    have h0 : W.cell? ⟨B, 0, none⟩ = some (.int .u8 (y.kind : Int)) := h.cell 0
    have h1 : W.cell? ⟨B, 20, none⟩ = some (.int .i64 y.region) := h.cell 20
    rw [hyk] at h0
    rw [hyr] at h1
    exact ⟨h0, h1⟩
  have G2 := Lib.hid (G1.out.trans g2)
  have S2 := Lib.hid (S1.out.below g2)
  rw [← hE]
  clear hy hE p2 g2 hyk hyr S1
  go_wp2_with (first | (refine wpList_storeE entTy _ _ rfl rfl rfl rfl (CellsAt.new _ _ _) EN.out rfl E1h.out ?_) | fail)
  intro w3 k3 ch3
  have g3 : Gr w2 w3 := Below.trans ((Gr.refl w2).alloc _) (ch3.below ((Gr.refl w2).alloc _).size (fun k hk => by have : k = w2.heap.size := hk; omega))
  have K3 := Lib.hid k3
  have G3 := Lib.hid (G2.out.trans g3)
  have S3 := Lib.hid (S2.out.below g3)
  clear k3 ch3 g3 S2
  go_wp2_with (first | (refine wpList_buildTo rfl 39 _ rfl (some 20) rfl _ (by simp only [List.map_toArray, List.map_cons, List.map_nil]; exact BH2.out) ?_) | fail)
  refine (P2.out w3).mono ?_
  rintro en w4 ⟨v4, rfl, s4, g4⟩
  rw [tY_put.1] at s4
  rw [tY_put.2]
  obtain ⟨a4, c4, hv⟩ := s4.oneCells
  rw [bytes_length] at hv
  subst hv
  have K4 := Lib.hid (K3.out.gr g4)
  have G4 := Lib.hid (G3.out.trans g4)
  have S4 := Lib.hid (S3.out.below g4)
  clear s4 g4 P2 BH2 K3 S3
  go_wp2_with fail
  refine (get_any w4 _ [] (Sl.nil _ _ _) (by decide)).mono ?_
  rintro en w5 ⟨q5, rfl, p5, g5⟩
  rw [t0_get]
  obtain ⟨F, hF⟩ : ∃ E, E = entCells (getV []).1 q5 := ⟨_, rfl⟩
  have FN : Hid (F.length = 23) := Lib.hid (by rw [hF]; rfl)
  have F1h : Hid (oneAll F) := Lib.hid (by rw [hF]; exact p5.one)
  have K5 := Lib.hid (K4.out.gr g5)
  have G5 := Lib.hid (G4.out.trans g5)
  have S5 := Lib.hid (S4.out.below g5)
  rw [← hF]
  clear hF p5 g5 K4 S4
  go_wp2_with (first | (refine wpList_storeE entTy _ _ rfl rfl rfl rfl (CellsAt.new _ _ _) FN.out rfl F1h.out ?_) | fail)
  intro w6 k6 ch6
  have g6 : Gr w5 w6 := Below.trans ((Gr.refl w5).alloc _) (ch6.below ((Gr.refl w5).alloc _).size (fun k hk => by have : k = w5.heap.size := hk; omega))
  obtain ⟨x0, x20⟩ := CE.out _ _ (K5.out.gr g6)
  have G6 := Lib.hid (G5.out.trans g6)
  have r1 := run_string_sl (P := Try.prog) 22 5 9 Try.underlying22 Try.underlying5 Try.underlying9 (S5.out.below g6)
  unfold tL at r1
  clear k6 ch6 g6 K5 S5
  go_wp2
  go_ret
  exact ⟨rfl, G6.out⟩
end Go.Proofs.Ytiemgmbjhllmbaa
