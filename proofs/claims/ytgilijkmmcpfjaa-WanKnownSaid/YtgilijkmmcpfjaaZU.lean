/-
  Of the statements of package wan: tells.
  Of the statements of package wan: heavy.
  Messages of package wan by one triple of slices.
-/
import Derived.Test.YtgilijkmmcpfjaaZWSame
section
set_option linter.unusedVariables false
set_option linter.unusedSimpArgs false
set_option maxRecDepth 100000
namespace Go.Proofs.Ytgilijkmmcpfjaa
open Go.RowKit
def tX : WanD := ⟨5, 1, [], [], 2, 0, []⟩
def tY : WanD := ⟨5, 0, [], [], 0, 1, []⟩
def tL : List UInt8 := [21, 1, 0, 0, 0, 0, 0, 0, 0, 2]
def tB : List UInt8 := [5, 1, 0, 0, 0, 0, 0, 0, 0, 2]
def nC (x : WanD) : List Value := wanCells x (.slice none 0 0) (.slice none 0 0) (.slice none 0 0)
theorem tX_put : (putW tX).1 = tL ∧ (putW tX).2 = 0 := by decide +kernel
theorem tY_put : (putW tY).1 = [] ∧ (putW tY).2 = 1 := by decide +kernel
theorem tL_get : (getW tL).1.kind = 5 ∧ (getW tL).1.site = 1 ∧ (getW tL).1.region = 2 ∧ (getW tL).2 = 0 := by decide +kernel
theorem tB_get : (getW tB).2 = 2 := by decide +kernel
theorem tX_ok : WanOk tX := ⟨by decide, by unfold I64 tX; simp, fun k hk => by simp [tX] at hk, fun k hk => by simp [tX] at hk, by unfold I64 tX; simp, by decide, fun k hk => by simp [tX] at hk⟩
theorem tY_ok : WanOk tY := ⟨by decide, by unfold I64 tY; simp, fun k hk => by simp [tY] at hk, fun k hk => by simp [tY] at hk, by unfold I64 tY; simp, by decide, fun k hk => by simp [tY] at hk⟩
theorem nC_p (w : World) (x : WanD) (h1 : x.vector = []) (h2 : x.items = []) (h3 : x.frontier = []) : WanP Any w x (.slice none 0 0) (.slice none 0 0) (.slice none 0 0) := by
  refine ⟨?_, ?_, ?_⟩
  · rw [h1]; exact SlP.nil _ _ _ _
  · rw [h2]; exact ItemsP.nil _ _ _ _
  · rw [h3]; exact SlP.nil _ _ _ _
theorem tX_len : WanLen tX := ⟨by decide, fun y hy => by simp [tX] at hy⟩
theorem tY_len : WanLen tY := ⟨by decide, fun y hy => by simp [tY] at hy⟩
theorem built_tX : Try.prog.built 26 [(0, .int .u8 5), (1, .int .i64 1), (4, .int .i64 2)] = some (nC tX).toArray := by kernel_rfl
theorem built_tY : Try.prog.built 26 [(0, .int .u8 5), (5, .int .u64 1)] = some (nC tY).toArray := by kernel_rfl
set_option maxHeartbeats 4000000 in
theorem tells_any (w : World) : Calls Try.prog 12 #[] w fun e w' => e = .returned (.bool true) ∧ Gr w w' := by
  have P1 : Hid (∀ W, Calls Try.prog 10 #[.agg (nC tX).toArray] W (RetPutW W tX)) := Lib.hid fun W => putW_any W tX _ _ _ (nC_p W tX rfl rfl rfl) tX_ok tX_len
  have P2 : Hid (∀ W, Calls Try.prog 10 #[.agg (nC tY).toArray] W (RetPutW W tY)) := Lib.hid fun W => putW_any W tY _ _ _ (nC_p W tY rfl rfl rfl) tY_ok tY_len
  obtain ⟨E1, hE1⟩ : ∃ E, E = nC tX := ⟨_, rfl⟩
  obtain ⟨E2, hE2⟩ : ∃ E, E = nC tY := ⟨_, rfl⟩
  have B1 := built_tX
  have B2 := built_tY
  rw [← hE1] at P1 B1
  rw [← hE2] at P2 B2
  have BH1 := Lib.hid B1
  have BH2 := Lib.hid B2
  clear B1 B2 hE1 hE2
  go_enter Try.func12, Try.ntmps12
  go_wp2_with (first | (refine wpList_buildTo rfl 26 _ rfl (some 10) rfl _ (by simp only [List.map_toArray, List.map_cons, List.map_nil]; exact BH1.out) ?_) | fail)
  refine (P1.out w).mono ?_
  rintro en w1 ⟨v1, rfl, s1, g1⟩
  rw [tX_put.1] at s1
  rw [tX_put.2]
  obtain ⟨a1, c1, hv⟩ := s1.oneCells
  rw [bytes_length, show tL.length = 10 from rfl] at hv
  subst hv
  have S1 := Lib.hid s1
  have G1 := Lib.hid g1
  clear s1 g1 P1 BH1
  go_wp2_with fail
  refine (getW_any w1 _ tL S1.out (by decide)).mono ?_
  rintro en w2 ⟨vv2, iv2, fv2, rfl, p2, g2⟩
  obtain ⟨y, hy⟩ : ∃ y, y = (getW tL).1 := ⟨_, rfl⟩
  have hyk : y.kind = 5 := by rw [hy]; exact tL_get.1
  have hys : y.site = 1 := by rw [hy]; exact tL_get.2.1
  have hyr : y.region = 2 := by rw [hy]; exact tL_get.2.2.1
  rw [tL_get.2.2.2, ← hy]
  obtain ⟨E, hE⟩ : ∃ E, E = wanCells y vv2 iv2 fv2 := ⟨_, rfl⟩
  have EN : Hid (E.length = 7) := Lib.hid (by rw [hE]; rfl)
  have E1h : Hid (oneAll E) := Lib.hid (by rw [hE, hy]; exact wan_one p2)
  have CE : Hid (∀ W B, CellsAt W B E 26 → W.cell? ⟨B, 0, none⟩ = some (.int .u8 5) ∧ W.cell? ⟨B, 1, none⟩ = some (.int .i64 1) ∧ W.cell? ⟨B, 4, none⟩ = some (.int .i64 2)) := Lib.hid fun W B h => by
    rw [hE] at h
    have h0 : W.cell? ⟨B, 0, none⟩ = some (.int .u8 (y.kind : Int)) := h.cell 0
    have h1 : W.cell? ⟨B, 1, none⟩ = some (.int .i64 y.site) := h.cell 1
    have h2 : W.cell? ⟨B, 4, none⟩ = some (.int .i64 y.region) := h.cell 4
    rw [hyk] at h0
    rw [hys] at h1
    rw [hyr] at h2
    exact ⟨h0, h1, h2⟩
  have G2 := Lib.hid (G1.out.trans g2)
  have S2 := Lib.hid (S1.out.below g2)
  rw [← hE]
  clear hy hE p2 g2 hyk hyr hys S1
  go_wp2_with (first | (refine wpList_storeE wanTy _ _ rfl rfl rfl rfl (CellsAt.new _ _ _) EN.out rfl E1h.out ?_) | fail)
  intro w3 k3 ch3
  have g3 : Gr w2 w3 := Below.trans ((Gr.refl w2).alloc _) (ch3.below ((Gr.refl w2).alloc _).size (fun k hk => by have : k = w2.heap.size := hk; omega))
  have K3 := Lib.hid k3
  have G3 := Lib.hid (G2.out.trans g3)
  have S3 := Lib.hid (S2.out.below g3)
  clear k3 ch3 g3 S2
  go_wp2_with (first | (refine wpList_buildTo rfl 26 _ rfl (some 20) rfl _ (by simp only [List.map_toArray, List.map_cons, List.map_nil]; exact BH2.out) ?_) | fail)
  refine (P2.out w3).mono ?_
  rintro en w4 ⟨v4, rfl, s4, g4⟩
  rw [tY_put.2]
  have K4 := Lib.hid (K3.out.gr g4)
  have G4 := Lib.hid (G3.out.trans g4)
  have S4 := Lib.hid (S3.out.below g4)
  clear s4 g4 P2 BH2 K3 S3
  have sl : Sl (w4.alloc (.cells #[.int .u8 5, .int .u8 1, .int .u8 0, .int .u8 0, .int .u8 0, .int .u8 0, .int .u8 0, .int .u8 0, .int .u8 0, .int .u8 2] 5)) (.slice (some ⟨w4.heap.size, 0, none⟩) 10 10) (bytes tB) := Sl.new w4 (bytes tB) _ _ _ _ rfl (by decide)
  have SL := Lib.hid sl
  clear sl
  go_wp2_with fail
  refine (getW_any _ _ tB SL.out (by decide)).mono ?_
  rintro en w5 ⟨vv5, iv5, fv5, rfl, p5, g5⟩
  rw [tB_get]
  obtain ⟨F, hF⟩ : ∃ E, E = wanCells (getW tB).1 vv5 iv5 fv5 := ⟨_, rfl⟩
  have FN : Hid (F.length = 7) := Lib.hid (by rw [hF]; rfl)
  have F1h : Hid (oneAll F) := Lib.hid (by rw [hF]; exact wan_one p5)
  have ga : Gr w4 w5 := Below.trans ((Gr.refl w4).alloc _) (Below.mono g5 ((Gr.refl w4).alloc _).size)
  have K5 := Lib.hid (K4.out.gr ga)
  have G5 := Lib.hid (G4.out.trans ga)
  have S5 := Lib.hid (S4.out.below ga)
  rw [← hF]
  clear hF p5 g5 ga K4 S4 SL
  go_wp2_with (first | (refine wpList_storeE wanTy _ _ rfl rfl rfl rfl (CellsAt.new _ _ _) FN.out rfl F1h.out ?_) | fail)
  intro w6 k6 ch6
  have g6 : Gr w5 w6 := Below.trans ((Gr.refl w5).alloc _) (ch6.below ((Gr.refl w5).alloc _).size (fun k hk => by have : k = w5.heap.size := hk; omega))
  obtain ⟨x0, x1, x4⟩ := CE.out _ _ (K5.out.gr g6)
  have G6 := Lib.hid (G5.out.trans g6)
  have r1 := run_string_sl (P := Try.prog) 28 5 9 Try.underlying28 Try.underlying5 Try.underlying9 (S5.out.below g6)
  unfold tL at r1
  clear k6 ch6 g6 K5 S5
  go_wp2
  go_ret
  exact ⟨rfl, G6.out⟩
end Go.Proofs.Ytgilijkmmcpfjaa
end
section
set_option linter.unusedVariables false
set_option linter.unusedSimpArgs false
set_option maxRecDepth 100000
namespace Go.Proofs.Ytgilijkmmcpfjaa
open Go.RowKit
/-- A Boolean comes back; where it is false, p. -/
def NotThenW (p : Prop) (w : World) (e : Ending) (w' : World) : Prop := ∃ z : Bool, e = .returned (.bool z) ∧ (z = false → p) ∧ Gr w w'
theorem NotThenW.yes {p : Prop} {w w' : World} (g : Gr w w') : NotThenW p w (.returned (.bool true)) w' := ⟨true, rfl, fun h => (by cases h), g⟩
theorem NotThenW.no {p : Prop} {w w' : World} (g : Gr w w') (h : p) : NotThenW p w (.returned (.bool false)) w' := ⟨false, rfl, fun _ => h, g⟩
structure WanLight (x : WanD) : Prop where
  vector : x.vector.length ≤ 10
  frontier : x.frontier.length ≤ 10
  items : x.items.length ≤ 12
  each : ∀ y ∈ x.items, y.stamp.length ≤ 10 ∧ y.effs.length ≤ 20
theorem WanLight.len {x : WanD} (h : WanLight x) : WanLen x := ⟨Nat.le_trans h.items (by decide), fun y hy => Nat.le_trans (h.each y hy).2 (by decide)⟩
theorem WanLight.short {x : WanD} (h : WanLight x) : WanShort x := ⟨Nat.le_trans h.vector (by decide), Nat.le_trans h.items (by decide), Nat.le_trans h.frontier (by decide), fun y hy => ⟨Nat.le_trans (h.each y hy).1 (by decide), Nat.le_trans (h.each y hy).2 (by decide)⟩⟩
set_option maxHeartbeats 8000000 in
theorem heavy_any (w : World) (x : WanD) (vv iv fv : Value) (hp : WanP Any w x vv iv fv) : Calls Try.prog 9 #[.agg (wanCells x vv iv fv).toArray] w (NotThenW (WanLight x) w) := by
  obtain ⟨va, vc, rfl, _, _⟩ := Sl.numsAt' hp.1.1
  obtain ⟨fa, fc, rfl, _, _⟩ := Sl.numsAt' hp.2.2.1
  obtain ⟨ia, ic, rfl⟩ := hp.2.1.shape
  obtain ⟨nv, hnv⟩ : ∃ n, n = x.vector.length := ⟨_, rfl⟩
  obtain ⟨nf, hnf⟩ : ∃ n, n = x.frontier.length := ⟨_, rfl⟩
  obtain ⟨n, hn⟩ : ∃ n, n = x.items.length := ⟨_, rfl⟩
  obtain ⟨PP, hPP⟩ : ∃ PP : Prop, PP = WanLight x := ⟨_, rfl⟩
  have OK : Hid (nv ≤ 10 → nf ≤ 10 → n ≤ 12 → (∀ j (hj : j < x.items.length), x.items[j].stamp.length ≤ 10 ∧ x.items[j].effs.length ≤ 20) → PP) := Lib.hid fun h1 h2 h3 h4 => by
    rw [hPP]
    exact ⟨by omega, by omega, by omega, fun y hy => by obtain ⟨j, hj, rfl⟩ := List.getElem_of_mem hy; exact h4 j hj⟩
  have HN := Lib.hid hn
  have HI := Lib.hid hp.2.1
  obtain ⟨E, hE⟩ : ∃ E, E = wanCells x (.slice va x.vector.length vc) (.slice ia x.items.length ic) (.slice fa x.frontier.length fc) := ⟨_, rfl⟩
  have CE : Hid (∀ W B, CellsAt W B E 26 → W.cell? ⟨B, 2, none⟩ = some (.slice va nv vc) ∧ W.cell? ⟨B, 3, none⟩ = some (.slice ia n ic) ∧ W.cell? ⟨B, 6, none⟩ = some (.slice fa nf fc)) := Lib.hid fun W B h => by
    subst hE; rw [hn, hnv, hnf]
    exact ⟨h.cell 2, h.cell 3, h.cell 6⟩
  rw [← hE, ← hPP]
  clear hnv hnf hn hPP hE hp
  go_enter Try.func9, Try.ntmps9
  go_wp2_with (first | (refine wpList_boxE _ rfl rfl rfl ?_) | fail)
  intro w1 k1 g1 nz1
  obtain ⟨b1, hb1⟩ : ∃ b1, b1 = w.heap.size := ⟨_, rfl⟩
  rw [← hb1]
  rw [← hb1] at k1
  have GG := Lib.hid g1
  have HI1 := Lib.hid (HI.out.gr g1)
  obtain ⟨x2, x3, x6⟩ := CE.out w1 b1 k1
  have X3 := Lib.hid x3
  have YES : Hid (NotThenW PP w (.returned (.bool true)) w1) := Lib.hid (NotThenW.yes g1)
  clear k1 g1 nz1 hb1 HI CE
  by_cases h0 : 10 < nv
  · have hq : (10 : Int) < (nv : Int) := by omega
    go_wp2
    go_ret
    exact YES.out
  have hq0 : ¬ (10 : Int) < (nv : Int) := by omega
  by_cases h1 : 10 < nf
  · have hq : (10 : Int) < (nf : Int) := by omega
    go_wp2
    go_ret
    exact YES.out
  have hq1 : ¬ (10 : Int) < (nf : Int) := by omega
  by_cases h2 : 12 < n
  · have hq : (12 : Int) < (n : Int) := by omega
    go_wp2
    go_ret
    exact YES.out
  have hq2 : ¬ (12 : Int) < (n : Int) := by omega
  have N12 : Hid (n ≤ 12) := Lib.hid (by omega)
  have OK2 := Lib.hid (OK.out (by omega) (by omega) (by omega))
  go_wp2_with fail
  go_loopw [3, 4] (fun i _ wr => ∃ k : Nat, k ≤ n ∧ i = .int .i64 k ∧ w1 = wr ∧ Hid (∀ j (hj : j < x.items.length), j < k → x.items[j].stamp.length ≤ 10 ∧ x.items[j].effs.length ≤ 20)) (fun i _ _ => n - (intOf i).toNat)
  case atStart => exact ⟨0, Nat.zero_le _, rfl, rfl, Lib.hid fun j _ h => absurd h (Nat.not_lt_zero _)⟩
  case round =>
    clear x2 x6 hq0 hq1 hq2 OK h0 h1 h2
    obtain ⟨k, hk, rfl, rfl, HJ⟩ := hrel
    have n12 := N12.out
    by_cases hlt : k < n
    · have hlt2 : k < x.items.length := by rw [← HN.out]; exact hlt
      obtain ⟨B3, o3, _, sv3, ev3, e3, hB3, op3, t3⟩ := HI1.out.at k hlt2
      rw [← HN.out] at e3
      injection e3 with e3 _ q3
      subst e3 q3
      obtain ⟨y, hy⟩ : ∃ y, y = x.items[k] := ⟨_, rfl⟩
      rw [← hy] at op3 t3
      obtain ⟨ast, cst, rfl, _, _⟩ := Sl.numsAt' op3.1.1
      obtain ⟨ae, ce, rfl⟩ := op3.2.shape
      obtain ⟨ns, hns⟩ : ∃ n, n = y.stamp.length := ⟨_, rfl⟩
      obtain ⟨es, hes⟩ : ∃ es, es = y.effs := ⟨_, rfl⟩
      have HE := Lib.hid op3.2
      rw [← hes] at HE
      have a4 := t3 4 _ (by decide) rfl
      have a5 := t3 5 _ (by decide) rfl
      rw [← hns] at a4
      rw [← hes] at a5
      have NEXT : Hid (ns ≤ 10 → es.length ≤ 20 → Hid (∀ j (hj : j < x.items.length), j < k + 1 → x.items[j].stamp.length ≤ 10 ∧ x.items[j].effs.length ≤ 20)) := Lib.hid fun h1 h2 => Lib.hid fun j hj hjk => by
        rcases Nat.lt_or_ge j k with h | h
        · exact HJ.out j hj h
        · obtain rfl : j = k := by omega
          rw [← hy, ← hns, ← hes]; exact ⟨h1, h2⟩
      clear hy hns hes t3 op3 HJ hlt2
      have i1 : (0 : Int) ≤ (k : Int) := by omega
      have i2 : (k : Int) < (n : Int) := by omega
      by_cases h4 : 20 < es.length
      · have hq : (20 : Int) < (es.length : Int) := by omega
        go_wp2
        go_ret
        exact YES.out
      have hq4 : ¬ (20 : Int) < (es.length : Int) := by omega
      by_cases h5 : 10 < ns
      · have hq : (10 : Int) < (ns : Int) := by omega
        go_wp2
        go_ret
        exact YES.out
      have hq5 : ¬ (10 : Int) < (ns : Int) := by omega
      have NX := Lib.hid (NEXT.out (by omega) (by omega))
      have e20 : es.length ≤ 20 := by omega
      clear NEXT
      go_wp2_with fail
      go_loopw [4] (fun i wr => ∃ m : Nat, m ≤ es.length ∧ i = .int .i64 m ∧ w1 = wr) (fun i _ => es.length - (intOf i).toNat)
      case atStart => exact ⟨0, Nat.zero_le _, rfl, rfl⟩
      case round =>
        clear a4 hq4 hq5 h4 h5
        obtain ⟨m, hm, rfl, rfl⟩ := hrel
        by_cases hlm : m < es.length
        · obtain ⟨B4, o4, _, dv4, e4, hB4, op4, t4⟩ := HE.out.at m hlm
          injection e4 with e4 _ q4
          subst e4 q4
          obtain ⟨z, hz⟩ : ∃ z, z = es[m] := ⟨_, rfl⟩
          rw [← hz] at op4 t4
          clear hz
          obtain ⟨pa, gn, nx⟩ := z
          replace op4 : SlP Any w1 dv4 (bytes nx.data) := op4
          obtain ⟨ad, cd, hv⟩ := op4.1.oneCells
          rw [bytes_length] at hv
          obtain ⟨nd, hnd⟩ : ∃ nd, nd = nx.data.length := ⟨_, rfl⟩
          rw [← hnd] at hv
          subst hv
          obtain ⟨np, hnp⟩ : ∃ np, np = pa.length := ⟨_, rfl⟩
          have lp : (pa.length : Int) = (np : Int) := by rw [hnp]
          have a0 := t4 0 _ (by decide) rfl
          have a2 := t4 2 _ (by decide) rfl
          simp only [effCells, nodeCells, Nat.add_zero] at a0 a2
          clear hnd hnp t4 op4
          have j1 : (0 : Int) ≤ (m : Int) := by omega
          have j2 : (m : Int) < (es.length : Int) := by omega
          by_cases h6 : 200 < np
          · have hq : (200 : Int) < (np : Int) := by omega
            go_wp2
            go_ret
            exact YES.out
          have hq6 : ¬ (200 : Int) < (np : Int) := by omega
          by_cases h7 : 200 < nd
          · have hq : (200 : Int) < (nd : Int) := by omega
            go_wp2
            go_ret
            exact YES.out
          have hq7 : ¬ (200 : Int) < (nd : Int) := by omega
          go_wp2
          go_roundw
          case rel => exact ⟨m + 1, by omega, by go_num, by trivial⟩
          case measure => simp [intOf]; omega
        · obtain rfl : m = es.length := by omega
          go_wp2
          go_roundw
          case rel => exact ⟨k + 1, by omega, by go_num, by trivial, NX.out⟩
          case measure => simp [intOf]; omega
    · obtain rfl : k = n := by omega
      have KN : Hid (NotThenW PP w (.returned (.bool false)) w1) := Lib.hid (NotThenW.no GG.out (OK2.out fun j hj => HJ.out j hj (by rw [HN.out]; exact hj)))
      go_wp2
      go_ret
      exact KN.out
end Go.Proofs.Ytgilijkmmcpfjaa
end
section
set_option linter.unusedVariables false
namespace Go.Proofs.Ytgilijkmmcpfjaa
open Go.RowKit
abbrev W3 := Value × Value × Value
def wP (P : Nat → Prop) (w : World) (x : WanD) (q : W3) : Prop := WanP P w x q.1 q.2.1 q.2.2
def wC (x : WanD) (q : W3) : List Value := wanCells x q.1 q.2.1 q.2.2
def zeroWQ : W3 := (.slice none 0 0, .slice none 0 0, .slice none 0 0)
theorem wP.gr {P : Nat → Prop} {w w' : World} {x : WanD} {q : W3} (h : wP P w x q) (g : Gr w w') : wP P w' x q := WanP.gr h g
theorem wP.keep {P : Nat → Prop} {w w' : World} {x : WanD} {q : W3} (h : wP P w x q) (g : Keep P w w') : wP P w' x q := WanP.keep h g
theorem wP.mono {P Q : Nat → Prop} {w : World} {x : WanD} {q : W3} (h : wP P w x q) (hq : ∀ k, P k → Q k) : wP Q w x q := WanP.mono h hq
theorem wP.one {P : Nat → Prop} {w : World} {x : WanD} {q : W3} (h : wP P w x q) : oneAll (wC x q) := wan_one h
theorem wP.zero (P : Nat → Prop) (w : World) : wP P w zeroW zeroWQ := ⟨SlP.nil _ _ _ _, ItemsP.nil _ _ _ _, SlP.nil _ _ _ _⟩
theorem wC_len (x : WanD) (q : W3) : (wC x q).length = 7 := rfl
theorem retGetW3 {W W' : World} {l : List UInt8} {e : Ending} (h : RetGetW W l e W') : ∃ q : W3, e = .returned (.tuple #[.agg (wC (getW l).1 q).toArray, .int .i64 (getW l).2]) ∧ wP (From W.heap.size) W' (getW l).1 q ∧ Gr W W' := by
  obtain ⟨a, b, c, h1, h2, h3⟩ := h
  exact ⟨(a, b, c), h1, h2, h3⟩
theorem MayW.short {x : WanD} (m : MayW x) : WanShort x :=
  ⟨Nat.le_trans m.vec_le (by decide), Nat.le_trans m.items_le (by decide), Nat.le_trans m.fro_le (by decide), fun y hy => by
    have h := m.all y hy
    unfold mayItem at h
    simp only [Bool.and_eq_true, decide_eq_true_eq] at h
    exact ⟨by omega, by omega⟩⟩
theorem MayW.len {x : WanD} (m : MayW x) : WanLen x := ⟨Nat.le_trans m.items_le (by decide), fun y hy => by
    have h := m.all y hy
    unfold mayItem at h
    simp only [Bool.and_eq_true, decide_eq_true_eq] at h
    exact Nat.le_trans h.2.1 (by decide)⟩
theorem zeroW_short : WanShort zeroW := ⟨Nat.zero_le _, Nat.zero_le _, Nat.zero_le _, fun y hy => by cases hy⟩
theorem zeroW_ok : WanOk zeroW := ⟨by decide, by unfold I64 zeroW; simp, fun k hk => (by cases hk), fun k hk => (by cases hk), by unfold I64 zeroW; simp, by decide, fun k hk => (by cases hk)⟩
theorem zeroW_len : WanLen zeroW := ⟨by decide, fun y hy => by cases hy⟩
theorem getW_all (l : List UInt8) : WanShort (getW l).1 ∧ WanOk (getW l).1 ∧ WanLen (getW l).1 := by
  by_cases h : (getW l).2 = 0
  · obtain ⟨h1, h2, h3⟩ := getW_good h
    exact ⟨h2.short, h1, h2.len⟩
  · rw [getW_bad h]
    exact ⟨zeroW_short, zeroW_ok, zeroW_len⟩
end Go.Proofs.Ytgilijkmmcpfjaa
end
