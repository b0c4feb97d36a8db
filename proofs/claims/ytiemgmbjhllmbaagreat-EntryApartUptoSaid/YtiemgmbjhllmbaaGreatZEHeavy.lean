/-
  Of the statements of package entry: heavy, heavyItem.
-/
import Derived.Test.YtiemgmbjhllmbaaGreatZRMay
import Derived.Test.YtiemgmbjhllmbaaGreatZK
set_option linter.unusedVariables false
set_option linter.unusedSimpArgs false
set_option maxRecDepth 100000
namespace Go.Proofs.YtiemgmbjhllmbaaGreat
open Go.RowKit
/-- A Boolean comes back; where it is false, p. -/
def NotThen (p : Prop) (w : World) (e : Ending) (w' : World) : Prop := ∃ z : Bool, e = .returned (.bool z) ∧ (z = false → p) ∧ Gr w w'
theorem NotThen.yes {p : Prop} {w w' : World} (g : Gr w w') : NotThen p w (.returned (.bool true)) w' := ⟨true, rfl, fun h => (by cases h), g⟩
theorem NotThen.no {p : Prop} {w w' : World} (g : Gr w w') (h : p) : NotThen p w (.returned (.bool false)) w' := ⟨false, rfl, fun _ => h, g⟩
set_option maxHeartbeats 4000000 in
theorem heavyitem_any (w : World) (x : ItemD) (sv ev : Value) (hp : ItemP Any w x sv ev) : Calls Tryz.prog 16 #[.agg (itemCells x sv ev).toArray] w (NotThen (x.stamp.length ≤ 10 ∧ x.effs.length ≤ 40) w) := by
  obtain ⟨ori, seq, reg, epo, st, es, clo⟩ := x
  obtain ⟨p1, p2⟩ := hp
  replace p1 : SlP Any w sv (nums st) := p1
  replace p2 : EffsP Any w ev es := p2
  obtain ⟨ast, cst, hv, _, _⟩ := Sl.numsAt' p1.1
  obtain ⟨nst, hnst⟩ : ∃ n, n = st.length := ⟨_, rfl⟩
  rw [← hnst] at hv
  subst hv
  obtain ⟨aes, ces, rfl⟩ := p2.shape
  have HN := Lib.hid hnst
  obtain ⟨PP, hPP⟩ : ∃ PP : Prop, PP = (st.length ≤ 10 ∧ es.length ≤ 40) := ⟨_, rfl⟩
  have OK : Hid (nst ≤ 10 → es.length ≤ 40 → PP) := Lib.hid fun h1 h2 => by rw [hPP]; exact ⟨by omega, h2⟩
  show Calls Tryz.prog 16 #[.agg #[.int .i64 ori, .int .u64 (seq : Int), .int .i64 reg, .int .u64 (epo : Int), .slice ast nst cst, .slice aes es.length ces, .int .u32 (clo : Int)]] w (NotThen (st.length ≤ 10 ∧ es.length ≤ 40) w)
  rw [← hPP]
  clear hnst p1 hPP
  go_enter Tryz.func16, Tryz.ntmps16
  go_wp2_with (first | (refine wpList_boxE (cs := [.int .i64 ori, .int .u64 (seq : Int), .int .i64 reg, .int .u64 (epo : Int), .slice ast nst cst, .slice aes es.length ces, .int .u32 (clo : Int)]) _ rfl rfl rfl ?_) | fail)
  intro w1 k1 g1 n1
  obtain ⟨b1, hb1⟩ : ∃ b1, b1 = w.heap.size := ⟨_, rfl⟩
  rw [← hb1]
  rw [← hb1] at k1
  have x4 := k1.cell 4
  have x5 := k1.cell 5
  simp only [List.getElem?_cons_zero, List.getElem?_cons_succ] at x4 x5
  have T := Lib.hid fun W (hW : Gr w1 W) => (show W.cell? ⟨b1, 5, none⟩ = some (.slice aes es.length ces) from (k1.gr hW).cell 5)
  have GG := Lib.hid g1
  have P2 := Lib.hid (p2.gr g1)
  clear k1 g1 n1 hb1 p2
  by_cases h4 : 10 < nst
  · have hq : (10 : Int) < (nst : Int) := by omega
    go_wp2
    go_ret
    exact NotThen.yes GG.out
  have hq4 : ¬ (10 : Int) < (nst : Int) := by omega
  by_cases h5 : 40 < es.length
  · have hq : (40 : Int) < (es.length : Int) := by omega
    go_wp2
    go_ret
    exact NotThen.yes GG.out
  have hq5 : ¬ (40 : Int) < (es.length : Int) := by omega
  have YES := Lib.hid (OK.out (by omega) (by omega))
  go_wp2_with fail
  go_loopw [3] (fun i wr => ∃ k : Nat, k ≤ es.length ∧ i = .int .i64 k ∧ Gr w1 wr) (fun i _ => es.length - (intOf i).toNat)
  case atStart => exact ⟨0, Nat.zero_le _, rfl, Gr.refl _⟩
  case round =>
    clear x4 x5 hq4 hq5
    obtain ⟨k, hk, rfl, hg⟩ := hrel
    have x5 := T.out wr hg
    have HG := Lib.hid hg
    clear hg
    by_cases hlt : k < es.length
    · obtain ⟨B3, o3, _, dv3, e3, hB3, op3, t3⟩ := (P2.out.gr HG.out).at k hlt
      injection e3 with e3 _ q3
      subst e3 q3
      obtain ⟨x, hx⟩ : ∃ x, x = es[k] := ⟨_, rfl⟩
      rw [← hx] at op3 t3
      clear hx
      obtain ⟨pa, gn, nx⟩ := x
      replace op3 : SlP Any wr dv3 (bytes nx.data) := op3
      obtain ⟨ad, cd, hv⟩ := op3.1.oneCells
      rw [bytes_length] at hv
      obtain ⟨nd, hnd⟩ : ∃ nd, nd = nx.data.length := ⟨_, rfl⟩
      rw [← hnd] at hv
      subst hv
      obtain ⟨np, hnp⟩ : ∃ np, np = pa.length := ⟨_, rfl⟩
      have lp : (pa.length : Int) = (np : Int) := by rw [hnp]
      have a0 := t3 0 _ (by decide) rfl
      have a2 := t3 2 _ (by decide) rfl
      simp only [effCells, nodeCells, Nat.add_zero] at a0 a2
      clear hnd hnp t3 op3
      have i1 : (0 : Int) ≤ (k : Int) := by omega
      have i2 : (k : Int) < (es.length : Int) := by omega
      have KN : Hid (NotThen PP w (.returned (.bool true)) wr) := Lib.hid (NotThen.yes (GG.out.trans HG.out))
      by_cases h6 : 200 < np
      · have hq : (200 : Int) < (np : Int) := by omega
        go_wp2
        go_ret
        exact KN.out
      have hq6 : ¬ (200 : Int) < (np : Int) := by omega
      by_cases h7 : 200 < nd
      · have hq : (200 : Int) < (nd : Int) := by omega
        go_wp2
        go_ret
        exact KN.out
      have hq7 : ¬ (200 : Int) < (nd : Int) := by omega
      clear KN
      go_wp2
      go_roundw
      case rel => first | exact ⟨k + 1, by omega, by go_num, HG.out⟩ | ((repeat apply Exists.intro); apply And.intro; rotate_left; rfl; exact ⟨k + 1, by omega, by go_num, HG.out⟩)
      case measure => simp [intOf]; omega
    · obtain rfl : k = es.length := by omega
      have KN : Hid (NotThen PP w (.returned (.bool false)) wr) := Lib.hid (NotThen.no (GG.out.trans HG.out) YES.out)
      go_wp2
      go_ret
      exact KN.out
set_option maxHeartbeats 4000000 in
theorem heavy_any (w : World) (x : EntD) (q : EntV) (hp : EntP Any w x q) : Calls Tryz.prog 8 #[.agg (entCells x q).toArray] w (NotThen (EntShort x) w) := by
  have hp0 := hp
  obtain ⟨p1, p2, p3⟩ := hp
  have HI := Lib.hid fun W (hW : Gr w W) => heavyitem_any W x.item q.sv q.ev (p2.gr hW)
  obtain ⟨pd, pp⟩ := p1.parts
  obtain ⟨ad, cd, hdv⟩ := pd.1.oneCells
  rw [bytes_length] at hdv
  obtain ⟨ap, cp, hpv⟩ := pp.shape
  obtain ⟨af, cf, hfv, _, _⟩ := Sl.numsAt' p3.1
  obtain ⟨sa, sc, hsv, _, _⟩ := Sl.numsAt' p2.1.1
  obtain ⟨ae, ce, hev⟩ := p2.2.shape
  obtain ⟨ps, hps⟩ : ∃ ps, ps = x.op.parts := ⟨_, rfl⟩
  obtain ⟨pa, hpa⟩ : ∃ pa, pa = x.op.h.path := ⟨_, rfl⟩
  obtain ⟨np, hnp⟩ : ∃ np, np = pa.length := ⟨_, rfl⟩
  obtain ⟨nd, hnd⟩ : ∃ nd, nd = x.op.h.data.length := ⟨_, rfl⟩
  obtain ⟨nf, hnf⟩ : ∃ nf, nf = x.frontier.length := ⟨_, rfl⟩
  have lp : (pa.length : Int) = (np : Int) := by rw [hnp]
  have EN : Hid ((entCells x q).length = 23) := Lib.hid rfl
  have CE : Hid (∀ W B, CellsAt W B (entCells x q) 35 → W.cell? ⟨B, 6, none⟩ = some (.string ⟨pa.toArray⟩) ∧ W.cell? ⟨B, 7, none⟩ = some (.slice ad nd cd) ∧ W.cell? ⟨B, 11, none⟩ = some (.slice ap ps.length cp) ∧ W.cell? ⟨B, 22, none⟩ = some (.slice af nf cf)) := Lib.hid fun W B h => by
    have h6 : W.cell? ⟨B, 6, none⟩ = some (.string ⟨x.op.h.path.toArray⟩) := h.cell 6
    have h7 : W.cell? ⟨B, 7, none⟩ = some q.dv := h.cell 7
    have h11 : W.cell? ⟨B, 11, none⟩ = some q.pv := h.cell 11
    have h22 : W.cell? ⟨B, 22, none⟩ = some q.fv := h.cell 22
    rw [hdv, ← hnd] at h7
    rw [hpv, ← hps] at h11
    rw [hfv, ← hnf] at h22
    rw [← hpa] at h6
    exact ⟨h6, h7, h11, h22⟩
  have CI : Hid (∀ W B, CellsAt W B (entCells x q) 35 → W.cell? ⟨B, 12, none⟩ = some (.int .i64 x.item.origin) ∧ W.cell? ⟨B, 13, none⟩ = some (.int .u64 (x.item.seq : Int)) ∧ W.cell? ⟨B, 14, none⟩ = some (.int .i64 x.item.region) ∧ W.cell? ⟨B, 15, none⟩ = some (.int .u64 (x.item.epoch : Int)) ∧ W.cell? ⟨B, 16, none⟩ = some (.slice sa x.item.stamp.length sc) ∧ W.cell? ⟨B, 17, none⟩ = some (.slice ae x.item.effs.length ce) ∧ W.cell? ⟨B, 18, none⟩ = some (.int .u32 (x.item.closed : Int))) := Lib.hid fun W B h => by
    have h16 : W.cell? ⟨B, 16, none⟩ = some q.sv := h.cell 16
    have h17 : W.cell? ⟨B, 17, none⟩ = some q.ev := h.cell 17
    rw [hsv] at h16
    rw [hev] at h17
    exact ⟨h.cell 12, h.cell 13, h.cell 14, h.cell 15, h16, h17, h.cell 18⟩
  have IC : Hid ((itemCells x.item q.sv q.ev).toArray = #[.int .i64 x.item.origin, .int .u64 (x.item.seq : Int), .int .i64 x.item.region, .int .u64 (x.item.epoch : Int), .slice sa x.item.stamp.length sc, .slice ae x.item.effs.length ce, .int .u32 (x.item.closed : Int)]) := Lib.hid (by rw [hsv, hev]; rfl)
  have OK : Hid (ps.length ≤ 10 → nf ≤ 10 → x.item.stamp.length ≤ 10 ∧ x.item.effs.length ≤ 40 → EntShort x) := Lib.hid fun h1 h2 h3 => ⟨by rw [← hps]; omega, by omega, by omega, by omega⟩
  rw [IC.out] at HI
  obtain ⟨PP, hPP⟩ : ∃ PP : Prop, PP = EntShort x := ⟨_, rfl⟩
  obtain ⟨E, hE⟩ : ∃ E, E = entCells x q := ⟨_, rfl⟩
  obtain ⟨it, hit⟩ : ∃ it, it = x.item := ⟨_, rfl⟩
  have P2 := Lib.hid pp
  rw [hpv, ← hps] at P2
  rw [← hE] at CE CI EN ⊢
  rw [← hPP] at OK ⊢
  rw [← hit] at CI HI OK
  clear hp0 p1 p2 p3 pd pp hdv hpv hfv hsv hev hps hpa hnp hnd hnf IC hPP hE hit
  go_enter Tryz.func8, Tryz.ntmps8
  go_wp2_with (first | (refine wpList_boxE _ rfl rfl rfl ?_) | fail)
  intro w1 k1 g1 n1
  obtain ⟨b1, hb1⟩ : ∃ b1, b1 = w.heap.size := ⟨_, rfl⟩
  rw [← hb1]
  rw [← hb1] at k1
  have KE := Lib.hid k1
  have GG := Lib.hid g1
  have P3 := Lib.hid (P2.out.gr g1)
  obtain ⟨x6, x7, x11, x22⟩ := CE.out w1 b1 k1
  clear k1 g1 n1 hb1 P2
  by_cases h0 : 200 < np
  · have hq : (200 : Int) < (np : Int) := by omega
    go_wp2
    go_ret
    exact NotThen.yes GG.out
  have hq0 : ¬ (200 : Int) < (np : Int) := by omega
  by_cases h1 : 200 < nd
  · have hq : (200 : Int) < (nd : Int) := by omega
    go_wp2
    go_ret
    exact NotThen.yes GG.out
  have hq1 : ¬ (200 : Int) < (nd : Int) := by omega
  by_cases h2 : 10 < ps.length
  · have hq : (10 : Int) < (ps.length : Int) := by omega
    go_wp2
    go_ret
    exact NotThen.yes GG.out
  have hq2 : ¬ (10 : Int) < (ps.length : Int) := by omega
  by_cases h3 : 10 < nf
  · have hq : (10 : Int) < (nf : Int) := by omega
    go_wp2
    go_ret
    exact NotThen.yes GG.out
  have hq3 : ¬ (10 : Int) < (nf : Int) := by omega
  have OK2 := Lib.hid (OK.out (by omega) (by omega))
  go_wp2_with fail
  go_loopw [3] (fun i wr => ∃ k : Nat, k ≤ ps.length ∧ i = .int .i64 k ∧ Gr w1 wr) (fun i _ => ps.length - (intOf i).toNat)
  case atStart => exact ⟨0, Nat.zero_le _, rfl, Gr.refl _⟩
  case round =>
    clear x6 x7 x11 x22 hq0 hq1 hq2 hq3 lp OK
    obtain ⟨k, hk, rfl, hg⟩ := hrel
    have HG := Lib.hid hg
    clear hg
    obtain ⟨-, -, x11, -⟩ := CE.out wr b1 (KE.out.gr HG.out)
    by_cases hlt : k < ps.length
    · obtain ⟨B3, o3, _, dv3, pv3, e3, hB3, op3, t3⟩ := (P3.out.gr HG.out).at k hlt
      injection e3 with e3 _ q3
      subst e3 q3
      obtain ⟨x, hx⟩ : ∃ x, x = ps[k] := ⟨_, rfl⟩
      rw [← hx] at op3 t3
      clear hx
      obtain ⟨u1, u2⟩ := op3.parts
      obtain ⟨⟨kd3, pa3, da3, ve3, sq3, ep3⟩, qs3⟩ := x
      replace u1 : SlP Any wr dv3 (bytes da3) := u1
      replace u2 : OpsP Any wr pv3 qs3 := u2
      obtain ⟨ad3, cd3, hv⟩ := u1.1.oneCells
      rw [bytes_length] at hv
      obtain ⟨nd3, hnd3⟩ : ∃ nd3, nd3 = da3.length := ⟨_, rfl⟩
      rw [← hnd3] at hv
      subst hv
      obtain ⟨ap3, cp3, hv⟩ := u2.shape
      obtain ⟨n3, hn3⟩ : ∃ n3, n3 = qs3.length := ⟨_, rfl⟩
      rw [← hn3] at hv
      subst hv
      obtain ⟨np3, hnp3⟩ : ∃ np3, np3 = pa3.length := ⟨_, rfl⟩
      have lp : (pa3.length : Int) = (np3 : Int) := by rw [hnp3]
      have a0 := t3 0 _ (by decide) rfl
      have a1 := t3 1 _ (by decide) rfl
      have a2 := t3 2 _ (by decide) rfl
      have a3 := t3 3 _ (by decide) rfl
      have a4 := t3 4 _ (by decide) rfl
      have a5 := t3 5 _ (by decide) rfl
      have a6 := t3 6 _ (by decide) rfl
      simp only [opCells, OpD.h, Nat.add_zero] at a0 a1 a2 a3 a4 a5 a6
      clear hnd3 hn3 hnp3 t3 u1 u2 op3
      have i1 : (0 : Int) ≤ (k : Int) := by omega
      have i2 : (k : Int) < (ps.length : Int) := by omega
      go_wp2_with (first | (refine wpList_storeE opTy _ _ rfl rfl rfl rfl (CellsAt.new _ _ _) rfl rfl rfl ?_) | fail)
      intro W3 K3 C3
      have g3 : Gr wr W3 := Below.trans ((Gr.refl wr).alloc _) (C3.below ((Gr.refl wr).alloc _).size (fun k hk => by have : k = wr.heap.size := hk; omega))
      obtain ⟨b5, hb5⟩ : ∃ b5, b5 = wr.heap.size := ⟨_, rfl⟩
      rw [← hb5] at K3 ⊢
      have y1 : W3.cell? ⟨b5, 1, none⟩ = some (.string ⟨pa3.toArray⟩) := K3.cell 1
      have y2 : W3.cell? ⟨b5, 2, none⟩ = some (.slice ad3 nd3 cd3) := K3.cell 2
      have y6 : W3.cell? ⟨b5, 6, none⟩ = some (.slice ap3 n3 cp3) := K3.cell 6
      have G3 := Lib.hid (HG.out.trans g3)
      have KN : Hid (NotThen PP w (.returned (.bool true)) W3) := Lib.hid (NotThen.yes (GG.out.trans G3.out))
      clear K3 C3 g3 a0 a1 a2 a3 a4 a5 a6 x11 hb5
      by_cases h3 : 200 < np3
      · have hq : (200 : Int) < (np3 : Int) := by omega
        go_wp2
        go_ret
        exact KN.out
      have hq3 : ¬ (200 : Int) < (np3 : Int) := by omega
      by_cases h4 : 200 < nd3
      · have hq : (200 : Int) < (nd3 : Int) := by omega
        go_wp2
        go_ret
        exact KN.out
      have hq4 : ¬ (200 : Int) < (nd3 : Int) := by omega
      by_cases h5 : 2 < n3
      · have hq : (2 : Int) < (n3 : Int) := by omega
        go_wp2
        go_ret
        exact KN.out
      have hq5 : ¬ (2 : Int) < (n3 : Int) := by omega
      clear KN
      go_wp2
      go_roundw
      case rel => first | exact ⟨k + 1, by omega, by go_num, G3.out⟩ | ((repeat apply Exists.intro); apply And.intro; rotate_left; rfl; exact ⟨k + 1, by omega, by go_num, G3.out⟩)
      case measure => simp [intOf]; omega
    · obtain rfl : k = ps.length := by omega
      obtain ⟨x12, x13, x14, x15, x16, x17, x18⟩ := CI.out wr b1 (KE.out.gr HG.out)
      go_wp2_with fail
      refine (HI.out wr (GG.out.trans HG.out)).mono ?_
      rintro en w9 ⟨z, rfl, hz, g9⟩
      have KN : Hid (NotThen PP w (.returned (.bool z)) w9) := Lib.hid ⟨z, rfl, fun h => OK2.out (hz h), (GG.out.trans HG.out).trans g9⟩
      clear hz g9
      go_wp2
      go_ret
      exact KN.out
end Go.Proofs.YtiemgmbjhllmbaaGreat
