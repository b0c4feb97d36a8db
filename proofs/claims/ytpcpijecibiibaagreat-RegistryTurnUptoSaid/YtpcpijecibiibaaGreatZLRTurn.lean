/-
  RegistryTurn: who stands in a token's queue comes to hold it after as many returns, at most, as there are sites; what is handed in stays. Where what is handed in is of bulk at most 1048576 together.
-/
import Derived.Test.YtpcpijecibiibaaGreatZRgTurn
import Derived.JoinedCond
set_option linter.unusedVariables false
set_option linter.unusedSimpArgs false
set_option maxRecDepth 100000
namespace Go.Proofs.YtpcpijecibiibaaGreat
open Go.RowKit
set_option maxHeartbeats 8000000 in
theorem turn_walk (w : World) (v0 : Value) (xs : List EntD) (hp : EntsP Any w v0 xs) (okx : ∀ x ∈ xs, EntOk x ∧ EntBig x) (b : Nat) (hb : b < 256) (v2 : Value) (l2 : List UInt8) (hs2 : Sl w v2 (bytes l2)) :
    Calls Tryz.prog 6 #[v0, .int .u8 (b : Int), v2] w fun e w' => e = .returned (.bool true) ∧ Below w.heap.size w w' := by
  have ROW : Hid (∀ k (hk : k < xs.length), ∃ B o c E, v0 = .slice (some ⟨B, o, none⟩) xs.length c ∧ B < w.heap.size ∧ E.length = 23 ∧ CellsFrom w B (o + k * 23) E ∧ IsEnt w E.toArray xs[k] ∧ E[0]? = some (.int .u8 (xs[k].kind : Int)) ∧ E[20]? = some (.int .i64 xs[k].region)) := Lib.hid fun k hk => hp.row okx k hk
  have GREAT := Lib.hid (great_any w v0 xs hp)
  obtain ⟨a0, c0, hv0⟩ := hp.shape
  obtain ⟨n, hn⟩ : ∃ n, n = xs.length := ⟨_, rfl⟩
  have HN := Lib.hid hn
  rw [← hn] at hv0
  obtain ⟨a2, c2, hv2⟩ := hs2.oneCells
  rw [bytes_length] at hv2
  obtain ⟨m2, hm2⟩ : ∃ m, m = l2.length := ⟨_, rfl⟩
  rw [← hm2] at hv2
  have CELL : Hid (∀ m, m < m2 → ∃ b2 o2, ∃ z : Nat, a2 = some ⟨b2, o2, none⟩ ∧ w.cell? ⟨b2, o2 + m, none⟩ = some (.int .u8 (z : Int)) ∧ z < 256 ∧ b2 < w.heap.size) := Lib.hid fun m hm => by
    obtain ⟨a', c', e1, _, h1⟩ := hs2
    rw [hv2] at e1
    injection e1 with e1 _ _
    rcases h1 with h1 | ⟨ba, oa, h1, hba, hc1⟩
    · exfalso
      have h9 : (bytes l2).length = 0 := by rw [h1]; rfl
      rw [bytes_length] at h9; omega
    have l1 : m < (bytes l2).length := by rw [bytes_length]; omega
    exact ⟨ba, oa, (l2[m]'(by omega)).toNat, e1.trans h1, by rw [hc1 m l1]; simp [bytes]; rfl, UInt8.toNat_lt _, hba⟩
  obtain ⟨j, hj⟩ : ∃ j : Nat, j = b % 3 := ⟨_, rfl⟩
  have CV : Hid (IntKind.i64.wrap (b : Int) = (b : Int)) := Lib.hid (by simp [IntKind.wrap, IntKind.bits, IntKind.signed]; omega)
  have TM : Hid (((b : Int).tmod 3) = (j : Int)) := Lib.hid (by rw [hj]; rfl)
  have HJ : Hid (j ≤ 2) := Lib.hid (by omega)
  have OKX := Lib.hid okx
  clear hp okx hn hj hs2 hm2
  subst hv0 hv2
  go_enter Tryz.func6, Tryz.ntmps6
  go_wp2_with fail
  refine GREAT.out.mono ?_
  rintro en w1 ⟨z, rfl, hz, hw⟩
  have e := hw.symm
  subst e
  clear hw
  cases z with
  | true =>
    go_wp2
    go_ret
    exact ⟨rfl, Gr.refl _⟩
  | false =>
  have SM := Lib.hid (hz rfl)
  clear hz GREAT
  by_cases hgr : 20 < m2
  · have e1 : (20 < (m2 : Int)) = True := by simp; omega
    clear hgr
    go_wp2
    go_ret
    exact ⟨rfl, Gr.refl _⟩
  have e1 : (20 < (m2 : Int)) = False := by simp; omega
  have HM2 : Hid (m2 ≤ 20) := Lib.hid (by omega)
  clear hgr
  go_wp2_with fail
  clear e1
  refine (new_own w 3 4).mono ?_
  rintro en w1 ⟨gv, P0, rfl, hR, g1⟩
  have R := Lib.hid hR
  have G := Lib.hid g1
  clear hR g1
  go_wp2_with fail
  go_loopw [8] (fun i wr => ∃ (k : Nat) (P : Nat → Prop), k ≤ n ∧ i = .int .i64 k ∧ RegN w wr gv P (foldP (newG 3 4) (xs.take k)) ∧ Gr w wr) (fun i _ => n - (intOf i).toNat)
  case atStart => exact ⟨0, P0, Nat.zero_le _, rfl, R.out, G.out⟩
  case round =>
    clear R G
    obtain ⟨k, P, hk, rfl, hR, hG⟩ := hrel
    obtain ⟨wo, rfl⟩ : ∃ wo : World, wo = wr := ⟨_, rfl⟩
    have R := Lib.hid hR
    have G := Lib.hid hG
    clear hR hG
    by_cases hlt : k < n
    · as_aux_lemma =>
      have hk2 : k < xs.length := by rw [← HN.out]; exact hlt
      obtain ⟨B, o, c, E, hv, hBw, hE, hcf, hent, h0, h20⟩ := ROW.out k hk2
      injection hv with e1 e2 e3
      subst e1
      have EN := Lib.hid hE
      have CR : Hid (∀ W, Gr w W → CellsFrom W B (o + k * 23) E) := Lib.hid fun W hW => hcf.gr hW hBw
      have HB : Hid (∀ W, Gr w W → Calls Tryz.prog 13 #[.agg E.toArray] W (RetSl W (putV xs[k]).1)) := Lib.hid hent
      have FA : Hid (foldP (newG 3 4) (xs.take (k + 1)) = applyG (foldP (newG 3 4) (xs.take k)) (putV xs[k]).1) := Lib.hid (foldP_step _ xs k hk2)
      obtain ⟨L, hL⟩ : ∃ L, L = (putV xs[k]).1 := ⟨_, rfl⟩
      have LL : Hid (L.length ≤ 1000000000) := Lib.hid (by rw [hL]; exact put_len _)
      rw [← hL] at HB FA
      obtain ⟨ra, hra⟩ : ∃ ra, ra = foldP (newG 3 4) (xs.take k) := ⟨_, rfl⟩
      rw [← hra] at R FA
      have i1 : (0 : Int) ≤ (k : Int) := by omega
      have i2 : (k : Int) < (n : Int) := by omega
      have HLT := Lib.hid hlt
      clear hra hL e2 e3 hE hcf hent h0 h20 hBw hk hlt
      go_wp2_with (first | (refine wpList_loadAt entTy _ rfl rfl rfl (CR.out _ G.out) EN.out ?_) | fail)
      refine (HB.out _ G.out).mono ?_
      rintro en wB ⟨v, rfl, sB, gB⟩
      obtain ⟨aB, cB, hvB⟩ := sB.oneCells
      rw [bytes_length] at hvB
      subst hvB
      have SB := Lib.hid sB
      replace R := Lib.hid (R.out.gr gB)
      replace G : Hid (Gr w _) := Lib.hid (G.out.trans gB)
      clear gB sB
      go_wp2_with fail
      refine (apply_own w _ _ _ _ R.out _ _ SB.out LL.out G.out.size).mono ?_
      rintro en wC ⟨rfl, ⟨P2, hR, _, hPn⟩, hc⟩
      replace G : Hid (Gr w _) := Lib.hid (R.out.after G.out hc)
      replace R := Lib.hid hR
      clear hR hPn hc SB
      have kw : wrap64 ((k : Int) + 1) = (k : Int) + 1 := by have h1 := SM.out.1; have h2 := HN.out; have h3 := HLT.out; unfold wrap64; omega
      go_wp2
      go_roundw
      case rel => exact ⟨k + 1, P2, by have := HLT.out; omega, by first | go_num | (rw [kw]; rfl), by rw [FA.out]; exact R.out, G.out⟩
      case measure =>
        have h8 := HLT.out
        have h9 : n - (k + 1) < n - k := by omega
        (try rw [kw])
        clear kw
        simp [intOf]; omega
    · as_aux_lemma =>
      obtain ⟨ra, hra⟩ : ∃ ra, ra = foldP (newG 3 4) (xs.take k) := ⟨_, rfl⟩
      have R34 : Hid (Reg34 ra) := Lib.hid (by rw [hra]; exact Reg34.new.fold (fun x hx => OKX.out x (List.mem_of_mem_take hx)))
      rw [← hra] at R
      clear hra ROW OKX SM
      obtain rfl : k = n := by omega
      clear hlt hk HN
      have cv := CV.out
      have tm := TM.out
      go_wp2_with fail
      clear cv tm
      refine (want2 _ (j : Int) 0 ⟨by have := HJ.out; omega, by have := HJ.out; omega⟩ ⟨by decide, by decide⟩).mono ?_
      rintro en wA ⟨E, rfl, HB, gA⟩
      replace R := Lib.hid (R.out.gr gA)
      replace G : Hid (Gr w _) := Lib.hid (G.out.trans gA)
      clear gA
      obtain ⟨L, hL⟩ : ∃ L, L = (putV (wantX (j : Int) 0)).1 := ⟨_, rfl⟩
      have LL : Hid (L.length ≤ 1000000000) := Lib.hid (by rw [hL]; exact put_len _)
      have IN : Hid (Reg34 (applyG ra L) ∧ ∃ p, p ≤ 2 ∧ InTurn (atG (applyG ra L) 0) (j : Int) p) := Lib.hid (by
        have hj := HJ.out
        rw [hL]
        exact ⟨R34.out.app (wantX_ok (by unfold I64; omega) (by unfold I64; omega)) (wantX_big _ _), want_in R34.out ⟨by omega, by omega⟩ ⟨by decide, by decide⟩⟩)
      replace HB : Hid (∀ W, Gr wA W → Calls Tryz.prog 13 #[.agg E] W (RetSl W L)) := Lib.hid (by rw [hL]; exact HB.out)
      clear hL
      go_wp2_with fail
      refine (HB.out _ (Gr.refl _)).mono ?_
      rintro en wB ⟨v, rfl, sB, gB⟩
      obtain ⟨aB, cB, hvB⟩ := sB.oneCells
      rw [bytes_length] at hvB
      subst hvB
      have SB := Lib.hid sB
      replace R := Lib.hid (R.out.gr gB)
      replace G : Hid (Gr w _) := Lib.hid (G.out.trans gB)
      clear gB sB HB
      go_wp2_with fail
      refine (apply_own w _ _ _ _ R.out _ _ SB.out LL.out G.out.size).mono ?_
      rintro en wC ⟨rfl, ⟨P1, hR, _, hPn⟩, hc⟩
      replace G : Hid (Gr w _) := Lib.hid (R.out.after G.out hc)
      replace R := Lib.hid hR
      obtain ⟨r1, hr1⟩ : ∃ r1, r1 = applyG ra L := ⟨_, rfl⟩
      rw [← hr1] at R IN
      clear hR hPn hc SB LL R34 hr1
      obtain ⟨p1, hp1, hin⟩ := IN.out.2
      have IN1 := Lib.hid (And.intro IN.out.1 (And.intro hp1 hin))
      clear IN hp1 hin
      go_wp2_with fail
      go_loopw [10] (fun i wr => ∃ (k p : Nat) (P : Nat → Prop) (r : RegD), k + p ≤ 2 ∧ i = .int .i64 k ∧ Reg34 r ∧ InTurn (atG r 0) (j : Int) p ∧ RegN w wr gv P r ∧ Gr w wr) (fun i _ => 3 - (intOf i).toNat)
      case atStart => exact ⟨0, p1, P1, r1, by have := IN1.out.2.1; omega, rfl, IN1.out.1, IN1.out.2.2, R.out, G.out⟩
      case round =>
        clear R G IN1
        obtain ⟨k, p, P, r, hk, rfl, hr, hi, hR, hG⟩ := hrel
        obtain ⟨wo, rfl⟩ : ∃ wo : World, wo = wr := ⟨_, rfl⟩
        have R := Lib.hid hR
        have G := Lib.hid hG
        have R34 := Lib.hid hr
        have IN := Lib.hid hi
        have HK := Lib.hid hk
        have i2 : ((k : Int) ≤ 3) = True := by simp; omega
        clear hR hG hr hi hk
        go_wp2_with fail
        clear i2
        refine (holder_any _ _ _ _ R.out.v 0).mono ?_
        rintro en w3 ⟨rfl, gX⟩
        replace R := Lib.hid (R.out.gr gX)
        replace G : Hid (Gr w _) := Lib.hid (G.out.trans gX)
        clear gX
        obtain ⟨ho, hho⟩ : ∃ ho, ho = (atG r 0).holder := ⟨_, rfl⟩
        obtain ⟨ep, hep⟩ : ∃ ep, ep = (atG r 0).epoch := ⟨_, rfl⟩
        have HH : Hid ((atG r 0).holder = ho ∧ (atG r 0).epoch = ep ∧ 0 ≤ ho ∧ ho ≤ 2 ∧ ep < 2 ^ 64) := Lib.hid (by
          have t := R34.out.tok (j := 0) (by decide) (by decide)
          have h1 := t.holder
          have h2 := t.epoch
          have h3 := IN.out.1
          rw [← hho] at h1 h3
          rw [← hep] at h2
          exact ⟨hho.symm, hep.symm, h3, by omega, h2⟩)
        rw [← hho, ← hep]
        clear hho hep
        have d0 : decide (0 ≤ ho) = true := by have := HH.out.2.2.1; simp; omega
        by_cases hs : ho = (j : Int)
        · have d1 : (ho == (j : Int)) = true := by simp; omega
          clear hs
          go_wp2_with fail
          refine (goes_any _).mono ?_
          rintro en wZ ⟨rfl, gZ⟩
          have GZ := Lib.hid (G.out.trans gZ)
          clear gZ
          go_wp2
          go_ret
          exact ⟨rfl, GZ.out⟩
        · have d1 : (ho == (j : Int)) = false := by simp; omega
          have HS := Lib.hid hs
          clear hs
          go_wp2_with fail
          clear d0 d1
          go_loopw [14] (fun i wr => ∃ (m : Nat) (P : Nat → Prop) (r' : RegD), m ≤ m2 ∧ i = .int .i64 m ∧ Reg34 r' ∧ InTurn (atG r' 0) (j : Int) p ∧ (atG r' 0).holder = ho ∧ (atG r' 0).epoch = ep ∧ RegN w wr gv P r' ∧ Gr w wr) (fun i _ => m2 - (intOf i).toNat)
          case atStart => exact ⟨0, _, r, Nat.zero_le _, rfl, R34.out, IN.out, HH.out.1, HH.out.2.1, R.out, G.out⟩
          case round =>
            clear R G R34 IN
            obtain ⟨m, P, r', hm, rfl, hr, hi, hh1, hh2, hR, hG⟩ := hrel
            obtain ⟨wi, rfl⟩ : ∃ wi : World, wi = wr := ⟨_, rfl⟩
            have R := Lib.hid hR
            have G := Lib.hid hG
            have R34 := Lib.hid hr
            have IN := Lib.hid hi
            have H1 := Lib.hid hh1
            have H2 := Lib.hid hh2
            clear hR hG hr hi hh1 hh2
            by_cases hlt : m < m2
            · obtain ⟨b2, o2, z, rfl, hc, hz, hb2⟩ := CELL.out m hlt
              have y0 : wi.cell? ⟨b2, o2 + m, none⟩ = some (.int .u8 (z : Int)) := (G.out.cell (p := ⟨b2, o2 + m, none⟩) hb2).trans hc
              obtain ⟨u, hu⟩ : ∃ u : Nat, u = z % 3 := ⟨_, rfl⟩
              have cv : IntKind.i64.wrap (z : Int) = (z : Int) := by simp [IntKind.wrap, IntKind.bits, IntKind.signed]; omega
              have tm : ((z : Int).tmod 3) = (u : Int) := by rw [hu]; rfl
              have HU : Hid (u ≤ 2) := Lib.hid (by omega)
              have HLT := Lib.hid hlt
              have i1 : (0 : Int) ≤ (m : Int) := by omega
              have i2 : (m : Int) < (m2 : Int) := by omega
              clear hu hc hz hb2 hlt hm
              go_wp2_with fail
              clear cv tm y0
              refine (want2 _ (u : Int) 0 ⟨by have := HU.out; omega, by have := HU.out; omega⟩ ⟨by decide, by decide⟩).mono ?_
              rintro en wA ⟨E, rfl, HB, gA⟩
              replace R := Lib.hid (R.out.gr gA)
              replace G : Hid (Gr w _) := Lib.hid (G.out.trans gA)
              clear gA
              obtain ⟨L, hL⟩ : ∃ L, L = (putV (wantX (u : Int) 0)).1 := ⟨_, rfl⟩
              have LL : Hid (L.length ≤ 1000000000) := Lib.hid (by rw [hL]; exact put_len _)
              have KEEP : Hid (Reg34 (applyG r' L) ∧ InTurn (atG (applyG r' L) 0) (j : Int) p ∧ (atG (applyG r' L) 0).holder = ho ∧ (atG (applyG r' L) 0).epoch = ep) := Lib.hid (by
                have hj := HU.out
                rw [hL]
                have hk := want_keep R34.out (u := (u : Int)) (j := 0) ⟨by omega, by omega⟩ ⟨by decide, by decide⟩ IN.out.1
                exact ⟨R34.out.app (wantX_ok (by unfold I64; omega) (by unfold I64; omega)) (wantX_big _ _), want_stays R34.out ⟨by omega, by omega⟩ ⟨by decide, by decide⟩ IN.out, hk.1.trans H1.out, hk.2.trans H2.out⟩)
              replace HB : Hid (∀ W, Gr wA W → Calls Tryz.prog 13 #[.agg E] W (RetSl W L)) := Lib.hid (by rw [hL]; exact HB.out)
              clear hL
              go_wp2_with fail
              refine (HB.out _ (Gr.refl _)).mono ?_
              rintro en wB ⟨v, rfl, sB, gB⟩
              obtain ⟨aB, cB, hvB⟩ := sB.oneCells
              rw [bytes_length] at hvB
              subst hvB
              have SB := Lib.hid sB
              replace R := Lib.hid (R.out.gr gB)
              replace G : Hid (Gr w _) := Lib.hid (G.out.trans gB)
              clear gB sB HB
              go_wp2_with fail
              refine (apply_own w _ _ _ _ R.out _ _ SB.out LL.out G.out.size).mono ?_
              rintro en wC ⟨rfl, ⟨P2, hR, _, hPn⟩, hc⟩
              replace G : Hid (Gr w _) := Lib.hid (R.out.after G.out hc)
              replace R := Lib.hid hR
              clear hR hPn hc SB
              have kw : wrap64 ((m : Int) + 1) = (m : Int) + 1 := by have h1 := HM2.out; have h3 := HLT.out; unfold wrap64; omega
              go_wp2
              go_roundw
              case rel => exact ⟨m + 1, P2, _, by have := HLT.out; omega, by first | go_num | (rw [kw]; rfl), KEEP.out.1, KEEP.out.2.1, KEEP.out.2.2.1, KEEP.out.2.2.2, R.out, G.out⟩
              case measure =>
                have h8 := HLT.out
                have h9 : m2 - (m + 1) < m2 - m := by omega
                (try rw [kw])
                clear kw
                simp [intOf]; omega
            · have i2 : ¬ (m : Int) < (m2 : Int) := by omega
              have BT : Hid (Reg34 (applyG r' (putV (backX ho 0 ep [0, 0, 0])).1) ∧ ∃ q, p = q + 1 ∧ InTurn (atG (applyG r' (putV (backX ho 0 ep [0, 0, 0])).1) 0) (j : Int) q) := Lib.hid (by
                have h := back_turn R34.out (s := (j : Int)) (j := 0) ⟨by decide, by decide⟩ IN.out (by rw [H1.out]; exact HS.out)
                rw [H1.out, H2.out] at h
                have hh := HH.out
                exact ⟨R34.out.app (backX_ok ⟨by omega, by omega⟩ ⟨by decide, by decide⟩ hh.2.2.2.2 (by simp)) (backX_big _ _ _ (by decide)), h⟩)
              obtain ⟨wC, hwC⟩ : ∃ wC, wC = wi := ⟨_, rfl⟩
              rw [← hwC] at R G ⊢
              clear hwC hlt hm R34 IN H1 H2 HS
              go_wp2_with fail
              clear i2
              refine (back2 _ ho 0 ep _ [0, 0, 0] (Sl.new wC [.int .u64 0, .int .u64 0, .int .u64 0] _ _ 3 3 rfl (by decide)) ⟨by have := HH.out; omega, by have := HH.out; omega⟩ ⟨by decide, by decide⟩ HH.out.2.2.2.2 (by simp) (by decide)).mono ?_
              rintro en wA ⟨E, rfl, HB, gA0⟩
              have gA := ((Gr.refl wC).alloc _).trans gA0
              clear gA0
              replace R := Lib.hid (R.out.gr gA)
              replace G : Hid (Gr w _) := Lib.hid (G.out.trans gA)
              clear gA
              obtain ⟨L, hL⟩ : ∃ L, L = (putV (backX ho 0 ep [0, 0, 0])).1 := ⟨_, rfl⟩
              have LL : Hid (L.length ≤ 1000000000) := Lib.hid (by rw [hL]; exact put_len _)
              replace HB : Hid (∀ W, Gr wA W → Calls Tryz.prog 13 #[.agg E] W (RetSl W L)) := Lib.hid (by rw [hL]; exact HB.out)
              rw [← hL] at BT
              clear hL
              go_wp2_with fail
              refine (HB.out _ (Gr.refl _)).mono ?_
              rintro en wB ⟨v, rfl, sB, gB⟩
              obtain ⟨aB, cB, hvB⟩ := sB.oneCells
              rw [bytes_length] at hvB
              subst hvB
              have SB := Lib.hid sB
              replace R := Lib.hid (R.out.gr gB)
              replace G : Hid (Gr w _) := Lib.hid (G.out.trans gB)
              clear gB sB HB
              go_wp2_with fail
              refine (apply_own w _ _ _ _ R.out _ _ SB.out LL.out G.out.size).mono ?_
              rintro en wD ⟨rfl, ⟨P2, hR, _, hPn⟩, hc⟩
              replace G : Hid (Gr w _) := Lib.hid (R.out.after G.out hc)
              replace R := Lib.hid hR
              clear hR hPn hc SB
              have kw : wrap64 ((k : Int) + 1) = (k : Int) + 1 := by have h1 := HK.out; unfold wrap64; omega
              have BQ := BT.out
              obtain ⟨hr9, q, hq, hin⟩ := BQ
              have HQ := Lib.hid hq
              have R9 := Lib.hid hr9
              have I9 := Lib.hid hin
              clear BT hr9 hq hin
              go_wp2
              go_roundw
              case rel => exact ⟨k + 1, q, P2, _, by have := HK.out; have := HQ.out; omega, by first | go_num | (rw [kw]; rfl), R9.out, I9.out, R.out, G.out⟩
              case measure =>
                have h8 := HK.out
                have h8b := HQ.out
                have h9 : 3 - (k + 1) < 3 - k := by omega
                (try rw [kw])
                clear kw
                simp [intOf]; omega
open Go.ChangeShapes Go.WideShapes Go.ChangeAt Go.RowKit
open Go.ChangeMaps (open_string shut_string)
theorem own_registryTurn : ownKnob Tryz.prog.godebug = none := by kernel_rfl
theorem laidOut_registryTurn : laidOutB Tryz.prog = true := by kernel_rfl
set_option maxRecDepth 100000 in
theorem lifted_registryTurn (os : Os) (started : os.Started) (H : Type) (enc : TypeId × Value → H) (F : Stop.Interp) :
    ReturnsInHanded {} Tryz.checked os 6 .any ((Rows.OpenSpec.upto Rows.registryTurnSpec).pre6 enc Tryz.prog Tryz.f6 Rows.registryTurnUptoRow.domain false) (((Rows.OpenSpec.upto Rows.registryTurnSpec).at F).post enc Tryz.prog Tryz.f6 false true false false) := by
  refine returnsInHanded_of_cond (C := Tryz.checked) (s := Rows.OpenSpec.upto Rows.registryTurnSpec) (k := Rows.uptoSmall) rfl own_registryTurn started (by kernel_rfl) Tryz.func6
    (OpenSpec.witness (enc := enc) (C := Tryz.checked) (s := Rows.OpenSpec.upto Rows.registryTurnSpec) (k := Rows.uptoSmall) rfl false ⟨#[], #[.slice none 0 0, .int .u8 0, .slice none 0 0], []⟩ 8 (by kernel_rfl) (by kernel_rfl) (by kernel_rfl)
      (x := ([.nil, .lit (.int .u8 0), .nil], [], [])) (by kernel_rfl) rfl (by kernel_rfl)) ?_
  intro W base args ds gs before hval0 hW _ hk0 _
  have hk1 : Rows.uptoBulkAll (ds ++ gs) ≤ 1048576 := of_decide_eq_true hk0
  clear hk0
  have hval : ∀ (j : Nat) t v, Tryz.f6.params[j]? = some t → args[j]? = some v → Value.okWide Tryz.prog W .any base t v := hval0
  have hW' := hW
  obtain ⟨p, q, hA0, hV, rfl, hfz, hnd⟩ := hW
  have hA : DataW.TrodAll enc Tryz.prog W 0 (fun _ => true) true Tryz.f6.params.toList args.toList ds p := hA0
  rw [Tryz.params6] at hA hval
  obtain ⟨v0, vs0, d0, ds0, p0, q0, hargs, rfl, rfl, k0, r0⟩ := trodAll_cons hA
  obtain ⟨v1, vs1, d1, ds1, p1, q1, rfl, rfl, rfl, k1, r1⟩ := trodAll_cons r0
  obtain ⟨v2, vs2, d2, ds2, p2, q2, rfl, rfl, rfl, k2, r2⟩ := trodAll_cons r1
  obtain ⟨rfl, rfl, rfl⟩ := trodAll_nil r2
  obtain rfl : args = #[v0, v1, v2] := by cases args; simp_all
  obtain ⟨rfl, rfl⟩ := trodVars_none hV
  have lt0 : ∀ x ∈ p0, x.block < W.heap.size := by obtain ⟨m, hm⟩ := k0; exact DataW.trod_lt m _ _ _ hm
  have lt1 : ∀ x ∈ p1, x.block < W.heap.size := by obtain ⟨m, hm⟩ := k1; exact DataW.trod_lt m _ _ _ hm
  have lt2 : ∀ x ∈ p2, x.block < W.heap.size := by obtain ⟨m, hm⟩ := k2; exact DataW.trod_lt m _ _ _ hm
  obtain ⟨xs0, p0', ok0, _⟩ := open_ents (hval 0 22 v0 rfl rfl) k0
  obtain ⟨a1, hu1, w1⟩ := open_nat rfl Tryz.underlying5 (hval 1 5 v1 rfl rfl) k1
  obtain ⟨l2, s2, w2⟩ := open_bytes Tryz.underlying31 Tryz.underlying5 (by kernel_rfl) (hval 2 31 v2 rfl rfl) k2
  clear hA0 hval0
  have hk : Rows.uptoBulk d0 + Rows.uptoBulk d1 + Rows.uptoBulk d2 ≤ 1048576 := by simpa [Rows.uptoBulkAll, Nat.add_assoc] using hk1
  clear hk1
  subst hu1
  refine (turn_walk W v0 xs0 p0' (fun x hx => ⟨(ok0 x hx).1, (ok0 x hx).2.big (by omega)⟩) a1 (by simpa [IntKind.bits] using w1) v2 l2 s2).mono fun e W' ⟨he, bel⟩ => ?_
  subst he
  exact ⟨_, rfl, _, _, _, [], _, [], hW', trodAll_mk1 (shut_bool Tryz.underlying4 _), (trodAll_cons_mk (Below.trod laidOut_registryTurn (by kernel_rfl) (of_decide_eq_true (by kernel_rfl)) k0 bel lt0) (trodAll_cons_mk (Below.trod laidOut_registryTurn (by kernel_rfl) (of_decide_eq_true (by kernel_rfl)) k1 bel lt1) (trodAll_cons_mk (Below.trod laidOut_registryTurn (by kernel_rfl) (of_decide_eq_true (by kernel_rfl)) k2 bel lt2) trodAll_mk0))), rfl, bel.frame _, fun h => by cases h⟩
theorem registryTurn_proved : Rows.RegistryTurnUptoSaid :=
  OpenClaim.holds_of_cond 6 Tryz.f6 rfl rfl rfl rfl rfl rfl rfl ⟨rfl, rfl, rfl, rfl, rfl⟩ rfl rfl rfl rfl rfl (by kernel_rfl) Tryz.func6 (by kernel_rfl)
    (of_decide_eq_true (by kernel_rfl)) (by unfold Func.isWrapper; first | (rw [if_pos (by decide +kernel)]; kernel_rfl) | (rw [if_neg (by decide +kernel)]; exact ⟨rfl, rfl⟩))
    (fun os started H enc _ F => lifted_registryTurn os started H enc F)
#print axioms registryTurn_proved
end Go.Proofs.YtpcpijecibiibaaGreat
