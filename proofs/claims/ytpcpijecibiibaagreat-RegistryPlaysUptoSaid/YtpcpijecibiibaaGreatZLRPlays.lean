/-
  RegistryPlays: registries and the document's are alike behind any entries; what is handed in stays. Where what is handed in is of bulk at most 1048576 together.
-/
import Derived.Test.YtpcpijecibiibaaGreatZRfD
import Derived.Test.YtpcpijecibiibaaGreatZRgP
import Derived.JoinedCond
set_option linter.unusedVariables false
set_option linter.unusedSimpArgs false
set_option maxRecDepth 100000
namespace Go.Proofs.YtpcpijecibiibaaGreat
open Go.RowKit
theorem put_tells {r : RegD} {x : EntD} (ok : EntOk x) (big : EntBig x) : ((putV x).2 = 0 → applyG r (putV x).1 = applyX r x) ∧ ((putV x).2 ≠ 0 → applyG r (putV x).1 = r) := by
  rcases applyP_form r ok big with ⟨t, e⟩ | ⟨t, e⟩
  · refine ⟨fun _ => e, fun h => absurd ?_ h⟩
    rw [putV_may ok big.fit (by decide) t.1, if_neg (by have := t.2; omega)]
  · refine ⟨fun h => ?_, fun _ => e⟩
    exfalso
    by_cases hm : mayX x
    · by_cases hl : (tellB x).length ≤ 4096
      · exact t ⟨hm, hl⟩
      · rw [putV_may ok big.fit (by decide) hm, if_pos (by omega)] at h
        cases h
    · rw [putV_not ok big.fit (by decide) hm] at h
      cases h
set_option maxHeartbeats 8000000 in
theorem plays_walk (w : World) (s r0 : Int) (v0 : Value) (xs : List EntD) (hp : EntsP Any w v0 xs) (okx : ∀ x ∈ xs, EntOk x ∧ EntBig x) :
    Calls Tryz.prog 5 #[.int .i64 s, .int .i64 r0, v0] w fun e w' => e = .returned (.bool true) ∧ Below w.heap.size w w' := by
  have GREAT := Lib.hid (great_any w v0 xs hp)
  have HP := Lib.hid hp
  obtain ⟨a0, c0, hv0⟩ := hp.shape
  obtain ⟨n, hn⟩ : ∃ n, n = xs.length := ⟨_, rfl⟩
  have HN := Lib.hid hn
  rw [← hn] at hv0
  have OKX := Lib.hid okx
  clear hp okx hn
  subst hv0
  go_enter Tryz.func5, Tryz.ntmps5
  go_wp2_with fail
  refine GREAT.out.mono ?_
  rintro en w1 ⟨z, rfl, hz, hw⟩
  have e := hw.symm
  subst e
  clear hw
  cases z with
  | true =>
    go_wp2
    go_ret
    exact ⟨rfl, Gr.refl _⟩
  | false =>
  have SM := Lib.hid (hz rfl)
  clear hz GREAT
  go_wp2_with fail
  refine (new_own w s r0).mono ?_
  rintro en w1 ⟨gv, P0, rfl, hR, g1⟩
  go_wp2_with fail
  refine (rnew_ownF w1 s r0).mono ?_
  rintro en w2 ⟨gw, Q0, rfl, hD, g2⟩
  have R := Lib.hid (hR.gr g2)
  have D : Hid (RfN w w2 gw Q0 (newG s r0) ∧ ∀ k, P0 k → ¬ Q0 k) := Lib.hid (by
    obtain ⟨g, e, h1, h2⟩ := hD
    exact ⟨⟨g, e, h1, fun k hk => Nat.le_trans g1.size (h2 k hk)⟩, fun k hk hq => by have := hR.lt k hk; have := h2 k hq; omega⟩)
  have G : Hid (Gr w w2) := Lib.hid (Gr.trans g1 g2)
  have OK0 : Hid (RegOk (newG s r0)) := Lib.hid (newG_ok s r0)
  obtain ⟨rr, hrr⟩ : ∃ rr, rr = newG s r0 := ⟨_, rfl⟩
  rw [← hrr] at R D OK0
  clear hR hD g1 g2 hrr
  go_wp2_with fail
  go_loopw [9] (fun s9 wr => ∃ (k : Nat) (P Q : Nat → Prop) (r : RegD), k ≤ n ∧ s9 = .int .i64 k ∧ RegOk r ∧ RegN w wr gv P r ∧ RfN w wr gw Q r ∧ (∀ k, P k → ¬ Q k) ∧ Gr w wr) (fun s9 _ => n - (intOf s9).toNat)
  case atStart => exact ⟨0, P0, Q0, rr, Nat.zero_le _, rfl, OK0.out, R.out, D.out.1, D.out.2, G.out⟩
  case round =>
    clear R D G OK0
    obtain ⟨k, P, Q, r, hk, rfl, hok, hR, hD, hoff, hG⟩ := hrel
    obtain ⟨wo, rfl⟩ : ∃ wo : World, wo = wr := ⟨_, rfl⟩
    have R := Lib.hid hR
    have D := Lib.hid (And.intro hD hoff)
    have G := Lib.hid hG
    have OKR := Lib.hid hok
    clear hR hD hoff hG hok
    by_cases hlt : k < n
    · as_aux_lemma =>
      have hk2 : k < xs.length := by rw [← HN.out]; exact hlt
      obtain ⟨B, o, c, q, hv, hBw, hpe, hcf⟩ := HP.out.at k hk2
      injection hv with e1 e2 e3
      subst e1
      obtain ⟨x, hx⟩ : ∃ x, x = xs[k] := ⟨_, rfl⟩
      rw [← hx] at hpe hcf
      have okk : EntOk x ∧ EntBig x := by rw [hx]; exact OKX.out xs[k] (List.getElem_mem hk2)
      have XL : Hid (x.frontier.length ≤ 1000000) := Lib.hid (by have := SM.out.2 xs[k] (List.getElem_mem hk2); rw [hx]; omega)
      have PUT : Hid (∀ W, Gr w W → Calls Tryz.prog 20 #[.agg (entCells x q).toArray] W (RetPut W x)) := Lib.hid fun W hW => put_any W x q (hpe.gr hW) okk.1 okk.2
      have RAP : Hid (∀ W Q r, RfN w W gw Q r → RegOk r → Gr w W → Calls Tryz.prog 21 #[gw, .agg (entCells x q).toArray] W fun e W' => e = .returned (.tuple #[]) ∧ (∃ P', RfN w W' gw P' (applyX r x) ∧ ∀ k, P' k → Q k ∨ W.heap.size ≤ k) ∧ Ch Q W W') := Lib.hid fun W Q r h okr hW => rapply_own w W gw Q r h okr x q (hpe.gr hW) XL.out hW.size
      obtain ⟨E, hE⟩ : ∃ E, E = entCells x q := ⟨_, rfl⟩
      have EN : Hid (E.length = 23) := Lib.hid (by rw [hE]; rfl)
      rw [← hE] at PUT RAP hcf
      have CR : Hid (∀ W, Gr w W → CellsFrom W B (o + k * 23) E) := Lib.hid fun W hW => hcf.gr hW hBw
      obtain ⟨L, hL⟩ : ∃ L, L = (putV x).1 := ⟨_, rfl⟩
      obtain ⟨pe, hpe2⟩ : ∃ pe, pe = (putV x).2 := ⟨_, rfl⟩
      have LL : Hid (L.length ≤ 1000000000) := Lib.hid (by rw [hL]; exact put_len _)
      have RP : Hid (∀ W e W', RetPut W x e W' → ∃ v, e = .returned (.tuple #[v, .int .i64 pe]) ∧ Sl W' v (bytes L) ∧ Gr W W') := Lib.hid fun W e W' h => by rw [hL, hpe2]; exact h
      have PE : Hid ((pe = 0 → applyG r L = applyX r x) ∧ (pe ≠ 0 → applyG r L = r)) := Lib.hid (by rw [hL, hpe2]; exact put_tells okk.1 okk.2)
      have i1 : (0 : Int) ≤ (k : Int) := by omega
      have i2 : (k : Int) < (n : Int) := by omega
      have HLT := Lib.hid hlt
      clear hL hpe2 hE hx e2 e3 hcf hpe hBw okk hk2 hk hlt
      go_wp2_with (first | (refine wpList_loadAt entTy _ rfl rfl rfl (CR.out _ G.out) EN.out ?_) | fail)
      refine (PUT.out _ G.out).mono ?_
      intro en wB hh
      obtain ⟨v, rfl, sB, gB⟩ := RP.out _ _ _ hh
      obtain ⟨aB, cB, hvB⟩ := sB.oneCells
      rw [bytes_length] at hvB
      subst hvB
      have SB := Lib.hid sB
      replace R := Lib.hid (R.out.gr gB)
      replace D := Lib.hid (And.intro (D.out.1.gr gB) D.out.2)
      replace G : Hid (Gr w _) := Lib.hid (G.out.trans gB)
      clear hh gB sB PUT RP
      go_wp2_with fail
      refine (apply_own w _ _ _ _ R.out _ _ SB.out LL.out G.out.size).mono ?_
      rintro en wC ⟨rfl, ⟨P2, hR, _, hPn⟩, hc⟩
      replace G : Hid (Gr w _) := Lib.hid (R.out.after G.out hc)
      replace D : Hid (RfN w wC gw Q r ∧ ∀ k, P2 k → ¬ Q k) := Lib.hid ⟨D.out.1.keep hc (fun k hk hp => D.out.2 k hp hk), fun k hk hq => (hPn k hk).elim (fun h => D.out.2 k h hq) (fun h => by have := D.out.1.lt k hq; omega)⟩
      replace R := Lib.hid hR
      clear hR hPn hc SB LL
      by_cases hpe : pe = 0
      · have d1 : (pe == 0) = true := by simp [hpe]
        have e1 := PE.out.1 hpe
        rw [e1] at R
        clear hpe PE e1
        go_wp2_with (first | (refine wpList_loadAt entTy _ rfl rfl rfl (CR.out _ G.out) EN.out ?_) | fail)
        refine (RAP.out _ _ _ D.out.1 OKR.out G.out).mono ?_
        rintro en wD ⟨rfl, ⟨Q2, hD, hQn⟩, hc⟩
        replace G : Hid (Gr w _) := Lib.hid (by
          obtain ⟨g, _, _, h2⟩ := D.out.1
          exact Below.trans G.out (hc.below G.out.size h2))
        have D2 : Hid (RfN w wD gw Q2 (applyX r x) ∧ ∀ k, P2 k → ¬ Q2 k) := Lib.hid ⟨hD, fun k hk hq => (hQn k hq).elim (fun h => D.out.2 k hk h) (fun h => by have := R.out.lt k hk; omega)⟩
        replace R := Lib.hid (R.out.keep hc (fun k hk hq => D.out.2 k hk hq))
        clear D
        have D := D2
        replace OKR : Hid (RegOk (applyX r x)) := Lib.hid (by
          obtain ⟨g, e, _, _, ok⟩ := R.out
          exact ok)
        obtain ⟨r1, hr1⟩ : ∃ r1, r1 = applyX r x := ⟨_, rfl⟩
        rw [← hr1] at R D OKR
        clear hD hQn hc D2 hr1 RAP CR d1
        have G0 := Lib.hid G.out
        obtain ⟨wX, hwX⟩ : ∃ wX, wX = wD := ⟨_, rfl⟩
        rw [← hwX] at R D G ⊢
        clear hwX G0
        go_wp2_with fail
        go_loopw [12] (fun s12 wr => ∃ j : Int, -1 ≤ j ∧ j ≤ 5 ∧ s12 = .int .i64 j ∧ Gr wX wr) (fun s12 _ => (5 - intOf s12).toNat)
        case atStart => exact ⟨-1, by decide, by decide, rfl, Gr.refl _⟩
        case round =>
          obtain ⟨j, hj1, hj2, rfl, hG⟩ := hrel
          obtain ⟨wi, rfl⟩ : ∃ wi : World, wi = wr := ⟨_, rfl⟩
          have GI := Lib.hid hG
          clear hG
          by_cases hlt : j ≤ 4
          · have i3 : (j ≤ 4) = True := by simp only [eq_iff_iff, iff_true]; exact hlt
            have HJ := Lib.hid (And.intro hj1 hlt)
            clear hj1 hj2 hlt
            go_wp2_with fail
            refine (alike_any w _ _ _ _ _ _ (R.out.gr GI.out) (D.out.1.gr GI.out) OKR.out j HJ.out).mono ?_
            rintro en wj ⟨rfl, gX⟩
            have GJ := Lib.hid (GI.out.trans gX)
            have kw : wrap64 (j + 1) = j + 1 := by have := HJ.out; unfold wrap64; omega
            clear gX GI
            go_wp2
            go_roundw
            case rel => exact ⟨j + 1, by have := HJ.out; omega, by have := HJ.out; omega, by first | rfl | (rw [kw]), GJ.out⟩
            case measure =>
              have h8 := HJ.out
              (try rw [kw])
              clear kw
              simp [intOf]; omega
          · have i3 : (j ≤ 4) = False := by simp only [eq_iff_iff, iff_false]; exact hlt
            have RZ := Lib.hid (R.out.gr GI.out)
            have DZ := Lib.hid (And.intro (D.out.1.gr GI.out) D.out.2)
            have GZ := Lib.hid (G.out.trans GI.out)
            have kw : wrap64 ((k : Int) + 1) = (k : Int) + 1 := by have h1 := SM.out.1; have h2 := HN.out; have h3 := HLT.out; unfold wrap64; omega
            clear hj1 hj2 hlt R D G GI
            go_wp2
            go_roundw
            case rel => exact ⟨k + 1, _, _, _, by have := HLT.out; omega, by first | go_num | (rw [kw]; rfl), OKR.out, RZ.out, DZ.out.1, DZ.out.2, GZ.out⟩
            case measure =>
              have h8 := HLT.out
              have h9 : n - (k + 1) < n - k := by omega
              (try rw [kw])
              clear kw
              simp [intOf]; omega
      · have d1 : (pe == 0) = false := by simp [hpe]
        have e1 := PE.out.2 hpe
        rw [e1] at R
        clear hpe PE e1 RAP CR
        have G0 := Lib.hid G.out
        obtain ⟨wX, hwX⟩ : ∃ wX, wX = wC := ⟨_, rfl⟩
        rw [← hwX] at R D G ⊢
        clear hwX G0
        go_wp2_with fail
        go_loopw [12] (fun s12 wr => ∃ j : Int, -1 ≤ j ∧ j ≤ 5 ∧ s12 = .int .i64 j ∧ Gr wX wr) (fun s12 _ => (5 - intOf s12).toNat)
        case atStart => exact ⟨-1, by decide, by decide, rfl, Gr.refl _⟩
        case round =>
          obtain ⟨j, hj1, hj2, rfl, hG⟩ := hrel
          obtain ⟨wi, rfl⟩ : ∃ wi : World, wi = wr := ⟨_, rfl⟩
          have GI := Lib.hid hG
          clear hG
          by_cases hlt : j ≤ 4
          · have i3 : (j ≤ 4) = True := by simp only [eq_iff_iff, iff_true]; exact hlt
            have HJ := Lib.hid (And.intro hj1 hlt)
            clear hj1 hj2 hlt
            go_wp2_with fail
            refine (alike_any w _ _ _ _ _ _ (R.out.gr GI.out) (D.out.1.gr GI.out) OKR.out j HJ.out).mono ?_
            rintro en wj ⟨rfl, gX⟩
            have GJ := Lib.hid (GI.out.trans gX)
            have kw : wrap64 (j + 1) = j + 1 := by have := HJ.out; unfold wrap64; omega
            clear gX GI
            go_wp2
            go_roundw
            case rel => exact ⟨j + 1, by have := HJ.out; omega, by have := HJ.out; omega, by first | rfl | (rw [kw]), GJ.out⟩
            case measure =>
              have h8 := HJ.out
              (try rw [kw])
              clear kw
              simp [intOf]; omega
          · have i3 : (j ≤ 4) = False := by simp only [eq_iff_iff, iff_false]; exact hlt
            have RZ := Lib.hid (R.out.gr GI.out)
            have DZ := Lib.hid (And.intro (D.out.1.gr GI.out) D.out.2)
            have GZ := Lib.hid (G.out.trans GI.out)
            have kw : wrap64 ((k : Int) + 1) = (k : Int) + 1 := by have h1 := SM.out.1; have h2 := HN.out; have h3 := HLT.out; unfold wrap64; omega
            clear hj1 hj2 hlt R D G GI
            go_wp2
            go_roundw
            case rel => exact ⟨k + 1, _, _, _, by have := HLT.out; omega, by first | go_num | (rw [kw]; rfl), OKR.out, RZ.out, DZ.out.1, DZ.out.2, GZ.out⟩
            case measure =>
              have h8 := HLT.out
              have h9 : n - (k + 1) < n - k := by omega
              (try rw [kw])
              clear kw
              simp [intOf]; omega
    · as_aux_lemma =>
      have i2 : ¬ (k : Int) < (n : Int) := by omega
      clear hk hlt R D OKR HP OKX SM HN
      go_wp2_with fail
      refine (goes_any _).mono ?_
      rintro en wZ ⟨rfl, gZ⟩
      have GZ := Lib.hid (G.out.trans gZ)
      clear gZ
      go_wp2
      go_ret
      exact ⟨rfl, GZ.out⟩
open Go.ChangeShapes Go.WideShapes Go.ChangeAt Go.RowKit
open Go.ChangeMaps (open_string shut_string)
theorem own_registryPlays : ownKnob Tryz.prog.godebug = none := by kernel_rfl
theorem laidOut_registryPlays : laidOutB Tryz.prog = true := by kernel_rfl
set_option maxRecDepth 100000 in
theorem lifted_registryPlays (os : Os) (started : os.Started) (H : Type) (enc : TypeId × Value → H) (F : Stop.Interp) :
    ReturnsInHanded {} Tryz.checked os 5 .any ((Rows.OpenSpec.upto Rows.registryPlaysSpec).pre6 enc Tryz.prog Tryz.f5 Rows.registryPlaysUptoRow.domain false) (((Rows.OpenSpec.upto Rows.registryPlaysSpec).at F).post enc Tryz.prog Tryz.f5 false true false false) := by
  refine returnsInHanded_of_cond (C := Tryz.checked) (s := Rows.OpenSpec.upto Rows.registryPlaysSpec) (k := Rows.uptoSmall) rfl own_registryPlays started (by kernel_rfl) Tryz.func5
    (OpenSpec.witness (enc := enc) (C := Tryz.checked) (s := Rows.OpenSpec.upto Rows.registryPlaysSpec) (k := Rows.uptoSmall) rfl false ⟨#[], #[.int .i64 0, .int .i64 0, .slice none 0 0], []⟩ 8 (by kernel_rfl) (by kernel_rfl) (by kernel_rfl)
      (x := ([.lit (.int .i64 0), .lit (.int .i64 0), .nil], [], [])) (by kernel_rfl) rfl (by kernel_rfl)) ?_
  intro W base args ds gs before hval0 hW _ hk0 _
  have hk1 : Rows.uptoBulkAll (ds ++ gs) ≤ 1048576 := of_decide_eq_true hk0
  clear hk0
  have hval : ∀ (j : Nat) t v, Tryz.f5.params[j]? = some t → args[j]? = some v → Value.okWide Tryz.prog W .any base t v := hval0
  have hW' := hW
  obtain ⟨p, q, hA0, hV, rfl, hfz, hnd⟩ := hW
  have hA : DataW.TrodAll enc Tryz.prog W 0 (fun _ => true) true Tryz.f5.params.toList args.toList ds p := hA0
  rw [Tryz.params5] at hA hval
  obtain ⟨v0, vs0, d0, ds0, p0, q0, hargs, rfl, rfl, k0, r0⟩ := trodAll_cons hA
  obtain ⟨v1, vs1, d1, ds1, p1, q1, rfl, rfl, rfl, k1, r1⟩ := trodAll_cons r0
  obtain ⟨v2, vs2, d2, ds2, p2, q2, rfl, rfl, rfl, k2, r2⟩ := trodAll_cons r1
  obtain ⟨rfl, rfl, rfl⟩ := trodAll_nil r2
  obtain rfl : args = #[v0, v1, v2] := by cases args; simp_all
  obtain ⟨rfl, rfl⟩ := trodVars_none hV
  have lt0 : ∀ x ∈ p0, x.block < W.heap.size := by obtain ⟨m, hm⟩ := k0; exact DataW.trod_lt m _ _ _ hm
  have lt1 : ∀ x ∈ p1, x.block < W.heap.size := by obtain ⟨m, hm⟩ := k1; exact DataW.trod_lt m _ _ _ hm
  have lt2 : ∀ x ∈ p2, x.block < W.heap.size := by obtain ⟨m, hm⟩ := k2; exact DataW.trod_lt m _ _ _ hm
  obtain ⟨a0, hu0, _, _, _⟩ := open_int Tryz.underlying3 (hval 0 3 v0 rfl rfl) k0
  obtain ⟨a1, hu1, _, _, _⟩ := open_int Tryz.underlying3 (hval 1 3 v1 rfl rfl) k1
  obtain ⟨xs2, p2', ok2, _⟩ := open_ents (hval 2 22 v2 rfl rfl) k2
  clear hA0 hval0
  have hk : Rows.uptoBulk d0 + Rows.uptoBulk d1 + Rows.uptoBulk d2 ≤ 1048576 := by simpa [Rows.uptoBulkAll, Nat.add_assoc] using hk1
  clear hk1
  subst hu0 hu1
  refine (plays_walk W a0 a1 v2 xs2 p2' (fun x hx => ⟨(ok2 x hx).1, (ok2 x hx).2.big (by omega)⟩)).mono fun e W' ⟨he, bel⟩ => ?_
  subst he
  exact ⟨_, rfl, _, _, _, [], _, [], hW', trodAll_mk1 (shut_bool Tryz.underlying4 _), (trodAll_cons_mk (Below.trod laidOut_registryPlays (by kernel_rfl) (of_decide_eq_true (by kernel_rfl)) k0 bel lt0) (trodAll_cons_mk (Below.trod laidOut_registryPlays (by kernel_rfl) (of_decide_eq_true (by kernel_rfl)) k1 bel lt1) (trodAll_cons_mk (Below.trod laidOut_registryPlays (by kernel_rfl) (of_decide_eq_true (by kernel_rfl)) k2 bel lt2) trodAll_mk0))), rfl, bel.frame _, fun h => by cases h⟩
theorem registryPlays_proved : Rows.RegistryPlaysUptoSaid :=
  OpenClaim.holds_of_cond 5 Tryz.f5 rfl rfl rfl rfl rfl rfl rfl ⟨rfl, rfl, rfl, rfl, rfl⟩ rfl rfl rfl rfl rfl (by kernel_rfl) Tryz.func5 (by kernel_rfl)
    (of_decide_eq_true (by kernel_rfl)) (by unfold Func.isWrapper; first | (rw [if_pos (by decide +kernel)]; kernel_rfl) | (rw [if_neg (by decide +kernel)]; exact ⟨rfl, rfl⟩))
    (fun os started H enc _ F => lifted_registryPlays os started H enc F)
#print axioms registryPlays_proved
end Go.Proofs.YtpcpijecibiibaaGreat
