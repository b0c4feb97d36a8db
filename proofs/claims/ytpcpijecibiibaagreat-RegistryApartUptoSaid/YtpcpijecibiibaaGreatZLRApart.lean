/-
  RegistryApart: entries of other regions do nothing to a region's token; what is handed in stays. Where what is handed in is of bulk at most 1048576 together.
-/
import Derived.Test.YtpcpijecibiibaaGreatZRgTwo
import Derived.JoinedCond
set_option linter.unusedVariables false
set_option linter.unusedSimpArgs false
set_option maxRecDepth 100000
namespace Go.Proofs.YtpcpijecibiibaaGreat
open Go.RowKit
theorem atG_small {r : RegD} (h : RegOk r) (j : Int) : (atG r j).queue.length ≤ 100 ∧ (atG r j).frontier.length ≤ 1000000 := by
  by_cases hi : inG r j = true
  · have o := atG_ok h hi
    have h1 := o.queue_le h.sites.2 h.sites.1
    have h2 := o.front
    have h3 := h.sites
    exact ⟨by omega, by omega⟩
  · rw [atG_out (by simpa using hi)]
    exact ⟨by decide, by decide⟩
set_option maxHeartbeats 8000000 in
theorem apart_walk (w : World) (v0 : Value) (xs : List EntD) (hp : EntsP Any w v0 xs) (okx : ∀ x ∈ xs, EntOk x ∧ EntBig x) (b : Nat) (hb : b < 256) :
    Calls Tryz.prog 4 #[v0, .int .u8 (b : Int)] w fun e w' => e = .returned (.bool true) ∧ Below w.heap.size w w' := by
  have ROW : Hid (∀ k (hk : k < xs.length), ∃ B o c E, v0 = .slice (some ⟨B, o, none⟩) xs.length c ∧ B < w.heap.size ∧ E.length = 23 ∧ CellsFrom w B (o + k * 23) E ∧ IsEnt w E.toArray xs[k] ∧ E[0]? = some (.int .u8 (xs[k].kind : Int)) ∧ E[20]? = some (.int .i64 xs[k].region)) := Lib.hid fun k hk => hp.row okx k hk
  have GREAT := Lib.hid (great_any w v0 xs hp)
  obtain ⟨a0, c0, hv0⟩ := hp.shape
  obtain ⟨n, hn⟩ : ∃ n, n = xs.length := ⟨_, rfl⟩
  have HN := Lib.hid hn
  rw [← hn] at hv0
  obtain ⟨j, hj⟩ : ∃ j : Nat, j = b % 4 := ⟨_, rfl⟩
  have cv : IntKind.i64.wrap (b : Int) = (b : Int) := by simp [IntKind.wrap, IntKind.bits, IntKind.signed]; omega
  have tm : ((b : Int).tmod 4) = (j : Int) := by rw [hj]; rfl
  have HJ : Hid (j < 4) := Lib.hid (by omega)
  have OKX := Lib.hid okx
  clear hp okx hn hj
  subst hv0
  go_enter Tryz.func4, Tryz.ntmps4
  go_wp2_with fail
  refine GREAT.out.mono ?_
  rintro en w1 ⟨z, rfl, hz, hw⟩
  have e := hw.symm
  subst e
  clear hw
  cases z with
  | true =>
    go_wp2
    go_ret
    exact ⟨rfl, Gr.refl _⟩
  | false =>
  have SM := Lib.hid (hz rfl)
  clear hz GREAT
  go_wp2_with fail
  refine (new_own w 3 4).mono ?_
  rintro en w1 ⟨ga, Pa0, rfl, hA, gA⟩
  go_wp2_with fail
  refine (new_own w1 3 4).mono ?_
  rintro en w2 ⟨gb, Pb0, rfl, hB, gB⟩
  have T := Lib.hid (Two.made hA hB gA gB)
  have G := Lib.hid (gA.trans gB)
  clear hA hB gA gB cv tm
  go_wp2_with fail
  go_loopw [8] (fun i wr => ∃ (k : Nat) (Pa Pb : Nat → Prop), k ≤ n ∧ i = .int .i64 k ∧ Two w wr ga Pa (foldP (newG 3 4) (xs.take k)) gb Pb (foldP (newG 3 4) ((xs.take k).filter fun x => decide (x.region = (j : Int)))) ∧ Gr w wr) (fun i _ => n - (intOf i).toNat)
  case atStart => exact ⟨0, Pa0, Pb0, Nat.zero_le _, rfl, T.out, G.out⟩
  case round =>
    clear T G
    obtain ⟨k, Pa, Pb, hk, rfl, hT, hG⟩ := hrel
    obtain ⟨wo, rfl⟩ : ∃ wo : World, wo = wr := ⟨_, rfl⟩
    have T := Lib.hid hT
    have G := Lib.hid hG
    clear hT hG
    by_cases hlt : k < n
    · as_aux_lemma =>
      have hk2 : k < xs.length := by rw [← HN.out]; exact hlt
      obtain ⟨B, o, c, E, hv, hBw, hE, hcf, hent, h0, h20⟩ := ROW.out k hk2
      injection hv with e1 e2 e3
      subst e1
      have EN := Lib.hid hE
      have CR : Hid (∀ W, Gr w W → CellsFrom W B (o + k * 23) E) := Lib.hid fun W hW => hcf.gr hW hBw
      have HB : Hid (∀ W, Gr w W → Calls Tryz.prog 13 #[.agg E.toArray] W (RetSl W (putV xs[k]).1)) := Lib.hid hent
      obtain ⟨rg, hrg⟩ : ∃ rg, rg = xs[k].region := ⟨_, rfl⟩
      rw [← hrg] at h20
      have Y20 : Hid (∀ W, Gr w W → W.cell? ⟨B, o + k * 23 + 20, none⟩ = some (.int .i64 rg)) := Lib.hid fun W hW => CR.out W hW 20 _ h20
      have FA : Hid (foldP (newG 3 4) (xs.take (k + 1)) = applyG (foldP (newG 3 4) (xs.take k)) (putV xs[k]).1) := Lib.hid (foldP_step _ xs k hk2)
      have FB : Hid (foldP (newG 3 4) ((xs.take (k + 1)).filter fun x => decide (x.region = (j : Int))) = if rg = (j : Int) then applyG (foldP (newG 3 4) ((xs.take k).filter fun x => decide (x.region = (j : Int)))) (putV xs[k]).1 else foldP (newG 3 4) ((xs.take k).filter fun x => decide (x.region = (j : Int)))) := Lib.hid (by
        rw [List.take_succ_eq_append_getElem hk2, List.filter_append, hrg]
        by_cases h : xs[k].region = (j : Int)
        · rw [if_pos h, List.filter_cons_of_pos (by simpa using h)]
          unfold foldP
          rw [List.foldl_append]; rfl
        · rw [if_neg h, List.filter_cons_of_neg (by simpa using h)]
          simp)
      obtain ⟨L, hL⟩ : ∃ L, L = (putV xs[k]).1 := ⟨_, rfl⟩
      have LL : Hid (L.length ≤ 1000000000) := Lib.hid (by rw [hL]; exact put_len _)
      rw [← hL] at HB FA FB
      obtain ⟨ra, hra⟩ : ∃ ra, ra = foldP (newG 3 4) (xs.take k) := ⟨_, rfl⟩
      obtain ⟨rb, hrb⟩ : ∃ rb, rb = foldP (newG 3 4) ((xs.take k).filter fun x => decide (x.region = (j : Int))) := ⟨_, rfl⟩
      rw [← hra, ← hrb] at T
      rw [← hra] at FA
      rw [← hrb] at FB
      have i1 : (0 : Int) ≤ (k : Int) := by omega
      have i2 : (k : Int) < (n : Int) := by omega
      have HLT := Lib.hid hlt
      clear hra hrb hL hrg e2 e3 hE hcf hent h0 h20 hBw hk hlt
      go_wp2_with (first | (refine wpList_loadAt entTy _ rfl rfl rfl (CR.out _ G.out) EN.out ?_) | fail)
      refine (HB.out _ G.out).mono ?_
      rintro en wB ⟨v, rfl, sB, gB⟩
      obtain ⟨aB, cB, hvB⟩ := sB.oneCells
      rw [bytes_length] at hvB
      subst hvB
      have SB := Lib.hid sB
      replace T := Lib.hid (T.out.gr gB)
      replace G : Hid (Gr w _) := Lib.hid (G.out.trans gB)
      clear gB sB
      go_wp2_with fail
      refine (apply_own w _ _ _ _ T.out.a _ _ SB.out LL.out G.out.size).mono ?_
      rintro en wC ⟨rfl, ⟨Pa2, hR, _, hPn⟩, hc⟩
      have G2 := T.out.a.after G.out hc
      replace T := Lib.hid (T.out.appA hR hPn hc)
      replace G : Hid (Gr w _) := Lib.hid G2
      clear hR hPn hc SB G2
      have y20 := Y20.out wC G.out
      have kw : wrap64 ((k : Int) + 1) = (k : Int) + 1 := by have h1 := SM.out.1; have h2 := HN.out; have h3 := HLT.out; unfold wrap64; omega
      by_cases hr : rg = (j : Int)
      · have f2 : (rg == (j : Int)) = true := by simp; omega
        have HR := Lib.hid hr
        clear hr
        go_wp2_with (first | (refine wpList_loadAt entTy _ rfl rfl rfl (CR.out _ G.out) EN.out ?_) | fail)
        refine (HB.out _ G.out).mono ?_
        rintro en wB ⟨v, rfl, sB, gB⟩
        obtain ⟨aB, cB, hvB⟩ := sB.oneCells
        rw [bytes_length] at hvB
        subst hvB
        have SB := Lib.hid sB
        replace T := Lib.hid (T.out.gr gB)
        replace G : Hid (Gr w _) := Lib.hid (G.out.trans gB)
        clear gB sB
        go_wp2_with fail
        refine (apply_own w _ _ _ _ T.out.b _ _ SB.out LL.out G.out.size).mono ?_
        rintro en wC ⟨rfl, ⟨Pb2, hR, _, hPn⟩, hc⟩
        have G2 := T.out.b.after G.out hc
        replace T := Lib.hid (T.out.appB hR hPn hc)
        replace G : Hid (Gr w _) := Lib.hid G2
        clear hR hPn hc SB G2
        go_wp2
        go_roundw
        case rel => exact ⟨k + 1, Pa2, Pb2, by have := HLT.out; omega, by first | go_num | (rw [kw]; rfl), by rw [FA.out, FB.out, if_pos HR.out]; exact T.out, G.out⟩
        case measure =>
          have h8 := HLT.out
          have h9 : n - (k + 1) < n - k := by omega
          (try rw [kw])
          clear kw
          simp [intOf]; omega
      · have f2 : (rg == (j : Int)) = false := by simp; omega
        have HR := Lib.hid hr
        clear hr
        go_wp2
        go_roundw
        case rel => exact ⟨k + 1, Pa2, Pb, by have := HLT.out; omega, by first | go_num | (rw [kw]; rfl), by rw [FA.out, FB.out, if_neg HR.out]; exact T.out, G.out⟩
        case measure =>
          have h8 := HLT.out
          have h9 : n - (k + 1) < n - k := by omega
          (try rw [kw])
          clear kw
          simp [intOf]; omega
    · as_aux_lemma =>
      have hkn : k = xs.length := by have := HN.out; omega
      have AL : Hid (atG (foldP (newG 3 4) (xs.take k)) (j : Int) = atG (foldP (newG 3 4) ((xs.take k).filter fun x => decide (x.region = (j : Int)))) (j : Int)) := Lib.hid (fold_alike (j : Int) (xs.take k) (fun x hx => OKX.out x (List.mem_of_mem_take hx)) _ _ rfl rfl rfl)
      obtain ⟨ra, hra⟩ : ∃ ra, ra = foldP (newG 3 4) (xs.take k) := ⟨_, rfl⟩
      obtain ⟨rb, hrb⟩ : ∃ rb, rb = foldP (newG 3 4) ((xs.take k).filter fun x => decide (x.region = (j : Int))) := ⟨_, rfl⟩
      have OKA : Hid (RegOk ra) := Lib.hid (by rw [hra]; exact foldP_ok _ _ (newG_ok 3 4))
      rw [← hra, ← hrb] at T AL
      obtain ⟨t, ht⟩ : ∃ t, t = atG ra (j : Int) := ⟨_, rfl⟩
      have HTA := Lib.hid ht
      have HTB : Hid (t = atG rb (j : Int)) := Lib.hid (ht.trans AL.out)
      clear hra hrb AL ht hkn
      obtain rfl : k = n := by omega
      clear hlt hk
      go_wp2_with fail
      refine (holder_any _ _ _ _ T.out.a.v (j : Int)).mono ?_
      rintro en w3 ⟨rfl, gX⟩
      replace T := Lib.hid (T.out.gr gX)
      replace G : Hid (Gr w _) := Lib.hid (G.out.trans gX)
      clear gX
      go_wp2_with fail
      refine (holder_any _ _ _ _ T.out.b.v (j : Int)).mono ?_
      rintro en w4 ⟨rfl, gX⟩
      replace T := Lib.hid (T.out.gr gX)
      replace G : Hid (Gr w _) := Lib.hid (G.out.trans gX)
      clear gX
      rw [← HTA.out, ← HTB.out]
      have HQL : Hid (t.queue.length ≤ 100 ∧ t.frontier.length ≤ 1000000) := Lib.hid (by rw [HTA.out]; exact atG_small OKA.out _)
      go_wp2_with fail
      refine (queue_any _ _ _ _ T.out.a.v (j : Int) (by rw [← HTA.out]; exact HQL.out.1)).mono ?_
      rintro en w5 ⟨qa, rfl, oa, gX⟩
      rw [← HTA.out] at oa
      obtain ⟨aa, ca, hsh⟩ := oa.shape
      rw [ints_length] at hsh
      subst hsh
      have Qa := Lib.hid oa.sl
      replace T := Lib.hid (T.out.gr gX)
      replace G : Hid (Gr w _) := Lib.hid (G.out.trans gX)
      skip
      clear gX oa
      go_wp2_with fail
      refine (queue_any _ _ _ _ T.out.b.v (j : Int) (by rw [← HTB.out]; exact HQL.out.1)).mono ?_
      rintro en w6 ⟨qb, rfl, ob, gX⟩
      rw [← HTB.out] at ob
      obtain ⟨ab, cb, hsh⟩ := ob.shape
      rw [ints_length] at hsh
      subst hsh
      have Qb := Lib.hid ob.sl
      replace T := Lib.hid (T.out.gr gX)
      replace G : Hid (Gr w _) := Lib.hid (G.out.trans gX)
      replace Qa := Lib.hid (Qa.out.below gX)
      clear gX ob
      go_wp2_with fail
      refine (frontier_any _ _ _ _ T.out.a.v (j : Int) (by rw [← HTA.out]; exact HQL.out.2)).mono ?_
      rintro en wX ⟨f1, rfl, of, gX⟩
      rw [← HTA.out] at of
      have F1 := Lib.hid of.sl
      replace T := Lib.hid (T.out.gr gX)
      replace G : Hid (Gr w _) := Lib.hid (G.out.trans gX)
      replace Qa := Lib.hid (Qa.out.below gX)
      replace Qb := Lib.hid (Qb.out.below gX)
      clear gX of
      go_wp2_with fail
      refine (frontier_any _ _ _ _ T.out.b.v (j : Int) (by rw [← HTB.out]; exact HQL.out.2)).mono ?_
      rintro en wX ⟨f2, rfl, of, gX⟩
      rw [← HTB.out] at of
      have F2 := Lib.hid of.sl
      replace T := Lib.hid (T.out.gr gX)
      replace G : Hid (Gr w _) := Lib.hid (G.out.trans gX)
      replace Qa := Lib.hid (Qa.out.below gX)
      replace Qb := Lib.hid (Qb.out.below gX)
      replace F1 := Lib.hid (F1.out.below gX)
      clear gX of
      go_wp2_with fail
      refine (leq_any _ _ _ _ _ F1.out F2.out HQL.out.2 HQL.out.2).mono ?_
      rintro en wX ⟨rfl, gX⟩
      rw [leqV_refl]
      replace T := Lib.hid (T.out.gr gX)
      replace G : Hid (Gr w _) := Lib.hid (G.out.trans gX)
      replace Qa := Lib.hid (Qa.out.below gX)
      replace Qb := Lib.hid (Qb.out.below gX)
      clear gX F1 F2
      go_wp2_with fail
      refine (frontier_any _ _ _ _ T.out.b.v (j : Int) (by rw [← HTB.out]; exact HQL.out.2)).mono ?_
      rintro en wX ⟨f3, rfl, of, gX⟩
      rw [← HTB.out] at of
      have F3 := Lib.hid of.sl
      replace T := Lib.hid (T.out.gr gX)
      replace G : Hid (Gr w _) := Lib.hid (G.out.trans gX)
      replace Qa := Lib.hid (Qa.out.below gX)
      replace Qb := Lib.hid (Qb.out.below gX)
      clear gX of
      go_wp2_with fail
      refine (frontier_any _ _ _ _ T.out.a.v (j : Int) (by rw [← HTA.out]; exact HQL.out.2)).mono ?_
      rintro en wX ⟨f4, rfl, of, gX⟩
      rw [← HTA.out] at of
      have F4 := Lib.hid of.sl
      replace T := Lib.hid (T.out.gr gX)
      replace G : Hid (Gr w _) := Lib.hid (G.out.trans gX)
      replace Qa := Lib.hid (Qa.out.below gX)
      replace Qb := Lib.hid (Qb.out.below gX)
      replace F3 := Lib.hid (F3.out.below gX)
      clear gX of
      go_wp2_with fail
      refine (leq_any _ _ _ _ _ F3.out F4.out HQL.out.2 HQL.out.2).mono ?_
      rintro en wX ⟨rfl, gX⟩
      rw [leqV_refl]
      replace T := Lib.hid (T.out.gr gX)
      replace G : Hid (Gr w _) := Lib.hid (G.out.trans gX)
      replace Qa := Lib.hid (Qa.out.below gX)
      replace Qb := Lib.hid (Qb.out.below gX)
      clear gX F3 F4
      obtain ⟨nq, hnq⟩ : ∃ n, n = t.queue.length := ⟨_, rfl⟩
      have CELL : Hid (∀ m, m < nq → ∃ ba oa bb ob z, aa = some ⟨ba, oa, none⟩ ∧ ab = some ⟨bb, ob, none⟩ ∧ wX.cell? ⟨ba, oa + m, none⟩ = some (.int .i64 z) ∧ wX.cell? ⟨bb, ob + m, none⟩ = some (.int .i64 z) ∧ ba < wX.heap.size ∧ bb < wX.heap.size) := Lib.hid fun m hm => by
        have hq : m < t.queue.length := by omega
        obtain ⟨a1, c1, e1, _, h1⟩ := Qa.out
        obtain ⟨a2, c2, e2, _, h2⟩ := Qb.out
        injection e1 with e1 _ _
        injection e2 with e2 _ _
        rcases h1 with h1 | ⟨ba, oa, h1, hba, hc1⟩
        · exfalso
          have h9 : (ints t.queue).length = 0 := by rw [h1]; rfl
          rw [ints_length] at h9; omega
        rcases h2 with h2 | ⟨bb, ob, h2, hbb, hc2⟩
        · exfalso
          have h9 : (ints t.queue).length = 0 := by rw [h2]; rfl
          rw [ints_length] at h9; omega
        have l1 : m < (ints t.queue).length := by rw [ints_length]; exact hq
        exact ⟨ba, oa, bb, ob, t.queue[m], e1.trans h1, e2.trans h2, by rw [hc1 m l1]; simp [ints], by rw [hc2 m l1]; simp [ints], hba, hbb⟩
      have HNQ : Hid (nq ≤ 100) := Lib.hid (by have := HQL.out.1; omega)
      rw [← hnq]
      clear hnq Qa Qb T HQL HTA HTB
      go_wp2_with fail
      go_loopw [17] (fun i wr => ∃ m : Nat, m ≤ nq ∧ i = .int .i64 m ∧ Gr wX wr) (fun i _ => nq - (intOf i).toNat)
      case atStart => exact ⟨0, Nat.zero_le _, rfl, Gr.refl _⟩
      case round =>
        obtain ⟨m, hm, rfl, hG⟩ := hrel
        obtain ⟨wo, rfl⟩ : ∃ wo : World, wo = wr := ⟨_, rfl⟩
        have HG := Lib.hid hG
        clear hG
        by_cases hlt : m < nq
        · obtain ⟨ba, oa, bb, ob, z, rfl, rfl, ca, cb, hba, hbb⟩ := CELL.out m hlt
          have CY : Hid (∀ W, Gr wo.drew W → W.cell? ⟨ba, oa + m, none⟩ = some (.int .i64 z) ∧ W.cell? ⟨bb, ob + m, none⟩ = some (.int .i64 z)) := Lib.hid fun W hW => by
            have g := HG.out.trans ((Gr.refl wo).drew.trans hW)
            exact ⟨(g.cell (p := ⟨ba, oa + m, none⟩) hba).trans ca, (g.cell (p := ⟨bb, ob + m, none⟩) hbb).trans cb⟩
          have i1 : (0 : Int) ≤ (m : Int) := by omega
          have i2 : (m : Int) < (nq : Int) := by omega
          have HLT := Lib.hid hlt
          clear ca cb hba hbb hlt hm
          go_wp2_with fail
          apply wp_region_draw_grow (.eq _ :: .eq _ :: .eq _ :: .eq _ :: .eq _ :: .eq _ :: .eq _ :: .eq _ :: .eq _ :: []) (by kernel_rfl) (by kernel_rfl) trivial
          iterate 9
           apply wpG_eq
           · intro W hW hs
             obtain ⟨ya, yb⟩ := CY.out W hW
             unfold opG
             go_simp
             first | exact resG_eq_mk _ _ _ | rfl
           simp only [Act.put, pt1, pt2, pt3]
          apply wpG_nil
          intro W9 hW9 hsAll
          clear hsAll
          have G9 := Lib.hid (HG.out.trans ((Gr.refl wo).drew.trans hW9))
          clear hW9 CY HG
          have kw : wrap64 ((m : Int) + 1) = (m : Int) + 1 := by have h1 := HNQ.out; have h3 := HLT.out; unfold wrap64; omega
          go_wp2
          go_roundw
          case rel => exact ⟨m + 1, by have := HLT.out; omega, by first | go_num | (rw [kw]; rfl), G9.out⟩
          case measure =>
            have h8 := HLT.out
            have h9 : nq - (m + 1) < nq - m := by omega
            (try rw [kw])
            clear kw
            simp [intOf]; omega
        · obtain rfl : m = nq := by omega
          clear hlt hm
          go_wp2_with fail
          refine (goes_any _).mono ?_
          rintro en wZ ⟨rfl, gZ⟩
          have GZ := Lib.hid (G.out.trans (HG.out.trans gZ))
          clear gZ HG
          go_wp2
          go_ret
          exact ⟨rfl, GZ.out⟩
open Go.ChangeShapes Go.WideShapes Go.ChangeAt Go.RowKit
open Go.ChangeMaps (open_string shut_string)
theorem own_registryApart : ownKnob Tryz.prog.godebug = none := by kernel_rfl
theorem laidOut_registryApart : laidOutB Tryz.prog = true := by kernel_rfl
set_option maxRecDepth 100000 in
theorem lifted_registryApart (os : Os) (started : os.Started) (H : Type) (enc : TypeId × Value → H) (F : Stop.Interp) :
    ReturnsInHanded {} Tryz.checked os 4 .any ((Rows.OpenSpec.upto Rows.registryApartSpec).pre6 enc Tryz.prog Tryz.f4 Rows.registryApartUptoRow.domain false) (((Rows.OpenSpec.upto Rows.registryApartSpec).at F).post enc Tryz.prog Tryz.f4 false true false false) := by
  refine returnsInHanded_of_cond (C := Tryz.checked) (s := Rows.OpenSpec.upto Rows.registryApartSpec) (k := Rows.uptoSmall) rfl own_registryApart started (by kernel_rfl) Tryz.func4
    (OpenSpec.witness (enc := enc) (C := Tryz.checked) (s := Rows.OpenSpec.upto Rows.registryApartSpec) (k := Rows.uptoSmall) rfl false ⟨#[], #[.slice none 0 0, .int .u8 0], []⟩ 8 (by kernel_rfl) (by kernel_rfl) (by kernel_rfl)
      (x := ([.nil, .lit (.int .u8 0)], [], [])) (by kernel_rfl) rfl (by kernel_rfl)) ?_
  intro W base args ds gs before hval0 hW _ hk0 _
  have hk1 : Rows.uptoBulkAll (ds ++ gs) ≤ 1048576 := of_decide_eq_true hk0
  clear hk0
  have hval : ∀ (j : Nat) t v, Tryz.f4.params[j]? = some t → args[j]? = some v → Value.okWide Tryz.prog W .any base t v := hval0
  have hW' := hW
  obtain ⟨p, q, hA0, hV, rfl, hfz, hnd⟩ := hW
  have hA : DataW.TrodAll enc Tryz.prog W 0 (fun _ => true) true Tryz.f4.params.toList args.toList ds p := hA0
  rw [Tryz.params4] at hA hval
  obtain ⟨v0, vs0, d0, ds0, p0, q0, hargs, rfl, rfl, k0, r0⟩ := trodAll_cons hA
  obtain ⟨v1, vs1, d1, ds1, p1, q1, rfl, rfl, rfl, k1, r1⟩ := trodAll_cons r0
  obtain ⟨rfl, rfl, rfl⟩ := trodAll_nil r1
  obtain rfl : args = #[v0, v1] := by cases args; simp_all
  obtain ⟨rfl, rfl⟩ := trodVars_none hV
  have lt0 : ∀ x ∈ p0, x.block < W.heap.size := by obtain ⟨m, hm⟩ := k0; exact DataW.trod_lt m _ _ _ hm
  have lt1 : ∀ x ∈ p1, x.block < W.heap.size := by obtain ⟨m, hm⟩ := k1; exact DataW.trod_lt m _ _ _ hm
  obtain ⟨xs0, p0', ok0, _⟩ := open_ents (hval 0 22 v0 rfl rfl) k0
  obtain ⟨a1, hu1, w1⟩ := open_nat rfl Tryz.underlying5 (hval 1 5 v1 rfl rfl) k1
  clear hA0 hval0
  have hk : Rows.uptoBulk d0 + Rows.uptoBulk d1 ≤ 1048576 := by simpa [Rows.uptoBulkAll, Nat.add_assoc] using hk1
  clear hk1
  subst hu1
  refine (apart_walk W v0 xs0 p0' (fun x hx => ⟨(ok0 x hx).1, (ok0 x hx).2.big (by omega)⟩) a1 (by simpa [IntKind.bits] using w1)).mono fun e W' ⟨he, bel⟩ => ?_
  subst he
  exact ⟨_, rfl, _, _, _, [], _, [], hW', trodAll_mk1 (shut_bool Tryz.underlying4 _), (trodAll_cons_mk (Below.trod laidOut_registryApart (by kernel_rfl) (of_decide_eq_true (by kernel_rfl)) k0 bel lt0) (trodAll_cons_mk (Below.trod laidOut_registryApart (by kernel_rfl) (of_decide_eq_true (by kernel_rfl)) k1 bel lt1) trodAll_mk0)), rfl, bel.frame _, fun h => by cases h⟩
theorem registryApart_proved : Rows.RegistryApartUptoSaid :=
  OpenClaim.holds_of_cond 4 Tryz.f4 rfl rfl rfl rfl rfl rfl rfl ⟨rfl, rfl, rfl, rfl, rfl⟩ rfl rfl rfl rfl rfl (by kernel_rfl) Tryz.func4 (by kernel_rfl)
    (of_decide_eq_true (by kernel_rfl)) (by unfold Func.isWrapper; first | (rw [if_pos (by decide +kernel)]; kernel_rfl) | (rw [if_neg (by decide +kernel)]; exact ⟨rfl, rfl⟩))
    (fun os started H enc _ F => lifted_registryApart os started H enc F)
#print axioms registryApart_proved
end Go.Proofs.YtpcpijecibiibaaGreat
