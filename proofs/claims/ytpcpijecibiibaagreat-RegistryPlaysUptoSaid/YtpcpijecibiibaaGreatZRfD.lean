/-
  The document's Apply on a registry of the call's own.
  The law's alike: a registry and the document's, alike.
-/
import Derived.Test.YtpcpijecibiibaaGreatZRfIn
import Derived.Test.YtpcpijecibiibaaGreatZRgP
import Derived.Test.YtpcpijecibiibaaGreatZK
section
set_option linter.unusedVariables false
set_option linter.unusedSimpArgs false
set_option maxRecDepth 100000
namespace Go.Proofs.YtpcpijecibiibaaGreat
open Go.RowKit
theorem rapply_own (w W : World) (gv : Value) (P : Nat → Prop) (r : RegD) (h : RfN w W gv P r) (okr : RegOk r) (x : EntD) (q : EntV) (hp : EntP Any W x q) (hxl : x.frontier.length ≤ 1000000) (hsz : w.heap.size ≤ W.heap.size) :
    Calls Tryz.prog 21 #[gv, .agg (entCells x q).toArray] W fun e W' => e = .returned (.tuple #[]) ∧ (∃ P', RfN w W' gv P' (applyX r x) ∧ ∀ k, P' k → P k ∨ W.heap.size ≤ k) ∧ Ch P W W' := by
  obtain ⟨g, rfl, ⟨hPg, hPW, a, c, K, ht⟩, hPw⟩ := h
  by_cases hin : inG r x.region = true ∧ 0 ≤ x.site ∧ x.site < r.sites
  · obtain ⟨hi, hs⟩ := hin
    obtain ⟨hl, hat, h0, h1⟩ := atG_at hi
    rcases ht with ht | ⟨hb, cur, fv, qv, rfl, hPh, hgh, T⟩
    · rw [ht] at hl; exact absurd hl (Nat.not_lt_zero _)
    have e20 : (entCells x q)[20]? = some (.int .i64 ((x.region.toNat : Nat) : Int)) := by rw [show ((x.region.toNat : Nat) : Int) = x.region by omega]; rfl
    refine (rapply_in W P g hb r r.sites cur fv qv c x.region.toNat hl K T hPg hPh hgh hPW (entCells x q) x q.fv rfl rfl rfl e20 rfl rfl hp.2.2.1 hxl (okr.toks _ (List.getElem_mem hl)) hs okr.sites.2).mono ?_
    rintro en W' ⟨rfl, ⟨P', cur', fv', qv', T', h5, h6, h7⟩, cc⟩
    have hX : applyX r x = { r with l := r.l.set x.region.toNat (afterT (doT x r.l[x.region.toNat]) r.l[x.region.toNat]) } := by
      rw [applyX_form, if_pos hi, hat]
      unfold stepP
      rw [if_pos hs]
    refine ⟨rfl, ⟨P', ⟨g, rfl, ⟨h5 g hPg, h7, _, c, ?_, .inr ⟨hb, cur', fv', qv', rfl, h5 hb hPh, hgh, by rw [hX]; exact T'⟩⟩, fun k hk => (h6 k hk).elim (hPw k) (fun h => Nat.le_trans hsz h)⟩, h6⟩, ch_mono cc fun k (e : k = hb) => e ▸ hPh⟩
    rw [hX]
    simpa using K.block (cc.block g K.lt (fun e => hgh e.symm))
  · have hX : applyX r x = r := by unfold applyX; rw [if_neg hin]
    have ho : x.region < 0 ∨ (r.l.length : Int) ≤ x.region ∨ x.site < 0 ∨ r.sites ≤ x.site := by
      unfold inG at hin
      simp only [Bool.and_eq_true, decide_eq_true_eq] at hin
      omega
    refine (rapply_out W g r.sites a r.l.length c (entCells x q) x.region x.site ⟨K, rfl, rfl, rfl⟩ ho).mono ?_
    rintro en W' ⟨rfl, gr⟩
    have hN : RfN w W' (.pointer (some ⟨g, 0, none⟩)) P r := RfN.gr ⟨g, rfl, ⟨hPg, hPW, a, c, K, ht⟩, hPw⟩ gr
    exact ⟨rfl, ⟨P, by rw [hX]; exact hN, fun k hk => .inl hk⟩, ch_mono (Ch.of_gr (ρ := fun _ => False) gr) fun _ h => h.elim⟩
theorem rnew_ownF (w : World) (s r : Int) : Calls Tryz.prog 19 #[.int .i64 s, .int .i64 r] w fun e W => ∃ gv P, e = .returned gv ∧ RfN w W gv P (newG s r) ∧ Gr w W := (rnew_anyF w s r).mono fun e W ⟨g, P, h1, h2, h3, h4⟩ => ⟨_, P, h1, ⟨g, rfl, h2, h3⟩, h4⟩
end Go.Proofs.YtpcpijecibiibaaGreat
end
section
set_option linter.unusedVariables false
set_option linter.unusedSimpArgs false
set_option maxRecDepth 100000
namespace Go.Proofs.YtpcpijecibiibaaGreat
open Go.RowKit
theorem atG_small' {r : RegD} (h : RegOk r) (j : Int) : (atG r j).queue.length ≤ 100 ∧ (atG r j).frontier.length ≤ 1000000 := by
  by_cases hi : inG r j = true
  · have o := atG_ok h hi
    have h1 := o.queue_le h.sites.2 h.sites.1
    have h2 := o.front
    have h3 := h.sites
    exact ⟨by omega, by omega⟩
  · rw [atG_out (by simpa using hi)]
    exact ⟨by decide, by decide⟩
set_option maxHeartbeats 8000000 in
theorem alike_any (w0 w : World) (ga gb : Value) (P Q : Nat → Prop) (r : RegD) (hA : RegN w0 w ga P r) (hB : RfN w0 w gb Q r) (okr : RegOk r) (k : Int) (hk : -1 ≤ k ∧ k ≤ 4) :
    Calls Tryz.prog 22 #[ga, gb, .int .i64 k] w fun e w' => e = .returned (.bool true) ∧ Gr w w' := by
  obtain ⟨g, rfl, ⟨hPg, hPW, a, c, K, ht⟩, hPw⟩ := hB
  have SM := Lib.hid (atG_small' okr k)
  obtain ⟨t, htt⟩ : ∃ t, t = atG r k := ⟨_, rfl⟩
  have HOLD : Hid (∀ V, Gr w V → Calls Tryz.prog 14 #[ga, .int .i64 k] V fun e w' => e = .returned (.tuple #[.int .i64 t.holder, .int .u64 (t.epoch : Int), .bool (decide (0 ≤ t.holder))]) ∧ Gr V w') := Lib.hid fun V hV => by rw [htt]; exact holder_any V P ga r (hA.gr hV).v k
  have QUEUE : Hid (∀ V, Gr w V → Calls Tryz.prog 17 #[ga, .int .i64 k] V fun e w' => ∃ v, e = .returned v ∧ Own w' V.heap.size 3 v (ints t.queue) ∧ Gr V w') := Lib.hid fun V hV => by rw [htt]; exact queue_any V P ga r (hA.gr hV).v k SM.out.1
  have FRO : Hid (∀ V, Gr w V → Calls Tryz.prog 15 #[ga, .int .i64 k] V fun e w' => ∃ v, e = .returned v ∧ Own w' V.heap.size 39 v (nums t.frontier) ∧ Gr V w') := Lib.hid fun V hV => by rw [htt]; exact frontier_any V P ga r (hA.gr hV).v k SM.out.2
  have TSM : Hid (t.queue.length ≤ 100 ∧ t.frontier.length ≤ 1000000) := Lib.hid (by rw [htt]; exact SM.out)
  obtain ⟨n, hn⟩ : ∃ n, n = r.l.length := ⟨_, rfl⟩
  obtain ⟨sites, hst⟩ : ∃ s, s = r.sites := ⟨_, rfl⟩
  rw [← hn, ← hst] at K
  have KG := Lib.hid K
  have HK := Lib.hid hk
  have CG : Hid (∀ V, Gr w V → V.cell? ⟨g, 1, none⟩ = some (.slice a n c)) := Lib.hid fun V hV => (KG.out.gr hV).cell 1
  by_cases hi : inG r k = true
  · obtain ⟨hl, hat, h0, h1⟩ := atG_at hi
    rcases ht with ht | ⟨h, cur, fv, qv, rfl, hPh, hgh, T⟩
    · rw [ht] at hl; exact absurd hl (Nat.not_lt_zero _)
    have rd := T.rd k.toNat hl
    rw [← hat, ← htt] at rd
    obtain ⟨i, rfl⟩ := Int.eq_ofNat_of_zero_le h0
    rw [Int.toNat_natCast] at rd
    obtain ⟨ep, ho, fr, qu⟩ := t
    obtain ⟨fvi, qvi, c0, c1, c2, c3, sf, sq, hbl⟩ := rd
    have CT : Hid (∀ V, Gr w V → V.cell? ⟨h, i * 4, none⟩ = some (.int .u64 (ep : Int)) ∧ V.cell? ⟨h, i * 4 + 1, none⟩ = some (.int .i64 ho) ∧ V.cell? ⟨h, i * 4 + 2, none⟩ = some fvi ∧ V.cell? ⟨h, i * 4 + 3, none⟩ = some qvi) := Lib.hid fun V hV => ⟨(hV.cell (p := ⟨h, i * 4, none⟩) hbl).trans c0, (hV.cell (p := ⟨h, i * 4 + 1, none⟩) hbl).trans c1, (hV.cell (p := ⟨h, i * 4 + 2, none⟩) hbl).trans c2, (hV.cell (p := ⟨h, i * 4 + 3, none⟩) hbl).trans c3⟩
    have SFV := Lib.hid sf
    have SQV := Lib.hid sq
    obtain ⟨fa, fc, hfs⟩ := SFV.out.oneCells
    obtain ⟨qa, qc, hqs⟩ := SQV.out.oneCells
    obtain ⟨fn, hfn⟩ : ∃ fn, fn = (nums fr).length := ⟨_, rfl⟩
    obtain ⟨qn, hqn⟩ : ∃ qn, qn = (ints qu).length := ⟨_, rfl⟩
    replace hfs : fvi = .slice fa (nums fr).length fc := hfs
    replace hqs : qvi = .slice qa (ints qu).length qc := hqs
    rw [← hfn] at hfs
    rw [← hqn] at hqs
    have QNI := Lib.hid hqn
    subst hfs hqs
    have d1 : ((0 : Int) ≤ ((i : Nat) : Int)) = True := by simp
    have d2 : (((i : Nat) : Int) < (n : Int)) = True := by simp only [eq_iff_iff, iff_true]; rw [hn]; exact h1
    have i1 : (0 : Int) ≤ (i : Int) := by omega
    have i2 : (i : Int) < (n : Int) := by rw [hn]; exact h1
    have y1 := CG.out w (Gr.refl _)
    clear hfn hqn hi hl hat h0 h1 hn hst htt c0 c1 c2 c3 sf sq hbl T hPh hgh hA okr hk K hPg hPW hPw SM
    go_enter Tryz.func22, Tryz.ntmps22
    go_upto_region 2 with fail
    obtain ⟨w1, hw1⟩ : ∃ w1, w1 = w.alloc (.cells #[.int .u64 0, .int .i64 (-1), .slice none 0 0, .slice none 0 0] 87) := ⟨_, rfl⟩
    rw [← hw1]
    have G1 : Hid (Gr w w1) := Lib.hid (by rw [hw1]; exact (Gr.refl w).alloc _)
    have k1 : CellsAt w1 w.heap.size [.int .u64 0, .int .i64 (-1), .slice none 0 0, .slice none 0 0] 87 := by rw [hw1]; exact CellsAt.new w _ _
    obtain ⟨b7, hb7⟩ : ∃ b, b = w.heap.size := ⟨_, rfl⟩
    rw [← hb7] at k1 ⊢
    have HB7 := Lib.hid hb7
    clear hw1 hb7
    have K1 := Lib.hid k1
    have y1 := CG.out w1 G1.out
    obtain ⟨z0, z1, z2, z3⟩ := CT.out w1 G1.out
    obtain ⟨t0, t1, t2, t3⟩ := tcell k1
    have tf0 := k1.frozen 0
    have tf1 := k1.frozen 1
    have tf2 := k1.frozen 2
    have tf3 := k1.frozen 3
    clear k1
    go_upto_region 4 with fail
    clear y1 z0 z1 z2 z3 t0 t1 t2 t3 tf0 tf1 tf2 tf3 d1 d2 i1 i2
    obtain ⟨w2, hw2⟩ : ∃ w2, w2 = (((w1.setCell ⟨b7, 0, none⟩ (.int .u64 (ep : Int))).setCell ⟨b7, 1, none⟩ (.int .i64 ho)).setCell ⟨b7, 2, none⟩ (.slice fa fn fc)).setCell ⟨b7, 3, none⟩ (.slice qa qn qc) := ⟨_, rfl⟩
    rw [← hw2]
    have c2 : Ch (fun k => k = b7) w1 w2 := by
      rw [hw2]
      exact (((ch_setCell' _ _ _ _).trans (ch_setCell' _ _ _ _)).trans (ch_setCell' _ _ _ _)).trans (ch_setCell' _ _ _ _)
    have KT : Hid (CellsAt w2 b7 [.int .u64 (ep : Int), .int .i64 ho, .slice fa fn fc, .slice qa qn qc] 87) := Lib.hid (by
      rw [hw2]
      exact (((K1.out.set 0 _).set 1 _).set 2 _).set 3 _)
    have G2 : Hid (Gr w w2) := Lib.hid (Below.trans G1.out (c2.below G1.out.size (fun k hk => by have : k = b7 := hk; have := HB7.out; omega)))
    clear hw2 c2 K1 G1 CT CG
    have SFW := Lib.hid (SFV.out.below G2.out)
    go_wp2_with fail
    refine (HOLD.out w2 G2.out).mono ?_
    rintro en w3 ⟨rfl, gX⟩
    replace KT := Lib.hid (KT.out.gr gX)
    have G3 := Lib.hid (G2.out.trans gX)
    clear gX G2 HOLD
    go_wp2_with fail
    refine (QUEUE.out w3 G3.out).mono ?_
    rintro en w4 ⟨vq, rfl, oq, gX⟩
    replace oq : Own w4 w3.heap.size 3 vq (ints qu) := oq
    obtain ⟨va, vc, hsh⟩ := oq.shape
    rw [← QNI.out] at hsh
    subst hsh
    have OQ := Lib.hid oq.sl
    replace KT := Lib.hid (KT.out.gr gX)
    have G4 := Lib.hid (G3.out.trans gX)
    clear gX G3 oq QUEUE
    have GD := Lib.hid ((Gr.refl w4).drew)
    go_wp2_with fail
    apply wp_region_draw_grow (.eq _ :: .eq _ :: .eq _ :: .eq _ :: .eq _ :: .eq _ :: .eq _ :: .eq _ :: .eq _ :: .eq _ :: .eq _ :: .eq _ :: .eq _ :: .eq _ :: .eq _ :: .eq _ :: .eq _ :: .eq _ :: .eq _ :: .eq _ :: .eq _ :: .eq _ :: .eq _ :: .eq _ :: .eq _ :: .eq _ :: .eq _ :: .eq _ :: .ok (fun v W => Sl W v (nums fr)) :: .eq _ :: .eq _ :: .eq _ :: .eq _ :: .eq _ :: []) (by kernel_rfl) (by kernel_rfl) ⟨(fun _ _ _ hg h => h.below hg), trivial⟩
    iterate 28
     apply wpG_eq
     · intro W hW hs
       obtain ⟨t0, t1, t2, t3⟩ := tcell (KT.out.gr (GD.out.trans hW))
       unfold opG
       go_simp
       first | exact resG_eq_mk _ _ _ | rfl
     simp only [Act.put, pt1, pt2, pt3]
    apply wpG_ok
    · intro W hW hs
      unfold opG
      go_simp
      refine resG_call ((FRO.out W (G4.out.trans (GD.out.trans hW))).mono ?_)
      rintro e W2 ⟨v, rfl, ho2, hb⟩
      exact ⟨v, rfl, hb, ho2.sl⟩
    intro vf
    simp only [Act.put, pt1, pt2, pt3]
    iterate 2
     apply wpG_eq
     · intro W hW hs
       obtain ⟨t0, t1, t2, t3⟩ := tcell (KT.out.gr (GD.out.trans hW))
       unfold opG
       go_simp
       first | exact resG_eq_mk _ _ _ | rfl
     simp only [Act.put, pt1, pt2, pt3]
    apply wpG_eq
    · intro W hW hs
      have hs1 := hs _ (.head _) (by rfl)
      have FS : Hid (Sl W vf (nums fr)) := Lib.hid hs1
      clear hs1 hs
      unfold opG
      go_simp
      refine resG_call (((nums_says W _ _ fr fr FS.out (SFV.out.below (G4.out.trans (GD.out.trans hW))) TSM.out.2 TSM.out.2)).mono ?_)
      rintro e W2 ⟨z, rfl, hz, hb⟩
      exact ⟨_, rfl, hb, by rw [hz.2 rfl]⟩
    simp only [Act.put, pt1, pt2, pt3]
    iterate 2
     apply wpG_eq
     · intro W hW hs
       unfold opG
       go_simp
       first | exact resG_eq_mk _ _ _ | rfl
     simp only [Act.put, pt1, pt2, pt3]
    apply wpG_nil
    intro w5 hW5 hsAll
    clear hsAll
    have G45 := Lib.hid (GD.out.trans hW5)
    replace KT := Lib.hid (KT.out.gr G45.out)
    have G5 := Lib.hid (G4.out.trans G45.out)
    have CELL : Hid (∀ m, m < qn → ∃ vb vo tb tp, ∃ z : Int, va = some ⟨vb, vo, none⟩ ∧ qa = some ⟨tb, tp, none⟩ ∧ ∀ V, Gr w5 V → V.cell? ⟨vb, vo + m, none⟩ = some (.int .i64 z) ∧ V.cell? ⟨tb, tp + m, none⟩ = some (.int .i64 z)) := Lib.hid fun m hm => by
      have hm2 : m < (ints qu).length := by rw [← QNI.out]; exact hm
      have hm3 : m < qu.length := by rw [ints_length] at hm2; exact hm2
      obtain ⟨a1, c1, e1, _, h1⟩ := OQ.out
      obtain ⟨a2, c2, e2, _, h2⟩ := SQV.out
      injection e1 with e1 _ _
      injection e2 with e2 _ _
      rcases h1 with h1 | ⟨vb, vo, h1, hvb, hc1⟩
      · rw [h1] at hm2; cases hm2
      rcases h2 with h2 | ⟨tb, tp, h2, htb, hc2⟩
      · rw [h2] at hm2; cases hm2
      refine ⟨vb, vo, tb, tp, qu[m], e1.trans h1, e2.trans h2, fun V hV => ⟨?_, ?_⟩⟩
      · rw [(G45.out.trans hV).cell (p := ⟨vb, vo + m, none⟩) hvb, hc1 m hm2]; simp [ints]
      · rw [(G5.out.trans hV).cell (p := ⟨tb, tp + m, none⟩) htb, hc2 m hm2]; simp [ints]
    have QL : Hid (qn ≤ 100) := Lib.hid (by have h1 : qu.length ≤ 100 := TSM.out.1; have := QNI.out; rw [ints_length] at this; omega)
    clear hW5 GD G45 G4 FRO SFW SFV SQV OQ
    go_wp2_with fail
    go_loopw [12] (fun s12 wr => ∃ m : Nat, m ≤ qn ∧ s12 = .int .i64 m ∧ Gr w5 wr) (fun s12 _ => qn - (intOf s12).toNat)
    case atStart => exact ⟨0, Nat.zero_le _, rfl, Gr.refl _⟩
    case round =>
      obtain ⟨m, hm, rfl, hG⟩ := hrel
      obtain ⟨wo, rfl⟩ : ∃ wo : World, wo = wr := ⟨_, rfl⟩
      have GO := Lib.hid hG
      clear hG
      by_cases hlt : m < qn
      · obtain ⟨vb, vo, tb, tp, z, rfl, rfl, hc⟩ := CELL.out m hlt
        have CC := Lib.hid hc
        have i3 : (0 : Int) ≤ (m : Int) := by omega
        have i4 : (m : Int) < (qn : Int) := by omega
        have HLT := Lib.hid hlt
        have GD := Lib.hid ((Gr.refl wo).drew)
        clear hc hlt hm
        go_wp2_with fail
        apply wp_region_draw_grow (.eq _ :: .eq _ :: .eq _ :: .eq _ :: .eq _ :: .eq _ :: .eq _ :: .eq _ :: .eq _ :: .eq _ :: []) (by kernel_rfl) (by kernel_rfl) trivial
        iterate 10
         apply wpG_eq
         · intro W hW hs
           obtain ⟨y1, y2⟩ := CC.out W (GO.out.trans (GD.out.trans hW))
           obtain ⟨t0, t1, t2, t3⟩ := tcell ((KT.out.gr GO.out).gr (GD.out.trans hW))
           unfold opG
           go_simp
           first | exact resG_eq_mk _ _ _ | rfl
         simp only [Act.put, pt1, pt2, pt3]
        apply wpG_nil
        intro W9 hW9 hsAll
        clear hsAll
        have G9 := Lib.hid (GO.out.trans (GD.out.trans hW9))
        have kw : wrap64 ((m : Int) + 1) = (m : Int) + 1 := by have h1 := QL.out; have h3 := HLT.out; unfold wrap64; omega
        clear hW9 GD
        go_wp2
        go_roundw
        case rel => exact ⟨m + 1, by have := HLT.out; omega, by first | go_num | (rw [kw]; rfl), G9.out⟩
        case measure =>
          have h8 := HLT.out
          have h9 : qn - (m + 1) < qn - m := by omega
          (try rw [kw])
          clear kw
          simp [intOf]; omega
      · have i4 : ¬ (m : Int) < (qn : Int) := by omega
        have GZ := Lib.hid (G5.out.trans GO.out)
        clear hlt hm
        go_wp2
        go_ret
        exact ⟨rfl, GZ.out⟩
  · have hi2 : inG r k = false := by simpa using hi
    have ho := inG_false hi2
    have TZ0 : t = tok0 0 := htt.trans (atG_out hi2)
    obtain ⟨ep, ho', fr, qu⟩ := t
    have TZ : Hid (ep = 0 ∧ ho' = -1 ∧ fr = [] ∧ qu = []) := Lib.hid (by
      unfold tok0 at TZ0
      injection TZ0 with e1 e2 e3 e4
      exact ⟨e1, e2, e3, e4⟩)
    obtain ⟨ho, hho⟩ : ∃ h, h = ho' := ⟨_, rfl⟩
    subst hho
    rename_i hout
    clear TZ0 hi hi2 hst htt hA okr hPg hPW hPw SM ht
    by_cases hneg : k < 0
    · have d1 : ((0 : Int) ≤ k) = False := by simp only [eq_iff_iff, iff_false]; omega
      clear hneg hout hk hn K
      go_enter Tryz.func22, Tryz.ntmps22
      go_upto_region 2 with fail
      obtain ⟨w1, hw1⟩ : ∃ w1, w1 = w.alloc (.cells #[.int .u64 0, .int .i64 (-1), .slice none 0 0, .slice none 0 0] 87) := ⟨_, rfl⟩
      rw [← hw1]
      have G1 : Hid (Gr w w1) := Lib.hid (by rw [hw1]; exact (Gr.refl w).alloc _)
      have k1 : CellsAt w1 w.heap.size [.int .u64 0, .int .i64 (-1), .slice none 0 0, .slice none 0 0] 87 := by rw [hw1]; exact CellsAt.new w _ _
      obtain ⟨b7, hb7⟩ : ∃ b, b = w.heap.size := ⟨_, rfl⟩
      rw [← hb7] at k1 ⊢
      have HB7 := Lib.hid hb7
      clear hw1 hb7
      obtain ⟨fa, hfa⟩ : ∃ a : Option Addr, a = none := ⟨_, rfl⟩
      obtain ⟨fn, hfn⟩ : ∃ a : Nat, a = 0 := ⟨_, rfl⟩
      obtain ⟨fc, hfc⟩ : ∃ a : Nat, a = 0 := ⟨_, rfl⟩
      obtain ⟨qa, hqa⟩ : ∃ a : Option Addr, a = none := ⟨_, rfl⟩
      obtain ⟨qn, hqn⟩ : ∃ a : Nat, a = 0 := ⟨_, rfl⟩
      obtain ⟨qc, hqc⟩ : ∃ a : Nat, a = 0 := ⟨_, rfl⟩
      have K1 : Hid (CellsAt w1 b7 [.int .u64 (ep : Int), .int .i64 ho, .slice fa fn fc, .slice qa qn qc] 87) := Lib.hid (by rw [TZ.out.1, TZ.out.2.1, hfa, hfn, hfc, hqa, hqn, hqc]; exact k1)
      have SFV : Hid (Sl w (.slice fa fn fc) (nums fr)) := Lib.hid (by rw [TZ.out.2.2.1, hfn]; exact Sl.nil _ _ _)
      have SQV : Hid (Sl w (.slice qa qn qc) (ints qu)) := Lib.hid (by rw [TZ.out.2.2.2, hqn]; exact Sl.nil _ _ _)
      have QNI : Hid (qn = (ints qu).length) := Lib.hid (by rw [TZ.out.2.2.2, hqn]; rfl)
      clear hfa hfn hfc hqa hqn hqc k1
      have y1 := CG.out w1 G1.out
      go_upto_region 4 with fail
      clear y1 d1
      (try clear d2)
      obtain ⟨w2, hw2⟩ : ∃ w2, w2 = w1 := ⟨_, rfl⟩
      rw [← hw2] at K1 G1 ⊢
      have KT := K1
      have G2 := G1
      clear hw2 K1 G1 CG
      have SFW := Lib.hid (SFV.out.below G2.out)
      go_wp2_with fail
      refine (HOLD.out w2 G2.out).mono ?_
      rintro en w3 ⟨rfl, gX⟩
      replace KT := Lib.hid (KT.out.gr gX)
      have G3 := Lib.hid (G2.out.trans gX)
      clear gX G2 HOLD
      go_wp2_with fail
      refine (QUEUE.out w3 G3.out).mono ?_
      rintro en w4 ⟨vq, rfl, oq, gX⟩
      replace oq : Own w4 w3.heap.size 3 vq (ints qu) := oq
      obtain ⟨va, vc, hsh⟩ := oq.shape
      rw [← QNI.out] at hsh
      subst hsh
      have OQ := Lib.hid oq.sl
      replace KT := Lib.hid (KT.out.gr gX)
      have G4 := Lib.hid (G3.out.trans gX)
      clear gX G3 oq QUEUE
      have GD := Lib.hid ((Gr.refl w4).drew)
      go_wp2_with fail
      apply wp_region_draw_grow (.eq _ :: .eq _ :: .eq _ :: .eq _ :: .eq _ :: .eq _ :: .eq _ :: .eq _ :: .eq _ :: .eq _ :: .eq _ :: .eq _ :: .eq _ :: .eq _ :: .eq _ :: .eq _ :: .eq _ :: .eq _ :: .eq _ :: .eq _ :: .eq _ :: .eq _ :: .eq _ :: .eq _ :: .eq _ :: .eq _ :: .eq _ :: .eq _ :: .ok (fun v W => Sl W v (nums fr)) :: .eq _ :: .eq _ :: .eq _ :: .eq _ :: .eq _ :: []) (by kernel_rfl) (by kernel_rfl) ⟨(fun _ _ _ hg h => h.below hg), trivial⟩
      iterate 28
       apply wpG_eq
       · intro W hW hs
         obtain ⟨t0, t1, t2, t3⟩ := tcell (KT.out.gr (GD.out.trans hW))
         unfold opG
         go_simp
         first | exact resG_eq_mk _ _ _ | rfl
       simp only [Act.put, pt1, pt2, pt3]
      apply wpG_ok
      · intro W hW hs
        unfold opG
        go_simp
        refine resG_call ((FRO.out W (G4.out.trans (GD.out.trans hW))).mono ?_)
        rintro e W2 ⟨v, rfl, ho2, hb⟩
        exact ⟨v, rfl, hb, ho2.sl⟩
      intro vf
      simp only [Act.put, pt1, pt2, pt3]
      iterate 2
       apply wpG_eq
       · intro W hW hs
         obtain ⟨t0, t1, t2, t3⟩ := tcell (KT.out.gr (GD.out.trans hW))
         unfold opG
         go_simp
         first | exact resG_eq_mk _ _ _ | rfl
       simp only [Act.put, pt1, pt2, pt3]
      apply wpG_eq
      · intro W hW hs
        have hs1 := hs _ (.head _) (by rfl)
        have FS : Hid (Sl W vf (nums fr)) := Lib.hid hs1
        clear hs1 hs
        unfold opG
        go_simp
        refine resG_call (((nums_says W _ _ fr fr FS.out (SFV.out.below (G4.out.trans (GD.out.trans hW))) TSM.out.2 TSM.out.2)).mono ?_)
        rintro e W2 ⟨z, rfl, hz, hb⟩
        exact ⟨_, rfl, hb, by rw [hz.2 rfl]⟩
      simp only [Act.put, pt1, pt2, pt3]
      iterate 2
       apply wpG_eq
       · intro W hW hs
         unfold opG
         go_simp
         first | exact resG_eq_mk _ _ _ | rfl
       simp only [Act.put, pt1, pt2, pt3]
      apply wpG_nil
      intro w5 hW5 hsAll
      clear hsAll
      have G45 := Lib.hid (GD.out.trans hW5)
      replace KT := Lib.hid (KT.out.gr G45.out)
      have G5 := Lib.hid (G4.out.trans G45.out)
      have CELL : Hid (∀ m, m < qn → ∃ vb vo tb tp, ∃ z : Int, va = some ⟨vb, vo, none⟩ ∧ qa = some ⟨tb, tp, none⟩ ∧ ∀ V, Gr w5 V → V.cell? ⟨vb, vo + m, none⟩ = some (.int .i64 z) ∧ V.cell? ⟨tb, tp + m, none⟩ = some (.int .i64 z)) := Lib.hid fun m hm => by
        have hm2 : m < (ints qu).length := by rw [← QNI.out]; exact hm
        have hm3 : m < qu.length := by rw [ints_length] at hm2; exact hm2
        obtain ⟨a1, c1, e1, _, h1⟩ := OQ.out
        obtain ⟨a2, c2, e2, _, h2⟩ := SQV.out
        injection e1 with e1 _ _
        injection e2 with e2 _ _
        rcases h1 with h1 | ⟨vb, vo, h1, hvb, hc1⟩
        · rw [h1] at hm2; cases hm2
        rcases h2 with h2 | ⟨tb, tp, h2, htb, hc2⟩
        · rw [h2] at hm2; cases hm2
        refine ⟨vb, vo, tb, tp, qu[m], e1.trans h1, e2.trans h2, fun V hV => ⟨?_, ?_⟩⟩
        · rw [(G45.out.trans hV).cell (p := ⟨vb, vo + m, none⟩) hvb, hc1 m hm2]; simp [ints]
        · rw [(G5.out.trans hV).cell (p := ⟨tb, tp + m, none⟩) htb, hc2 m hm2]; simp [ints]
      have QL : Hid (qn ≤ 100) := Lib.hid (by have h1 : qu.length ≤ 100 := TSM.out.1; have := QNI.out; rw [ints_length] at this; omega)
      clear hW5 GD G45 G4 FRO SFW SFV SQV OQ
      go_wp2_with fail
      go_loopw [12] (fun s12 wr => ∃ m : Nat, m ≤ qn ∧ s12 = .int .i64 m ∧ Gr w5 wr) (fun s12 _ => qn - (intOf s12).toNat)
      case atStart => exact ⟨0, Nat.zero_le _, rfl, Gr.refl _⟩
      case round =>
        obtain ⟨m, hm, rfl, hG⟩ := hrel
        obtain ⟨wo, rfl⟩ : ∃ wo : World, wo = wr := ⟨_, rfl⟩
        have GO := Lib.hid hG
        clear hG
        by_cases hlt : m < qn
        · obtain ⟨vb, vo, tb, tp, z, rfl, rfl, hc⟩ := CELL.out m hlt
          have CC := Lib.hid hc
          have i3 : (0 : Int) ≤ (m : Int) := by omega
          have i4 : (m : Int) < (qn : Int) := by omega
          have HLT := Lib.hid hlt
          have GD := Lib.hid ((Gr.refl wo).drew)
          clear hc hlt hm
          go_wp2_with fail
          apply wp_region_draw_grow (.eq _ :: .eq _ :: .eq _ :: .eq _ :: .eq _ :: .eq _ :: .eq _ :: .eq _ :: .eq _ :: .eq _ :: []) (by kernel_rfl) (by kernel_rfl) trivial
          iterate 10
           apply wpG_eq
           · intro W hW hs
             obtain ⟨y1, y2⟩ := CC.out W (GO.out.trans (GD.out.trans hW))
             obtain ⟨t0, t1, t2, t3⟩ := tcell ((KT.out.gr GO.out).gr (GD.out.trans hW))
             unfold opG
             go_simp
             first | exact resG_eq_mk _ _ _ | rfl
           simp only [Act.put, pt1, pt2, pt3]
          apply wpG_nil
          intro W9 hW9 hsAll
          clear hsAll
          have G9 := Lib.hid (GO.out.trans (GD.out.trans hW9))
          have kw : wrap64 ((m : Int) + 1) = (m : Int) + 1 := by have h1 := QL.out; have h3 := HLT.out; unfold wrap64; omega
          clear hW9 GD
          go_wp2
          go_roundw
          case rel => exact ⟨m + 1, by have := HLT.out; omega, by first | go_num | (rw [kw]; rfl), G9.out⟩
          case measure =>
            have h8 := HLT.out
            have h9 : qn - (m + 1) < qn - m := by omega
            (try rw [kw])
            clear kw
            simp [intOf]; omega
        · have i4 : ¬ (m : Int) < (qn : Int) := by omega
          have GZ := Lib.hid (G5.out.trans GO.out)
          clear hlt hm
          go_wp2
          go_ret
          exact ⟨rfl, GZ.out⟩
    · have d1 : ((0 : Int) ≤ k) = True := by simp only [eq_iff_iff, iff_true]; omega
      have d2 : (k < (n : Int)) = False := by simp only [eq_iff_iff, iff_false]; omega
      clear hneg hout hk hn K
      go_enter Tryz.func22, Tryz.ntmps22
      go_upto_region 2 with fail
      obtain ⟨w1, hw1⟩ : ∃ w1, w1 = w.alloc (.cells #[.int .u64 0, .int .i64 (-1), .slice none 0 0, .slice none 0 0] 87) := ⟨_, rfl⟩
      rw [← hw1]
      have G1 : Hid (Gr w w1) := Lib.hid (by rw [hw1]; exact (Gr.refl w).alloc _)
      have k1 : CellsAt w1 w.heap.size [.int .u64 0, .int .i64 (-1), .slice none 0 0, .slice none 0 0] 87 := by rw [hw1]; exact CellsAt.new w _ _
      obtain ⟨b7, hb7⟩ : ∃ b, b = w.heap.size := ⟨_, rfl⟩
      rw [← hb7] at k1 ⊢
      have HB7 := Lib.hid hb7
      clear hw1 hb7
      obtain ⟨fa, hfa⟩ : ∃ a : Option Addr, a = none := ⟨_, rfl⟩
      obtain ⟨fn, hfn⟩ : ∃ a : Nat, a = 0 := ⟨_, rfl⟩
      obtain ⟨fc, hfc⟩ : ∃ a : Nat, a = 0 := ⟨_, rfl⟩
      obtain ⟨qa, hqa⟩ : ∃ a : Option Addr, a = none := ⟨_, rfl⟩
      obtain ⟨qn, hqn⟩ : ∃ a : Nat, a = 0 := ⟨_, rfl⟩
      obtain ⟨qc, hqc⟩ : ∃ a : Nat, a = 0 := ⟨_, rfl⟩
      have K1 : Hid (CellsAt w1 b7 [.int .u64 (ep : Int), .int .i64 ho, .slice fa fn fc, .slice qa qn qc] 87) := Lib.hid (by rw [TZ.out.1, TZ.out.2.1, hfa, hfn, hfc, hqa, hqn, hqc]; exact k1)
      have SFV : Hid (Sl w (.slice fa fn fc) (nums fr)) := Lib.hid (by rw [TZ.out.2.2.1, hfn]; exact Sl.nil _ _ _)
      have SQV : Hid (Sl w (.slice qa qn qc) (ints qu)) := Lib.hid (by rw [TZ.out.2.2.2, hqn]; exact Sl.nil _ _ _)
      have QNI : Hid (qn = (ints qu).length) := Lib.hid (by rw [TZ.out.2.2.2, hqn]; rfl)
      clear hfa hfn hfc hqa hqn hqc k1
      have y1 := CG.out w1 G1.out
      go_upto_region 4 with fail
      clear y1 d1
      (try clear d2)
      obtain ⟨w2, hw2⟩ : ∃ w2, w2 = w1 := ⟨_, rfl⟩
      rw [← hw2] at K1 G1 ⊢
      have KT := K1
      have G2 := G1
      clear hw2 K1 G1 CG
      have SFW := Lib.hid (SFV.out.below G2.out)
      go_wp2_with fail
      refine (HOLD.out w2 G2.out).mono ?_
      rintro en w3 ⟨rfl, gX⟩
      replace KT := Lib.hid (KT.out.gr gX)
      have G3 := Lib.hid (G2.out.trans gX)
      clear gX G2 HOLD
      go_wp2_with fail
      refine (QUEUE.out w3 G3.out).mono ?_
      rintro en w4 ⟨vq, rfl, oq, gX⟩
      replace oq : Own w4 w3.heap.size 3 vq (ints qu) := oq
      obtain ⟨va, vc, hsh⟩ := oq.shape
      rw [← QNI.out] at hsh
      subst hsh
      have OQ := Lib.hid oq.sl
      replace KT := Lib.hid (KT.out.gr gX)
      have G4 := Lib.hid (G3.out.trans gX)
      clear gX G3 oq QUEUE
      have GD := Lib.hid ((Gr.refl w4).drew)
      go_wp2_with fail
      apply wp_region_draw_grow (.eq _ :: .eq _ :: .eq _ :: .eq _ :: .eq _ :: .eq _ :: .eq _ :: .eq _ :: .eq _ :: .eq _ :: .eq _ :: .eq _ :: .eq _ :: .eq _ :: .eq _ :: .eq _ :: .eq _ :: .eq _ :: .eq _ :: .eq _ :: .eq _ :: .eq _ :: .eq _ :: .eq _ :: .eq _ :: .eq _ :: .eq _ :: .eq _ :: .ok (fun v W => Sl W v (nums fr)) :: .eq _ :: .eq _ :: .eq _ :: .eq _ :: .eq _ :: []) (by kernel_rfl) (by kernel_rfl) ⟨(fun _ _ _ hg h => h.below hg), trivial⟩
      iterate 28
       apply wpG_eq
       · intro W hW hs
         obtain ⟨t0, t1, t2, t3⟩ := tcell (KT.out.gr (GD.out.trans hW))
         unfold opG
         go_simp
         first | exact resG_eq_mk _ _ _ | rfl
       simp only [Act.put, pt1, pt2, pt3]
      apply wpG_ok
      · intro W hW hs
        unfold opG
        go_simp
        refine resG_call ((FRO.out W (G4.out.trans (GD.out.trans hW))).mono ?_)
        rintro e W2 ⟨v, rfl, ho2, hb⟩
        exact ⟨v, rfl, hb, ho2.sl⟩
      intro vf
      simp only [Act.put, pt1, pt2, pt3]
      iterate 2
       apply wpG_eq
       · intro W hW hs
         obtain ⟨t0, t1, t2, t3⟩ := tcell (KT.out.gr (GD.out.trans hW))
         unfold opG
         go_simp
         first | exact resG_eq_mk _ _ _ | rfl
       simp only [Act.put, pt1, pt2, pt3]
      apply wpG_eq
      · intro W hW hs
        have hs1 := hs _ (.head _) (by rfl)
        have FS : Hid (Sl W vf (nums fr)) := Lib.hid hs1
        clear hs1 hs
        unfold opG
        go_simp
        refine resG_call (((nums_says W _ _ fr fr FS.out (SFV.out.below (G4.out.trans (GD.out.trans hW))) TSM.out.2 TSM.out.2)).mono ?_)
        rintro e W2 ⟨z, rfl, hz, hb⟩
        exact ⟨_, rfl, hb, by rw [hz.2 rfl]⟩
      simp only [Act.put, pt1, pt2, pt3]
      iterate 2
       apply wpG_eq
       · intro W hW hs
         unfold opG
         go_simp
         first | exact resG_eq_mk _ _ _ | rfl
       simp only [Act.put, pt1, pt2, pt3]
      apply wpG_nil
      intro w5 hW5 hsAll
      clear hsAll
      have G45 := Lib.hid (GD.out.trans hW5)
      replace KT := Lib.hid (KT.out.gr G45.out)
      have G5 := Lib.hid (G4.out.trans G45.out)
      have CELL : Hid (∀ m, m < qn → ∃ vb vo tb tp, ∃ z : Int, va = some ⟨vb, vo, none⟩ ∧ qa = some ⟨tb, tp, none⟩ ∧ ∀ V, Gr w5 V → V.cell? ⟨vb, vo + m, none⟩ = some (.int .i64 z) ∧ V.cell? ⟨tb, tp + m, none⟩ = some (.int .i64 z)) := Lib.hid fun m hm => by
        have hm2 : m < (ints qu).length := by rw [← QNI.out]; exact hm
        have hm3 : m < qu.length := by rw [ints_length] at hm2; exact hm2
        obtain ⟨a1, c1, e1, _, h1⟩ := OQ.out
        obtain ⟨a2, c2, e2, _, h2⟩ := SQV.out
        injection e1 with e1 _ _
        injection e2 with e2 _ _
        rcases h1 with h1 | ⟨vb, vo, h1, hvb, hc1⟩
        · rw [h1] at hm2; cases hm2
        rcases h2 with h2 | ⟨tb, tp, h2, htb, hc2⟩
        · rw [h2] at hm2; cases hm2
        refine ⟨vb, vo, tb, tp, qu[m], e1.trans h1, e2.trans h2, fun V hV => ⟨?_, ?_⟩⟩
        · rw [(G45.out.trans hV).cell (p := ⟨vb, vo + m, none⟩) hvb, hc1 m hm2]; simp [ints]
        · rw [(G5.out.trans hV).cell (p := ⟨tb, tp + m, none⟩) htb, hc2 m hm2]; simp [ints]
      have QL : Hid (qn ≤ 100) := Lib.hid (by have h1 : qu.length ≤ 100 := TSM.out.1; have := QNI.out; rw [ints_length] at this; omega)
      clear hW5 GD G45 G4 FRO SFW SFV SQV OQ
      go_wp2_with fail
      go_loopw [12] (fun s12 wr => ∃ m : Nat, m ≤ qn ∧ s12 = .int .i64 m ∧ Gr w5 wr) (fun s12 _ => qn - (intOf s12).toNat)
      case atStart => exact ⟨0, Nat.zero_le _, rfl, Gr.refl _⟩
      case round =>
        obtain ⟨m, hm, rfl, hG⟩ := hrel
        obtain ⟨wo, rfl⟩ : ∃ wo : World, wo = wr := ⟨_, rfl⟩
        have GO := Lib.hid hG
        clear hG
        by_cases hlt : m < qn
        · obtain ⟨vb, vo, tb, tp, z, rfl, rfl, hc⟩ := CELL.out m hlt
          have CC := Lib.hid hc
          have i3 : (0 : Int) ≤ (m : Int) := by omega
          have i4 : (m : Int) < (qn : Int) := by omega
          have HLT := Lib.hid hlt
          have GD := Lib.hid ((Gr.refl wo).drew)
          clear hc hlt hm
          go_wp2_with fail
          apply wp_region_draw_grow (.eq _ :: .eq _ :: .eq _ :: .eq _ :: .eq _ :: .eq _ :: .eq _ :: .eq _ :: .eq _ :: .eq _ :: []) (by kernel_rfl) (by kernel_rfl) trivial
          iterate 10
           apply wpG_eq
           · intro W hW hs
             obtain ⟨y1, y2⟩ := CC.out W (GO.out.trans (GD.out.trans hW))
             obtain ⟨t0, t1, t2, t3⟩ := tcell ((KT.out.gr GO.out).gr (GD.out.trans hW))
             unfold opG
             go_simp
             first | exact resG_eq_mk _ _ _ | rfl
           simp only [Act.put, pt1, pt2, pt3]
          apply wpG_nil
          intro W9 hW9 hsAll
          clear hsAll
          have G9 := Lib.hid (GO.out.trans (GD.out.trans hW9))
          have kw : wrap64 ((m : Int) + 1) = (m : Int) + 1 := by have h1 := QL.out; have h3 := HLT.out; unfold wrap64; omega
          clear hW9 GD
          go_wp2
          go_roundw
          case rel => exact ⟨m + 1, by have := HLT.out; omega, by first | go_num | (rw [kw]; rfl), G9.out⟩
          case measure =>
            have h8 := HLT.out
            have h9 : qn - (m + 1) < qn - m := by omega
            (try rw [kw])
            clear kw
            simp [intOf]; omega
        · have i4 : ¬ (m : Int) < (qn : Int) := by omega
          have GZ := Lib.hid (G5.out.trans GO.out)
          clear hlt hm
          go_wp2
          go_ret
          exact ⟨rfl, GZ.out⟩
end Go.Proofs.YtpcpijecibiibaaGreat
end
