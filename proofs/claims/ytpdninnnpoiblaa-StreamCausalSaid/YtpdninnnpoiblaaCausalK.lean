/-
  StreamCausal: a site asks.
-/
import Derived.Test.YtpdninnnpoiblaaCausalA
set_option linter.unusedVariables false
namespace Go.Proofs.Ytpdninnnpoiblaa
open Go.RowKit
set_option maxHeartbeats 0 in
set_option maxRecDepth 100000 in
theorem causal_ask : causal_split.2.1 := by
  refine fun w => ?_
  intro l R a0 c0 HR HX n hm HN h60 h60' w1 w2 w3 O H V in1 in2 in3 in4 in5 u24 u25 u26 u27 u28 u29 u30 u31 u32 u33 u34 u35 u36 u37 in6 in7 in8 in9 in10 in11 in12 in13 wr u2 u8 u9 u10 u11 u12 u13 in14 in15 in16 in17 in18 in19 in20 in21 in22 in23 in24 in25 in26 in27 in28 in29 in30 in31 in32 in33 in34 in35 in36 in37 in38 in39 in40 in41 in42 in43 in44 in45 in46 in47 in48 in49 in50 in51 in52 in53 in54 in55 in56 in57 in58 in59 in60 in61 in62 in63 in64 in65 in66 in67 in68 in69 in70 in71 in72 in73 in74 in75 in76 in77 in78 in79 in80 in81 in82 in83 in84 in85 in86 in87 in88 in89 in90 in91 in92 in93 in94 in95 in96 in97 in98 in99 in100 in101 in102 in103 in104 in105 in106 in107 in108 in109 in110 in111 in112 in113 in114 in115 in116 in117 in118 in119 in120 in121 in122 in123 in124 in125 in126 in127 in128 in129 in130 in131 in132 in133 in134 in135 in136 in137 in138 in139 in140 in141 in142 in143 in144 in145 in146 in147 in148 in149 in150 in151 in152 in153 in154 k hk nx hlt s HHL HOL HINV HCZ d aa ff hd256 HLATE HSOON in155 in156 in157 in158 HB0 wc u38 u39 u40 u41 u42 u43 u44 u45 u46 u47 u48 u49 u50 u51 u52 u53 u54 u55 u56 u57 u58 u59 u60 u61 u62 u63 u64 u65 u66 u67 u68 u69 u70 u71 u72 u73 u74 u75 u76 u77 u78 u79 u80 u81 u82 u83 u84 u85 u86 u87 u88 u89 u90 u91 u92 u93 u94 u95 u96 u97 u98 u99 u100 u101 u102 u103 u104 u105 u106 u107 u108 u109 u110 u111 u112 u113 u114 u115 u116 u117 u118 u119 u120 u121 u122 u123 u124 u125 u126 u127 u128 u129 u130 u131 u132 u133 u134 u135 u136 u137 u138 u139 u140 u141 u142 u143 u144 u145 u146 u147 u148 u149 u150 u151 u152 u153 u154 u155 u156 u157 u158 u159 u160 u161 u162 u163 u164 u165 u166 u167 u168 u169 u170 u171 u172 u173 u174 u175 u176 u177 u178 a b HSN ha3 ha3i hb3i hb3 ha0i hb0i hai hbi in159 in160 W9 wd GD hx0 hx1 hx2 HCZ3 f u hla ga ca eua in161 in162 in163 qv CF HFO HFH HF6 HBW hown hmk
  · have hdm : (d : Int) % 2 = 1 := by omega
    have hwa : IntKind.i64.wrap (aa : Int) = (aa : Int) := by simp [IntKind.wrap, IntKind.bits, IntKind.signed]; omega
    have hwf : IntKind.i64.wrap (ff : Int) = (ff : Int) := by simp [IntKind.wrap, IntKind.bits, IntKind.signed]; omega
    rw [hwa, hwf]
    rw [hwa] at hai
    rw [hwf] at hbi
    clear hwa hwf
    obtain ⟨y0, hy0⟩ : ∃ y, y = (s.v a).getD b 0 := ⟨_, rfl⟩
    have qa := hown.cellN b y0 (by rw [hy0, getD_eq (by omega)]; exact List.getElem?_eq_getElem (by omega))
    have hy60 : y0 ≤ 60 := by
      have h1 := HINV.out.le a b ha3 hb3
      have h2 := HOL.out b
      rw [← HN.out] at h2
      rw [hy0]; omega
    have HY0 := Lib.hid hy0
    have HOWN := Lib.hid hown
    have HEUA := Lib.hid eua
    clear hy0 hown eua
    go_upto_region 26 with fail
    clear hdm
    have ob : wd.cell? ⟨O, b, none⟩ = some (f b).1 := CF.out.o.cell b hb3
    have FT := Lib.hid (And.intro ob (And.intro qv qa))
    clear ob qv qa hx0 hx1 hx2
    obtain ⟨ys, hys⟩ : ∃ ys, ys = nextS s a b := ⟨_, rfl⟩
    have hyv : nextV y0 (s.own b) = ys := by rw [hys, HY0.out]; rfl
    have HYS := Lib.hid hys
    have HYV := Lib.hid hyv
    have hbok : ∀ x ∈ s.own b, ItemOk x := fun x hx => by
      obtain ⟨n', hn', rfl⟩ := List.getElem_of_mem hx
      obtain ⟨st, e, hl, _⟩ := HINV.out.item b n' _ hb3 (List.getElem?_eq_getElem hn')
      rw [e]; exact itemC_ok b hl
    have hbl : (s.own b).length ≤ 100000 := by have h2 := HOL.out b; rw [← HN.out] at h2; omega
    have HBOK := Lib.hid (And.intro hbok hbl)
    clear hys hyv hbok hbl
    apply wp_region_draw_grow (.eq _ :: .eq _ :: .eq _ :: .eq _ :: .eq _ :: .eq _ :: .eq _ :: .eq _ :: .eq _ :: .eq _ :: .eq _ :: .ok (LongRow wd.heap.size w.heap.size ys.length ys) :: .ok (LongRow wd.heap.size w.heap.size ys.length ys) :: []) (by kernel_rfl) (by kernel_rfl) ⟨LongRow.mono _ _ _ _, LongRow.mono _ _ _ _, trivial⟩
    apply wpG_eq
    · intro W hW hs
      unfold opG
      go_simp
      first | exact resG_eq_mk _ _ _ | rfl
    simp only [Act.put, List.setIfInBounds_toArray, List.set_cons_zero, List.set_cons_succ]
    apply wpG_eq
    · intro W hW hs
      unfold opG
      go_simp
      first | exact resG_eq_mk _ _ _ | rfl
    simp only [Act.put, List.setIfInBounds_toArray, List.set_cons_zero, List.set_cons_succ]
    apply wpG_eq
    · intro W hW hs
      unfold opG
      go_simp
      first | exact resG_eq_mk _ _ _ | rfl
    simp only [Act.put, List.setIfInBounds_toArray, List.set_cons_zero, List.set_cons_succ]
    apply wpG_eq
    · intro W hW hs
      obtain ⟨q0, q1, q2⟩ := FT.out
      have q0' := hW.drew0 q0
      clear q0 q1 q2
      unfold opG
      go_simp
      first | exact resG_eq_mk _ _ _ | rfl
    simp only [Act.put, List.setIfInBounds_toArray, List.set_cons_zero, List.set_cons_succ]
    apply wpG_eq
    · intro W hW hs
      unfold opG
      go_simp
      first | exact resG_eq_mk _ _ _ | rfl
    simp only [Act.put, List.setIfInBounds_toArray, List.set_cons_zero, List.set_cons_succ]
    apply wpG_eq
    · intro W hW hs
      unfold opG
      go_simp
      first | exact resG_eq_mk _ _ _ | rfl
    simp only [Act.put, List.setIfInBounds_toArray, List.set_cons_zero, List.set_cons_succ]
    apply wpG_eq
    · intro W hW hs
      unfold opG
      go_simp
      first | exact resG_eq_mk _ _ _ | rfl
    simp only [Act.put, List.setIfInBounds_toArray, List.set_cons_zero, List.set_cons_succ]
    apply wpG_eq
    · intro W hW hs
      obtain ⟨q0, q1, q2⟩ := FT.out
      have q1' := hW.drew0 q1
      clear q0 q1 q2
      unfold opG
      go_simp
      first | exact resG_eq_mk _ _ _ | rfl
    simp only [Act.put, List.setIfInBounds_toArray, List.set_cons_zero, List.set_cons_succ]
    apply wpG_eq
    · intro W hW hs
      unfold opG
      go_simp
      first | exact resG_eq_mk _ _ _ | rfl
    simp only [Act.put, List.setIfInBounds_toArray, List.set_cons_zero, List.set_cons_succ]
    apply wpG_eq
    · intro W hW hs
      unfold opG
      go_simp
      first | exact resG_eq_mk _ _ _ | rfl
    simp only [Act.put, List.setIfInBounds_toArray, List.set_cons_zero, List.set_cons_succ]
    apply wpG_eq
    · intro W hW hs
      obtain ⟨q0, q1, q2⟩ := FT.out
      have q2' := hW.drew0 q2
      clear q0 q1 q2
      unfold opG
      go_simp
      first | exact resG_eq_mk _ _ _ | rfl
    simp only [Act.put, List.setIfInBounds_toArray, List.set_cons_zero, List.set_cons_succ]
    apply wpG_ok
    · intro W hW hs
      have gW : Gr wd W := Gr.trans ((Gr.refl wd).drew) hW
      have hit := ((CF.out.gr gW).rows.1 b (by omega))
      rw [HFO.out b hb3] at hit
      unfold opG
      go_simp
      refine resG_call ((next_any W _ y0 (s.own b) (hit.items HBOK.out.1) HBOK.out.2 (by omega)).mono ?_)
      rintro e W2 ⟨v5, rfl, hr, hg⟩
      rw [HYV.out] at hr
      obtain ⟨ar, cr, er⟩ := hr.shape
      exact ⟨_, rfl, hg, ⟨ar, cr, er, ItemsT.of hr (Nat.le_trans HBW.out.size gW.size), fun j hj => Nat.le_trans gW.size (hr.lt j hj).1⟩⟩
    intro v141
    simp only [Act.put, List.setIfInBounds_toArray, List.set_cons_zero, List.set_cons_succ]
    apply wpG_ok
    · intro W hW hs
      have hv := hs _ (.head _) rfl
      unfold opG
      go_simp
      exact resG_mk (Gr.refl _) hv
    intro v12
    simp only [Act.put, List.setIfInBounds_toArray, List.set_cons_zero, List.set_cons_succ]
    apply wpG_nil
    intro W9 hW9 hsAll
    have hv12 : LongRow wd.heap.size w.heap.size ys.length ys v12 W9 := hsAll _ (.head _)
    obtain ⟨av, cv, rfl, hn1, hn2⟩ := hv12
    obtain ⟨we, hwe⟩ : ∃ we, we = W9 := ⟨_, rfl⟩
    have GE : Hid (Gr wd we) := Lib.hid (by rw [hwe]; exact Gr.trans ((Gr.refl wd).drew) hW9)
    rw [← hwe] at hn1
    rw [← hwe]
    clear hsAll hW9 hwe
    have CN := Lib.hid (CF.out.next GE.out _ ys hn1 hn2)
    have BN := Lib.hid (Below.trans HBW.out (GE.out.mono HBW.out.size))
    obtain ⟨m6, hm6⟩ : ∃ m, m = ys.length := ⟨_, rfl⟩
    rw [← hm6] at CN ⊢
    have HM6 := Lib.hid hm6
    have hm8 : m6 ≤ 8 := by rw [hm6, ← HYV.out]; exact nextV_len8 _ _
    clear hn1 hn2 hm6
    go_wp2
    clear FT
    go_loopw [13] (fun i W => ∃ q : Nat, q ≤ m6 ∧ i = .int .i64 q ∧ CzR w W O H V s.own (upd s.has a (takeV b (ys.take q) (s.has a, s.v a)).1) (upd s.v a (takeV b (ys.take q) (s.has a, s.v a)).2) (.slice av m6 cv, ys)) (fun i _ => m6 - (intOf i).toNat)
    case atStart =>
      refine ⟨0, Nat.zero_le _, rfl, upd f 6 (.slice av m6 cv, ys), u, CN.out.congr (fun _ _ => rfl) (fun _ _ => rfl) (fun i hi => ?_), fun i hi => ?_, fun i hi => ?_, upd_self _ _ _, BN.out⟩
      · show upd s.v a (s.v a) i = s.v i
        by_cases e : i = a
        · rw [e, upd_self]
        · rw [upd_ne _ _ _ _ e]
      · rw [upd_ne _ _ _ _ (by omega)]; exact HFO.out i hi
      · rw [upd_ne _ _ _ _ (by omega), HFH.out i hi]
        show s.has i = upd s.has a (s.has a) i
        by_cases e : i = a
        · rw [e, upd_self]
        · rw [upd_ne _ _ _ _ e]
    case round =>
      obtain ⟨q, hq, rfl, hcq⟩ := hrel
      obtain ⟨pq, hpq⟩ : ∃ pq, pq = takeV b (ys.take q) (s.has a, s.v a) := ⟨_, rfl⟩
      rw [← hpq] at hcq
      have hlq : pq.2.length = 3 := by rw [hpq]; exact takeV_len3 b _ _ _ hla
      have hhq : pq.1.length ≤ 10000 := by
        have h1 := takeV_fst b (ys.take q) (s.has a) (s.v a)
        have h2 := HHL.out a ha3
        rw [← hpq, List.length_take] at h1
        omega
      have HPQ := Lib.hid hpq
      have HHQ := Lib.hid hhq
      have HCQ := Lib.hid hcq
      clear hpq hhq hcq CN BN
      by_cases hqm : q < m6
      · obtain ⟨f3, u3, c3, ho3, hh3, h63, b3⟩ := HCQ.out
        have hr6 := c3.rows.1 6 (by decide)
        rw [h63] at hr6
        have hqy : q < ys.length := by rw [← HM6.out]; exact hqm
        obtain ⟨g6, cap6, su, eu, e6, hg6, p0, p1, p2, p3, p4, p5, p6, hix⟩ := hr6.at q hqy
        have hdrop := next_at HINV.out ha3 hb3 q (ys[q]'hqy) (by rw [← HYS.out]; exact List.getElem?_eq_getElem hqy)
        obtain ⟨_, st, hxs, hstl, hstb⟩ := hdrop
        have hxok : ItemOk (ys[q]'hqy) ∧ NumOk (ys[q]'hqy) := by
          rw [hxs]; exact ⟨itemC_ok b hstl, itemC_n hb3 (by rw [hstb, ← HY0.out]; omega)⟩
        have htk : ys.take (q + 1) = ys.take q ++ [ys[q]'hqy] := by rw [List.take_add_one, List.getElem?_eq_getElem hqy]; rfl
        have hpq1 : takeV b (ys.take (q + 1)) (s.has a, s.v a) = if readyV (ys[q]'hqy) pq.2 then (pq.1 ++ [ys[q]'hqy], incV pq.2 (b : Int)) else pq := by rw [htk, takeV_snoc, ← HPQ.out]
        obtain ⟨x, hx⟩ : ∃ x, x = ys[q]'hqy := ⟨_, rfl⟩
        rw [← hx] at p0 p1 p2 p3 p6 hix hxok hpq1
        have e7 : av = some ⟨g6, 0, none⟩ := by
          have e8 : Value.slice av m6 cv = .slice (some ⟨g6, 0, none⟩) ys.length cap6 := e6
          injection e8
        subst e7
        have hsux : ∃ a1 n1 c1, su = .slice a1 n1 c1 := by obtain ⟨x1, y1, z1⟩ := hix.1.shape; exact ⟨x1, _, y1, z1⟩
        have heux : ∃ a1 n1 c1, eu = .slice a1 n1 c1 := by obtain ⟨x1, y1, z1⟩ := hix.2.shape; exact ⟨x1, _, y1, z1⟩
        obtain ⟨a1, n1, c1, rfl⟩ := hsux
        obtain ⟨a2, n2, c2, rfl⟩ := heux
        have hva := c3.vec a ha3
        rw [upd_self] at hva
        obtain ⟨g3, cv3, eu3, _, _, _⟩ := hva.formN (by omega)
        rw [hlq] at eu3
        have qv := c3.t.cell a ha3
        rw [eu3] at qv hva
        obtain ⟨r, hr⟩ : ∃ r, r = readyV x pq.2 := ⟨_, rfl⟩
        rw [← hr] at hpq1
        have HRV := Lib.hid hr
        have C3 := Lib.hid c3
        have HO3 := Lib.hid ho3
        have HH3 := Lib.hid hh3
        have H63 := Lib.hid h63
        have B3 := Lib.hid b3
        have HIX := Lib.hid hix
        have HXOK := Lib.hid hxok
        have HP1 := Lib.hid hpq1
        have HVA := Lib.hid hva
        have HEU := Lib.hid eu3
        have FP := Lib.hid (And.intro qv (And.intro p0 (And.intro p1 (And.intro p2 (And.intro p3 (And.intro p4 (And.intro p5 p6)))))))
        have hq0 : (0 : Int) ≤ (q : Int) := by omega
        have hq1 : (q : Int) < (m6 : Int) := by omega
        clear c3 ho3 hh3 h63 b3 hr6 e6 hix hxok hpq1 hr hx hva eu3 qv p0 p1 p2 p3 p4 p5 p6 htk hxs hstl hstb
        go_upto_region 30 with fail
        apply wp_region_draw_grow (.eq _ :: .eq _ :: .eq _ :: .eq _ :: .eq _ :: .eq _ :: .eq _ :: .eq _ :: .eq _ :: []) (by kernel_rfl) (by kernel_rfl) trivial
        apply wpG_eq
        · intro W hW hs
          unfold opG
          go_simp
          first | exact resG_eq_mk _ _ _ | rfl
        simp only [Act.put, List.setIfInBounds_toArray, List.set_cons_zero, List.set_cons_succ]
        apply wpG_eq
        · intro W hW hs
          unfold opG
          go_simp
          first | exact resG_eq_mk _ _ _ | rfl
        simp only [Act.put, List.setIfInBounds_toArray, List.set_cons_zero, List.set_cons_succ]
        apply wpG_eq
        · intro W hW hs
          unfold opG
          go_simp
          first | exact resG_eq_mk _ _ _ | rfl
        simp only [Act.put, List.setIfInBounds_toArray, List.set_cons_zero, List.set_cons_succ]
        apply wpG_eq
        · intro W hW hs
          obtain ⟨qv, p0, p1, p2, p3, p4, p5, p6⟩ := FP.out
          have p0' := hW.drew0 p0
          have p1' := hW.drew0 p1
          have p2' := hW.drew0 p2
          have p3' := hW.drew0 p3
          have p4' := hW.drew0 p4
          have p5' := hW.drew0 p5
          have p6' := hW.drew0 p6
          clear qv p0 p1 p2 p3 p4 p5 p6
          unfold opG
          go_simp
          first | exact resG_eq_mk _ _ _ | rfl
        simp only [Act.put, List.setIfInBounds_toArray, List.set_cons_zero, List.set_cons_succ]
        apply wpG_eq
        · intro W hW hs
          unfold opG
          go_simp
          first | exact resG_eq_mk _ _ _ | rfl
        simp only [Act.put, List.setIfInBounds_toArray, List.set_cons_zero, List.set_cons_succ]
        apply wpG_eq
        · intro W hW hs
          unfold opG
          go_simp
          first | exact resG_eq_mk _ _ _ | rfl
        simp only [Act.put, List.setIfInBounds_toArray, List.set_cons_zero, List.set_cons_succ]
        apply wpG_eq
        · intro W hW hs
          unfold opG
          go_simp
          first | exact resG_eq_mk _ _ _ | rfl
        simp only [Act.put, List.setIfInBounds_toArray, List.set_cons_zero, List.set_cons_succ]
        apply wpG_eq
        · intro W hW hs
          obtain ⟨qv, p0, p1, p2, p3, p4, p5, p6⟩ := FP.out
          have qv' := hW.drew0 qv
          clear qv p0 p1 p2 p3 p4 p5 p6
          unfold opG
          go_simp
          first | exact resG_eq_mk _ _ _ | rfl
        simp only [Act.put, List.setIfInBounds_toArray, List.set_cons_zero, List.set_cons_succ]
        apply wpG_eq
        · intro W hW hs
          have gW := Gr.trans ((Gr.refl wr).drew) hW
          unfold opG
          go_simp
          refine resG_call ((rdyb W x _ _ _ pq.2 r HRV.out (HIX.out.is.below gW) (HVA.out.sl.below gW) HXOK.out.1 HXOK.out.2 (by omega)).mono ?_)
          rintro e W2 ⟨rfl, g2⟩
          exact ⟨_, rfl, g2, rfl⟩
        simp only [Act.put, List.setIfInBounds_toArray, List.set_cons_zero, List.set_cons_succ]
        apply wpG_nil
        intro W9 hW9 hsAll
        obtain ⟨wq, hwq⟩ : ∃ wq, wq = W9 := ⟨_, rfl⟩
        have GQ : Hid (Gr wr wq) := Lib.hid (by rw [hwq]; exact Gr.trans ((Gr.refl wr).drew) hW9)
        rw [← hwq]
        clear hsAll hW9 hwq
        cases r with
        | false =>
          have hp1 : takeV b (ys.take (q + 1)) (s.has a, s.v a) = pq := by rw [HP1.out]; rfl
          have hfin : CzR w wq O H V s.own (upd s.has a (takeV b (ys.take (q + 1)) (s.has a, s.v a)).1) (upd s.v a (takeV b (ys.take (q + 1)) (s.has a, s.v a)).2) (.slice (some ⟨g6, 0, none⟩) m6 cv, ys) := by rw [hp1]; exact HCQ.out.gr GQ.out
          have HFIN := Lib.hid hfin
          clear hfin hp1
          go_wp2
          go_roundw
          case rel =>
            first
              | exact ⟨q + 1, by omega, by go_num, HFIN.out⟩
              | ((repeat apply Exists.intro); apply And.intro; rotate_left; rfl; exact ⟨q + 1, by omega, by go_num, HFIN.out⟩)
          case measure => (first | (simp [intOf]; omega) | (show _ < _; simp [intOf]; omega))
        | true =>
          have hp1 : takeV b (ys.take (q + 1)) (s.has a, s.v a) = (pq.1 ++ [x], incV pq.2 (b : Int)) := by rw [HP1.out]; rfl
          have HP2 := Lib.hid hp1
          have c9 := C3.out.gr GQ.out
          obtain ⟨qv, p0, p1, p2, p3, p4, p5, p6⟩ := FP.out
          have o0 : wq.cell? ⟨H, a, none⟩ = some (f3 (a + 3)).1 := c9.h.cell a ha3
          replace p0 := (GQ.out.cell' p0).trans p0
          replace p1 := (GQ.out.cell' p1).trans p1
          replace p2 := (GQ.out.cell' p2).trans p2
          replace p3 := (GQ.out.cell' p3).trans p3
          replace p4 := (GQ.out.cell' p4).trans p4
          replace p5 := (GQ.out.cell' p5).trans p5
          replace p6 := (GQ.out.cell' p6).trans p6
          have FT := Lib.hid (And.intro o0 (And.intro p0 (And.intro p1 (And.intro p2 (And.intro p3 (And.intro p4 (And.intro p5 p6)))))))
          have hl9 : (f3 (a + 3)).2.length ≤ 10000 := by rw [HH3.out a ha3, upd_self]; exact HHQ.out
          have hxq : ∀ g, (f3 (a + 3)).1.ownBlock = some g → g6 ≠ g := fun g hg e => C3.out.rows.2 (a + 3) 6 (by omega) (by decide) (by omega) g hg (by rw [H63.out, e]; rfl)
          have C := Lib.hid c9
          have BW := Lib.hid (Below.trans B3.out (GQ.out.mono B3.out.size))
          have HXR := Lib.hid (HIX.out.keepT (KeepT.gr GQ.out))
          have HL := Lib.hid hl9
          have HXQ := Lib.hid hxq
          clear c9 o0 qv p0 p1 p2 p3 p4 p5 p6 hl9 hxq hp1
          go_upto_region 31 with fail
          go_cut [9] (fun s9 wx => s9 = .int .i64 (a : Int) ∧ ∃ v', CzF wx w.heap.size O H V (upd f3 (a + 3) (v', (f3 (a + 3)).2 ++ [x])) u3 (upd s.v a pq.2) ∧ Below w.heap.size w wx ∧ KeepT wq wx ∧ ∀ X, X < wq.heap.size → X ≠ H → (∀ q, q < 7 → (f3 q).1.ownBlock ≠ some X) → wx.heap[X]? = wq.heap[X]? ∧ ∀ q, q < 7 → (upd f3 (a + 3) (v', (f3 (a + 3)).2 ++ [x]) q).1.ownBlock ≠ some X)
          case first =>
            have hrow := C.out.rows.1 (a + 3) (by omega)
            by_cases hroom : ∃ g cap, (f3 (a + 3)).1 = .slice (some ⟨g, 0, none⟩) (f3 (a + 3)).2.length cap ∧ (f3 (a + 3)).2.length + 1 ≤ cap
            · obtain ⟨g, cap, eV, hcap⟩ := hroom
              have hgo : (f3 (a + 3)).1.ownBlock = some g := by rw [eV]; rfl
              obtain ⟨csg, hgc⟩ := hrow.cells g hgo
              have hgl := (hrow.lt g hgo).2
              have hgT : H ≠ g := fun e => by have h9 := C.out.h; unfold Tab at h9; rw [e] at h9; have := cells_type h9 hgc; cases this
              have hgX : g6 ≠ g := HXQ.out g hgo
              have EV := Lib.hid (And.intro eV (And.intro hcap (And.intro hrow (And.intro hgl hgc))))
              clear eV hcap hgo hrow hgl hgc
              apply wp_region_draw_turnTail 12 (fun j => j = g) (fun j W => (j = 0 → W.heap[g]? = wq.heap[g]?) ∧ (j = 1 → ItemsT W w.heap.size (.slice (some ⟨g, 0, none⟩) ((f3 (a + 3)).2.length + 1) cap) ((f3 (a + 3)).2 ++ [x]))) (.eq _ :: .eq _ :: .eq _ :: .eq _ :: .eq _ :: .eq _ :: .eq _ :: .eq _ :: .eq _ :: .eq _ :: .ok (NewRow wq.heap.size x (.slice a1 n1 c1) (.slice a2 n2 c2)) :: .useEq (.slice (some ⟨g, 0, none⟩) ((f3 (a + 3)).2.length + 1) cap) :: []) (by kernel_rfl) (by kernel_rfl) ⟨NewRow.monoT _ _ EV.out.2.2.2.1 _ _ _, trivial⟩
                (fun k W W' hg h => ⟨fun e => (hg.block g (Array.getElem?_eq_some_iff.1 ((h.1 e).trans EV.out.2.2.2.2)).1).trans (h.1 e), fun e => (h.2 e).keep (KeepT.gr hg) (fun j hj => hg.block j ((h.2 e).lt j hj).2)⟩) ⟨fun _ => rfl, fun e => by cases e⟩
              apply wpT_eq
              · intro W hW hs
                unfold opT
                go_simp
                first | exact resT_eq_mk _ _ _ | rfl
              simp only [Act.put, List.setIfInBounds_toArray, List.set_cons_zero, List.set_cons_succ]
              apply wpT_eq
              · intro W hW hs
                unfold opT
                go_simp
                first | exact resT_eq_mk _ _ _ | rfl
              simp only [Act.put, List.setIfInBounds_toArray, List.set_cons_zero, List.set_cons_succ]
              apply wpT_eq
              · intro W hW hs
                unfold opT
                go_simp
                first | exact resT_eq_mk _ _ _ | rfl
              simp only [Act.put, List.setIfInBounds_toArray, List.set_cons_zero, List.set_cons_succ]
              apply wpT_eq
              · intro W hW hs
                unfold opT
                go_simp
                first | exact resT_eq_mk _ _ _ | rfl
              simp only [Act.put, List.setIfInBounds_toArray, List.set_cons_zero, List.set_cons_succ]
              apply wpT_eq
              · intro W hW hs
                unfold opT
                go_simp
                first | exact resT_eq_mk _ _ _ | rfl
              simp only [Act.put, List.setIfInBounds_toArray, List.set_cons_zero, List.set_cons_succ]
              apply wpT_eq
              · intro W hW hs
                obtain ⟨o0, p0, p1, p2, p3, p4, p5, p6⟩ := FT.out
                have o0' := chc hW o0 hgT
                clear o0 p0 p1 p2 p3 p4 p5 p6
                unfold opT
                go_simp
                first | exact resT_eq_mk _ _ _ | rfl
              simp only [Act.put, List.setIfInBounds_toArray, List.set_cons_zero, List.set_cons_succ]
              apply wpT_eq
              · intro W hW hs
                unfold opT
                go_simp
                first | exact resT_eq_mk _ _ _ | rfl
              simp only [Act.put, List.setIfInBounds_toArray, List.set_cons_zero, List.set_cons_succ]
              apply wpT_eq
              · intro W hW hs
                unfold opT
                go_simp
                first | exact resT_eq_mk _ _ _ | rfl
              simp only [Act.put, List.setIfInBounds_toArray, List.set_cons_zero, List.set_cons_succ]
              apply wpT_eq
              · intro W hW hs
                unfold opT
                go_simp
                first | exact resT_eq_mk _ _ _ | rfl
              simp only [Act.put, List.setIfInBounds_toArray, List.set_cons_zero, List.set_cons_succ]
              apply wpT_eq
              · intro W hW hs
                obtain ⟨o0, p0, p1, p2, p3, p4, p5, p6⟩ := FT.out
                have p0' := chc hW p0 hgX
                have p1' := chc hW p1 hgX
                have p2' := chc hW p2 hgX
                have p3' := chc hW p3 hgX
                have p4' := chc hW p4 hgX
                have p5' := chc hW p5 hgX
                have p6' := chc hW p6 hgX
                clear o0 p0 p1 p2 p3 p4 p5 p6
                unfold opT
                go_simp
                first | exact resT_eq_mk _ _ _ | rfl
              simp only [Act.put, List.setIfInBounds_toArray, List.set_cons_zero, List.set_cons_succ]
              apply wpT_ok
              · intro W hW hs
                unfold opT
                go_simp
                refine resT_mk ((Gr.refl _).alloc _) ?_
                exact ⟨W.heap.size, rfl, hW.size, CellsAt.new W _ 33⟩
              intro vy
              simp only [Act.put, List.setIfInBounds_toArray, List.set_cons_zero, List.set_cons_succ]
              apply wpT_useEq
              · intro W hW hS hs
                have hy : NewRow wq.heap.size x (.slice a1 n1 c1) (.slice a2 n2 c2) vy W := hs _ (.head _) rfl
                obtain ⟨w9, hr9, hi9, hc9⟩ := app_room EV.out.2.2.1 hW (hS.1 rfl) EV.out.1 EV.out.2.1 hy HXR.out HL.out BW.out.size
                have HI9 := Lib.hid (And.intro hi9 hc9)
                exact opT_run_append hr9 rfl _ _ rfl rfl rfl ⟨HI9.out.2, And.intro (fun e => absurd e (by decide)) (fun _ => HI9.out.1)⟩ rfl
              simp only [Act.put, List.setIfInBounds_toArray, List.set_cons_zero, List.set_cons_succ]
              apply wpT_nil
              intro W hW hS hsAll
              obtain ⟨q1, q2, cG, bG, tG, kG⟩ := C.out.putH a ha3 (hS.2 rfl) (fun j hj hne => hW.block j hj (fun e => hne (by have h9 : j = g := e; rw [h9, EV.out.1]; rfl))) (.inl (by rw [EV.out.1]; rfl)) w (Below.trans BW.out (Below.trans (Below.mono ((Gr.refl wq).drew) BW.out.size) (hW.below BW.out.size (fun j e => by have h9 : j = g := e; rw [h9]; exact ((C.out.rows.1 (a + 3) (by omega)).lt g (by rw [EV.out.1]; rfl)).1))))
              have RES := Lib.hid (And.intro cG (And.intro bG (And.intro tG kG)))
              clear cG bG tG kG hsAll hS hW
              go_wp2_with fail
              go_meet
              exact ⟨rfl, _, RES.out⟩
            · have EV := Lib.hid (And.intro hroom hrow)
              clear hroom hrow
              apply wp_region_draw_tail 12 (.eq _ :: .eq _ :: .eq _ :: .eq _ :: .eq _ :: .eq _ :: .eq _ :: .eq _ :: .eq _ :: .eq _ :: .ok (NewRow wq.heap.size x (.slice a1 n1 c1) (.slice a2 n2 c2)) :: .ok (LongRow wq.heap.size w.heap.size ((f3 (a + 3)).2.length + 1) ((f3 (a + 3)).2 ++ [x])) :: []) (by kernel_rfl) (by kernel_rfl) ⟨NewRow.mono _ _ _ _, LongRow.mono _ _ _ _, trivial⟩
              apply wpG_eq
              · intro W hW hs
                unfold opG
                go_simp
                first | exact resG_eq_mk _ _ _ | rfl
              simp only [Act.put, List.setIfInBounds_toArray, List.set_cons_zero, List.set_cons_succ]
              apply wpG_eq
              · intro W hW hs
                unfold opG
                go_simp
                first | exact resG_eq_mk _ _ _ | rfl
              simp only [Act.put, List.setIfInBounds_toArray, List.set_cons_zero, List.set_cons_succ]
              apply wpG_eq
              · intro W hW hs
                unfold opG
                go_simp
                first | exact resG_eq_mk _ _ _ | rfl
              simp only [Act.put, List.setIfInBounds_toArray, List.set_cons_zero, List.set_cons_succ]
              apply wpG_eq
              · intro W hW hs
                unfold opG
                go_simp
                first | exact resG_eq_mk _ _ _ | rfl
              simp only [Act.put, List.setIfInBounds_toArray, List.set_cons_zero, List.set_cons_succ]
              apply wpG_eq
              · intro W hW hs
                unfold opG
                go_simp
                first | exact resG_eq_mk _ _ _ | rfl
              simp only [Act.put, List.setIfInBounds_toArray, List.set_cons_zero, List.set_cons_succ]
              apply wpG_eq
              · intro W hW hs
                obtain ⟨o0, p0, p1, p2, p3, p4, p5, p6⟩ := FT.out
                have o0' := hW.drew0 o0
                clear o0 p0 p1 p2 p3 p4 p5 p6
                unfold opG
                go_simp
                first | exact resG_eq_mk _ _ _ | rfl
              simp only [Act.put, List.setIfInBounds_toArray, List.set_cons_zero, List.set_cons_succ]
              apply wpG_eq
              · intro W hW hs
                unfold opG
                go_simp
                first | exact resG_eq_mk _ _ _ | rfl
              simp only [Act.put, List.setIfInBounds_toArray, List.set_cons_zero, List.set_cons_succ]
              apply wpG_eq
              · intro W hW hs
                unfold opG
                go_simp
                first | exact resG_eq_mk _ _ _ | rfl
              simp only [Act.put, List.setIfInBounds_toArray, List.set_cons_zero, List.set_cons_succ]
              apply wpG_eq
              · intro W hW hs
                unfold opG
                go_simp
                first | exact resG_eq_mk _ _ _ | rfl
              simp only [Act.put, List.setIfInBounds_toArray, List.set_cons_zero, List.set_cons_succ]
              apply wpG_eq
              · intro W hW hs
                obtain ⟨o0, p0, p1, p2, p3, p4, p5, p6⟩ := FT.out
                have p0' := hW.drew0 p0
                have p1' := hW.drew0 p1
                have p2' := hW.drew0 p2
                have p3' := hW.drew0 p3
                have p4' := hW.drew0 p4
                have p5' := hW.drew0 p5
                have p6' := hW.drew0 p6
                clear o0 p0 p1 p2 p3 p4 p5 p6
                unfold opG
                go_simp
                first | exact resG_eq_mk _ _ _ | rfl
              simp only [Act.put, List.setIfInBounds_toArray, List.set_cons_zero, List.set_cons_succ]
              apply wpG_ok
              · intro W hW hs
                unfold opG
                go_simp
                refine resG_mk ((Gr.refl _).alloc _) ?_
                exact ⟨W.heap.size, rfl, hW.size, CellsAt.new W _ 33⟩
              intro vy
              simp only [Act.put, List.setIfInBounds_toArray, List.set_cons_zero, List.set_cons_succ]
              apply wpG_ok
              · intro W hW hs
                have hy : NewRow wq.heap.size x (.slice a1 n1 c1) (.slice a2 n2 c2) vy W := hs _ (.head _) rfl
                obtain ⟨v9, w9, hr9, hi9, hc9⟩ := app_new EV.out.2 hW EV.out.1 hy HXR.out HL.out BW.out.size
                have HI9 := Lib.hid (And.intro hi9 hc9)
                exact opG_run_append hr9 rfl _ _ rfl rfl rfl HI9.out.2 HI9.out.1
              intro vz
              simp only [Act.put, List.setIfInBounds_toArray, List.set_cons_zero, List.set_cons_succ]
              apply wpG_nil
              intro W hW hsAll
              have hz : LongRow wq.heap.size w.heap.size ((f3 (a + 3)).2.length + 1) ((f3 (a + 3)).2 ++ [x]) vz W := hsAll _ (.head _)
              obtain ⟨az, cz, rfl, hz1, hz2⟩ := hz
              have hg0 : Gr wq W := Gr.trans ((Gr.refl wq).drew) hW
              obtain ⟨q1, q2, cG, bG, tG, kG⟩ := C.out.putH a ha3 hz1 (fun j hj _ => hg0.block j hj) (.inr hz2) w (Below.trans BW.out (hg0.mono BW.out.size))
              have RES := Lib.hid (And.intro cG (And.intro bG (And.intro tG kG)))
              clear cG bG tG kG hsAll hz1 hz2 hg0 hW
              go_wp2_with fail
              go_meet
              exact ⟨rfl, _, RES.out⟩
          case rest =>
          obtain ⟨rfl, vn, hcut⟩ := hcut
          obtain ⟨wt, hwn⟩ : ∃ x, x = wc := ⟨_, rfl⟩
          rw [← hwn] at hcut ⊢
          obtain ⟨f4, hf1⟩ : ∃ fq, fq = upd f3 (a + 3) (vn, (f3 (a + 3)).2 ++ [x]) := ⟨_, rfl⟩
          rw [← hf1] at hcut
          have Rwt := Lib.hid hcut
          have HFf4 := Lib.hid hf1
          clear hcut hf1 hwn
          clear C BW HXR HL FT
          have C := Lib.hid Rwt.out.1
          have BW := Lib.hid Rwt.out.2.1
          have hqv : wt.cell? ⟨V, a, none⟩ = some (.slice (some ⟨g3, 0, none⟩) 3 cv3) := by have := C.out.t.cell a ha3; rw [HEU.out] at this; exact this
          have QV0 := Lib.hid hqv
          have hvs : Sl wt (.slice (some ⟨g3, 0, none⟩) 3 cv3) (nums pq.2) := by have := (C.out.vec a ha3).sl; rw [HEU.out, upd_self] at this; exact this
          have HVS := Lib.hid hvs
          clear hqv hvs
          have q0 := QV0.out
          go_wp2_with fail
          clear q0
          refine (inc_any _ _ pq.2 (b : Int) HVS.out (by omega) (by omega) (by omega)).mono ?_
          rintro e W2 ⟨v5, rfl, ho5, g5⟩
          have gW : Gr wt W2 := g5
          have ho6 : Own W2 w.heap.size 23 v5 (nums (incV pq.2 (b : Int))) := ho5.mono BW.out.size
          obtain ⟨av5, cv5, e5⟩ : ∃ x y, v5 = .slice x 3 y := by obtain ⟨x, y, e⟩ := ho6.shape; exact ⟨x, y, by rw [e, nums_length, incV_len, hlq]⟩
          rw [e5] at ho6 ⊢
          clear ho5
          have c5 := C.out.gr gW
          have b5 := Below.trans BW.out (gW.mono BW.out.size)
          have q1 := c5.t.cell a ha3
          have q2 := c5.t.frozen a
          have C5 := Lib.hid (c5.setV a ha3 (.slice av5 3 cv5) _ ho6)
          have B5 := Lib.hid (Below.setCell b5 c5.bv (p := ⟨V, a, none⟩) (.slice av5 3 cv5))
          clear c5 b5 ho6 gW g5 e5
          go_wp2
          go_roundw
          case rel =>
            have hown : ∀ i, i < 3 → (f4 i).2 = s.own i := fun i hi => by rw [HFf4.out, upd_ne _ _ _ _ (by omega)]; exact HO3.out i hi
            have hhas : ∀ i, i < 3 → (f4 (i + 3)).2 = upd s.has a (pq.1 ++ [x]) i := fun i hi => by
              rw [HFf4.out]
              by_cases e : i = a
              · rw [e, upd_self, upd_self, HH3.out a ha3, upd_self]
              · rw [upd_ne _ _ _ _ (by omega), upd_ne _ _ _ _ e, HH3.out i hi, upd_ne _ _ _ _ e]
            have hnx : f4 6 = (.slice (some ⟨g6, 0, none⟩) m6 cv, ys) := by rw [HFf4.out, upd_ne _ _ _ _ (by omega)]; exact H63.out
            have hv4 : ∀ i, i < 3 → upd s.v a (incV pq.2 (b : Int)) i = upd (upd s.v a pq.2) a (incV pq.2 (b : Int)) i := fun i _ => by
              by_cases e : i = a
              · rw [e, upd_self, upd_self]
              · rw [upd_ne _ _ _ _ e, upd_ne _ _ _ _ e, upd_ne _ _ _ _ e]
            obtain ⟨pz, hpz⟩ : ∃ pz, pz = takeV b (ys.take (q + 1)) (s.has a, s.v a) := ⟨_, rfl⟩
            have hp2 := HP2.out
            rw [← hpz] at hp2
            have hfin := fun W' (hc : CzF W' w.heap.size O H V f4 (upd u3 a (.slice av5 3 cv5)) (upd (upd s.v a pq.2) a (incV pq.2 (b : Int)))) (hb : Below w.heap.size w W') => (show CzR w W' O H V s.own (upd s.has a pz.1) (upd s.v a pz.2) (.slice (some ⟨g6, 0, none⟩) m6 cv, ys) by
              rw [hp2]
              exact ⟨f4, upd u3 a (.slice av5 3 cv5), hc.congr (f' := f4) (u' := upd u3 a (.slice av5 3 cv5)) (fun _ _ => rfl) (fun _ _ => rfl) hv4, hown, hhas, hnx, hb⟩)
            rw [hpz] at hfin
            have HFIN := Lib.hid (hfin _ C5.out B5.out)
            clear hfin hown hhas hnx hv4 hpz hp2
            first
              | exact ⟨q + 1, by omega, by go_num, HFIN.out⟩
              | ((repeat apply Exists.intro); apply And.intro; rotate_left; rfl; exact ⟨q + 1, by omega, by go_num, HFIN.out⟩)
          case measure => (first | (simp [intOf]; omega) | (show _ < _; simp [intOf]; omega))
      · obtain rfl : q = m6 := by omega
        have hst : runC l (k + 1) = askS s a b := by rw [HSN.out, show (d % 2 == 0) = false by simp [hmk]]; rfl
        have hend : ys.take q = ys := by rw [HM6.out]; exact List.take_length
        have hfin : ∀ W', CzR w W' O H V s.own (upd s.has a pq.1) (upd s.v a pq.2) (.slice av q cv, ys) → CzR w W' O H V (runC l (k + 1)).own (runC l (k + 1)).has (runC l (k + 1)).v (.slice av q cv, ys) := fun W' h => by
          rw [hst]
          rw [HPQ.out, hend, HYS.out] at h
          rw [HYS.out]
          exact h
        have HFIN := Lib.hid (hfin _ HCQ.out)
        clear hfin hst hend
        go_wp2_with fail
        go_roundw
        case rel =>
          first
            | exact ⟨k + 1, by omega, by go_num, _, HFIN.out⟩
            | ((repeat apply Exists.intro); apply And.intro; rotate_left; rfl; exact ⟨k + 1, by omega, by go_num, _, HFIN.out⟩)
        case measure => (first | (simp [intOf]; omega) | (show _ < _; simp [intOf]; omega))
end Go.Proofs.Ytpdninnnpoiblaa
