/-
  StreamCausal: a site makes an item.
-/
import Derived.Test.YtpdninnnpoiblaaCausalA
set_option linter.unusedVariables false
namespace Go.Proofs.Ytpdninnnpoiblaa
open Go.RowKit
set_option maxHeartbeats 0 in
set_option maxRecDepth 100000 in
theorem causal_make : causal_split.1 := by
  refine fun w => ?_
  intro l R a0 c0 HR HX n hm HN h60 h60' w1 w2 w3 O H V in1 in2 in3 in4 in5 u24 u25 u26 u27 u28 u29 u30 u31 u32 u33 u34 u35 u36 u37 in6 in7 in8 in9 in10 in11 in12 in13 wr u2 u8 u9 u10 u11 u12 u13 in14 in15 in16 in17 in18 in19 in20 in21 in22 in23 in24 in25 in26 in27 in28 in29 in30 in31 in32 in33 in34 in35 in36 in37 in38 in39 in40 in41 in42 in43 in44 in45 in46 in47 in48 in49 in50 in51 in52 in53 in54 in55 in56 in57 in58 in59 in60 in61 in62 in63 in64 in65 in66 in67 in68 in69 in70 in71 in72 in73 in74 in75 in76 in77 in78 in79 in80 in81 in82 in83 in84 in85 in86 in87 in88 in89 in90 in91 in92 in93 in94 in95 in96 in97 in98 in99 in100 in101 in102 in103 in104 in105 in106 in107 in108 in109 in110 in111 in112 in113 in114 in115 in116 in117 in118 in119 in120 in121 in122 in123 in124 in125 in126 in127 in128 in129 in130 in131 in132 in133 in134 in135 in136 in137 in138 in139 in140 in141 in142 in143 in144 in145 in146 in147 in148 in149 in150 in151 in152 in153 in154 k hk nx hlt s HHL HOL HINV HCZ d aa ff hd256 HLATE HSOON in155 in156 in157 in158 HB0 wc u38 u39 u40 u41 u42 u43 u44 u45 u46 u47 u48 u49 u50 u51 u52 u53 u54 u55 u56 u57 u58 u59 u60 u61 u62 u63 u64 u65 u66 u67 u68 u69 u70 u71 u72 u73 u74 u75 u76 u77 u78 u79 u80 u81 u82 u83 u84 u85 u86 u87 u88 u89 u90 u91 u92 u93 u94 u95 u96 u97 u98 u99 u100 u101 u102 u103 u104 u105 u106 u107 u108 u109 u110 u111 u112 u113 u114 u115 u116 u117 u118 u119 u120 u121 u122 u123 u124 u125 u126 u127 u128 u129 u130 u131 u132 u133 u134 u135 u136 u137 u138 u139 u140 u141 u142 u143 u144 u145 u146 u147 u148 u149 u150 u151 u152 u153 u154 u155 u156 u157 u158 u159 u160 u161 u162 u163 u164 u165 u166 u167 u168 u169 u170 u171 u172 u173 u174 u175 u176 u177 u178 a b HSN ha3 ha3i hb3i hb3 ha0i hb0i hai hbi in159 in160 W9 wd GD hx0 hx1 hx2 HCZ3 f u hla ga ca eua in161 in162 in163 qv CF HFO HFH HF6 HBW hown hmk
  · have hdm : (d : Int) % 2 = 0 := by omega
    obtain ⟨y0, hy0⟩ : ∃ y, y = (s.v a).getD a 0 := ⟨_, rfl⟩
    have qa := hown.cellN a y0 (by rw [hy0, getD_eq (by omega)]; exact List.getElem?_eq_getElem (by omega))
    have hy60 : y0 ≤ 60 := by
      have h1 := HINV.out.self a ha3
      have h2 := HOL.out a
      rw [← HN.out] at h2
      rw [hy0, h1]; omega
    have HY0 := Lib.hid hy0
    have HOWN := Lib.hid hown
    have HEUA := Lib.hid eua
    clear hy0 hown eua
    go_upto_region 20 with fail
    have hw1 : IntKind.u64.wrap ((y0 : Int) + 1) = (y0 : Int) + 1 := by simp [IntKind.wrap, IntKind.bits, IntKind.signed]; omega
    have HW1 := Lib.hid hw1
    clear hw1
    have QV := Lib.hid qv
    have QA := Lib.hid qa
    clear qv qa
    apply wp_region_draw_tail 17 (.eq _ :: .eq _ :: .eq _ :: .eq _ :: .eq _ :: .eq _ :: .eq _ :: .eq _ :: .eq _ :: .eq _ :: .eq _ :: .eq _ :: .eq _ :: .eq _ :: .ok (fun r W => EffsK W W w.heap.size r [effG] 1) :: .ok (fun r W => ∃ ev, r = .agg (itemCells (itemC a (s.v a)) (.slice (some ⟨ga, 0, none⟩) 3 ca) ev) ∧ EffsK W W w.heap.size ev [effG] 1) :: .ok (fun r W => ∃ X, r = .pointer (some ⟨X, 0, none⟩) ∧ wd.heap.size ≤ X ∧ CellsAt W X zItem 33) :: []) (by kernel_rfl) (by kernel_rfl) ⟨mono_eff _ _, mono_effx _ _ _, mono_ptr _, trivial⟩
    apply wpG_eq
    · intro W hW hs
      unfold opG
      go_simp
      first | exact resG_eq_mk _ _ _ | rfl
    simp only [Act.put, List.setIfInBounds_toArray, List.set_cons_zero, List.set_cons_succ]
    apply wpG_eq
    · intro W hW hs
      unfold opG
      go_simp
      first | exact resG_eq_mk _ _ _ | rfl
    simp only [Act.put, List.setIfInBounds_toArray, List.set_cons_zero, List.set_cons_succ]
    apply wpG_eq
    · intro W hW hs
      unfold opG
      go_simp
      first | exact resG_eq_mk _ _ _ | rfl
    simp only [Act.put, List.setIfInBounds_toArray, List.set_cons_zero, List.set_cons_succ]
    apply wpG_eq
    · intro W hW hs
      unfold opG
      go_simp
      first | exact resG_eq_mk _ _ _ | rfl
    simp only [Act.put, List.setIfInBounds_toArray, List.set_cons_zero, List.set_cons_succ]
    apply wpG_eq
    · intro W hW hs
      have q0 := (hW.drew0 QV.out)
      unfold opG
      go_simp
      first | exact resG_eq_mk _ _ _ | rfl
    simp only [Act.put, List.setIfInBounds_toArray, List.set_cons_zero, List.set_cons_succ]
    apply wpG_eq
    · intro W hW hs
      unfold opG
      go_simp
      first | exact resG_eq_mk _ _ _ | rfl
    simp only [Act.put, List.setIfInBounds_toArray, List.set_cons_zero, List.set_cons_succ]
    apply wpG_eq
    · intro W hW hs
      unfold opG
      go_simp
      first | exact resG_eq_mk _ _ _ | rfl
    simp only [Act.put, List.setIfInBounds_toArray, List.set_cons_zero, List.set_cons_succ]
    apply wpG_eq
    · intro W hW hs
      have q0 := (hW.drew0 QA.out)
      unfold opG
      go_simp
      first | exact resG_eq_mk _ _ _ | rfl
    simp only [Act.put, List.setIfInBounds_toArray, List.set_cons_zero, List.set_cons_succ]
    apply wpG_eq
    · intro W hW hs
      have q0 := HW1.out
      unfold opG
      go_simp
      first | exact resG_eq_mk _ _ _ | rfl
    simp only [Act.put, List.setIfInBounds_toArray, List.set_cons_zero, List.set_cons_succ]
    apply wpG_eq
    · intro W hW hs
      unfold opG
      go_simp
      first | exact resG_eq_mk _ _ _ | rfl
    simp only [Act.put, List.setIfInBounds_toArray, List.set_cons_zero, List.set_cons_succ]
    apply wpG_eq
    · intro W hW hs
      unfold opG
      go_simp
      first | exact resG_eq_mk _ _ _ | rfl
    simp only [Act.put, List.setIfInBounds_toArray, List.set_cons_zero, List.set_cons_succ]
    apply wpG_eq
    · intro W hW hs
      unfold opG
      go_simp
      first | exact resG_eq_mk _ _ _ | rfl
    simp only [Act.put, List.setIfInBounds_toArray, List.set_cons_zero, List.set_cons_succ]
    apply wpG_eq
    · intro W hW hs
      have q0 := (hW.drew0 QV.out)
      unfold opG
      go_simp
      first | exact resG_eq_mk _ _ _ | rfl
    simp only [Act.put, List.setIfInBounds_toArray, List.set_cons_zero, List.set_cons_succ]
    apply wpG_eq
    · intro W hW hs
      unfold opG
      go_simp
      first | exact resG_eq_mk _ _ _ | rfl
    simp only [Act.put, List.setIfInBounds_toArray, List.set_cons_zero, List.set_cons_succ]
    apply wpG_ok
    · intro W hW hs
      have hB9 : w.heap.size ≤ W.heap.size := Nat.le_trans HBW.out.size (Nat.le_trans (Nat.le_of_eq rfl) hW.size)
      unfold opG
      go_simp
      exact resG_mk ((Gr.refl _).alloc _) (eff_own W w.heap.size hB9)
    intro v87
    simp only [Act.put, List.setIfInBounds_toArray, List.set_cons_zero, List.set_cons_succ]
    apply wpG_ok
    · intro W hW hs
      have he := hs _ (.head _) rfl
      have he2 : EffsK W W w.heap.size v87 [effG] 1 := he
      obtain ⟨ax, cx, rfl⟩ : ∃ a c, v87 = .slice a 1 c := he2.shape
      unfold opG
      go_simp
      refine resG_mk (Gr.refl _) ?_
      refine ⟨_, ?_, he⟩
      rw [show itemCells (itemC a (s.v a)) (.slice (some ⟨ga, 0, none⟩) 3 ca) (.slice ax 1 cx) = #[.int .i64 (a : Int), .int .u64 ((y0 + 1 : Nat) : Int), .int .i64 0, .int .u64 ((1 : Nat) : Int), .slice (some ⟨ga, 0, none⟩) 3 ca, .slice ax 1 cx, .int .u32 ((0 : Nat) : Int)] by rw [HY0.out]; rfl]
      rfl
    intro v88
    simp only [Act.put, List.setIfInBounds_toArray, List.set_cons_zero, List.set_cons_succ]
    apply wpG_ok
    · intro W hW hs
      unfold opG
      go_simp
      refine resG_mk ((Gr.refl _).alloc _) ?_
      exact ⟨W.heap.size, rfl, hW.size, CellsAt.new W zItem 33⟩
    intro v89
    simp only [Act.put, List.setIfInBounds_toArray, List.set_cons_zero, List.set_cons_succ]
    apply wpG_nil
    intro W9 hW9 hsAll
    obtain ⟨ev, hv88, hev⟩ := hsAll _ (.tail _ (.head _))
    obtain ⟨X, hv89, hX1, hX2⟩ := hsAll _ (.head _)
    subst hv88 hv89
    clear hsAll
    obtain ⟨wj, hwj⟩ : ∃ wj, wj = W9 := ⟨_, rfl⟩
    have GJ : Hid (Gr wd wj) := Lib.hid (by rw [hwj]; exact Gr.trans ((Gr.refl wd).drew) hW9)
    rw [← hwj] at hev hX2
    rw [← hwj]
    clear hW9 hwj
    obtain ⟨ae, ce, rfl⟩ : ∃ a c, ev = .slice a 1 c := hev.shape
    obtain ⟨wE, hst, hE1, hE2, hE3, hE4⟩ := store_item hX2 (itemC a (s.v a)) (.slice (some ⟨ga, 0, none⟩) 3 ca) (.slice ae 1 ce) ⟨_, _, _, rfl⟩ ⟨_, _, _, rfl⟩
    have cE := (CF.out.gr GJ.out).keepX hX2 (fun q hq e => by have := (CF.out.rows.1 q hq).lt X e; omega) hE2
    have hevE : EffsK wE wE w.heap.size (.slice ae 1 ce) [effG] 1 := (ItemR.keepT (w := wj) (x := itemC a (s.v a)) (sv := .slice (some ⟨ga, 0, none⟩) 3 ca) ⟨by have := HOWN.out.gr GJ.out; rwa [hla] at this, hev⟩ (fun j cs t fr ht hc => hE2 j (fun e => by subst e; have := cells_type hc hX2; subst this; rcases ht with h | h | h <;> cases h))).2
    have CE := Lib.hid cE
    have HEV := Lib.hid hevE
    have HXE := Lib.hid hE1
    have HBE := Lib.hid (hE4 _ _ (Below.trans HBW.out (GJ.out.mono HBW.out.size)) (Nat.le_trans HBW.out.size hX1))
    have HXB := Lib.hid (show X < wE.heap.size from hE1.lt)
    have HXR : Hid (∀ q, q < 7 → (f q).1.ownBlock ≠ some X) := Lib.hid fun q hq e => by have := (CF.out.rows.1 q hq).lt X e; omega
    have HXO : Hid (X ≠ O ∧ X ≠ H ∧ X ≠ V) := Lib.hid (by have h1 := CF.out.o.lt; have h2 := CF.out.h.lt; have h3 := CF.out.t.lt; omega)
    clear cE hevE hev hX1 hX2 hE1 hE2 hE3 hE4
    go_upto_region 21 with fail
    clear hst
    have HXL : Hid ((⟨(a : Int), y0 + 1, 0, 1, s.v a, [effG], 0⟩ : ItemD) = itemC a (s.v a)) := Lib.hid (by rw [HY0.out]; rfl)
    have T1 : Hid (∀ W, Gr wE W → (W.cell? ⟨X, 0, none⟩ = some (.int .i64 (a : Int)) ∧ W.cell? ⟨X, 1, none⟩ = some (.int .u64 ((y0 : Int) + 1)) ∧ W.cell? ⟨X, 2, none⟩ = some (.int .i64 0) ∧ W.cell? ⟨X, 3, none⟩ = some (.int .u64 1) ∧ W.cell? ⟨X, 4, none⟩ = some (.slice (some ⟨ga, 0, none⟩) 3 ca) ∧ W.cell? ⟨X, 5, none⟩ = some (.slice ae 1 ce) ∧ W.cell? ⟨X, 6, none⟩ = some (.int .u32 0)) ∧ W.cell? ⟨V, a, none⟩ = some (.slice (some ⟨ga, 0, none⟩) 3 ca)) := Lib.hid fun W hW => by
      have hc := HXE.out.gr hW
      rw [← HXL.out] at hc
      exact ⟨⟨hc.cell 0, hc.cell 1, hc.cell 2, hc.cell 3, hc.cell 4, hc.cell 5, hc.cell 6⟩, by have := (CE.out.gr hW).t.cell a ha3; rw [HEUA.out, hla] at this; exact this⟩
    have S1 : Hid (∀ W, Gr wE W → ItemIs W (⟨(a : Int), y0 + 1, 0, 1, s.v a, [effG], 0⟩ : ItemD) (.slice (some ⟨ga, 0, none⟩) 3 ca) (.slice ae 1 ce) ∧ Sl W (.slice (some ⟨ga, 0, none⟩) 3 ca) (nums (s.v a))) := Lib.hid fun W hW => by
      have h1 := ((CE.out.gr hW).vec a ha3).sl
      rw [HEUA.out, hla] at h1
      exact ⟨⟨h1, (HEV.out.effs).below hW⟩, h1⟩
    have hck : checkV (⟨(a : Int), y0 + 1, 0, 1, s.v a, [effG], 0⟩ : ItemD) 3 1 = 0 := by rw [HXL.out]; exact itemC_check ha3 hla
    have hrd : readyV (⟨(a : Int), y0 + 1, 0, 1, s.v a, [effG], 0⟩ : ItemD) (s.v a) = true := by rw [HXL.out]; exact ready_make HINV.out ha3
    have HCK := Lib.hid hck
    have HRD := Lib.hid hrd
    clear hck hrd
    apply wp_region_draw_grow (.eq _ :: .eq _ :: .eq _ :: .eq _ :: .eq _ :: .eq _ :: .eq _ :: .eq _ :: .eq _ :: .eq _ :: .eq _ :: .eq _ :: []) (by kernel_rfl) (by kernel_rfl) trivial
    apply wpG_eq
    · intro W hW hs
      have gW := Gr.trans ((Gr.refl wE).drew) hW
      obtain ⟨⟨x0, x1, x2, x3, x4, x5, x6⟩, q0⟩ := T1.out W gW
      unfold opG
      go_simp
      first | exact resG_eq_mk _ _ _ | rfl
    simp only [Act.put, List.setIfInBounds_toArray, List.set_cons_zero, List.set_cons_succ]
    apply wpG_eq
    · intro W hW hs
      have gW := Gr.trans ((Gr.refl wE).drew) hW
      unfold opG
      go_simp
      refine resG_call ((chk0 W (⟨(a : Int), y0 + 1, 0, 1, s.v a, [effG], 0⟩ : ItemD) _ _ HCK.out (S1.out W gW).1 ⟨by show (s.v a).length ≤ _; omega, by show 1 ≤ 100000; decide⟩ ⟨by show y0 + 1 < _; omega, by show -9223372036854775808 ≤ (a : Int); omega, by show (a : Int) ≤ _; omega⟩).mono ?_)
      rintro e W2 ⟨rfl, g2⟩
      exact ⟨_, rfl, g2, rfl⟩
    simp only [Act.put, List.setIfInBounds_toArray, List.set_cons_zero, List.set_cons_succ]
    apply wpG_eq
    · intro W hW hs
      unfold opG
      go_simp
      first | exact resG_eq_mk _ _ _ | rfl
    simp only [Act.put, List.setIfInBounds_toArray, List.set_cons_zero, List.set_cons_succ]
    apply wpG_eq
    · intro W hW hs
      unfold opG
      go_simp
      first | exact resG_eq_mk _ _ _ | rfl
    simp only [Act.put, List.setIfInBounds_toArray, List.set_cons_zero, List.set_cons_succ]
    apply wpG_eq
    · intro W hW hs
      have gW := Gr.trans ((Gr.refl wE).drew) hW
      obtain ⟨⟨x0, x1, x2, x3, x4, x5, x6⟩, q0⟩ := T1.out W gW
      unfold opG
      go_simp
      first | exact resG_eq_mk _ _ _ | rfl
    simp only [Act.put, List.setIfInBounds_toArray, List.set_cons_zero, List.set_cons_succ]
    apply wpG_eq
    · intro W hW hs
      unfold opG
      go_simp
      first | exact resG_eq_mk _ _ _ | rfl
    simp only [Act.put, List.setIfInBounds_toArray, List.set_cons_zero, List.set_cons_succ]
    apply wpG_eq
    · intro W hW hs
      unfold opG
      go_simp
      first | exact resG_eq_mk _ _ _ | rfl
    simp only [Act.put, List.setIfInBounds_toArray, List.set_cons_zero, List.set_cons_succ]
    apply wpG_eq
    · intro W hW hs
      unfold opG
      go_simp
      first | exact resG_eq_mk _ _ _ | rfl
    simp only [Act.put, List.setIfInBounds_toArray, List.set_cons_zero, List.set_cons_succ]
    apply wpG_eq
    · intro W hW hs
      have gW := Gr.trans ((Gr.refl wE).drew) hW
      obtain ⟨⟨x0, x1, x2, x3, x4, x5, x6⟩, q0⟩ := T1.out W gW
      unfold opG
      go_simp
      first | exact resG_eq_mk _ _ _ | rfl
    simp only [Act.put, List.setIfInBounds_toArray, List.set_cons_zero, List.set_cons_succ]
    apply wpG_eq
    · intro W hW hs
      have gW := Gr.trans ((Gr.refl wE).drew) hW
      unfold opG
      go_simp
      refine resG_call ((rdy1 W (⟨(a : Int), y0 + 1, 0, 1, s.v a, [effG], 0⟩ : ItemD) _ _ _ (s.v a) HRD.out (S1.out W gW).1 (S1.out W gW).2 ⟨by show (s.v a).length ≤ _; omega, by show 1 ≤ 100000; decide⟩ ⟨by show y0 + 1 < _; omega, by show -9223372036854775808 ≤ (a : Int); omega, by show (a : Int) ≤ _; omega⟩ (by omega)).mono ?_)
      rintro e W2 ⟨rfl, g2⟩
      exact ⟨_, rfl, g2, rfl⟩
    simp only [Act.put, List.setIfInBounds_toArray, List.set_cons_zero, List.set_cons_succ]
    apply wpG_eq
    · intro W hW hs
      unfold opG
      go_simp
      first | exact resG_eq_mk _ _ _ | rfl
    simp only [Act.put, List.setIfInBounds_toArray, List.set_cons_zero, List.set_cons_succ]
    apply wpG_eq
    · intro W hW hs
      unfold opG
      go_simp
      first | exact resG_eq_mk _ _ _ | rfl
    simp only [Act.put, List.setIfInBounds_toArray, List.set_cons_zero, List.set_cons_succ]
    apply wpG_nil
    intro W9 hW9 hsAll
    have HXR0 := HXR
    clear HXR
    obtain ⟨wF, hwF⟩ : ∃ wF, wF = W9 := ⟨_, rfl⟩
    have GF : Hid (Gr wE wF) := Lib.hid (by rw [hwF]; exact Gr.trans ((Gr.refl wE).drew) hW9)
    rw [← hwF]
    clear hsAll hW9 hwF
    have cF := CE.out.gr GF.out
    have bF := Below.trans HBE.out (GF.out.mono HBE.out.size)
    have hxF : ItemR wF w.heap.size (⟨(a : Int), y0 + 1, 0, 1, s.v a, [effG], 0⟩ : ItemD) (.slice (some ⟨ga, 0, none⟩) 3 ca) (.slice ae 1 ce) := ⟨by have h1 := cF.vec a ha3; rw [HEUA.out, hla] at h1; exact h1, (HEV.out.below GF.out).full⟩
    have hlo := (HOL.out a).2
    rw [← HN.out, ← HFO.out a ha3] at hlo
    have hlo2 : (f a).2.length ≤ 10000 := by omega
    obtain ⟨⟨x0, x1, x2, x3, x4, x5, x6⟩, _⟩ := T1.out wF GF.out
    have o0 : wF.cell? ⟨O, a, none⟩ = some (f a).1 := cF.o.cell a ha3
    have C := Lib.hid cF
    have BW := Lib.hid bF
    have HXR := Lib.hid hxF
    have HL := Lib.hid hlo2
    have HXQ := HXR0
    have FT := Lib.hid (And.intro o0 (And.intro x0 (And.intro x1 (And.intro x2 (And.intro x3 (And.intro x4 (And.intro x5 x6)))))))
    clear cF bF hxF hlo hlo2 o0 x0 x1 x2 x3 x4 x5 x6
    go_upto_region 23 with fail
    go_cut [9] (fun s9 wx => s9 = .int .i64 (a : Int) ∧ ∃ v', CzF wx w.heap.size O H V (upd f (a) (v', (f (a)).2 ++ [(⟨(a : Int), y0 + 1, 0, 1, s.v a, [effG], 0⟩ : ItemD)])) u s.v ∧ Below w.heap.size w wx ∧ KeepT wF wx ∧ ∀ X, X < wF.heap.size → X ≠ O → (∀ q, q < 7 → (f q).1.ownBlock ≠ some X) → wx.heap[X]? = wF.heap[X]? ∧ ∀ q, q < 7 → (upd f (a) (v', (f (a)).2 ++ [(⟨(a : Int), y0 + 1, 0, 1, s.v a, [effG], 0⟩ : ItemD)]) q).1.ownBlock ≠ some X)
    case first =>
      have hrow := C.out.rows.1 (a) (by omega)
      by_cases hroom : ∃ g cap, (f (a)).1 = .slice (some ⟨g, 0, none⟩) (f (a)).2.length cap ∧ (f (a)).2.length + 1 ≤ cap
      · obtain ⟨g, cap, eV, hcap⟩ := hroom
        have hgo : (f (a)).1.ownBlock = some g := by rw [eV]; rfl
        obtain ⟨csg, hgc⟩ := hrow.cells g hgo
        have hgl := (hrow.lt g hgo).2
        have hgT : O ≠ g := fun e => by have h9 := C.out.o; unfold Tab at h9; rw [e] at h9; have := cells_type h9 hgc; cases this
        have hgX : X ≠ g := fun e => HXQ.out _ (by omega) (e ▸ hgo)
        have EV := Lib.hid (And.intro eV (And.intro hcap (And.intro hrow (And.intro hgl hgc))))
        clear eV hcap hgo hrow hgl hgc
        apply wp_region_draw_turnTail 9 (fun j => j = g) (fun j W => (j = 0 → W.heap[g]? = wF.heap[g]?) ∧ (j = 1 → ItemsT W w.heap.size (.slice (some ⟨g, 0, none⟩) ((f (a)).2.length + 1) cap) ((f (a)).2 ++ [(⟨(a : Int), y0 + 1, 0, 1, s.v a, [effG], 0⟩ : ItemD)]))) (.eq _ :: .eq _ :: .eq _ :: .eq _ :: .eq _ :: .eq _ :: .eq _ :: .ok (NewRow wF.heap.size (⟨(a : Int), y0 + 1, 0, 1, s.v a, [effG], 0⟩ : ItemD) (.slice (some ⟨ga, 0, none⟩) 3 ca) (.slice ae 1 ce)) :: .useEq (.slice (some ⟨g, 0, none⟩) ((f (a)).2.length + 1) cap) :: []) (by kernel_rfl) (by kernel_rfl) ⟨NewRow.monoT _ _ EV.out.2.2.2.1 _ _ _, trivial⟩
          (fun k W W' hg h => ⟨fun e => (hg.block g (Array.getElem?_eq_some_iff.1 ((h.1 e).trans EV.out.2.2.2.2)).1).trans (h.1 e), fun e => (h.2 e).keep (KeepT.gr hg) (fun j hj => hg.block j ((h.2 e).lt j hj).2)⟩) ⟨fun _ => rfl, fun e => by cases e⟩
        apply wpT_eq
        · intro W hW hs
          unfold opT
          go_simp
          first | exact resT_eq_mk _ _ _ | rfl
        simp only [Act.put, List.setIfInBounds_toArray, List.set_cons_zero, List.set_cons_succ]
        apply wpT_eq
        · intro W hW hs
          unfold opT
          go_simp
          first | exact resT_eq_mk _ _ _ | rfl
        simp only [Act.put, List.setIfInBounds_toArray, List.set_cons_zero, List.set_cons_succ]
        apply wpT_eq
        · intro W hW hs
          unfold opT
          go_simp
          first | exact resT_eq_mk _ _ _ | rfl
        simp only [Act.put, List.setIfInBounds_toArray, List.set_cons_zero, List.set_cons_succ]
        apply wpT_eq
        · intro W hW hs
          unfold opT
          go_simp
          first | exact resT_eq_mk _ _ _ | rfl
        simp only [Act.put, List.setIfInBounds_toArray, List.set_cons_zero, List.set_cons_succ]
        apply wpT_eq
        · intro W hW hs
          unfold opT
          go_simp
          first | exact resT_eq_mk _ _ _ | rfl
        simp only [Act.put, List.setIfInBounds_toArray, List.set_cons_zero, List.set_cons_succ]
        apply wpT_eq
        · intro W hW hs
          obtain ⟨o0, x0, x1, x2, x3, x4, x5, x6⟩ := FT.out
          have o0' := chc hW o0 hgT
          clear o0 x0 x1 x2 x3 x4 x5 x6
          unfold opT
          go_simp
          first | exact resT_eq_mk _ _ _ | rfl
        simp only [Act.put, List.setIfInBounds_toArray, List.set_cons_zero, List.set_cons_succ]
        apply wpT_eq
        · intro W hW hs
          obtain ⟨o0, x0, x1, x2, x3, x4, x5, x6⟩ := FT.out
          have x0' := chc hW x0 hgX
          have x1' := chc hW x1 hgX
          have x2' := chc hW x2 hgX
          have x3' := chc hW x3 hgX
          have x4' := chc hW x4 hgX
          have x5' := chc hW x5 hgX
          have x6' := chc hW x6 hgX
          clear o0 x0 x1 x2 x3 x4 x5 x6
          unfold opT
          go_simp
          first | exact resT_eq_mk _ _ _ | rfl
        simp only [Act.put, List.setIfInBounds_toArray, List.set_cons_zero, List.set_cons_succ]
        apply wpT_ok
        · intro W hW hs
          unfold opT
          go_simp
          refine resT_mk ((Gr.refl _).alloc _) ?_
          exact ⟨W.heap.size, rfl, hW.size, CellsAt.new W _ 33⟩
        intro vy
        simp only [Act.put, List.setIfInBounds_toArray, List.set_cons_zero, List.set_cons_succ]
        apply wpT_useEq
        · intro W hW hS hs
          have hy : NewRow wF.heap.size (⟨(a : Int), y0 + 1, 0, 1, s.v a, [effG], 0⟩ : ItemD) (.slice (some ⟨ga, 0, none⟩) 3 ca) (.slice ae 1 ce) vy W := hs _ (.head _) rfl
          obtain ⟨w9, hr9, hi9, hc9⟩ := app_room EV.out.2.2.1 hW (hS.1 rfl) EV.out.1 EV.out.2.1 hy HXR.out HL.out BW.out.size
          have HI9 := Lib.hid (And.intro hi9 hc9)
          exact opT_run_append hr9 rfl _ _ rfl rfl rfl ⟨HI9.out.2, And.intro (fun e => absurd e (by decide)) (fun _ => HI9.out.1)⟩ rfl
        simp only [Act.put, List.setIfInBounds_toArray, List.set_cons_zero, List.set_cons_succ]
        apply wpT_nil
        intro W hW hS hsAll
        obtain ⟨q1, q2, cG, bG, tG, kG⟩ := C.out.putO a ha3 (hS.2 rfl) (fun j hj hne => hW.block j hj (fun e => hne (by have h9 : j = g := e; rw [h9, EV.out.1]; rfl))) (.inl (by rw [EV.out.1]; rfl)) w (Below.trans BW.out (Below.trans (Below.mono ((Gr.refl wF).drew) BW.out.size) (hW.below BW.out.size (fun j e => by have h9 : j = g := e; rw [h9]; exact ((C.out.rows.1 (a) (by omega)).lt g (by rw [EV.out.1]; rfl)).1))))
        have RES := Lib.hid (And.intro cG (And.intro bG (And.intro tG kG)))
        clear cG bG tG kG hsAll hS hW
        go_wp2_with fail
        go_meet
        exact ⟨rfl, _, RES.out⟩
      · have EV := Lib.hid (And.intro hroom hrow)
        clear hroom hrow
        apply wp_region_draw_tail 9 (.eq _ :: .eq _ :: .eq _ :: .eq _ :: .eq _ :: .eq _ :: .eq _ :: .ok (NewRow wF.heap.size (⟨(a : Int), y0 + 1, 0, 1, s.v a, [effG], 0⟩ : ItemD) (.slice (some ⟨ga, 0, none⟩) 3 ca) (.slice ae 1 ce)) :: .ok (LongRow wF.heap.size w.heap.size ((f (a)).2.length + 1) ((f (a)).2 ++ [(⟨(a : Int), y0 + 1, 0, 1, s.v a, [effG], 0⟩ : ItemD)])) :: []) (by kernel_rfl) (by kernel_rfl) ⟨NewRow.mono _ _ _ _, LongRow.mono _ _ _ _, trivial⟩
        apply wpG_eq
        · intro W hW hs
          unfold opG
          go_simp
          first | exact resG_eq_mk _ _ _ | rfl
        simp only [Act.put, List.setIfInBounds_toArray, List.set_cons_zero, List.set_cons_succ]
        apply wpG_eq
        · intro W hW hs
          unfold opG
          go_simp
          first | exact resG_eq_mk _ _ _ | rfl
        simp only [Act.put, List.setIfInBounds_toArray, List.set_cons_zero, List.set_cons_succ]
        apply wpG_eq
        · intro W hW hs
          unfold opG
          go_simp
          first | exact resG_eq_mk _ _ _ | rfl
        simp only [Act.put, List.setIfInBounds_toArray, List.set_cons_zero, List.set_cons_succ]
        apply wpG_eq
        · intro W hW hs
          unfold opG
          go_simp
          first | exact resG_eq_mk _ _ _ | rfl
        simp only [Act.put, List.setIfInBounds_toArray, List.set_cons_zero, List.set_cons_succ]
        apply wpG_eq
        · intro W hW hs
          unfold opG
          go_simp
          first | exact resG_eq_mk _ _ _ | rfl
        simp only [Act.put, List.setIfInBounds_toArray, List.set_cons_zero, List.set_cons_succ]
        apply wpG_eq
        · intro W hW hs
          obtain ⟨o0, x0, x1, x2, x3, x4, x5, x6⟩ := FT.out
          have o0' := hW.drew0 o0
          clear o0 x0 x1 x2 x3 x4 x5 x6
          unfold opG
          go_simp
          first | exact resG_eq_mk _ _ _ | rfl
        simp only [Act.put, List.setIfInBounds_toArray, List.set_cons_zero, List.set_cons_succ]
        apply wpG_eq
        · intro W hW hs
          obtain ⟨o0, x0, x1, x2, x3, x4, x5, x6⟩ := FT.out
          have x0' := hW.drew0 x0
          have x1' := hW.drew0 x1
          have x2' := hW.drew0 x2
          have x3' := hW.drew0 x3
          have x4' := hW.drew0 x4
          have x5' := hW.drew0 x5
          have x6' := hW.drew0 x6
          clear o0 x0 x1 x2 x3 x4 x5 x6
          unfold opG
          go_simp
          first | exact resG_eq_mk _ _ _ | rfl
        simp only [Act.put, List.setIfInBounds_toArray, List.set_cons_zero, List.set_cons_succ]
        apply wpG_ok
        · intro W hW hs
          unfold opG
          go_simp
          refine resG_mk ((Gr.refl _).alloc _) ?_
          exact ⟨W.heap.size, rfl, hW.size, CellsAt.new W _ 33⟩
        intro vy
        simp only [Act.put, List.setIfInBounds_toArray, List.set_cons_zero, List.set_cons_succ]
        apply wpG_ok
        · intro W hW hs
          have hy : NewRow wF.heap.size (⟨(a : Int), y0 + 1, 0, 1, s.v a, [effG], 0⟩ : ItemD) (.slice (some ⟨ga, 0, none⟩) 3 ca) (.slice ae 1 ce) vy W := hs _ (.head _) rfl
          obtain ⟨v9, w9, hr9, hi9, hc9⟩ := app_new EV.out.2 hW EV.out.1 hy HXR.out HL.out BW.out.size
          have HI9 := Lib.hid (And.intro hi9 hc9)
          exact opG_run_append hr9 rfl _ _ rfl rfl rfl HI9.out.2 HI9.out.1
        intro vz
        simp only [Act.put, List.setIfInBounds_toArray, List.set_cons_zero, List.set_cons_succ]
        apply wpG_nil
        intro W hW hsAll
        have hz : LongRow wF.heap.size w.heap.size ((f (a)).2.length + 1) ((f (a)).2 ++ [(⟨(a : Int), y0 + 1, 0, 1, s.v a, [effG], 0⟩ : ItemD)]) vz W := hsAll _ (.head _)
        obtain ⟨az, cz, rfl, hz1, hz2⟩ := hz
        have hg0 : Gr wF W := Gr.trans ((Gr.refl wF).drew) hW
        obtain ⟨q1, q2, cG, bG, tG, kG⟩ := C.out.putO a ha3 hz1 (fun j hj _ => hg0.block j hj) (.inr hz2) w (Below.trans BW.out (hg0.mono BW.out.size))
        have RES := Lib.hid (And.intro cG (And.intro bG (And.intro tG kG)))
        clear cG bG tG kG hsAll hz1 hz2 hg0 hW
        go_wp2_with fail
        go_meet
        exact ⟨rfl, _, RES.out⟩
    case rest =>
    obtain ⟨rfl, vn, hcut⟩ := hcut
    obtain ⟨wH, hwn⟩ : ∃ x, x = wc := ⟨_, rfl⟩
    rw [← hwn] at hcut ⊢
    obtain ⟨f1, hf1⟩ : ∃ fq, fq = upd f (a) (vn, (f (a)).2 ++ [(⟨(a : Int), y0 + 1, 0, 1, s.v a, [effG], 0⟩ : ItemD)]) := ⟨_, rfl⟩
    rw [← hf1] at hcut
    have RwH := Lib.hid hcut
    have HFf1 := Lib.hid hf1
    clear hcut hf1 hwn
    obtain ⟨hXh, hQh⟩ := RwH.out.2.2.2 X (Nat.lt_of_lt_of_le HXB.out GF.out.size) HXO.out.1 HXQ.out
    have HXH : Hid (CellsAt wH X (itemCells (⟨(a : Int), y0 + 1, 0, 1, s.v a, [effG], 0⟩ : ItemD) (.slice (some ⟨ga, 0, none⟩) 3 ca) (.slice ae 1 ce)) 33) := Lib.hid (by rw [HXL.out]; exact hXh.trans (HXE.out.gr GF.out))
    have hxH := HXR.out.keepT RwH.out.2.2.1
    have x0 : wH.cell? ⟨X, 0, none⟩ = some (.int .i64 (a : Int)) := HXH.out.cell 0
    have x1 : wH.cell? ⟨X, 1, none⟩ = some (.int .u64 ((y0 : Int) + 1)) := HXH.out.cell 1
    have x2 : wH.cell? ⟨X, 2, none⟩ = some (.int .i64 0) := HXH.out.cell 2
    have x3 : wH.cell? ⟨X, 3, none⟩ = some (.int .u64 1) := HXH.out.cell 3
    have x4 : wH.cell? ⟨X, 4, none⟩ = some (.slice (some ⟨ga, 0, none⟩) 3 ca) := HXH.out.cell 4
    have x5 : wH.cell? ⟨X, 5, none⟩ = some (.slice ae 1 ce) := HXH.out.cell 5
    have x6 : wH.cell? ⟨X, 6, none⟩ = some (.int .u32 0) := HXH.out.cell 6
    have e3 : f1 (a + 3) = f (a + 3) := by rw [HFf1.out]; exact upd_ne _ _ _ _ (by omega)
    have hl3 : (f1 (a + 3)).2.length ≤ 10000 := by
      have := HHL.out a ha3
      rw [e3, HFH.out a ha3]; omega
    clear C BW HXR HL FT
    have C := Lib.hid RwH.out.1
    have BW := Lib.hid RwH.out.2.1
    have HXR := Lib.hid hxH
    have HL := Lib.hid hl3
    have HXQ2 := Lib.hid hQh
    clear HXQ
    have HXQ := HXQ2
    have o0 : wH.cell? ⟨H, a, none⟩ = some (f1 (a + 3)).1 := C.out.h.cell a ha3
    have FT := Lib.hid (And.intro o0 (And.intro x0 (And.intro x1 (And.intro x2 (And.intro x3 (And.intro x4 (And.intro x5 x6)))))))
    clear e3 hl3 hxH hXh hQh o0 x0 x1 x2 x3 x4 x5 x6
    go_upto_region 24 with fail
    go_cut [9] (fun s9 wx => s9 = .int .i64 (a : Int) ∧ ∃ v', CzF wx w.heap.size O H V (upd f1 (a + 3) (v', (f1 (a + 3)).2 ++ [(⟨(a : Int), y0 + 1, 0, 1, s.v a, [effG], 0⟩ : ItemD)])) u s.v ∧ Below w.heap.size w wx ∧ KeepT wH wx ∧ ∀ X, X < wH.heap.size → X ≠ H → (∀ q, q < 7 → (f1 q).1.ownBlock ≠ some X) → wx.heap[X]? = wH.heap[X]? ∧ ∀ q, q < 7 → (upd f1 (a + 3) (v', (f1 (a + 3)).2 ++ [(⟨(a : Int), y0 + 1, 0, 1, s.v a, [effG], 0⟩ : ItemD)]) q).1.ownBlock ≠ some X)
    case first =>
      have hrow := C.out.rows.1 (a + 3) (by omega)
      by_cases hroom : ∃ g cap, (f1 (a + 3)).1 = .slice (some ⟨g, 0, none⟩) (f1 (a + 3)).2.length cap ∧ (f1 (a + 3)).2.length + 1 ≤ cap
      · obtain ⟨g, cap, eV, hcap⟩ := hroom
        have hgo : (f1 (a + 3)).1.ownBlock = some g := by rw [eV]; rfl
        obtain ⟨csg, hgc⟩ := hrow.cells g hgo
        have hgl := (hrow.lt g hgo).2
        have hgT : H ≠ g := fun e => by have h9 := C.out.h; unfold Tab at h9; rw [e] at h9; have := cells_type h9 hgc; cases this
        have hgX : X ≠ g := fun e => HXQ.out _ (by omega) (e ▸ hgo)
        have EV := Lib.hid (And.intro eV (And.intro hcap (And.intro hrow (And.intro hgl hgc))))
        clear eV hcap hgo hrow hgl hgc
        apply wp_region_draw_turnTail 9 (fun j => j = g) (fun j W => (j = 0 → W.heap[g]? = wH.heap[g]?) ∧ (j = 1 → ItemsT W w.heap.size (.slice (some ⟨g, 0, none⟩) ((f1 (a + 3)).2.length + 1) cap) ((f1 (a + 3)).2 ++ [(⟨(a : Int), y0 + 1, 0, 1, s.v a, [effG], 0⟩ : ItemD)]))) (.eq _ :: .eq _ :: .eq _ :: .eq _ :: .eq _ :: .eq _ :: .eq _ :: .ok (NewRow wH.heap.size (⟨(a : Int), y0 + 1, 0, 1, s.v a, [effG], 0⟩ : ItemD) (.slice (some ⟨ga, 0, none⟩) 3 ca) (.slice ae 1 ce)) :: .useEq (.slice (some ⟨g, 0, none⟩) ((f1 (a + 3)).2.length + 1) cap) :: []) (by kernel_rfl) (by kernel_rfl) ⟨NewRow.monoT _ _ EV.out.2.2.2.1 _ _ _, trivial⟩
          (fun k W W' hg h => ⟨fun e => (hg.block g (Array.getElem?_eq_some_iff.1 ((h.1 e).trans EV.out.2.2.2.2)).1).trans (h.1 e), fun e => (h.2 e).keep (KeepT.gr hg) (fun j hj => hg.block j ((h.2 e).lt j hj).2)⟩) ⟨fun _ => rfl, fun e => by cases e⟩
        apply wpT_eq
        · intro W hW hs
          unfold opT
          go_simp
          first | exact resT_eq_mk _ _ _ | rfl
        simp only [Act.put, List.setIfInBounds_toArray, List.set_cons_zero, List.set_cons_succ]
        apply wpT_eq
        · intro W hW hs
          unfold opT
          go_simp
          first | exact resT_eq_mk _ _ _ | rfl
        simp only [Act.put, List.setIfInBounds_toArray, List.set_cons_zero, List.set_cons_succ]
        apply wpT_eq
        · intro W hW hs
          unfold opT
          go_simp
          first | exact resT_eq_mk _ _ _ | rfl
        simp only [Act.put, List.setIfInBounds_toArray, List.set_cons_zero, List.set_cons_succ]
        apply wpT_eq
        · intro W hW hs
          unfold opT
          go_simp
          first | exact resT_eq_mk _ _ _ | rfl
        simp only [Act.put, List.setIfInBounds_toArray, List.set_cons_zero, List.set_cons_succ]
        apply wpT_eq
        · intro W hW hs
          unfold opT
          go_simp
          first | exact resT_eq_mk _ _ _ | rfl
        simp only [Act.put, List.setIfInBounds_toArray, List.set_cons_zero, List.set_cons_succ]
        apply wpT_eq
        · intro W hW hs
          obtain ⟨o0, x0, x1, x2, x3, x4, x5, x6⟩ := FT.out
          have o0' := chc hW o0 hgT
          clear o0 x0 x1 x2 x3 x4 x5 x6
          unfold opT
          go_simp
          first | exact resT_eq_mk _ _ _ | rfl
        simp only [Act.put, List.setIfInBounds_toArray, List.set_cons_zero, List.set_cons_succ]
        apply wpT_eq
        · intro W hW hs
          obtain ⟨o0, x0, x1, x2, x3, x4, x5, x6⟩ := FT.out
          have x0' := chc hW x0 hgX
          have x1' := chc hW x1 hgX
          have x2' := chc hW x2 hgX
          have x3' := chc hW x3 hgX
          have x4' := chc hW x4 hgX
          have x5' := chc hW x5 hgX
          have x6' := chc hW x6 hgX
          clear o0 x0 x1 x2 x3 x4 x5 x6
          unfold opT
          go_simp
          first | exact resT_eq_mk _ _ _ | rfl
        simp only [Act.put, List.setIfInBounds_toArray, List.set_cons_zero, List.set_cons_succ]
        apply wpT_ok
        · intro W hW hs
          unfold opT
          go_simp
          refine resT_mk ((Gr.refl _).alloc _) ?_
          exact ⟨W.heap.size, rfl, hW.size, CellsAt.new W _ 33⟩
        intro vy
        simp only [Act.put, List.setIfInBounds_toArray, List.set_cons_zero, List.set_cons_succ]
        apply wpT_useEq
        · intro W hW hS hs
          have hy : NewRow wH.heap.size (⟨(a : Int), y0 + 1, 0, 1, s.v a, [effG], 0⟩ : ItemD) (.slice (some ⟨ga, 0, none⟩) 3 ca) (.slice ae 1 ce) vy W := hs _ (.head _) rfl
          obtain ⟨w9, hr9, hi9, hc9⟩ := app_room EV.out.2.2.1 hW (hS.1 rfl) EV.out.1 EV.out.2.1 hy HXR.out HL.out BW.out.size
          have HI9 := Lib.hid (And.intro hi9 hc9)
          exact opT_run_append hr9 rfl _ _ rfl rfl rfl ⟨HI9.out.2, And.intro (fun e => absurd e (by decide)) (fun _ => HI9.out.1)⟩ rfl
        simp only [Act.put, List.setIfInBounds_toArray, List.set_cons_zero, List.set_cons_succ]
        apply wpT_nil
        intro W hW hS hsAll
        obtain ⟨q1, q2, cG, bG, tG, kG⟩ := C.out.putH a ha3 (hS.2 rfl) (fun j hj hne => hW.block j hj (fun e => hne (by have h9 : j = g := e; rw [h9, EV.out.1]; rfl))) (.inl (by rw [EV.out.1]; rfl)) w (Below.trans BW.out (Below.trans (Below.mono ((Gr.refl wH).drew) BW.out.size) (hW.below BW.out.size (fun j e => by have h9 : j = g := e; rw [h9]; exact ((C.out.rows.1 (a + 3) (by omega)).lt g (by rw [EV.out.1]; rfl)).1))))
        have RES := Lib.hid (And.intro cG (And.intro bG (And.intro tG kG)))
        clear cG bG tG kG hsAll hS hW
        go_wp2_with fail
        go_meet
        exact ⟨rfl, _, RES.out⟩
      · have EV := Lib.hid (And.intro hroom hrow)
        clear hroom hrow
        apply wp_region_draw_tail 9 (.eq _ :: .eq _ :: .eq _ :: .eq _ :: .eq _ :: .eq _ :: .eq _ :: .ok (NewRow wH.heap.size (⟨(a : Int), y0 + 1, 0, 1, s.v a, [effG], 0⟩ : ItemD) (.slice (some ⟨ga, 0, none⟩) 3 ca) (.slice ae 1 ce)) :: .ok (LongRow wH.heap.size w.heap.size ((f1 (a + 3)).2.length + 1) ((f1 (a + 3)).2 ++ [(⟨(a : Int), y0 + 1, 0, 1, s.v a, [effG], 0⟩ : ItemD)])) :: []) (by kernel_rfl) (by kernel_rfl) ⟨NewRow.mono _ _ _ _, LongRow.mono _ _ _ _, trivial⟩
        apply wpG_eq
        · intro W hW hs
          unfold opG
          go_simp
          first | exact resG_eq_mk _ _ _ | rfl
        simp only [Act.put, List.setIfInBounds_toArray, List.set_cons_zero, List.set_cons_succ]
        apply wpG_eq
        · intro W hW hs
          unfold opG
          go_simp
          first | exact resG_eq_mk _ _ _ | rfl
        simp only [Act.put, List.setIfInBounds_toArray, List.set_cons_zero, List.set_cons_succ]
        apply wpG_eq
        · intro W hW hs
          unfold opG
          go_simp
          first | exact resG_eq_mk _ _ _ | rfl
        simp only [Act.put, List.setIfInBounds_toArray, List.set_cons_zero, List.set_cons_succ]
        apply wpG_eq
        · intro W hW hs
          unfold opG
          go_simp
          first | exact resG_eq_mk _ _ _ | rfl
        simp only [Act.put, List.setIfInBounds_toArray, List.set_cons_zero, List.set_cons_succ]
        apply wpG_eq
        · intro W hW hs
          unfold opG
          go_simp
          first | exact resG_eq_mk _ _ _ | rfl
        simp only [Act.put, List.setIfInBounds_toArray, List.set_cons_zero, List.set_cons_succ]
        apply wpG_eq
        · intro W hW hs
          obtain ⟨o0, x0, x1, x2, x3, x4, x5, x6⟩ := FT.out
          have o0' := hW.drew0 o0
          clear o0 x0 x1 x2 x3 x4 x5 x6
          unfold opG
          go_simp
          first | exact resG_eq_mk _ _ _ | rfl
        simp only [Act.put, List.setIfInBounds_toArray, List.set_cons_zero, List.set_cons_succ]
        apply wpG_eq
        · intro W hW hs
          obtain ⟨o0, x0, x1, x2, x3, x4, x5, x6⟩ := FT.out
          have x0' := hW.drew0 x0
          have x1' := hW.drew0 x1
          have x2' := hW.drew0 x2
          have x3' := hW.drew0 x3
          have x4' := hW.drew0 x4
          have x5' := hW.drew0 x5
          have x6' := hW.drew0 x6
          clear o0 x0 x1 x2 x3 x4 x5 x6
          unfold opG
          go_simp
          first | exact resG_eq_mk _ _ _ | rfl
        simp only [Act.put, List.setIfInBounds_toArray, List.set_cons_zero, List.set_cons_succ]
        apply wpG_ok
        · intro W hW hs
          unfold opG
          go_simp
          refine resG_mk ((Gr.refl _).alloc _) ?_
          exact ⟨W.heap.size, rfl, hW.size, CellsAt.new W _ 33⟩
        intro vy
        simp only [Act.put, List.setIfInBounds_toArray, List.set_cons_zero, List.set_cons_succ]
        apply wpG_ok
        · intro W hW hs
          have hy : NewRow wH.heap.size (⟨(a : Int), y0 + 1, 0, 1, s.v a, [effG], 0⟩ : ItemD) (.slice (some ⟨ga, 0, none⟩) 3 ca) (.slice ae 1 ce) vy W := hs _ (.head _) rfl
          obtain ⟨v9, w9, hr9, hi9, hc9⟩ := app_new EV.out.2 hW EV.out.1 hy HXR.out HL.out BW.out.size
          have HI9 := Lib.hid (And.intro hi9 hc9)
          exact opG_run_append hr9 rfl _ _ rfl rfl rfl HI9.out.2 HI9.out.1
        intro vz
        simp only [Act.put, List.setIfInBounds_toArray, List.set_cons_zero, List.set_cons_succ]
        apply wpG_nil
        intro W hW hsAll
        have hz : LongRow wH.heap.size w.heap.size ((f1 (a + 3)).2.length + 1) ((f1 (a + 3)).2 ++ [(⟨(a : Int), y0 + 1, 0, 1, s.v a, [effG], 0⟩ : ItemD)]) vz W := hsAll _ (.head _)
        obtain ⟨az, cz, rfl, hz1, hz2⟩ := hz
        have hg0 : Gr wH W := Gr.trans ((Gr.refl wH).drew) hW
        obtain ⟨q1, q2, cG, bG, tG, kG⟩ := C.out.putH a ha3 hz1 (fun j hj _ => hg0.block j hj) (.inr hz2) w (Below.trans BW.out (hg0.mono BW.out.size))
        have RES := Lib.hid (And.intro cG (And.intro bG (And.intro tG kG)))
        clear cG bG tG kG hsAll hz1 hz2 hg0 hW
        go_wp2_with fail
        go_meet
        exact ⟨rfl, _, RES.out⟩
    case rest =>
    obtain ⟨rfl, vn, hcut⟩ := hcut
    obtain ⟨wJ, hwn⟩ : ∃ x, x = wc := ⟨_, rfl⟩
    rw [← hwn] at hcut ⊢
    obtain ⟨f2, hf1⟩ : ∃ fq, fq = upd f1 (a + 3) (vn, (f1 (a + 3)).2 ++ [(⟨(a : Int), y0 + 1, 0, 1, s.v a, [effG], 0⟩ : ItemD)]) := ⟨_, rfl⟩
    rw [← hf1] at hcut
    have RwJ := Lib.hid hcut
    have HFf2 := Lib.hid hf1
    clear hcut hf1 hwn
    clear C BW HXR HL FT
    have C := Lib.hid RwJ.out.1
    have BW := Lib.hid RwJ.out.2.1
    have hq0 : wJ.cell? ⟨V, a, none⟩ = some (.slice (some ⟨ga, 0, none⟩) 3 ca) := by have := C.out.t.cell a ha3; rw [HEUA.out, hla] at this; exact this
    have QV0 := Lib.hid hq0
    have hvs : Sl wJ (.slice (some ⟨ga, 0, none⟩) 3 ca) (nums (s.v a)) := by have := (C.out.vec a ha3).sl; rw [HEUA.out, hla] at this; exact this
    have HVS := Lib.hid hvs
    clear hq0 hvs
    have q0 := QV0.out
    go_wp2_with fail
    clear q0
    refine (inc_any _ _ (s.v a) (a : Int) HVS.out (by omega) (by omega) (by omega)).mono ?_
    rintro e W2 ⟨v5, rfl, ho5, g5⟩
    have gW : Gr wJ W2 := g5
    have ho6 : Own W2 w.heap.size 23 v5 (nums (incV (s.v a) (a : Int))) := ho5.mono BW.out.size
    obtain ⟨av5, cv5, e5⟩ : ∃ x y, v5 = .slice x 3 y := by obtain ⟨x, y, e⟩ := ho6.shape; exact ⟨x, y, by rw [e, nums_length, incV_len, hla]⟩
    rw [e5] at ho6 ⊢
    clear ho5
    have c5 := C.out.gr gW
    have b5 := Below.trans BW.out (gW.mono BW.out.size)
    have q1 := c5.t.cell a ha3
    have q2 := c5.t.frozen a
    have C5 := Lib.hid (c5.setV a ha3 (.slice av5 3 cv5) _ ho6)
    have B5 := Lib.hid (Below.setCell b5 c5.bv (p := ⟨V, a, none⟩) (.slice av5 3 cv5))
    clear c5 b5 ho6 gW g5 e5
    go_wp2
    go_roundw
    case rel =>
      have hst : runC l (k + 1) = makeS k s a := by rw [HSN.out, show (d % 2 == 0) = true by simp [hmk]]; rfl
      have hown : ∀ i, i < 3 → (f2 i).2 = (makeS k s a).own i := fun i hi => by
        have e1 : f2 i = f1 i := by rw [HFf2.out]; exact upd_ne _ _ _ _ (by omega)
        rw [e1, HFf1.out]
        show _ = upd s.own a (s.own a ++ [itemC a (s.v a)]) i
        by_cases e : i = a
        · rw [e, upd_self, upd_self, HFO.out a ha3, HXL.out]
        · rw [upd_ne _ _ _ _ e, upd_ne _ _ _ _ e, HFO.out i hi]
      have hhas : ∀ i, i < 3 → (f2 (i + 3)).2 = (makeS k s a).has i := fun i hi => by
        have e3 : f1 (a + 3) = f (a + 3) := by rw [HFf1.out]; exact upd_ne _ _ _ _ (by omega)
        rw [HFf2.out]
        show _ = upd s.has a (s.has a ++ [itemC a (s.v a)]) i
        by_cases e : i = a
        · rw [e, upd_self, upd_self, e3, HFH.out a ha3, HXL.out]
        · rw [upd_ne _ _ _ _ (by omega), upd_ne _ _ _ _ e, HFf1.out, upd_ne _ _ _ _ (by omega), HFH.out i hi]
      have hnx : f2 6 = nx := by rw [HFf2.out, upd_ne _ _ _ _ (by omega), HFf1.out, upd_ne _ _ _ _ (by omega)]; exact HF6.out
      have hfin := fun W' (hc : CzF W' w.heap.size O H V f2 (upd u a (.slice av5 3 cv5)) (upd s.v a (incV (s.v a) (a : Int)))) (hb : Below w.heap.size w W') => (show CzR w W' O H V (runC l (k + 1)).own (runC l (k + 1)).has (runC l (k + 1)).v nx by rw [hst]; exact ⟨f2, _, hc, hown, hhas, hnx, hb⟩)
      first
        | exact ⟨k + 1, by omega, by go_num, nx, hfin _ C5.out B5.out⟩
        | ((repeat apply Exists.intro); apply And.intro; rotate_left; rfl; exact ⟨k + 1, by omega, by go_num, nx, hfin _ C5.out B5.out⟩)
    case measure => (first | (simp [intOf]; omega) | (show _ < _; simp [intOf]; omega))
end Go.Proofs.Ytpdninnnpoiblaa
