/-
  StreamCausal: the end.
-/
import Derived.Test.YtpdninnnpoiblaaCausalA
set_option linter.unusedVariables false
namespace Go.Proofs.Ytpdninnnpoiblaa
open Go.RowKit
set_option maxHeartbeats 0 in
set_option maxRecDepth 100000 in
theorem causal_end : causal_split.2.2.1 := by
  refine fun w => ?_
  intro l R a0 c0 HR HX n hm HN h60 h60' w1 w2 w3 O H V in1 in2 in3 in4 in5 u24 u25 u26 u27 u28 u29 u30 u31 u32 u33 u34 u35 u36 u37 u in6 in7 in8 in9 in10 in11 in12 wr u2 u8 u9 u10 u11 u12 u13 u38 u39 u40 u41 u42 u43 u44 u45 u46 u47 u48 u49 u50 u51 u52 u53 u54 u55 u56 u57 u58 u59 u60 u61 u62 u63 u64 u65 u66 u67 u68 u69 u70 u71 u72 u73 u74 u75 u76 u77 u78 u79 u80 u81 u82 u83 u84 u85 u86 u87 u88 u89 u90 u91 u92 u93 u94 u95 u96 u97 u98 u99 u100 u101 u102 u103 u104 u105 u106 u107 u108 u109 u110 u111 u112 u113 u114 u115 u116 u117 u118 u119 u120 u121 u122 u123 u124 u125 u126 u127 u128 u129 u130 u131 u132 u133 u134 u135 u136 u137 u138 u139 u140 u141 u142 u143 u144 u145 u146 u147 u148 u149 u150 u151 u152 u153 u154 u155 u156 u157 u158 u159 u160 u161 u162 u163 u164 u165 u166 u167 u168 u169 u170 u171 u172 u173 u174 u175 u176 u177 u178 k hk nx HCZ hlt
  · obtain rfl : k = n + 200 := by omega
    obtain ⟨s, hs⟩ : ∃ s, s = runC l (n + 200) := ⟨_, rfl⟩
    rw [← hs] at HCZ
    have h60l : l.length ≤ 60 := by rw [← HN.out]; exact h60'
    have hinv : Inv (n + 200) s := by rw [hs]; exact inv_run l h60l _
    have hsame : ∀ i, i < 3 → s.v i = s.v 0 := fun i hi => by rw [hs, HN.out]; exact all_same l h60l i hi
    have hol : ∀ j, (s.own j).length ≤ 60 := fun j => by rw [hs]; have := (own_len l (n + 200) j).2; omega
    have hhl : ∀ i, i < 3 → (s.has i).length ≤ 10000 := fun i hi => by rw [hs]; have := has_len l h60l (n + 200) i hi; omega
    have HINV := Lib.hid hinv
    have HSAME := Lib.hid hsame
    have HOL := Lib.hid hol
    have HHL := Lib.hid hhl
    clear hs h60l hinv hsame hol hhl
    go_wp2_with fail
    go_loopw [14] (fun i W => ∃ j : Nat, j ≤ 3 ∧ i = .int .i64 j ∧ CzR w W O H V s.own s.has s.v nx) (fun i _ => 3 - (intOf i).toNat)
    case atStart => exact ⟨0, Nat.zero_le _, rfl, HCZ.out⟩
    case round =>
      clear HCZ
      obtain ⟨j, hj, rfl, hcz⟩ := hrel
      have HCZ := Lib.hid hcz
      clear hcz
      by_cases hj3 : j < 3
      · go_wp2_with fail
        refine (new_n _ 3).mono ?_
        rintro e w4 ⟨v4, rfl, ho, g4⟩
        have hnv : newV 3 = [0, 0, 0] := by rfl
        rw [hnv] at ho
        have hBw : w.heap.size ≤ wr.heap.size := by obtain ⟨_, _, _, _, _, _, h⟩ := HCZ.out; exact h.size
        obtain ⟨x4, y4, e4⟩ : ∃ x y, v4 = .slice x 3 y := by obtain ⟨x, y, e⟩ := ho.shape; exact ⟨x, y, e⟩
        rw [e4] at ho ⊢
        have HO4 := Lib.hid (ho.mono (base' := w.heap.size) hBw)
        have HC4 := Lib.hid (HCZ.out.gr g4)
        clear ho g4 e4 hBw hnv
        have hj0i : (0 : Int) ≤ (j : Int) := by omega
        have hj3i : (j : Int) < 3 := by omega
        go_wp2
        go_loopw [15, 16] (fun v i W => ∃ q : Nat, q ≤ (s.has j).length ∧ i = .int .i64 q ∧ (∃ x y, v = .slice x 3 y) ∧ Own W w.heap.size 23 v (nums (seenV ((s.has j).take q))) ∧ CzR w W O H V s.own s.has s.v nx) (fun _ i _ => (s.has j).length - (intOf i).toNat)
        case atStart => exact ⟨0, Nat.zero_le _, rfl, ⟨_, _, rfl⟩, HO4.out, HC4.out⟩
        case round =>
          clear HO4 HC4
          obtain ⟨q, hq, rfl, ⟨xs, ys, rfl⟩, hse, hcz⟩ := hrel
          obtain ⟨f, u, cf, hfo, hfh, hf6, hbw⟩ := hcz
          have hrowh := cf.rows.1 (j + 3) (by omega)
          rw [hfh j hj3] at hrowh
          obtain ⟨ah, ch, eh⟩ := hrowh.shape
          obtain ⟨mh, hmh⟩ : ∃ m, m = (s.has j).length := ⟨_, rfl⟩
          rw [← hmh] at hq eh ⊢
          have qh : wr.cell? ⟨H, j, none⟩ = some (f (j + 3)).1 := cf.h.cell j hj3
          rw [eh] at qh
          have HMH := Lib.hid hmh
          have HSE := Lib.hid hse
          have CF := Lib.hid cf
          have HFO := Lib.hid hfo
          have HFH := Lib.hid hfh
          have HF6 := Lib.hid hf6
          have HBW := Lib.hid hbw
          have HROW := Lib.hid hrowh
          have HEH := Lib.hid eh
          have hmhl : mh ≤ 10000 := by rw [hmh]; exact HHL.out j hj3
          clear hse cf hfo hfh hf6 hbw hrowh hmh eh
          by_cases hqm : q < mh
          · skip
            have hqy : q < (s.has j).length := by rw [← HMH.out]; exact hqm
            obtain ⟨gh, ch2, su, eu, e6, hg6, p0, p1, p2, p3, p4, p5, p6, hix⟩ := HROW.out.at q hqy
            have e7 : ah = some ⟨gh, 0, none⟩ := by
              have e8 := HEH.out.symm.trans e6
              injection e8
            subst e7
            obtain ⟨o, st, ho3, hstl, hxe, hrd, hown⟩ := (HINV.out.has j hj3).at q hqy
            rw [hxe] at p0 p1 p2 p3 p6 hix
            obtain ⟨z, hz⟩ : ∃ z, z = st.getD o 0 := ⟨_, rfl⟩
            rw [← hz] at hown
            obtain ⟨hzl, hze⟩ := List.getElem?_eq_some_iff.1 hown
            have hz60 : z < 60 := by have := HOL.out o; omega
            obtain ⟨sq, hsq⟩ : ∃ sq, sq = seenV ((s.has j).take q) := ⟨_, rfl⟩
            rw [← hsq] at HSE hrd
            have hsl : sq.length = 3 := by rw [hsq]; exact seenV_len _
            have hri := (ready_iff ho3 hstl hsl).1 hrd
            have hsz : sq[o]? = some z := by rw [List.getElem?_eq_getElem (by omega), ← getD_eq (by omega), ← hri.1, hz]
            have hleq : leqV st sq = true := by
              have h9 := hrd
              unfold readyV at h9
              rw [Bool.and_eq_true] at h9
              exact h9.2
            have hnext : seenV ((s.has j).take (q + 1)) = incV sq (o : Int) := by rw [List.take_add_one, List.getElem?_eq_getElem hqy, hsq, hxe]; exact seenV_snoc _ _
            have hxl : (⟨(o : Int), z + 1, 0, 1, st, [effG], 0⟩ : ItemD) = itemC o st := by rw [hz]; rfl
            obtain ⟨gs, cs, es, _, hgs, _⟩ := HSE.out.formN (by omega)
            rw [hsl] at es
            injection es with es1 _ es3
            subst es1 es3
            have sc : wr.cell? ⟨gs, o, none⟩ = some (.int .u64 (z : Int)) := by
              have h9 : Own wr w.heap.size 23 (.slice (some ⟨gs, 0, none⟩) sq.length ys) (nums sq) := by rw [hsl]; exact HSE.out
              exact h9.cellN o z hsz
            have hrowo := CF.out.rows.1 o (by omega)
            rw [HFO.out o ho3] at hrowo
            obtain ⟨go, co, su2, eu2, eo, hgo, r0, r1, r2, r3, r4, r5, r6, hix2⟩ := hrowo.at z hzl
            rw [hze] at r0 r1 r2 r3 r6 hix2
            obtain ⟨mo, hmo⟩ : ∃ m, m = (s.own o).length := ⟨_, rfl⟩
            rw [← hmo] at eo hzl
            have oc : wr.cell? ⟨O, o, none⟩ = some (f o).1 := CF.out.o.cell o ho3
            rw [eo] at oc
            obtain ⟨a1, n1, c1, rfl⟩ : ∃ a n c, su = .slice a n c := by obtain ⟨x1, y1, z1⟩ := hix.1.shape; exact ⟨x1, _, y1, z1⟩
            obtain ⟨a2, n2, c2, rfl⟩ : ∃ a n c, eu = .slice a n c := by obtain ⟨x1, y1, z1⟩ := hix.2.shape; exact ⟨x1, _, y1, z1⟩
            obtain ⟨a3, n3, c3, rfl⟩ : ∃ a n c, su2 = .slice a n c := by obtain ⟨x1, y1, z1⟩ := hix2.1.shape; exact ⟨x1, _, y1, z1⟩
            obtain ⟨a4, n4, c4, rfl⟩ : ∃ a n c, eu2 = .slice a n c := by obtain ⟨x1, y1, z1⟩ := hix2.2.shape; exact ⟨x1, _, y1, z1⟩
            rw [← hxl] at p0 p1 p2 p3 p6 hix r0 r1 r2 r3 r6 hix2
            replace p0 : wr.cell? ⟨gh, q * 7, none⟩ = some (.int .i64 (o : Int)) := p0
            replace p1 : wr.cell? ⟨gh, q * 7 + 1, none⟩ = some (.int .u64 ((z : Int) + 1)) := p1
            replace p2 : wr.cell? ⟨gh, q * 7 + 2, none⟩ = some (.int .i64 0) := p2
            replace p3 : wr.cell? ⟨gh, q * 7 + 3, none⟩ = some (.int .u64 1) := p3
            replace p6 : wr.cell? ⟨gh, q * 7 + 6, none⟩ = some (.int .u32 0) := p6
            replace r0 : wr.cell? ⟨go, z * 7, none⟩ = some (.int .i64 (o : Int)) := r0
            replace r1 : wr.cell? ⟨go, z * 7 + 1, none⟩ = some (.int .u64 ((z : Int) + 1)) := r1
            replace r2 : wr.cell? ⟨go, z * 7 + 2, none⟩ = some (.int .i64 0) := r2
            replace r3 : wr.cell? ⟨go, z * 7 + 3, none⟩ = some (.int .u64 1) := r3
            replace r6 : wr.cell? ⟨go, z * 7 + 6, none⟩ = some (.int .u32 0) := r6
            have HIX := Lib.hid hix
            have HIX2 := Lib.hid hix2
            have HLQ := Lib.hid hleq
            have HNX := Lib.hid hnext
            have FR := Lib.hid (And.intro sc (And.intro oc (And.intro r0 (And.intro r1 (And.intro r2 (And.intro r3 (And.intro r4 (And.intro r5 r6))))))))
            have hq0 : (0 : Int) ≤ (q : Int) := by omega
            have hq1 : (q : Int) < (mh : Int) := by omega
            clear e6 hxe hrd hown hze hz hsq hri hsz hleq hnext hxl hrowo eo hix hix2 sc oc r0 r1 r2 r3 r4 r5 r6 hmo
            go_upto_region 41 with fail
            clear p0 p1 p2 p3 p4 p5 p6 qh
            obtain ⟨wx, hwx⟩ : ∃ wx, wx = wr.alloc (.cells #[.int .i64 (o : Int), .int .u64 ((z : Int) + 1), .int .i64 0, .int .u64 1, .slice a1 n1 c1, .slice a2 n2 c2, .int .u32 0] 33) := ⟨_, rfl⟩
            rw [← hwx]
            have GX : Hid (Gr wr wx) := Lib.hid (by rw [hwx]; exact (Gr.refl _).alloc _)
            have hkx : CellsAt wx wr.heap.size #[.int .i64 (o : Int), .int .u64 ((z : Int) + 1), .int .i64 0, .int .u64 1, .slice a1 n1 c1, .slice a2 n2 c2, .int .u32 0] 33 := by rw [hwx]; exact CellsAt.new _ _ _
            have x0 : wx.cell? ⟨wr.heap.size, 0, none⟩ = some (.int .i64 (o : Int)) := hkx.cell 0
            have x1 : wx.cell? ⟨wr.heap.size, 1, none⟩ = some (.int .u64 ((z : Int) + 1)) := hkx.cell 1
            have x2 : wx.cell? ⟨wr.heap.size, 2, none⟩ = some (.int .i64 0) := hkx.cell 2
            have x3 : wx.cell? ⟨wr.heap.size, 3, none⟩ = some (.int .u64 1) := hkx.cell 3
            have x4 : wx.cell? ⟨wr.heap.size, 4, none⟩ = some (.slice a1 n1 c1) := hkx.cell 4
            have x5 : wx.cell? ⟨wr.heap.size, 5, none⟩ = some (.slice a2 n2 c2) := hkx.cell 5
            have x6 : wx.cell? ⟨wr.heap.size, 6, none⟩ = some (.int .u32 0) := hkx.cell 6
            obtain ⟨sc, oc, r0, r1, r2, r3, r4, r5, r6⟩ := FR.out
            replace sc := (GX.out.cell' sc).trans sc
            replace oc := (GX.out.cell' oc).trans oc
            replace r0 := (GX.out.cell' r0).trans r0
            replace r1 := (GX.out.cell' r1).trans r1
            replace r2 := (GX.out.cell' r2).trans r2
            replace r3 := (GX.out.cell' r3).trans r3
            replace r4 := (GX.out.cell' r4).trans r4
            replace r5 := (GX.out.cell' r5).trans r5
            replace r6 := (GX.out.cell' r6).trans r6
            have FA := Lib.hid (And.intro x0 (And.intro x1 (And.intro x2 (And.intro x3 (And.intro x4 (And.intro x5 (And.intro x6 (And.intro sc (And.intro oc (And.intro r0 (And.intro r1 (And.intro r2 (And.intro r3 (And.intro r4 (And.intro r5 r6)))))))))))))))
            have S1 : Hid (∀ W, Gr wx W → ItemIs W (⟨(o : Int), z + 1, 0, 1, st, [effG], 0⟩ : ItemD) (.slice a1 n1 c1) (.slice a2 n2 c2) ∧ ItemIs W (⟨(o : Int), z + 1, 0, 1, st, [effG], 0⟩ : ItemD) (.slice a3 n3 c3) (.slice a4 n4 c4) ∧ Sl W (.slice (some ⟨gs, 0, none⟩) 3 ys) (nums sq)) := Lib.hid fun W hW =>
              ⟨HIX.out.is.below (Gr.trans GX.out hW), HIX2.out.is.below (Gr.trans GX.out hW), HSE.out.sl.below (Gr.trans GX.out hW)⟩
            have hw1 : IntKind.u64.wrap ((z : Int) + 1) = (z : Int) + 1 := by simp [IntKind.wrap, IntKind.bits, IntKind.signed]; omega
            have hw2 : IntKind.u64.wrap (z : Int) = (z : Int) := by simp [IntKind.wrap, IntKind.bits, IntKind.signed]; omega
            have HWR := Lib.hid (And.intro hw1 hw2)
            have ho0i : (0 : Int) ≤ (o : Int) := by omega
            have ho3i : (o : Int) < 3 := by omega
            have hz0i : (0 : Int) ≤ (z : Int) := by omega
            have hz1i : (z : Int) < (mo : Int) := by omega
            have hn1 : ((o : Int) < 0) = False := eq_false (by omega)
            have hn2 : ((2 : Int) < (o : Int)) = False := eq_false (by omega)
            clear hw1 hw2 hwx hkx sc oc r0 r1 r2 r3 r4 r5 r6 x0 x1 x2 x3 x4 x5 x6
            apply wp_region_draw_grow (.eq _ :: .eq _ :: .eq _ :: .eq _ :: .eq _ :: .eq _ :: .eq _ :: .eq _ :: .eq _ :: .eq _ :: .eq _ :: .eq _ :: .eq _ :: .eq _ :: .eq _ :: .eq _ :: .eq _ :: .eq _ :: .eq _ :: .eq _ :: .eq _ :: .eq _ :: .eq _ :: .eq _ :: .eq _ :: .eq _ :: .eq _ :: .eq _ :: .eq _ :: .eq _ :: .eq _ :: .eq _ :: .eq _ :: .eq _ :: .eq _ :: .eq _ :: .eq _ :: .eq _ :: .eq _ :: .eq _ :: .eq _ :: .eq _ :: .eq _ :: .eq _ :: .eq _ :: .eq _ :: []) (by kernel_rfl) (by kernel_rfl) trivial
            apply wpG_eq
            · intro W hW hs
              unfold opG
              go_simp
              first | exact resG_eq_mk _ _ _ | rfl
            simp only [Act.put, List.setIfInBounds_toArray, List.set_cons_zero, List.set_cons_succ]
            apply wpG_eq
            · intro W hW hs
              unfold opG
              go_simp
              first | exact resG_eq_mk _ _ _ | rfl
            simp only [Act.put, List.setIfInBounds_toArray, List.set_cons_zero, List.set_cons_succ]
            apply wpG_eq
            · intro W hW hs
              unfold opG
              go_simp
              first | exact resG_eq_mk _ _ _ | rfl
            simp only [Act.put, List.setIfInBounds_toArray, List.set_cons_zero, List.set_cons_succ]
            apply wpG_eq
            · intro W hW hs
              unfold opG
              go_simp
              first | exact resG_eq_mk _ _ _ | rfl
            simp only [Act.put, List.setIfInBounds_toArray, List.set_cons_zero, List.set_cons_succ]
            apply wpG_eq
            · intro W hW hs
              unfold opG
              go_simp
              first | exact resG_eq_mk _ _ _ | rfl
            simp only [Act.put, List.setIfInBounds_toArray, List.set_cons_zero, List.set_cons_succ]
            apply wpG_eq
            · intro W hW hs
              obtain ⟨x0, x1, x2, x3, x4, x5, x6, sc, oc, r0, r1, r2, r3, r4, r5, r6⟩ := FA.out
              have x0' := hW.drew0 x0
              clear x0 x1 x2 x3 x4 x5 x6 sc oc r0 r1 r2 r3 r4 r5 r6
              unfold opG
              go_simp
              first | exact resG_eq_mk _ _ _ | rfl
            simp only [Act.put, List.setIfInBounds_toArray, List.set_cons_zero, List.set_cons_succ]
            apply wpG_eq
            · intro W hW hs
              unfold opG
              go_simp
              first | exact resG_eq_mk _ _ _ | rfl
            simp only [Act.put, List.setIfInBounds_toArray, List.set_cons_zero, List.set_cons_succ]
            apply wpG_eq
            · intro W hW hs
              unfold opG
              go_simp
              first | exact resG_eq_mk _ _ _ | rfl
            simp only [Act.put, List.setIfInBounds_toArray, List.set_cons_zero, List.set_cons_succ]
            apply wpG_eq
            · intro W hW hs
              unfold opG
              go_simp
              first | exact resG_eq_mk _ _ _ | rfl
            simp only [Act.put, List.setIfInBounds_toArray, List.set_cons_zero, List.set_cons_succ]
            apply wpG_eq
            · intro W hW hs
              unfold opG
              go_simp
              first | exact resG_eq_mk _ _ _ | rfl
            simp only [Act.put, List.setIfInBounds_toArray, List.set_cons_zero, List.set_cons_succ]
            apply wpG_eq
            · intro W hW hs
              obtain ⟨x0, x1, x2, x3, x4, x5, x6, sc, oc, r0, r1, r2, r3, r4, r5, r6⟩ := FA.out
              have x0' := hW.drew0 x0
              clear x0 x1 x2 x3 x4 x5 x6 sc oc r0 r1 r2 r3 r4 r5 r6
              unfold opG
              go_simp
              first | exact resG_eq_mk _ _ _ | rfl
            simp only [Act.put, List.setIfInBounds_toArray, List.set_cons_zero, List.set_cons_succ]
            apply wpG_eq
            · intro W hW hs
              unfold opG
              go_simp
              first | exact resG_eq_mk _ _ _ | rfl
            simp only [Act.put, List.setIfInBounds_toArray, List.set_cons_zero, List.set_cons_succ]
            apply wpG_eq
            · intro W hW hs
              unfold opG
              go_simp
              first | exact resG_eq_mk _ _ _ | rfl
            simp only [Act.put, List.setIfInBounds_toArray, List.set_cons_zero, List.set_cons_succ]
            apply wpG_eq
            · intro W hW hs
              unfold opG
              go_simp
              first | exact resG_eq_mk _ _ _ | rfl
            simp only [Act.put, List.setIfInBounds_toArray, List.set_cons_zero, List.set_cons_succ]
            apply wpG_eq
            · intro W hW hs
              unfold opG
              go_simp
              first | exact resG_eq_mk _ _ _ | rfl
            simp only [Act.put, List.setIfInBounds_toArray, List.set_cons_zero, List.set_cons_succ]
            apply wpG_eq
            · intro W hW hs
              obtain ⟨x0, x1, x2, x3, x4, x5, x6, sc, oc, r0, r1, r2, r3, r4, r5, r6⟩ := FA.out
              have x1' := hW.drew0 x1
              clear x0 x1 x2 x3 x4 x5 x6 sc oc r0 r1 r2 r3 r4 r5 r6
              unfold opG
              go_simp
              first | exact resG_eq_mk _ _ _ | rfl
            simp only [Act.put, List.setIfInBounds_toArray, List.set_cons_zero, List.set_cons_succ]
            apply wpG_eq
            · intro W hW hs
              unfold opG
              go_simp
              first | exact resG_eq_mk _ _ _ | rfl
            simp only [Act.put, List.setIfInBounds_toArray, List.set_cons_zero, List.set_cons_succ]
            apply wpG_eq
            · intro W hW hs
              unfold opG
              go_simp
              first | exact resG_eq_mk _ _ _ | rfl
            simp only [Act.put, List.setIfInBounds_toArray, List.set_cons_zero, List.set_cons_succ]
            apply wpG_eq
            · intro W hW hs
              obtain ⟨x0, x1, x2, x3, x4, x5, x6, sc, oc, r0, r1, r2, r3, r4, r5, r6⟩ := FA.out
              have x0' := hW.drew0 x0
              clear x0 x1 x2 x3 x4 x5 x6 sc oc r0 r1 r2 r3 r4 r5 r6
              unfold opG
              go_simp
              first | exact resG_eq_mk _ _ _ | rfl
            simp only [Act.put, List.setIfInBounds_toArray, List.set_cons_zero, List.set_cons_succ]
            apply wpG_eq
            · intro W hW hs
              unfold opG
              go_simp
              first | exact resG_eq_mk _ _ _ | rfl
            simp only [Act.put, List.setIfInBounds_toArray, List.set_cons_zero, List.set_cons_succ]
            apply wpG_eq
            · intro W hW hs
              obtain ⟨x0, x1, x2, x3, x4, x5, x6, sc, oc, r0, r1, r2, r3, r4, r5, r6⟩ := FA.out
              have sc' := hW.drew0 sc
              clear x0 x1 x2 x3 x4 x5 x6 sc oc r0 r1 r2 r3 r4 r5 r6
              unfold opG
              go_simp
              first | exact resG_eq_mk _ _ _ | rfl
            simp only [Act.put, List.setIfInBounds_toArray, List.set_cons_zero, List.set_cons_succ]
            apply wpG_eq
            · intro W hW hs
              obtain ⟨hw1, hw2⟩ := HWR.out
              unfold opG
              go_simp
              first | exact resG_eq_mk _ _ _ | rfl
            simp only [Act.put, List.setIfInBounds_toArray, List.set_cons_zero, List.set_cons_succ]
            apply wpG_eq
            · intro W hW hs
              unfold opG
              go_simp
              first | exact resG_eq_mk _ _ _ | rfl
            simp only [Act.put, List.setIfInBounds_toArray, List.set_cons_zero, List.set_cons_succ]
            apply wpG_eq
            · intro W hW hs
              unfold opG
              go_simp
              first | exact resG_eq_mk _ _ _ | rfl
            simp only [Act.put, List.setIfInBounds_toArray, List.set_cons_zero, List.set_cons_succ]
            apply wpG_eq
            · intro W hW hs
              unfold opG
              go_simp
              first | exact resG_eq_mk _ _ _ | rfl
            simp only [Act.put, List.setIfInBounds_toArray, List.set_cons_zero, List.set_cons_succ]
            apply wpG_eq
            · intro W hW hs
              unfold opG
              go_simp
              first | exact resG_eq_mk _ _ _ | rfl
            simp only [Act.put, List.setIfInBounds_toArray, List.set_cons_zero, List.set_cons_succ]
            apply wpG_eq
            · intro W hW hs
              obtain ⟨x0, x1, x2, x3, x4, x5, x6, sc, oc, r0, r1, r2, r3, r4, r5, r6⟩ := FA.out
              have x4' := hW.drew0 x4
              clear x0 x1 x2 x3 x4 x5 x6 sc oc r0 r1 r2 r3 r4 r5 r6
              unfold opG
              go_simp
              first | exact resG_eq_mk _ _ _ | rfl
            simp only [Act.put, List.setIfInBounds_toArray, List.set_cons_zero, List.set_cons_succ]
            apply wpG_eq
            · intro W hW hs
              unfold opG
              go_simp
              first | exact resG_eq_mk _ _ _ | rfl
            simp only [Act.put, List.setIfInBounds_toArray, List.set_cons_zero, List.set_cons_succ]
            apply wpG_eq
            · intro W hW hs
              have gW := Gr.trans ((Gr.refl wx).drew) hW
              unfold opG
              go_simp
              refine resG_call ((leqt W _ _ st sq HLQ.out (S1.out W gW).1.1 (S1.out W gW).2.2 (by omega) (by omega)).mono ?_)
              rintro e W2 ⟨rfl, g2⟩
              exact ⟨_, rfl, g2, rfl⟩
            simp only [Act.put, List.setIfInBounds_toArray, List.set_cons_zero, List.set_cons_succ]
            apply wpG_eq
            · intro W hW hs
              unfold opG
              go_simp
              first | exact resG_eq_mk _ _ _ | rfl
            simp only [Act.put, List.setIfInBounds_toArray, List.set_cons_zero, List.set_cons_succ]
            apply wpG_eq
            · intro W hW hs
              unfold opG
              go_simp
              first | exact resG_eq_mk _ _ _ | rfl
            simp only [Act.put, List.setIfInBounds_toArray, List.set_cons_zero, List.set_cons_succ]
            apply wpG_eq
            · intro W hW hs
              unfold opG
              go_simp
              first | exact resG_eq_mk _ _ _ | rfl
            simp only [Act.put, List.setIfInBounds_toArray, List.set_cons_zero, List.set_cons_succ]
            apply wpG_eq
            · intro W hW hs
              obtain ⟨x0, x1, x2, x3, x4, x5, x6, sc, oc, r0, r1, r2, r3, r4, r5, r6⟩ := FA.out
              have x0' := hW.drew0 x0
              have x1' := hW.drew0 x1
              have x2' := hW.drew0 x2
              have x3' := hW.drew0 x3
              have x4' := hW.drew0 x4
              have x5' := hW.drew0 x5
              have x6' := hW.drew0 x6
              clear x0 x1 x2 x3 x4 x5 x6 sc oc r0 r1 r2 r3 r4 r5 r6
              unfold opG
              go_simp
              first | exact resG_eq_mk _ _ _ | rfl
            simp only [Act.put, List.setIfInBounds_toArray, List.set_cons_zero, List.set_cons_succ]
            apply wpG_eq
            · intro W hW hs
              unfold opG
              go_simp
              first | exact resG_eq_mk _ _ _ | rfl
            simp only [Act.put, List.setIfInBounds_toArray, List.set_cons_zero, List.set_cons_succ]
            apply wpG_eq
            · intro W hW hs
              unfold opG
              go_simp
              first | exact resG_eq_mk _ _ _ | rfl
            simp only [Act.put, List.setIfInBounds_toArray, List.set_cons_zero, List.set_cons_succ]
            apply wpG_eq
            · intro W hW hs
              obtain ⟨x0, x1, x2, x3, x4, x5, x6, sc, oc, r0, r1, r2, r3, r4, r5, r6⟩ := FA.out
              have x0' := hW.drew0 x0
              clear x0 x1 x2 x3 x4 x5 x6 sc oc r0 r1 r2 r3 r4 r5 r6
              unfold opG
              go_simp
              first | exact resG_eq_mk _ _ _ | rfl
            simp only [Act.put, List.setIfInBounds_toArray, List.set_cons_zero, List.set_cons_succ]
            apply wpG_eq
            · intro W hW hs
              unfold opG
              go_simp
              first | exact resG_eq_mk _ _ _ | rfl
            simp only [Act.put, List.setIfInBounds_toArray, List.set_cons_zero, List.set_cons_succ]
            apply wpG_eq
            · intro W hW hs
              obtain ⟨x0, x1, x2, x3, x4, x5, x6, sc, oc, r0, r1, r2, r3, r4, r5, r6⟩ := FA.out
              have oc' := hW.drew0 oc
              clear x0 x1 x2 x3 x4 x5 x6 sc oc r0 r1 r2 r3 r4 r5 r6
              unfold opG
              go_simp
              first | exact resG_eq_mk _ _ _ | rfl
            simp only [Act.put, List.setIfInBounds_toArray, List.set_cons_zero, List.set_cons_succ]
            apply wpG_eq
            · intro W hW hs
              unfold opG
              go_simp
              first | exact resG_eq_mk _ _ _ | rfl
            simp only [Act.put, List.setIfInBounds_toArray, List.set_cons_zero, List.set_cons_succ]
            apply wpG_eq
            · intro W hW hs
              obtain ⟨x0, x1, x2, x3, x4, x5, x6, sc, oc, r0, r1, r2, r3, r4, r5, r6⟩ := FA.out
              have x1' := hW.drew0 x1
              clear x0 x1 x2 x3 x4 x5 x6 sc oc r0 r1 r2 r3 r4 r5 r6
              unfold opG
              go_simp
              first | exact resG_eq_mk _ _ _ | rfl
            simp only [Act.put, List.setIfInBounds_toArray, List.set_cons_zero, List.set_cons_succ]
            apply wpG_eq
            · intro W hW hs
              obtain ⟨hw1, hw2⟩ := HWR.out
              unfold opG
              go_simp
              first | exact resG_eq_mk _ _ _ | rfl
            simp only [Act.put, List.setIfInBounds_toArray, List.set_cons_zero, List.set_cons_succ]
            apply wpG_eq
            · intro W hW hs
              unfold opG
              go_simp
              first | exact resG_eq_mk _ _ _ | rfl
            simp only [Act.put, List.setIfInBounds_toArray, List.set_cons_zero, List.set_cons_succ]
            apply wpG_eq
            · intro W hW hs
              obtain ⟨x0, x1, x2, x3, x4, x5, x6, sc, oc, r0, r1, r2, r3, r4, r5, r6⟩ := FA.out
              have r0' := hW.drew0 r0
              have r1' := hW.drew0 r1
              have r2' := hW.drew0 r2
              have r3' := hW.drew0 r3
              have r4' := hW.drew0 r4
              have r5' := hW.drew0 r5
              have r6' := hW.drew0 r6
              clear x0 x1 x2 x3 x4 x5 x6 sc oc r0 r1 r2 r3 r4 r5 r6
              unfold opG
              go_simp
              first | exact resG_eq_mk _ _ _ | rfl
            simp only [Act.put, List.setIfInBounds_toArray, List.set_cons_zero, List.set_cons_succ]
            apply wpG_eq
            · intro W hW hs
              have gW := Gr.trans ((Gr.refl wx).drew) hW
              unfold opG
              go_simp
              refine resG_call ((same_true W (⟨(o : Int), z + 1, 0, 1, st, [effG], 0⟩ : ItemD) _ _ _ _ (S1.out W gW).1 (S1.out W gW).2.1 effG_forms (by show st.length ≤ _; omega) (by show 1 ≤ 1000000; decide)).mono ?_)
              rintro e W2 ⟨rfl, g2⟩
              exact ⟨_, rfl, g2, rfl⟩
            simp only [Act.put, List.setIfInBounds_toArray, List.set_cons_zero, List.set_cons_succ]
            apply wpG_eq
            · intro W hW hs
              unfold opG
              go_simp
              first | exact resG_eq_mk _ _ _ | rfl
            simp only [Act.put, List.setIfInBounds_toArray, List.set_cons_zero, List.set_cons_succ]
            apply wpG_eq
            · intro W hW hs
              unfold opG
              go_simp
              first | exact resG_eq_mk _ _ _ | rfl
            simp only [Act.put, List.setIfInBounds_toArray, List.set_cons_zero, List.set_cons_succ]
            apply wpG_nil
            intro W9 hW9 hsAll
            obtain ⟨wy, hwy⟩ : ∃ wy, wy = W9 := ⟨_, rfl⟩
            have GY : Hid (Gr wx wy) := Lib.hid (by rw [hwy]; exact Gr.trans ((Gr.refl wx).drew) hW9)
            rw [← hwy]
            clear hsAll hW9 hwy hn1 hn2
            obtain ⟨x0, x1, x2, x3, x4, x5, x6, sc, oc, r0, r1, r2, r3, r4, r5, r6⟩ := FA.out
            replace x0 := (GY.out.cell' x0).trans x0
            clear x1 x2 x3 x4 x5 x6 sc oc r0 r1 r2 r3 r4 r5 r6
            go_wp2_with fail
            clear x0
            refine (inc_any _ _ sq (o : Int) (S1.out _ GY.out).2.2 (by omega) (by omega) (by omega)).mono ?_
            rintro e w5 ⟨v5, rfl, ho5, g5⟩
            have g5' : Gr wy w5 := g5
            have G5 := Lib.hid (Gr.trans GX.out (Gr.trans GY.out g5'))
            have hBw : w.heap.size ≤ wy.heap.size := Nat.le_trans HBW.out.size (Nat.le_trans GX.out.size GY.out.size)
            obtain ⟨x5, y5, e5⟩ : ∃ x y, v5 = .slice x 3 y := by obtain ⟨x, y, e⟩ := ho5.shape; exact ⟨x, y, by rw [e, nums_length, incV_len, hsl]⟩
            rw [e5] at ho5 ⊢
            have HO5 := Lib.hid (ho5.mono (base' := w.heap.size) hBw)
            clear ho5 e5 hBw g5 g5'
            go_wp2
            go_roundw
            case rel =>
              have hfin : CzR w _ O H V s.own s.has s.v nx := ⟨f, u, CF.out.gr G5.out, HFO.out, HFH.out, HF6.out, Below.trans HBW.out (G5.out.mono HBW.out.size)⟩
              have ho6 := HO5.out
              rw [← HNX.out] at ho6
              first
                | exact ⟨q + 1, by omega, by go_num, ⟨_, _, rfl⟩, ho6, hfin⟩
                | ((repeat apply Exists.intro); apply And.intro; rotate_left; rfl; exact ⟨q + 1, by omega, by go_num, ⟨_, _, rfl⟩, ho6, hfin⟩)
            case measure => (first | (simp [intOf]; omega) | (show _ < _; simp [intOf]; omega))
          · obtain rfl : q = mh := by omega
            have hsv : seenV ((s.has j).take q) = s.v j := by rw [HMH.out, List.take_length]; exact (HINV.out.has j hj3).seen
            rw [hsv] at HSE
            have hvj := (CF.out.vec j hj3)
            have hv0 := (CF.out.vec 0 (by decide))
            have hl3 := HINV.out.len j hj3
            have hl0 := HINV.out.len 0 (by decide)
            have h1 : leqV (s.v j) (s.v j) = true := leqV_refl _
            have h2 : leqV (s.v 0) (s.v j) = true := by rw [HSAME.out j hj3]; exact leqV_refl _
            have h3 : leqV (s.v j) (s.v 0) = true := by rw [HSAME.out j hj3]; exact leqV_refl _
            have HLL := Lib.hid (And.intro h1 (And.intro h2 h3))
            have tj : wr.cell? ⟨V, j, none⟩ = some (u j) := CF.out.t.cell j hj3
            have t0 : wr.cell? ⟨V, 0, none⟩ = some (u 0) := CF.out.t.cell 0 (by decide)
            have FT := Lib.hid (And.intro tj t0)
            have S1 : Hid (∀ W, Gr wr W → Sl W (.slice xs 3 ys) (nums (s.v j)) ∧ Sl W (u j) (nums (s.v j)) ∧ Sl W (u 0) (nums (s.v 0))) := Lib.hid fun W hW => ⟨HSE.out.sl.below hW, hvj.sl.below hW, hv0.sl.below hW⟩
            clear hsv hvj hv0 h1 h2 h3 tj t0
            go_upto_region 44 with fail
            clear qh
            apply wp_region_draw_grow (.eq _ :: .eq _ :: .eq _ :: .eq _ :: .eq _ :: .eq _ :: .eq _ :: .eq _ :: .eq _ :: .eq _ :: .eq _ :: .eq _ :: .eq _ :: .eq _ :: .eq _ :: .eq _ :: .eq _ :: .eq _ :: .eq _ :: .eq _ :: .eq _ :: .eq _ :: .eq _ :: .eq _ :: .eq _ :: .eq _ :: .eq _ :: .eq _ :: .eq _ :: []) (by kernel_rfl) (by kernel_rfl) trivial
            apply wpG_eq
            · intro W hW hs
              unfold opG
              go_simp
              first | exact resG_eq_mk _ _ _ | rfl
            simp only [Act.put, List.setIfInBounds_toArray, List.set_cons_zero, List.set_cons_succ]
            apply wpG_eq
            · intro W hW hs
              unfold opG
              go_simp
              first | exact resG_eq_mk _ _ _ | rfl
            simp only [Act.put, List.setIfInBounds_toArray, List.set_cons_zero, List.set_cons_succ]
            apply wpG_eq
            · intro W hW hs
              unfold opG
              go_simp
              first | exact resG_eq_mk _ _ _ | rfl
            simp only [Act.put, List.setIfInBounds_toArray, List.set_cons_zero, List.set_cons_succ]
            apply wpG_eq
            · intro W hW hs
              unfold opG
              go_simp
              first | exact resG_eq_mk _ _ _ | rfl
            simp only [Act.put, List.setIfInBounds_toArray, List.set_cons_zero, List.set_cons_succ]
            apply wpG_eq
            · intro W hW hs
              obtain ⟨tj, t0⟩ := FT.out
              have tj' := hW.drew0 tj
              have t0' := hW.drew0 t0
              clear tj t0
              unfold opG
              go_simp
              first | exact resG_eq_mk _ _ _ | rfl
            simp only [Act.put, List.setIfInBounds_toArray, List.set_cons_zero, List.set_cons_succ]
            apply wpG_eq
            · intro W hW hs
              have gW := Gr.trans ((Gr.refl wr).drew) hW
              unfold opG
              go_simp
              refine resG_call ((leqt W _ _ _ _ HLL.out.1 (S1.out W gW).1 (S1.out W gW).2.1 (by omega) (by omega)).mono ?_)
              rintro e W2 ⟨rfl, g2⟩
              exact ⟨_, rfl, g2, rfl⟩
            simp only [Act.put, List.setIfInBounds_toArray, List.set_cons_zero, List.set_cons_succ]
            apply wpG_eq
            · intro W hW hs
              unfold opG
              go_simp
              first | exact resG_eq_mk _ _ _ | rfl
            simp only [Act.put, List.setIfInBounds_toArray, List.set_cons_zero, List.set_cons_succ]
            apply wpG_eq
            · intro W hW hs
              unfold opG
              go_simp
              first | exact resG_eq_mk _ _ _ | rfl
            simp only [Act.put, List.setIfInBounds_toArray, List.set_cons_zero, List.set_cons_succ]
            apply wpG_eq
            · intro W hW hs
              unfold opG
              go_simp
              first | exact resG_eq_mk _ _ _ | rfl
            simp only [Act.put, List.setIfInBounds_toArray, List.set_cons_zero, List.set_cons_succ]
            apply wpG_eq
            · intro W hW hs
              unfold opG
              go_simp
              first | exact resG_eq_mk _ _ _ | rfl
            simp only [Act.put, List.setIfInBounds_toArray, List.set_cons_zero, List.set_cons_succ]
            apply wpG_eq
            · intro W hW hs
              obtain ⟨tj, t0⟩ := FT.out
              have tj' := hW.drew0 tj
              have t0' := hW.drew0 t0
              clear tj t0
              unfold opG
              go_simp
              first | exact resG_eq_mk _ _ _ | rfl
            simp only [Act.put, List.setIfInBounds_toArray, List.set_cons_zero, List.set_cons_succ]
            apply wpG_eq
            · intro W hW hs
              unfold opG
              go_simp
              first | exact resG_eq_mk _ _ _ | rfl
            simp only [Act.put, List.setIfInBounds_toArray, List.set_cons_zero, List.set_cons_succ]
            apply wpG_eq
            · intro W hW hs
              unfold opG
              go_simp
              first | exact resG_eq_mk _ _ _ | rfl
            simp only [Act.put, List.setIfInBounds_toArray, List.set_cons_zero, List.set_cons_succ]
            apply wpG_eq
            · intro W hW hs
              unfold opG
              go_simp
              first | exact resG_eq_mk _ _ _ | rfl
            simp only [Act.put, List.setIfInBounds_toArray, List.set_cons_zero, List.set_cons_succ]
            apply wpG_eq
            · intro W hW hs
              obtain ⟨tj, t0⟩ := FT.out
              have tj' := hW.drew0 tj
              have t0' := hW.drew0 t0
              clear tj t0
              unfold opG
              go_simp
              first | exact resG_eq_mk _ _ _ | rfl
            simp only [Act.put, List.setIfInBounds_toArray, List.set_cons_zero, List.set_cons_succ]
            apply wpG_eq
            · intro W hW hs
              have gW := Gr.trans ((Gr.refl wr).drew) hW
              unfold opG
              go_simp
              refine resG_call ((leqt W _ _ _ _ HLL.out.2.1 (S1.out W gW).2.2 (S1.out W gW).2.1 (by omega) (by omega)).mono ?_)
              rintro e W2 ⟨rfl, g2⟩
              exact ⟨_, rfl, g2, rfl⟩
            simp only [Act.put, List.setIfInBounds_toArray, List.set_cons_zero, List.set_cons_succ]
            apply wpG_eq
            · intro W hW hs
              unfold opG
              go_simp
              first | exact resG_eq_mk _ _ _ | rfl
            simp only [Act.put, List.setIfInBounds_toArray, List.set_cons_zero, List.set_cons_succ]
            apply wpG_eq
            · intro W hW hs
              unfold opG
              go_simp
              first | exact resG_eq_mk _ _ _ | rfl
            simp only [Act.put, List.setIfInBounds_toArray, List.set_cons_zero, List.set_cons_succ]
            apply wpG_eq
            · intro W hW hs
              unfold opG
              go_simp
              first | exact resG_eq_mk _ _ _ | rfl
            simp only [Act.put, List.setIfInBounds_toArray, List.set_cons_zero, List.set_cons_succ]
            apply wpG_eq
            · intro W hW hs
              unfold opG
              go_simp
              first | exact resG_eq_mk _ _ _ | rfl
            simp only [Act.put, List.setIfInBounds_toArray, List.set_cons_zero, List.set_cons_succ]
            apply wpG_eq
            · intro W hW hs
              unfold opG
              go_simp
              first | exact resG_eq_mk _ _ _ | rfl
            simp only [Act.put, List.setIfInBounds_toArray, List.set_cons_zero, List.set_cons_succ]
            apply wpG_eq
            · intro W hW hs
              unfold opG
              go_simp
              first | exact resG_eq_mk _ _ _ | rfl
            simp only [Act.put, List.setIfInBounds_toArray, List.set_cons_zero, List.set_cons_succ]
            apply wpG_eq
            · intro W hW hs
              obtain ⟨tj, t0⟩ := FT.out
              have tj' := hW.drew0 tj
              have t0' := hW.drew0 t0
              clear tj t0
              unfold opG
              go_simp
              first | exact resG_eq_mk _ _ _ | rfl
            simp only [Act.put, List.setIfInBounds_toArray, List.set_cons_zero, List.set_cons_succ]
            apply wpG_eq
            · intro W hW hs
              unfold opG
              go_simp
              first | exact resG_eq_mk _ _ _ | rfl
            simp only [Act.put, List.setIfInBounds_toArray, List.set_cons_zero, List.set_cons_succ]
            apply wpG_eq
            · intro W hW hs
              unfold opG
              go_simp
              first | exact resG_eq_mk _ _ _ | rfl
            simp only [Act.put, List.setIfInBounds_toArray, List.set_cons_zero, List.set_cons_succ]
            apply wpG_eq
            · intro W hW hs
              obtain ⟨tj, t0⟩ := FT.out
              have tj' := hW.drew0 tj
              have t0' := hW.drew0 t0
              clear tj t0
              unfold opG
              go_simp
              first | exact resG_eq_mk _ _ _ | rfl
            simp only [Act.put, List.setIfInBounds_toArray, List.set_cons_zero, List.set_cons_succ]
            apply wpG_eq
            · intro W hW hs
              have gW := Gr.trans ((Gr.refl wr).drew) hW
              unfold opG
              go_simp
              refine resG_call ((leqt W _ _ _ _ HLL.out.2.2 (S1.out W gW).2.1 (S1.out W gW).2.2 (by omega) (by omega)).mono ?_)
              rintro e W2 ⟨rfl, g2⟩
              exact ⟨_, rfl, g2, rfl⟩
            simp only [Act.put, List.setIfInBounds_toArray, List.set_cons_zero, List.set_cons_succ]
            apply wpG_eq
            · intro W hW hs
              unfold opG
              go_simp
              first | exact resG_eq_mk _ _ _ | rfl
            simp only [Act.put, List.setIfInBounds_toArray, List.set_cons_zero, List.set_cons_succ]
            apply wpG_eq
            · intro W hW hs
              unfold opG
              go_simp
              first | exact resG_eq_mk _ _ _ | rfl
            simp only [Act.put, List.setIfInBounds_toArray, List.set_cons_zero, List.set_cons_succ]
            apply wpG_nil
            intro W9 hW9 hsAll
            obtain ⟨wy, hwy⟩ : ∃ wy, wy = W9 := ⟨_, rfl⟩
            have GY : Hid (Gr wr wy) := Lib.hid (by rw [hwy]; exact Gr.trans ((Gr.refl wr).drew) hW9)
            rw [← hwy]
            clear hsAll hW9 hwy
            have HFIN : Hid (CzR w wy O H V s.own s.has s.v nx) := Lib.hid ⟨f, u, CF.out.gr GY.out, HFO.out, HFH.out, HF6.out, Below.trans HBW.out (GY.out.mono HBW.out.size)⟩
            go_wp2
            go_roundw
            case rel =>
              first
                | exact ⟨j + 1, by omega, by go_num, HFIN.out⟩
                | ((repeat apply Exists.intro); apply And.intro; rotate_left; rfl; exact ⟨j + 1, by omega, by go_num, HFIN.out⟩)
            case measure => (first | (simp [intOf]; omega) | (show _ < _; simp [intOf]; omega))
      · obtain rfl : j = 3 := by omega
        have HBZ : Hid (Below w.heap.size w wr) := Lib.hid (by obtain ⟨_, _, _, _, _, _, h⟩ := HCZ.out; exact h)
        go_wp2_with fail
        refine (goes_any _).mono ?_
        rintro e w9 ⟨rfl, g⟩
        have G9 := Lib.hid (Below.trans HBZ.out (g.mono HBZ.out.size))
        clear g
        go_wp2
        go_ret
        exact ⟨rfl, G9.out⟩
end Go.Proofs.Ytpdninnnpoiblaa
