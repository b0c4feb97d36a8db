/-
  StreamPlays: every Check, Next, Ready is the document's; what is handed in stays. Every input; no conditions.
-/
import Derived.Test.YtpdninnnpoiblaaSShal
import Derived.Test.YtpdninnnpoiblaaSReadyD
import Derived.Test.YtpdninnnpoiblaaSMay
import Derived.SizedLaws
set_option linter.unusedVariables false
namespace Go.Proofs.Ytpdninnnpoiblaa
open Go.RowKit

theorem check_bad (w : World) (x : ItemD) (sv ev : Value) (sites regions : Int) (hb : badV x sites regions = true) (hx : ItemIs w x sv ev) (hok : ItemOk x) (hn : NumOk x) (hsi : -9223372036854775808 ≤ sites ∧ sites ≤ 9223372036854775807) :
    Calls Try.prog 12 #[.agg (itemCells x sv ev), .int .i64 sites, .int .i64 regions] w fun e w' => e = .returned (.int .i64 1) ∧ Gr w w' := by
  have := check_any w x sv ev sites regions hx hok hn hsi
  unfold checkV at this
  rwa [hb] at this
theorem check_good (w : World) (x : ItemD) (sv ev : Value) (sites regions : Int) (hb : badV x sites regions = false) (hx : ItemIs w x sv ev) (hok : ItemOk x) (hn : NumOk x) (hsi : -9223372036854775808 ≤ sites ∧ sites ≤ 9223372036854775807) :
    Calls Try.prog 12 #[.agg (itemCells x sv ev), .int .i64 sites, .int .i64 regions] w fun e w' => e = .returned (.int .i64 0) ∧ Gr w w' := by
  have := check_any w x sv ev sites regions hx hok hn hsi
  unfold checkV at this
  rwa [hb] at this
theorem may_bad (w : World) (x : ItemD) (sv ev : Value) (sites regions : Int) (hb : badV x sites regions = true) (hx : ItemIs w x sv ev) (hok : ItemOk x) (hn : NumOk x) (hsi : -9223372036854775808 ≤ sites ∧ sites ≤ 9223372036854775807) :
    Calls Try.prog 13 #[.agg (itemCells x sv ev), .int .i64 sites, .int .i64 regions] w fun e w' => e = .returned (.bool false) ∧ Gr w w' := by
  have := may_any w x sv ev sites regions hx hok hn hsi
  rwa [hb] at this
theorem may_good (w : World) (x : ItemD) (sv ev : Value) (sites regions : Int) (hb : badV x sites regions = false) (hx : ItemIs w x sv ev) (hok : ItemOk x) (hn : NumOk x) (hsi : -9223372036854775808 ≤ sites ∧ sites ≤ 9223372036854775807) :
    Calls Try.prog 13 #[.agg (itemCells x sv ev), .int .i64 sites, .int .i64 regions] w fun e w' => e = .returned (.bool true) ∧ Gr w w' := by
  have := may_any w x sv ev sites regions hx hok hn hsi
  rwa [hb] at this
theorem i64_wf {z : Int} (h : (Lit.int .i64 z).wf = true) : -9223372036854775808 ≤ z ∧ z ≤ 9223372036854775807 := by
  simp [Lit.wf, IntKind.min, IntKind.max, IntKind.bits, IntKind.signed] at h
  exact h
theorem ready_is (w : World) (x : ItemD) (sv ev vv : Value) (v : List Nat) (r : Bool) (hr : r = readyV x v) (hx : ItemIs w x sv ev) (hv : Sl w vv (nums v)) (hok : ItemOk x) (hn : NumOk x) (hl : v.length ≤ 100000) :
    Calls Try.prog 14 #[.agg (itemCells x sv ev), vv] w fun e w' => e = .returned (.bool r) ∧ Gr w w' := by
  subst hr; exact ready_any w x sv ev vv v hx hv hok hn hl
theorem refready_is (w : World) (x : ItemD) (sv ev vv : Value) (v : List Nat) (r : Bool) (hr : r = readyV x v) (hx : ItemIs w x sv ev) (hv : Sl w vv (nums v)) (hok : ItemOk x) (hn : NumOk x) (hl : v.length ≤ 100000) :
    Calls Try.prog 15 #[.agg (itemCells x sv ev), vv] w fun e w' => e = .returned (.bool r) ∧ Gr w w' := by
  subst hr; exact refready_any w x sv ev vv v hx hv hok hn hl
theorem EffsL.all {w : World} {v : Value} {es : List EffD} (h : EffsL w v es) : Effs w v es ∧ Forms es := by
  obtain ⟨R, h1, h2⟩ := h
  refine ⟨⟨R, h1, fun i hi => ⟨(h2 i hi).1.ok (h2 i hi).2.1, (h2 i hi).2.2⟩⟩, fun e he => ?_⟩
  obtain ⟨j, hj, rfl⟩ := List.getElem_of_mem he
  exact (h2 j hj).1
set_option maxHeartbeats 8000000 in
theorem plays_walk (w : World) (lv vv : Value) (xs : List ItemD) (hav : Nat) (v : List Nat) (sites regions : Int) (hI : ItemsL w lv xs) (hm : xs.length ≤ maxLen) (hh : hav < 2 ^ 64) (hv : Sl w vv (nums v)) (hvm : v.length ≤ maxLen)
    (hsi : -9223372036854775808 ≤ sites ∧ sites ≤ 9223372036854775807) :
    Calls Try.prog 3 #[lv, .int .u64 (hav : Int), vv, .int .i64 sites, .int .i64 regions] w fun e w' => e = .returned (.bool true) ∧ Below w.heap.size w w' := by
  obtain ⟨R, hR, hx⟩ := hI
  obtain ⟨a0, c0, rfl⟩ : ∃ a c, lv = .slice a xs.length c := by obtain ⟨a, c, e, _⟩ := hR; exact ⟨a, c, e⟩
  have hv' := hv
  obtain ⟨av, cv, rfl⟩ := hv'.oneCells
  rw [nums_length] at hv ⊢
  have hgt := great_any w _ xs.length (fun i => (xs.getD i default).stamp.length) (fun i => (xs.getD i default).effs.length) R hR
    (fun i hi => by
      obtain ⟨_, _, s, _⟩ := hx i hi
      obtain ⟨a, c, e⟩ := s.oneCells
      exact ⟨a, c, by rw [e, nums_length]; simp [List.getD_eq_getElem?_getD, List.getElem?_eq_getElem hi]⟩)
    (fun i hi => by
      obtain ⟨_, _, _, s⟩ := hx i hi
      obtain ⟨a, c, e⟩ := s.shape
      exact ⟨a, c, by rw [e]; simp [List.getD_eq_getElem?_getD, List.getElem?_eq_getElem hi]⟩) hm
  obtain ⟨gv, hgv⟩ : ∃ gv, gv = greatV xs.length (fun i => (xs.getD i default).stamp.length) (fun i => (xs.getD i default).effs.length) := ⟨_, rfl⟩
  rw [← hgv] at hgt
  have HV := Lib.hid hv
  have HX := Lib.hid hx
  have HR := Lib.hid hR
  have HGV := Lib.hid hgv
  obtain ⟨n, hn⟩ : ∃ n, n = xs.length := ⟨_, rfl⟩
  rw [← hn] at hgt hm ⊢
  have HN := Lib.hid hn
  have HM := Lib.hid hm
  have HSI := Lib.hid hsi
  unfold maxLen at hm hvm
  clear hv hv' hx hR hgv hn hsi
  go_enter Try.func3, Try.ntmps3
  go_wp2_with fail
  refine hgt.mono ?_
  rintro e w1 ⟨rfl, rfl⟩
  clear hgt
  cases gv with
  | true =>
    go_wp2
    go_ret
    exact ⟨rfl, Below.refl _ _⟩
  | false =>
  by_cases hv10 : 10 < v.length
  · go_wp2
    go_ret
    exact ⟨rfl, Below.refl _ _⟩
  obtain ⟨hn40, hsm⟩ := greatV_small HGV.out.symm
  rw [← HN.out] at hn40
  have hok : ∀ i (hi : i < xs.length), ItemOk xs[i] ∧ NumOk xs[i] ∧ Forms xs[i].effs ∧ (∀ j u, (itemCells xs[i] (R i 4) (R i 5))[j]? = some u → R i j = u) ∧ ItemIs w xs[i] (R i 4) (R i 5) := fun i hi => by
    obtain ⟨h1, h2, h3, h4⟩ := HX.out i hi
    have h5 := hsm i hi
    rw [show xs.getD i default = xs[i] by simp [List.getD_eq_getElem?_getD, List.getElem?_eq_getElem hi]] at h5
    exact ⟨⟨by omega, by omega⟩, h1.n, h4.all.2, h2, h3, h4.all.1⟩
  have hIt : Items w (.slice a0 n c0) xs := ⟨R, by rw [HN.out]; exact HR.out, fun i hi => ⟨(hok i hi).1, R i 4, R i 5, (hok i hi).2.2.2.1, (hok i hi).2.2.2.2⟩⟩
  have hF : AllForms xs := fun x hx => by obtain ⟨i, hi, rfl⟩ := List.getElem_of_mem hx; exact (hok i hi).2.2.1
  have hOk : ∀ x ∈ xs, ItemOk x := fun x hx => by obtain ⟨i, hi, rfl⟩ := List.getElem_of_mem hx; exact (hok i hi).1
  have hNum : ∀ i (hi : i < xs.length), NumOk xs[i] := fun i hi => (hok i hi).2.1
  have hrun : ∃ a c w', (Builtin.append_ #[22, 22] 22 #[.slice (some ⟨w.heap.size, 0, none⟩) 0 0, .slice a0 n c0]).run Try.prog (w.alloc (.cells #[] 33)) = .ok (.slice a n c) w' ∧ ItemsS w w' w.heap.size (.slice a n c) xs ∧ Gr w w' := by
    have g1 : Gr w (w.alloc (.cells #[] 33)) := (Gr.refl w).alloc _
    obtain ⟨a, c, w', q1, q2, q3⟩ := run_append_items w (w.alloc (.cells #[] 33)) w.heap.size (.slice (some ⟨w.heap.size, 0, none⟩) 0 0) (.slice a0 n c0) [] xs
      ⟨[], OwnR.lit w 33 7 [] #[] rfl (by simp) (by simp) (Nat.le_refl _), rfl, fun i hi => absurd hi (Nat.not_lt_zero _)⟩ R (by rw [HN.out]; exact HR.out.below g1)
      (fun i hi => ⟨(hok i hi).1, R i 4, R i 5, (hok i hi).2.2.2.1, (hok i hi).2.2.2.2⟩) (by rw [← HN.out]; simp; omega) g1.size
    rw [← HN.out] at q1 q2
    simp only [List.length_nil, Nat.zero_add, List.nil_append] at q1 q2
    exact ⟨a, c, w', q1, q2, Below.grown g1 q3 g1.size (fun j hj => by have : w.heap.size = j := Option.some.inj hj; omega)⟩
  obtain ⟨a, c, w2, hrun, hin, hg2⟩ := hrun
  have HIT := Lib.hid hIt
  have HIN := Lib.hid hin
  have HF := Lib.hid hF
  have HOK := Lib.hid hOk
  have HNUM := Lib.hid hNum
  have G2 := Lib.hid hg2
  clear hIt hin hF hOk hNum hg2 hok hsm HX HR
  have hn2 : xs.length ≤ 100000 := by rw [← HN.out]; omega
  have HN2 := Lib.hid hn2
  clear hn2
  go_wp2_with (first | (at_builtin; refine wpList_run_append hrun rfl _ _ rfl rfl rfl ?_; clear hrun) | fail)
  refine (next_any _ _ hav xs (HIN.out.items G2.out) HN2.out hh).mono ?_
  rintro e w3 ⟨v5, rfl, hr5, g⟩
  have H5 := Lib.hid (hr5.items (fun x hx => HOK.out x (nextV_mem hx)))
  have G3 := Lib.hid (Gr.trans G2.out g)
  have Y3 := Lib.hid g
  clear hr5 g
  go_wp2_with fail
  refine (refnext_any _ _ hav xs (HIT.out.below G3.out) HN2.out hh).mono ?_
  rintro e w4 ⟨v6, rfl, h6, g⟩
  have H6 := Lib.hid h6
  have H54 := Lib.hid (H5.out.below g)
  have G4 := Lib.hid (Gr.trans G3.out g)
  have Y4 := Lib.hid (Gr.trans Y3.out g)
  clear h6 g
  go_wp2_with fail
  refine (all_true _ _ _ (nextV hav xs) H54.out H6.out (fun x hx => HF.out x (nextV_mem hx)) (Nat.le_trans (nextV_le _ _) (by decide))).mono ?_
  rintro e w5 ⟨rfl, g⟩
  have G5 := Lib.hid (Gr.trans G4.out g)
  have Y5 := Lib.hid (Gr.trans Y4.out g)
  clear g H5 H54 H6
  have HINB := Lib.hid (HIN.out.items G2.out)
  go_wp2
  go_loopw [12] (fun i wr => ∃ k : Nat, k ≤ n ∧ i = .int .i64 k ∧ Gr w5 wr) (fun i _ => n - (intOf i).toNat)
  case atStart => exact ⟨0, Nat.zero_le _, rfl, Gr.refl _⟩
  case round =>
    obtain ⟨k, hk, rfl, hg⟩ := hrel
    have HGL := Lib.hid (Gr.trans G5.out hg)
    have HGI := Lib.hid (Gr.trans Y5.out hg)
    have HGR := Lib.hid hg
    clear hg
    by_cases hlt : k < n
    · as_aux_lemma =>
      obtain ⟨B1, o1, sv1, ev1, rfl, hB1, p0, p1, p2, p3, p4, p5, p6, i1, ok1⟩ := HINB.out.at k (by rw [← HN.out]; exact hlt)
      obtain ⟨B2, o2, sv2, ev2, rfl, hB2, q0, q1, q2, q3, q4, q5, q6, i2, ok2⟩ := HIT.out.at k (by rw [← HN.out]; exact hlt)
      have hnx : NumOk (xs[k]'(by rw [← HN.out]; exact hlt)) := HNUM.out k _
      obtain ⟨x, hx⟩ : ∃ x, x = xs[k]'(by rw [← HN.out]; exact hlt) := ⟨_, rfl⟩
      rw [← hx] at p0 p1 p2 p3 p6 i1 ok1 q0 q1 q2 q3 q6 i2 ok2 hnx
      clear hx
      have T : Hid (∀ W, Gr wr W → (W.cell? ⟨B1, o1 + k * 7, Option.none⟩ = some (.int .i64 x.origin) ∧ W.cell? ⟨B1, o1 + k * 7 + 1, Option.none⟩ = some (.int .u64 (x.seq : Int)) ∧ W.cell? ⟨B1, o1 + k * 7 + 2, Option.none⟩ = some (.int .i64 x.region) ∧ W.cell? ⟨B1, o1 + k * 7 + 3, Option.none⟩ = some (.int .u64 (x.epoch : Int)) ∧ W.cell? ⟨B1, o1 + k * 7 + 4, Option.none⟩ = some (sv1) ∧ W.cell? ⟨B1, o1 + k * 7 + 5, Option.none⟩ = some (ev1) ∧ W.cell? ⟨B1, o1 + k * 7 + 6, Option.none⟩ = some (.int .u32 (x.closed : Int))) ∧ (W.cell? ⟨B2, o2 + k * 7, Option.none⟩ = some (.int .i64 x.origin) ∧ W.cell? ⟨B2, o2 + k * 7 + 1, Option.none⟩ = some (.int .u64 (x.seq : Int)) ∧ W.cell? ⟨B2, o2 + k * 7 + 2, Option.none⟩ = some (.int .i64 x.region) ∧ W.cell? ⟨B2, o2 + k * 7 + 3, Option.none⟩ = some (.int .u64 (x.epoch : Int)) ∧ W.cell? ⟨B2, o2 + k * 7 + 4, Option.none⟩ = some (sv2) ∧ W.cell? ⟨B2, o2 + k * 7 + 5, Option.none⟩ = some (ev2) ∧ W.cell? ⟨B2, o2 + k * 7 + 6, Option.none⟩ = some (.int .u32 (x.closed : Int)))) := Lib.hid fun W hW =>
        ⟨⟨((Gr.trans HGI.out hW).cell (p := ⟨B1, o1 + k * 7, Option.none⟩) hB1).trans p0, ((Gr.trans HGI.out hW).cell (p := ⟨B1, o1 + k * 7 + 1, Option.none⟩) hB1).trans p1, ((Gr.trans HGI.out hW).cell (p := ⟨B1, o1 + k * 7 + 2, Option.none⟩) hB1).trans p2, ((Gr.trans HGI.out hW).cell (p := ⟨B1, o1 + k * 7 + 3, Option.none⟩) hB1).trans p3, ((Gr.trans HGI.out hW).cell (p := ⟨B1, o1 + k * 7 + 4, Option.none⟩) hB1).trans p4, ((Gr.trans HGI.out hW).cell (p := ⟨B1, o1 + k * 7 + 5, Option.none⟩) hB1).trans p5, ((Gr.trans HGI.out hW).cell (p := ⟨B1, o1 + k * 7 + 6, Option.none⟩) hB1).trans p6⟩, ⟨((Gr.trans HGL.out hW).cell (p := ⟨B2, o2 + k * 7, Option.none⟩) hB2).trans q0, ((Gr.trans HGL.out hW).cell (p := ⟨B2, o2 + k * 7 + 1, Option.none⟩) hB2).trans q1, ((Gr.trans HGL.out hW).cell (p := ⟨B2, o2 + k * 7 + 2, Option.none⟩) hB2).trans q2, ((Gr.trans HGL.out hW).cell (p := ⟨B2, o2 + k * 7 + 3, Option.none⟩) hB2).trans q3, ((Gr.trans HGL.out hW).cell (p := ⟨B2, o2 + k * 7 + 4, Option.none⟩) hB2).trans q4, ((Gr.trans HGL.out hW).cell (p := ⟨B2, o2 + k * 7 + 5, Option.none⟩) hB2).trans q5, ((Gr.trans HGL.out hW).cell (p := ⟨B2, o2 + k * 7 + 6, Option.none⟩) hB2).trans q6⟩⟩
      have S1 : Hid (∀ W, Gr wr W → ItemIs W x sv1 ev1 ∧ ItemIs W x sv2 ev2 ∧ Sl W (.slice av v.length cv) (nums v)) := Lib.hid fun W hW =>
        ⟨i1.below (Gr.trans HGI.out hW), i2.below (Gr.trans HGL.out hW), HV.out.below (Gr.trans HGL.out hW)⟩
      have S2 := Lib.hid (And.intro ok1 hnx)
      clear p0 p1 p2 p3 p4 p5 p6 q0 q1 q2 q3 q4 q5 q6 i1 i2 hnx ok1 ok2
      obtain ⟨r, hr⟩ : ∃ r, r = readyV x v := ⟨_, rfl⟩
      have HRV := Lib.hid hr
      clear hr
      have hk0 : (0 : Int) ≤ (k : Int) := by omega
      have hk1 : (k : Int) < (n : Int) := by omega
      have hv11 : v.length ≤ 10 := by omega
      obtain ⟨b, hbd⟩ : ∃ b, badV x sites regions = b := ⟨_, rfl⟩
      have HBD := Lib.hid hbd
      clear hbd
      cases b with
      | false =>
        obtain ⟨⟨x0, x1, x2, x3, x4, x5, x6⟩, ⟨y0, y1, y2, y3, y4, y5, y6⟩⟩ := T.out _ (Gr.refl _)
        go_wp2_with fail
        clear x0 x1 x2 x3 x4 x5 x6 y0 y1 y2 y3 y4 y5 y6
        refine (check_good _ x sv1 ev1 sites regions HBD.out (S1.out _ (Gr.refl _)).1 S2.out.1 S2.out.2 HSI.out).mono ?_
        rintro e w7 ⟨rfl, g⟩
        have G7 := Lib.hid g
        clear g
        go_wp2_with fail
        apply wp_region_draw_grow (.eq _ :: .eq _ :: .eq _ :: .eq _ :: .eq _ :: .eq _ :: .eq _ :: .eq _ :: .eq _ :: .eq _ :: .eq _ :: .eq _ :: .eq _ :: .eq _ :: .eq _ :: .eq _ :: .eq _ :: .eq _ :: .eq _ :: .eq _ :: .eq _ :: .eq _ :: .eq _ :: .eq _ :: .eq _ :: .eq _ :: .eq _ :: .eq _ :: .eq _ :: .eq _ :: .eq _ :: .eq _ :: .eq _ :: []) (by kernel_rfl) (by kernel_rfl) trivial
        apply wpG_eq
        · intro W hW hs
          unfold opG
          go_simp
          first | exact resG_eq_mk _ _ _ | rfl
        simp only [Act.put, List.setIfInBounds_toArray, List.set_cons_zero, List.set_cons_succ]
        apply wpG_eq
        · intro W hW hs
          unfold opG
          go_simp
          first | exact resG_eq_mk _ _ _ | rfl
        simp only [Act.put, List.setIfInBounds_toArray, List.set_cons_zero, List.set_cons_succ]
        apply wpG_eq
        · intro W hW hs
          unfold opG
          go_simp
          first | exact resG_eq_mk _ _ _ | rfl
        simp only [Act.put, List.setIfInBounds_toArray, List.set_cons_zero, List.set_cons_succ]
        apply wpG_eq
        · intro W hW hs
          unfold opG
          go_simp
          first | exact resG_eq_mk _ _ _ | rfl
        simp only [Act.put, List.setIfInBounds_toArray, List.set_cons_zero, List.set_cons_succ]
        apply wpG_eq
        · intro W hW hs
          unfold opG
          go_simp
          first | exact resG_eq_mk _ _ _ | rfl
        simp only [Act.put, List.setIfInBounds_toArray, List.set_cons_zero, List.set_cons_succ]
        apply wpG_eq
        · intro W hW hs
          obtain ⟨⟨x0, x1, x2, x3, x4, x5, x6⟩, ⟨y0, y1, y2, y3, y4, y5, y6⟩⟩ := T.out W (Gr.trans G7.out (Gr.trans ((Gr.refl w7).drew) hW))
          unfold opG
          go_simp
          first | exact resG_eq_mk _ _ _ | rfl
        simp only [Act.put, List.setIfInBounds_toArray, List.set_cons_zero, List.set_cons_succ]
        apply wpG_eq
        · intro W hW hs
          unfold opG
          go_simp
          first | exact resG_eq_mk _ _ _ | rfl
        simp only [Act.put, List.setIfInBounds_toArray, List.set_cons_zero, List.set_cons_succ]
        apply wpG_eq
        · intro W hW hs
          unfold opG
          go_simp
          first | exact resG_eq_mk _ _ _ | rfl
        simp only [Act.put, List.setIfInBounds_toArray, List.set_cons_zero, List.set_cons_succ]
        apply wpG_eq
        · intro W hW hs
          have gW := Gr.trans G7.out (Gr.trans ((Gr.refl w7).drew) hW)
          unfold opG
          go_simp
          refine resG_call ((may_good W x sv2 ev2 sites regions HBD.out (S1.out W gW).2.1 S2.out.1 S2.out.2 HSI.out).mono ?_)
          rintro e W2 ⟨rfl, g2⟩
          exact ⟨_, rfl, g2, rfl⟩
        simp only [Act.put, List.setIfInBounds_toArray, List.set_cons_zero, List.set_cons_succ]
        apply wpG_eq
        · intro W hW hs
          unfold opG
          go_simp
          first | exact resG_eq_mk _ _ _ | rfl
        simp only [Act.put, List.setIfInBounds_toArray, List.set_cons_zero, List.set_cons_succ]
        apply wpG_eq
        · intro W hW hs
          unfold opG
          go_simp
          first | exact resG_eq_mk _ _ _ | rfl
        simp only [Act.put, List.setIfInBounds_toArray, List.set_cons_zero, List.set_cons_succ]
        apply wpG_eq
        · intro W hW hs
          unfold opG
          go_simp
          first | exact resG_eq_mk _ _ _ | rfl
        simp only [Act.put, List.setIfInBounds_toArray, List.set_cons_zero, List.set_cons_succ]
        apply wpG_eq
        · intro W hW hs
          unfold opG
          go_simp
          first | exact resG_eq_mk _ _ _ | rfl
        simp only [Act.put, List.setIfInBounds_toArray, List.set_cons_zero, List.set_cons_succ]
        apply wpG_eq
        · intro W hW hs
          unfold opG
          go_simp
          first | exact resG_eq_mk _ _ _ | rfl
        simp only [Act.put, List.setIfInBounds_toArray, List.set_cons_zero, List.set_cons_succ]
        apply wpG_eq
        · intro W hW hs
          unfold opG
          go_simp
          first | exact resG_eq_mk _ _ _ | rfl
        simp only [Act.put, List.setIfInBounds_toArray, List.set_cons_zero, List.set_cons_succ]
        apply wpG_eq
        · intro W hW hs
          unfold opG
          go_simp
          first | exact resG_eq_mk _ _ _ | rfl
        simp only [Act.put, List.setIfInBounds_toArray, List.set_cons_zero, List.set_cons_succ]
        apply wpG_eq
        · intro W hW hs
          unfold opG
          go_simp
          first | exact resG_eq_mk _ _ _ | rfl
        simp only [Act.put, List.setIfInBounds_toArray, List.set_cons_zero, List.set_cons_succ]
        apply wpG_eq
        · intro W hW hs
          unfold opG
          go_simp
          first | exact resG_eq_mk _ _ _ | rfl
        simp only [Act.put, List.setIfInBounds_toArray, List.set_cons_zero, List.set_cons_succ]
        apply wpG_eq
        · intro W hW hs
          unfold opG
          go_simp
          first | exact resG_eq_mk _ _ _ | rfl
        simp only [Act.put, List.setIfInBounds_toArray, List.set_cons_zero, List.set_cons_succ]
        apply wpG_eq
        · intro W hW hs
          unfold opG
          go_simp
          first | exact resG_eq_mk _ _ _ | rfl
        simp only [Act.put, List.setIfInBounds_toArray, List.set_cons_zero, List.set_cons_succ]
        apply wpG_eq
        · intro W hW hs
          unfold opG
          go_simp
          first | exact resG_eq_mk _ _ _ | rfl
        simp only [Act.put, List.setIfInBounds_toArray, List.set_cons_zero, List.set_cons_succ]
        apply wpG_eq
        · intro W hW hs
          unfold opG
          go_simp
          first | exact resG_eq_mk _ _ _ | rfl
        simp only [Act.put, List.setIfInBounds_toArray, List.set_cons_zero, List.set_cons_succ]
        apply wpG_eq
        · intro W hW hs
          obtain ⟨⟨x0, x1, x2, x3, x4, x5, x6⟩, ⟨y0, y1, y2, y3, y4, y5, y6⟩⟩ := T.out W (Gr.trans G7.out (Gr.trans ((Gr.refl w7).drew) hW))
          unfold opG
          go_simp
          first | exact resG_eq_mk _ _ _ | rfl
        simp only [Act.put, List.setIfInBounds_toArray, List.set_cons_zero, List.set_cons_succ]
        apply wpG_eq
        · intro W hW hs
          unfold opG
          go_simp
          first | exact resG_eq_mk _ _ _ | rfl
        simp only [Act.put, List.setIfInBounds_toArray, List.set_cons_zero, List.set_cons_succ]
        apply wpG_eq
        · intro W hW hs
          have gW := Gr.trans G7.out (Gr.trans ((Gr.refl w7).drew) hW)
          unfold opG
          go_simp
          refine resG_call ((ready_is W x sv1 ev1 _ v r HRV.out (S1.out W gW).1 (S1.out W gW).2.2 S2.out.1 S2.out.2 (Nat.le_trans hv11 (by decide))).mono ?_)
          rintro e W2 ⟨rfl, g2⟩
          exact ⟨_, rfl, g2, rfl⟩
        simp only [Act.put, List.setIfInBounds_toArray, List.set_cons_zero, List.set_cons_succ]
        apply wpG_eq
        · intro W hW hs
          unfold opG
          go_simp
          first | exact resG_eq_mk _ _ _ | rfl
        simp only [Act.put, List.setIfInBounds_toArray, List.set_cons_zero, List.set_cons_succ]
        apply wpG_eq
        · intro W hW hs
          unfold opG
          go_simp
          first | exact resG_eq_mk _ _ _ | rfl
        simp only [Act.put, List.setIfInBounds_toArray, List.set_cons_zero, List.set_cons_succ]
        apply wpG_eq
        · intro W hW hs
          unfold opG
          go_simp
          first | exact resG_eq_mk _ _ _ | rfl
        simp only [Act.put, List.setIfInBounds_toArray, List.set_cons_zero, List.set_cons_succ]
        apply wpG_eq
        · intro W hW hs
          obtain ⟨⟨x0, x1, x2, x3, x4, x5, x6⟩, ⟨y0, y1, y2, y3, y4, y5, y6⟩⟩ := T.out W (Gr.trans G7.out (Gr.trans ((Gr.refl w7).drew) hW))
          unfold opG
          go_simp
          first | exact resG_eq_mk _ _ _ | rfl
        simp only [Act.put, List.setIfInBounds_toArray, List.set_cons_zero, List.set_cons_succ]
        apply wpG_eq
        · intro W hW hs
          unfold opG
          go_simp
          first | exact resG_eq_mk _ _ _ | rfl
        simp only [Act.put, List.setIfInBounds_toArray, List.set_cons_zero, List.set_cons_succ]
        apply wpG_eq
        · intro W hW hs
          have gW := Gr.trans G7.out (Gr.trans ((Gr.refl w7).drew) hW)
          unfold opG
          go_simp
          refine resG_call ((refready_is W x sv2 ev2 _ v r HRV.out (S1.out W gW).2.1 (S1.out W gW).2.2 S2.out.1 S2.out.2 (Nat.le_trans hv11 (by decide))).mono ?_)
          rintro e W2 ⟨rfl, g2⟩
          exact ⟨_, rfl, g2, rfl⟩
        simp only [Act.put, List.setIfInBounds_toArray, List.set_cons_zero, List.set_cons_succ]
        apply wpG_eq
        · intro W hW hs
          unfold opG
          go_simp
          first | exact resG_eq_mk _ _ _ | rfl
        simp only [Act.put, List.setIfInBounds_toArray, List.set_cons_zero, List.set_cons_succ]
        apply wpG_eq
        · intro W hW hs
          unfold opG
          go_simp
          first | exact resG_eq_mk _ _ _ | rfl
        simp only [Act.put, List.setIfInBounds_toArray, List.set_cons_zero, List.set_cons_succ]
        apply wpG_nil
        intro W9 hW9 hsAll
        have G9 := Lib.hid (Gr.trans HGR.out (Gr.trans G7.out (Gr.trans ((Gr.refl w7).drew) hW9)))
        clear hsAll hW9
        have hrr : (r != r) = false := by simp
        go_wp2
        go_roundw
        case rel => exact ⟨k + 1, by omega, by go_num, G9.out⟩
        case measure => simp [intOf]; omega
      | true =>
        obtain ⟨⟨x0, x1, x2, x3, x4, x5, x6⟩, ⟨y0, y1, y2, y3, y4, y5, y6⟩⟩ := T.out _ (Gr.refl _)
        go_wp2_with fail
        clear x0 x1 x2 x3 x4 x5 x6 y0 y1 y2 y3 y4 y5 y6
        refine (check_bad _ x sv1 ev1 sites regions HBD.out (S1.out _ (Gr.refl _)).1 S2.out.1 S2.out.2 HSI.out).mono ?_
        rintro e w7 ⟨rfl, g⟩
        have G7 := Lib.hid g
        clear g
        go_wp2_with fail
        apply wp_region_draw_grow (.eq _ :: .eq _ :: .eq _ :: .eq _ :: .eq _ :: .eq _ :: .eq _ :: .eq _ :: .eq _ :: .eq _ :: .eq _ :: .eq _ :: .eq _ :: .eq _ :: .eq _ :: .eq _ :: .eq _ :: .eq _ :: .eq _ :: .eq _ :: .eq _ :: .eq _ :: .eq _ :: .eq _ :: .eq _ :: .eq _ :: .eq _ :: .eq _ :: .eq _ :: .eq _ :: .eq _ :: .eq _ :: .eq _ :: []) (by kernel_rfl) (by kernel_rfl) trivial
        apply wpG_eq
        · intro W hW hs
          unfold opG
          go_simp
          first | exact resG_eq_mk _ _ _ | rfl
        simp only [Act.put, List.setIfInBounds_toArray, List.set_cons_zero, List.set_cons_succ]
        apply wpG_eq
        · intro W hW hs
          unfold opG
          go_simp
          first | exact resG_eq_mk _ _ _ | rfl
        simp only [Act.put, List.setIfInBounds_toArray, List.set_cons_zero, List.set_cons_succ]
        apply wpG_eq
        · intro W hW hs
          unfold opG
          go_simp
          first | exact resG_eq_mk _ _ _ | rfl
        simp only [Act.put, List.setIfInBounds_toArray, List.set_cons_zero, List.set_cons_succ]
        apply wpG_eq
        · intro W hW hs
          unfold opG
          go_simp
          first | exact resG_eq_mk _ _ _ | rfl
        simp only [Act.put, List.setIfInBounds_toArray, List.set_cons_zero, List.set_cons_succ]
        apply wpG_eq
        · intro W hW hs
          unfold opG
          go_simp
          first | exact resG_eq_mk _ _ _ | rfl
        simp only [Act.put, List.setIfInBounds_toArray, List.set_cons_zero, List.set_cons_succ]
        apply wpG_eq
        · intro W hW hs
          obtain ⟨⟨x0, x1, x2, x3, x4, x5, x6⟩, ⟨y0, y1, y2, y3, y4, y5, y6⟩⟩ := T.out W (Gr.trans G7.out (Gr.trans ((Gr.refl w7).drew) hW))
          unfold opG
          go_simp
          first | exact resG_eq_mk _ _ _ | rfl
        simp only [Act.put, List.setIfInBounds_toArray, List.set_cons_zero, List.set_cons_succ]
        apply wpG_eq
        · intro W hW hs
          unfold opG
          go_simp
          first | exact resG_eq_mk _ _ _ | rfl
        simp only [Act.put, List.setIfInBounds_toArray, List.set_cons_zero, List.set_cons_succ]
        apply wpG_eq
        · intro W hW hs
          unfold opG
          go_simp
          first | exact resG_eq_mk _ _ _ | rfl
        simp only [Act.put, List.setIfInBounds_toArray, List.set_cons_zero, List.set_cons_succ]
        apply wpG_eq
        · intro W hW hs
          have gW := Gr.trans G7.out (Gr.trans ((Gr.refl w7).drew) hW)
          unfold opG
          go_simp
          refine resG_call ((may_bad W x sv2 ev2 sites regions HBD.out (S1.out W gW).2.1 S2.out.1 S2.out.2 HSI.out).mono ?_)
          rintro e W2 ⟨rfl, g2⟩
          exact ⟨_, rfl, g2, rfl⟩
        simp only [Act.put, List.setIfInBounds_toArray, List.set_cons_zero, List.set_cons_succ]
        apply wpG_eq
        · intro W hW hs
          unfold opG
          go_simp
          first | exact resG_eq_mk _ _ _ | rfl
        simp only [Act.put, List.setIfInBounds_toArray, List.set_cons_zero, List.set_cons_succ]
        apply wpG_eq
        · intro W hW hs
          unfold opG
          go_simp
          first | exact resG_eq_mk _ _ _ | rfl
        simp only [Act.put, List.setIfInBounds_toArray, List.set_cons_zero, List.set_cons_succ]
        apply wpG_eq
        · intro W hW hs
          unfold opG
          go_simp
          first | exact resG_eq_mk _ _ _ | rfl
        simp only [Act.put, List.setIfInBounds_toArray, List.set_cons_zero, List.set_cons_succ]
        apply wpG_eq
        · intro W hW hs
          unfold opG
          go_simp
          first | exact resG_eq_mk _ _ _ | rfl
        simp only [Act.put, List.setIfInBounds_toArray, List.set_cons_zero, List.set_cons_succ]
        apply wpG_eq
        · intro W hW hs
          unfold opG
          go_simp
          first | exact resG_eq_mk _ _ _ | rfl
        simp only [Act.put, List.setIfInBounds_toArray, List.set_cons_zero, List.set_cons_succ]
        apply wpG_eq
        · intro W hW hs
          unfold opG
          go_simp
          first | exact resG_eq_mk _ _ _ | rfl
        simp only [Act.put, List.setIfInBounds_toArray, List.set_cons_zero, List.set_cons_succ]
        apply wpG_eq
        · intro W hW hs
          unfold opG
          go_simp
          first | exact resG_eq_mk _ _ _ | rfl
        simp only [Act.put, List.setIfInBounds_toArray, List.set_cons_zero, List.set_cons_succ]
        apply wpG_eq
        · intro W hW hs
          unfold opG
          go_simp
          first | exact resG_eq_mk _ _ _ | rfl
        simp only [Act.put, List.setIfInBounds_toArray, List.set_cons_zero, List.set_cons_succ]
        apply wpG_eq
        · intro W hW hs
          unfold opG
          go_simp
          first | exact resG_eq_mk _ _ _ | rfl
        simp only [Act.put, List.setIfInBounds_toArray, List.set_cons_zero, List.set_cons_succ]
        apply wpG_eq
        · intro W hW hs
          unfold opG
          go_simp
          first | exact resG_eq_mk _ _ _ | rfl
        simp only [Act.put, List.setIfInBounds_toArray, List.set_cons_zero, List.set_cons_succ]
        apply wpG_eq
        · intro W hW hs
          unfold opG
          go_simp
          first | exact resG_eq_mk _ _ _ | rfl
        simp only [Act.put, List.setIfInBounds_toArray, List.set_cons_zero, List.set_cons_succ]
        apply wpG_eq
        · intro W hW hs
          unfold opG
          go_simp
          first | exact resG_eq_mk _ _ _ | rfl
        simp only [Act.put, List.setIfInBounds_toArray, List.set_cons_zero, List.set_cons_succ]
        apply wpG_eq
        · intro W hW hs
          unfold opG
          go_simp
          first | exact resG_eq_mk _ _ _ | rfl
        simp only [Act.put, List.setIfInBounds_toArray, List.set_cons_zero, List.set_cons_succ]
        apply wpG_eq
        · intro W hW hs
          obtain ⟨⟨x0, x1, x2, x3, x4, x5, x6⟩, ⟨y0, y1, y2, y3, y4, y5, y6⟩⟩ := T.out W (Gr.trans G7.out (Gr.trans ((Gr.refl w7).drew) hW))
          unfold opG
          go_simp
          first | exact resG_eq_mk _ _ _ | rfl
        simp only [Act.put, List.setIfInBounds_toArray, List.set_cons_zero, List.set_cons_succ]
        apply wpG_eq
        · intro W hW hs
          unfold opG
          go_simp
          first | exact resG_eq_mk _ _ _ | rfl
        simp only [Act.put, List.setIfInBounds_toArray, List.set_cons_zero, List.set_cons_succ]
        apply wpG_eq
        · intro W hW hs
          have gW := Gr.trans G7.out (Gr.trans ((Gr.refl w7).drew) hW)
          unfold opG
          go_simp
          refine resG_call ((ready_is W x sv1 ev1 _ v r HRV.out (S1.out W gW).1 (S1.out W gW).2.2 S2.out.1 S2.out.2 (Nat.le_trans hv11 (by decide))).mono ?_)
          rintro e W2 ⟨rfl, g2⟩
          exact ⟨_, rfl, g2, rfl⟩
        simp only [Act.put, List.setIfInBounds_toArray, List.set_cons_zero, List.set_cons_succ]
        apply wpG_eq
        · intro W hW hs
          unfold opG
          go_simp
          first | exact resG_eq_mk _ _ _ | rfl
        simp only [Act.put, List.setIfInBounds_toArray, List.set_cons_zero, List.set_cons_succ]
        apply wpG_eq
        · intro W hW hs
          unfold opG
          go_simp
          first | exact resG_eq_mk _ _ _ | rfl
        simp only [Act.put, List.setIfInBounds_toArray, List.set_cons_zero, List.set_cons_succ]
        apply wpG_eq
        · intro W hW hs
          unfold opG
          go_simp
          first | exact resG_eq_mk _ _ _ | rfl
        simp only [Act.put, List.setIfInBounds_toArray, List.set_cons_zero, List.set_cons_succ]
        apply wpG_eq
        · intro W hW hs
          obtain ⟨⟨x0, x1, x2, x3, x4, x5, x6⟩, ⟨y0, y1, y2, y3, y4, y5, y6⟩⟩ := T.out W (Gr.trans G7.out (Gr.trans ((Gr.refl w7).drew) hW))
          unfold opG
          go_simp
          first | exact resG_eq_mk _ _ _ | rfl
        simp only [Act.put, List.setIfInBounds_toArray, List.set_cons_zero, List.set_cons_succ]
        apply wpG_eq
        · intro W hW hs
          unfold opG
          go_simp
          first | exact resG_eq_mk _ _ _ | rfl
        simp only [Act.put, List.setIfInBounds_toArray, List.set_cons_zero, List.set_cons_succ]
        apply wpG_eq
        · intro W hW hs
          have gW := Gr.trans G7.out (Gr.trans ((Gr.refl w7).drew) hW)
          unfold opG
          go_simp
          refine resG_call ((refready_is W x sv2 ev2 _ v r HRV.out (S1.out W gW).2.1 (S1.out W gW).2.2 S2.out.1 S2.out.2 (Nat.le_trans hv11 (by decide))).mono ?_)
          rintro e W2 ⟨rfl, g2⟩
          exact ⟨_, rfl, g2, rfl⟩
        simp only [Act.put, List.setIfInBounds_toArray, List.set_cons_zero, List.set_cons_succ]
        apply wpG_eq
        · intro W hW hs
          unfold opG
          go_simp
          first | exact resG_eq_mk _ _ _ | rfl
        simp only [Act.put, List.setIfInBounds_toArray, List.set_cons_zero, List.set_cons_succ]
        apply wpG_eq
        · intro W hW hs
          unfold opG
          go_simp
          first | exact resG_eq_mk _ _ _ | rfl
        simp only [Act.put, List.setIfInBounds_toArray, List.set_cons_zero, List.set_cons_succ]
        apply wpG_nil
        intro W9 hW9 hsAll
        have G9 := Lib.hid (Gr.trans HGR.out (Gr.trans G7.out (Gr.trans ((Gr.refl w7).drew) hW9)))
        clear hsAll hW9
        have hrr : (r != r) = false := by simp
        go_wp2
        go_roundw
        case rel => exact ⟨k + 1, by omega, by go_num, G9.out⟩
        case measure => simp [intOf]; omega
    · obtain rfl : k = n := by omega
      go_wp2_with fail
      refine (all_true _ _ _ xs (HINB.out.below HGI.out) (HIT.out.below HGL.out) HF.out HN2.out).mono ?_
      rintro e w8 ⟨rfl, g⟩
      have G8 := Lib.hid (Gr.trans HGL.out g)
      clear g
      go_wp2_with fail
      refine (goes_any _).mono ?_
      rintro e w9 ⟨rfl, g⟩
      have G9 := Lib.hid (Gr.trans G8.out g)
      clear g
      go_wp2
      go_ret
      exact ⟨rfl, G9.out⟩

open Go.ChangeShapes Go.WideShapes Go.ChangeAt Go.RowKit
open Go.ChangeMaps (open_string shut_string)
theorem own_streamPlays : ownKnob Try.prog.godebug = none := by kernel_rfl
theorem laidOut_streamPlays : laidOutB Try.prog = true := by kernel_rfl
set_option maxRecDepth 100000 in
theorem lifted_streamPlays (os : Os) (started : os.Started) (H : Type) (enc : TypeId × Value → H) :
    ReturnsInHanded {} Try.checked os 3 .any (Rows.streamPlaysSpec.pre6 enc Try.prog Try.f3 Rows.streamPlaysRow.domain false) (Rows.streamPlaysSpec.post enc Try.prog Try.f3 false true false false) := by
  refine returnsInHanded_of_change_sized (C := Try.checked) own_streamPlays started (by kernel_rfl) Try.func3
    (ChangeSpec.witness6 (enc := enc) (C := Try.checked) false ⟨#[], #[.slice Option.none 0 0, .int .u64 0, .slice Option.none 0 0, .int .i64 0, .int .i64 0], []⟩ 8 (by kernel_rfl) (by kernel_rfl) (by kernel_rfl) (by kernel_rfl)) ?_
  intro W base args ds gs before hval0 hW hcnd hsz _
  have hval : ∀ (j : Nat) t v, Try.f3.params[j]? = some t → args[j]? = some v → Value.okWide Try.prog W .any base t v := hval0
  have hW' := hW
  obtain ⟨p, q, hA0, hV, rfl, hfz, hnd⟩ := hW
  have hA : DataW.TrodAll enc Try.prog W 0 (fun _ => true) true Try.f3.params.toList args.toList ds p := hA0
  rw [Try.params3] at hA hval
  obtain ⟨v0, vs0, d0, ds0, p0, q0, hargs, rfl, rfl, k0, r0⟩ := trodAll_cons hA
  obtain ⟨v1, vs1, d1, ds1, p1, q1, rfl, rfl, rfl, k1, r1⟩ := trodAll_cons r0
  obtain ⟨v2, vs2, d2, ds2, p2, q2, rfl, rfl, rfl, k2, r2⟩ := trodAll_cons r1
  obtain ⟨v3, vs3, d3, ds3, p3, q3, rfl, rfl, rfl, k3, r3⟩ := trodAll_cons r2
  obtain ⟨v4, vs4, d4, ds4, p4, q4, rfl, rfl, rfl, k4, r4⟩ := trodAll_cons r3
  obtain ⟨rfl, rfl, rfl⟩ := trodAll_nil r4
  obtain rfl : args = #[v0, v1, v2, v3, v4] := by cases args; simp_all
  obtain ⟨rfl, rfl⟩ := trodVars_none hV
  have lt0 : ∀ x ∈ p0, x.block < W.heap.size := by obtain ⟨m, hm⟩ := k0; exact DataW.trod_lt m _ _ _ hm
  have lt1 : ∀ x ∈ p1, x.block < W.heap.size := by obtain ⟨m, hm⟩ := k1; exact DataW.trod_lt m _ _ _ hm
  have lt2 : ∀ x ∈ p2, x.block < W.heap.size := by obtain ⟨m, hm⟩ := k2; exact DataW.trod_lt m _ _ _ hm
  have lt3 : ∀ x ∈ p3, x.block < W.heap.size := by obtain ⟨m, hm⟩ := k3; exact DataW.trod_lt m _ _ _ hm
  have lt4 : ∀ x ∈ p4, x.block < W.heap.size := by obtain ⟨m, hm⟩ := k4; exact DataW.trod_lt m _ _ _ hm
  obtain ⟨l0, s0, m0⟩ := open_items (hval 0 22 v0 rfl rfl) k0 (fit_arg hsz 0 22 d0 rfl rfl)
  obtain ⟨a1, rfl, w1⟩ := open_nat rfl Try.underlying23 (hval 1 23 v1 rfl rfl) k1
  obtain ⟨l2, s2, m2, b2⟩ := open_nums Try.underlying24 Try.underlying23 (by kernel_rfl) (hval 2 24 v2 rfl rfl) k2
  obtain ⟨a3, rfl, u3, x3, y3⟩ := open_int Try.underlying3 (hval 3 3 v3 rfl rfl) k3
  obtain ⟨a4, rfl, _, _, w4⟩ := open_int Try.underlying3 (hval 4 3 v4 rfl rfl) k4
  clear hA0 hval0
  refine (plays_walk W v0 v2 l0 a1 l2 a3 a4 s0 m0 w1 s2 m2 (i64_wf y3)    ).mono fun e W' ⟨he, bel⟩ => ?_
  subst he
  exact ⟨_, rfl, _, _, _, [], _, [], hW', trodAll_mk1 (shut_bool Try.underlying4 _), (trodAll_cons_mk (Below.trod laidOut_streamPlays (by kernel_rfl) (of_decide_eq_true (by kernel_rfl)) k0 bel lt0) (trodAll_cons_mk (Below.trod laidOut_streamPlays (by kernel_rfl) (of_decide_eq_true (by kernel_rfl)) k1 bel lt1) (trodAll_cons_mk (Below.trod laidOut_streamPlays (by kernel_rfl) (of_decide_eq_true (by kernel_rfl)) k2 bel lt2) (trodAll_cons_mk (Below.trod laidOut_streamPlays (by kernel_rfl) (of_decide_eq_true (by kernel_rfl)) k3 bel lt3) (trodAll_cons_mk (Below.trod laidOut_streamPlays (by kernel_rfl) (of_decide_eq_true (by kernel_rfl)) k4 bel lt4) trodAll_mk0))))), rfl, bel.frame _, fun h => by cases h⟩

theorem over_streamPlays : Rows.streamPlaysRow.holds Try.pinned (OpenSpec.ofChange Rows.streamPlaysSpec) :=
  OpenClaim.holds_of_wide 3 Try.f3 rfl rfl rfl rfl rfl rfl rfl ⟨rfl, rfl, rfl, rfl, rfl⟩ rfl rfl rfl rfl rfl (by kernel_rfl) Try.func3 (by kernel_rfl)
    (of_decide_eq_true (by kernel_rfl)) (by unfold Func.isWrapper; first | (rw [if_pos (by decide +kernel)]; kernel_rfl) | (rw [if_neg (by decide +kernel)]; exact ⟨rfl, rfl⟩))
    (fun os started H enc _ => lifted_streamPlays os started H enc)

theorem streamPlays_proved : Rows.StreamPlaysSaid := over_streamPlays
#print axioms streamPlays_proved
end Go.Proofs.Ytpdninnnpoiblaa
