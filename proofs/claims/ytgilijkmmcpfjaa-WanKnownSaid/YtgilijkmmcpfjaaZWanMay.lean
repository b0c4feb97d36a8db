/-
  wan.may: the call.
-/
import Derived.Test.YtgilijkmmcpfjaaZP
import Derived.Test.YtgilijkmmcpfjaaZLateTail
set_option linter.unusedVariables false
set_option linter.unusedSimpArgs false
set_option maxRecDepth 100000
namespace Go.Proofs.Ytgilijkmmcpfjaa
open Go.RowKit
/-- The block of what a kind has: a pointer to it and its cells. -/
def HasAt (W : World) (h : Nat) (a b c d e : Bool) : Prop := CellsAt W h [.bool a, .bool b, .bool c, .bool d, .bool e] 54
set_option maxHeartbeats 8000000 in
theorem mayW_any (w : World) (x : WanD) (vv iv fv : Value) (hp : WanP Any w x vv iv fv) (ok : WanOk x) (len : WanLen x) :
    Calls Try.prog 18 #[.agg (wanCells x vv iv fv).toArray] w (RetBool w (mayW x)) := by
  obtain ⟨hk, hsi, _, _, hre, hep, _⟩ := ok
  obtain ⟨va, vc, rfl, _, _⟩ := Sl.numsAt' hp.1.1
  obtain ⟨fa, fc, rfl, _, _⟩ := Sl.numsAt' hp.2.2.1
  obtain ⟨ia, ic, rfl⟩ := hp.2.1.shape
  obtain ⟨n, hn⟩ : ∃ n, n = x.items.length := ⟨_, rfl⟩
  obtain ⟨kw, hkw⟩ : ∃ kw, kw = kindW x.kind := ⟨_, rfl⟩
  obtain ⟨hv, hhv⟩ : ∃ hv, hv = hasV x.kind := ⟨_, rfl⟩
  obtain ⟨hi, hhi⟩ : ∃ hi, hi = hasI x.kind := ⟨_, rfl⟩
  obtain ⟨hr, hhr⟩ : ∃ hr, hr = hasR x.kind := ⟨_, rfl⟩
  obtain ⟨he, hhe⟩ : ∃ he, he = hasE x.kind := ⟨_, rfl⟩
  obtain ⟨hf, hhf⟩ : ∃ hf, hf = hasF x.kind := ⟨_, rfl⟩
  obtain ⟨sv, hsv⟩ : ∃ sv, sv = stampW x.vector (hasV x.kind) := ⟨_, rfl⟩
  obtain ⟨sf, hsf⟩ : ∃ sf, sf = stampW x.frontier (hasF x.kind) := ⟨_, rfl⟩
  obtain ⟨al, hal⟩ : ∃ al, al = x.items.all mayItem := ⟨_, rfl⟩
  have LOOK : Hid (∀ W g, WMap W g → (Instr.lookup 55 (.map (some g)) (.int .u8 (x.kind : Int)) true).run Try.prog W = .ok (.tuple #[hC hv hi hr he hf, .bool kw]) W) := Lib.hid fun W g h => by
    have := h.look2 x.kind hk
    unfold hasC at this
    rw [← hhv, ← hhi, ← hhr, ← hhe, ← hhf, ← hkw] at this
    exact this
  have SV0 : Hid (∀ W, Gr w W → Calls Try.prog 50 #[.slice va x.vector.length vc, .bool hv] W (RetBool W sv)) := Lib.hid fun W g => by rw [hsv, hhv]; exact wstamp_any W _ x.vector _ (hp.1.gr g).1
  have SF0 : Hid (∀ W, Gr w W → Calls Try.prog 50 #[.slice fa x.frontier.length fc, .bool hf] W (RetBool W sf)) := Lib.hid fun W g => by rw [hsf, hhf]; exact wstamp_any W _ x.frontier _ (hp.2.2.gr g).1
  have CI0 : Hid (∀ W, Gr w W → Calls Try.prog 51 #[.slice ia n ic, .func (.func 48) #[] #[]] W (RetBool W (!al))) := Lib.hid fun W g => by rw [hal, hn]; exact contI_any W _ x.items (hp.2.1.gr g) len.items len.effs
  have HM : Hid (mayW x = (kw && decide (0 ≤ x.site) && decide (x.site < 3) && sv && sf && (decide (x.region = 0) || (hr && decide (0 < x.region) && decide (x.region < 4))) && (decide (x.epoch = 0) || he) && (decide (n = 0) || (hi && decide (n ≤ 8))) && al)) := Lib.hid (by unfold mayW; rw [hkw, hhr, hhe, hhi, hsv, hsf, hal, hn])
  obtain ⟨E, hE⟩ : ∃ E, E = wanCells x (.slice va x.vector.length vc) (.slice ia x.items.length ic) (.slice fa x.frontier.length fc) := ⟨_, rfl⟩
  have CE : Hid (∀ W B, CellsAt W B E 26 → W.cell? ⟨B, 0, none⟩ = some (.int .u8 (x.kind : Int)) ∧ W.cell? ⟨B, 1, none⟩ = some (.int .i64 x.site) ∧ W.cell? ⟨B, 2, none⟩ = some (.slice va x.vector.length vc) ∧ W.cell? ⟨B, 3, none⟩ = some (.slice ia n ic) ∧ W.cell? ⟨B, 4, none⟩ = some (.int .i64 x.region) ∧ W.cell? ⟨B, 5, none⟩ = some (.int .u64 (x.epoch : Int)) ∧ W.cell? ⟨B, 6, none⟩ = some (.slice fa x.frontier.length fc)) := Lib.hid fun W B h => by
    subst hE; rw [hn]
    exact ⟨h.cell 0, h.cell 1, h.cell 2, h.cell 3, h.cell 4, h.cell 5, h.cell 6⟩
  rw [← hE]
  clear hn hkw hhv hhi hhr hhe hhf hsv hsf hal hE hp len
  go_enter Try.func18, Try.ntmps18
  simp only [List.append]
  go_wp2_with (first | (refine wpList_boxE _ rfl rfl rfl ?_) | fail)
  intro w1 K1 G1 n1
  obtain ⟨b, hb⟩ : ∃ b, b = w.heap.size := ⟨_, rfl⟩
  rw [← hb]
  rw [← hb] at K1
  have GW := Lib.hid G1
  have CK : Hid (∀ W, Gr w1 W → _) := Lib.hid fun W hW => CE.out W b (K1.gr hW)
  have GD : Hid (Gr w1 w1.drew) := Lib.hid ((Gr.refl w1).drew)
  clear K1 G1 n1 hb
  go_wp2_with fail
  apply wp_region_draw_late 8 6 (.ok (fun v W => ∃ g, v = .map (some g) ∧ WMap W g) :: .eq _ :: .eq _ :: .eq (.tuple #[hC hv hi hr he hf, .bool kw]) :: .eq _ :: .eq _ :: .eq _ :: .ok (fun v W => ∃ h, v = .pointer (some ⟨h, 0, none⟩) ∧ CellsAt W h [.bool false, .bool false, .bool false, .bool false, .bool false] 54 ∧ w1.heap.size ≤ h) :: []) rfl rfl rfl (by kernel_rfl) (by kernel_rfl) ⟨fun v W W' hg ⟨g, e, hk⟩ => ⟨g, e, hk.below hg⟩, fun v W W' hg ⟨h, e, hb, hs⟩ => ⟨h, e, hb.gr hg, hs⟩, trivial⟩ (extract_pure rfl).1 (extract_pure rfl).2
  simp only [List.take_succ_cons, List.take_zero, List.drop_succ_cons, List.drop_zero]
  apply wpG_ok
  · intro W hW hs
    unfold opG
    go_simp
    refine resG_call ((wkinds_any _).mono ?_)
    rintro e W2 ⟨g, rfl, hk, hg⟩
    exact ⟨_, rfl, hg, g, rfl, hk⟩
  intro v1
  simp only [Act.put, pt1, pt2, pt3]
  iterate 2
   apply wpG_eq
   · intro W hW hs
     have cn := (CK.out W (GD.out.trans hW)).1
     unfold opG
     go_simp
     first | exact resG_eq_mk _ _ _ | rfl
   simp only [Act.put, pt1, pt2, pt3]
  apply wpG_eq
  · intro W hW hs
    obtain ⟨g, rfl, hkm⟩ := hs _ (.head _) rfl
    have q1 := LOOK.out W g hkm
    unfold opG
    go_simp
    exact resG_eq_mk _ _ _
  simp only [Act.put, pt1, pt2, pt3]
  apply wpG_eq
  · intro W hW hs
    unfold opG
    go_simp
    first | exact resG_eq_mk _ _ _ | rfl
  simp only [Act.put, pt1, pt2, pt3]
  unfold hC
  iterate 2
   apply wpG_eq
   · intro W hW hs
     unfold opG
     go_simp
     first | exact resG_eq_mk _ _ _ | rfl
   simp only [Act.put, pt1, pt2, pt3]
  apply wpG_ok
  · intro W hW hs
    unfold opG
    go_simp
    exact resG_mk ((Gr.refl W).alloc _) ⟨_, rfl, CellsAt.new _ _ _, hW.size⟩
  intro v2
  simp only [Act.put, pt1, pt2, pt3]
  apply wpG_nil
  intro W1 hW1 hsAll
  obtain ⟨h, rfl, kbh, hsz⟩ := hsAll _ (.head _)
  have f0 := kbh.cell 0
  have f1 := kbh.cell 1
  have f2 := kbh.cell 2
  have f3 := kbh.cell 3
  have f4 := kbh.cell 4
  have z0 := kbh.frozen 0
  have z1 := kbh.frozen 1
  have z2 := kbh.frozen 2
  have z3 := kbh.frozen 3
  have z4 := kbh.frozen 4
  have KB := Lib.hid kbh
  have HW1 := Lib.hid hW1
  have HSZ : Hid (w1.heap.size ≤ h) := Lib.hid hsz
  clear hsAll kbh hW1 hsz
  apply Exists.intro
  apply And.intro
  · go_simp
    rfl
  obtain ⟨w5, hw5⟩ : ∃ w5, w5 = ((((W1.setCell ⟨h, 0, none⟩ (.bool hv)).setCell ⟨h, 1, none⟩ (.bool hi)).setCell ⟨h, 2, none⟩ (.bool hr)).setCell ⟨h, 3, none⟩ (.bool he)).setCell ⟨h, 4, none⟩ (.bool hf) := ⟨_, rfl⟩
  rw [← hw5]
  have k5 : HasAt w5 h hv hi hr he hf := by rw [hw5]; exact (((((KB.out.set 0 (.bool hv)).set 1 (.bool hi)).set 2 (.bool hr)).set 3 (.bool he)).set 4 (.bool hf))
  have g5 : Gr w1 w5 := by rw [hw5]; exact ((((((GD.out.trans HW1.out).setCell (p := ⟨h, 0, none⟩) HSZ.out _).setCell (p := ⟨h, 1, none⟩) HSZ.out _).setCell (p := ⟨h, 2, none⟩) HSZ.out _).setCell (p := ⟨h, 3, none⟩) HSZ.out _).setCell (p := ⟨h, 4, none⟩) HSZ.out _)
  have CL : Hid (∀ W, Gr w5 W → W.cell? ⟨b, 1, none⟩ = some (.int .i64 x.site) ∧ W.cell? ⟨b, 2, none⟩ = some (.slice va x.vector.length vc) ∧ W.cell? ⟨b, 3, none⟩ = some (.slice ia n ic) ∧ W.cell? ⟨b, 4, none⟩ = some (.int .i64 x.region) ∧ W.cell? ⟨b, 5, none⟩ = some (.int .u64 (x.epoch : Int)) ∧ W.cell? ⟨b, 6, none⟩ = some (.slice fa x.frontier.length fc) ∧
      W.cell? ⟨h, 0, none⟩ = some (.bool hv) ∧ W.cell? ⟨h, 1, none⟩ = some (.bool hi) ∧ W.cell? ⟨h, 2, none⟩ = some (.bool hr) ∧ W.cell? ⟨h, 3, none⟩ = some (.bool he) ∧ W.cell? ⟨h, 4, none⟩ = some (.bool hf)) := Lib.hid fun W hW => by
    obtain ⟨_, a1, a2, a3, a4, a5, a6⟩ := CK.out W (g5.trans hW)
    have k := CellsAt.gr k5 hW
    exact ⟨a1, a2, a3, a4, a5, a6, k.cell 0, k.cell 1, k.cell 2, k.cell 3, k.cell 4⟩
  have GG : Hid (Gr w w5) := Lib.hid (GW.out.trans g5)
  have SV : Hid (∀ W, Gr w5 W → _) := Lib.hid fun W hW => SV0.out W (GG.out.trans hW)
  have SF : Hid (∀ W, Gr w5 W → _) := Lib.hid fun W hW => SF0.out W (GG.out.trans hW)
  have CI : Hid (∀ W, Gr w5 W → _) := Lib.hid fun W hW => CI0.out W (GG.out.trans hW)
  clear f0 f1 f2 f3 f4 z0 z1 z2 z3 z4 KB HW1 HSZ hw5 k5 g5 CK CE GD GW LOOK SV0 SF0 CI0
  obtain ⟨w5c1, w5c2, w5c3, w5c4, w5c5, w5c6, w5h0, w5h1, w5h2, w5h3, w5h4⟩ := CL.out w5 (Gr.refl _)
  cases kw with
  | false =>
    go_wp2
    go_ret
    exact RetBool.mk (by rw [HM.out]; simp [] <;> (intros; omega)) (GG.out.trans (Gr.refl _))
  | true =>
  by_cases h1 : 0 ≤ x.site
  case neg =>
    go_wp2
    go_ret
    exact RetBool.mk (by rw [HM.out]; simp [h1] <;> (intros; omega)) (GG.out.trans (Gr.refl _))
  by_cases h2 : x.site < 3
  case neg =>
    go_wp2
    go_ret
    exact RetBool.mk (by rw [HM.out]; simp [h2] <;> (intros; omega)) (GG.out.trans (Gr.refl _))
  cases sv with
  | false =>
    go_wp2_with fail
    refine (SV.out w5 (Gr.refl _)).mono ?_
    rintro e6 w6 ⟨rfl, g6⟩
    have G6 := Lib.hid g6
    have C6 := Lib.hid (CL.out w6 g6)
    clear g6
    obtain ⟨w6c1, w6c2, w6c3, w6c4, w6c5, w6c6, w6h0, w6h1, w6h2, w6h3, w6h4⟩ := C6.out
    go_wp2
    go_ret
    exact RetBool.mk (by rw [HM.out]; simp [] <;> (intros; omega)) (GG.out.trans G6.out)
  | true =>
  cases sf with
  | false =>
    go_wp2_with fail
    refine (SV.out w5 (Gr.refl _)).mono ?_
    rintro e6 w6 ⟨rfl, g6⟩
    have G6 := Lib.hid g6
    have C6 := Lib.hid (CL.out w6 g6)
    clear g6
    obtain ⟨w6c1, w6c2, w6c3, w6c4, w6c5, w6c6, w6h0, w6h1, w6h2, w6h3, w6h4⟩ := C6.out
    go_wp2_with fail
    refine (SF.out w6 G6.out).mono ?_
    rintro e7 w7 ⟨rfl, g7⟩
    have G7 := Lib.hid (G6.out.trans g7)
    clear g7
    have C7 := Lib.hid (CL.out w7 G7.out)
    obtain ⟨w7c1, w7c2, w7c3, w7c4, w7c5, w7c6, w7h0, w7h1, w7h2, w7h3, w7h4⟩ := C7.out
    go_wp2
    go_ret
    exact RetBool.mk (by rw [HM.out]; simp [] <;> (intros; omega)) (GG.out.trans G7.out)
  | true =>
  by_cases r0 : x.region = 0
  case pos =>
    have rq0 : (x.region == 0) = true := by simp [r0]
    by_cases e0 : x.epoch = 0
    case pos =>
      have eq0 : ((x.epoch : Int) == 0) = true := by simp [e0]
      by_cases i0 : n = 0
      case pos =>
        subst i0
        go_wp2_with fail
        refine (SV.out w5 (Gr.refl _)).mono ?_
        rintro e6 w6 ⟨rfl, g6⟩
        have G6 := Lib.hid g6
        have C6 := Lib.hid (CL.out w6 g6)
        clear g6
        obtain ⟨w6c1, w6c2, w6c3, w6c4, w6c5, w6c6, w6h0, w6h1, w6h2, w6h3, w6h4⟩ := C6.out
        go_wp2_with fail
        refine (SF.out w6 G6.out).mono ?_
        rintro e7 w7 ⟨rfl, g7⟩
        have G7 := Lib.hid (G6.out.trans g7)
        clear g7
        have C7 := Lib.hid (CL.out w7 G7.out)
        obtain ⟨w7c1, w7c2, w7c3, w7c4, w7c5, w7c6, w7h0, w7h1, w7h2, w7h3, w7h4⟩ := C7.out
        go_wp2_with fail
        refine (CI.out w7 G7.out).mono ?_
        rintro e8 w8 ⟨rfl, g8⟩
        have G8 := Lib.hid (G7.out.trans g8)
        clear g8
        go_wp2
        go_ret
        exact RetBool.mk (by rw [HM.out]; simp [h1, h2, r0, e0] <;> (intros; omega)) (GG.out.trans G8.out)
      have in0 : ((n : Int) == 0) = false := by simp [i0]
      cases hi with
      | false =>
        go_wp2_with fail
        refine (SV.out w5 (Gr.refl _)).mono ?_
        rintro e6 w6 ⟨rfl, g6⟩
        have G6 := Lib.hid g6
        have C6 := Lib.hid (CL.out w6 g6)
        clear g6
        obtain ⟨w6c1, w6c2, w6c3, w6c4, w6c5, w6c6, w6h0, w6h1, w6h2, w6h3, w6h4⟩ := C6.out
        go_wp2_with fail
        refine (SF.out w6 G6.out).mono ?_
        rintro e7 w7 ⟨rfl, g7⟩
        have G7 := Lib.hid (G6.out.trans g7)
        clear g7
        have C7 := Lib.hid (CL.out w7 G7.out)
        obtain ⟨w7c1, w7c2, w7c3, w7c4, w7c5, w7c6, w7h0, w7h1, w7h2, w7h3, w7h4⟩ := C7.out
        go_wp2
        go_ret
        exact RetBool.mk (by rw [HM.out]; simp [h1, h2, r0, e0, i0] <;> (intros; omega)) (GG.out.trans G7.out)
      | true =>
      by_cases i8 : n ≤ 8
      case neg =>
        have in8 : ¬ (n : Int) ≤ 8 := by omega
        go_wp2_with fail
        refine (SV.out w5 (Gr.refl _)).mono ?_
        rintro e6 w6 ⟨rfl, g6⟩
        have G6 := Lib.hid g6
        have C6 := Lib.hid (CL.out w6 g6)
        clear g6
        obtain ⟨w6c1, w6c2, w6c3, w6c4, w6c5, w6c6, w6h0, w6h1, w6h2, w6h3, w6h4⟩ := C6.out
        go_wp2_with fail
        refine (SF.out w6 G6.out).mono ?_
        rintro e7 w7 ⟨rfl, g7⟩
        have G7 := Lib.hid (G6.out.trans g7)
        clear g7
        have C7 := Lib.hid (CL.out w7 G7.out)
        obtain ⟨w7c1, w7c2, w7c3, w7c4, w7c5, w7c6, w7h0, w7h1, w7h2, w7h3, w7h4⟩ := C7.out
        go_wp2
        go_ret
        exact RetBool.mk (by rw [HM.out]; simp [h1, h2, r0, e0, i0, i8] <;> (intros; omega)) (GG.out.trans G7.out)
      have in8 : (n : Int) ≤ 8 := by omega
      go_wp2_with fail
      refine (SV.out w5 (Gr.refl _)).mono ?_
      rintro e6 w6 ⟨rfl, g6⟩
      have G6 := Lib.hid g6
      have C6 := Lib.hid (CL.out w6 g6)
      clear g6
      obtain ⟨w6c1, w6c2, w6c3, w6c4, w6c5, w6c6, w6h0, w6h1, w6h2, w6h3, w6h4⟩ := C6.out
      go_wp2_with fail
      refine (SF.out w6 G6.out).mono ?_
      rintro e7 w7 ⟨rfl, g7⟩
      have G7 := Lib.hid (G6.out.trans g7)
      clear g7
      have C7 := Lib.hid (CL.out w7 G7.out)
      obtain ⟨w7c1, w7c2, w7c3, w7c4, w7c5, w7c6, w7h0, w7h1, w7h2, w7h3, w7h4⟩ := C7.out
      go_wp2_with fail
      refine (CI.out w7 G7.out).mono ?_
      rintro e8 w8 ⟨rfl, g8⟩
      have G8 := Lib.hid (G7.out.trans g8)
      clear g8
      go_wp2
      go_ret
      exact RetBool.mk (by rw [HM.out]; simp [h1, h2, r0, e0, i0, i8] <;> (intros; omega)) (GG.out.trans G8.out)
    have eq0 : ((x.epoch : Int) == 0) = false := by simp [e0]
    cases he with
    | false =>
      go_wp2_with fail
      refine (SV.out w5 (Gr.refl _)).mono ?_
      rintro e6 w6 ⟨rfl, g6⟩
      have G6 := Lib.hid g6
      have C6 := Lib.hid (CL.out w6 g6)
      clear g6
      obtain ⟨w6c1, w6c2, w6c3, w6c4, w6c5, w6c6, w6h0, w6h1, w6h2, w6h3, w6h4⟩ := C6.out
      go_wp2_with fail
      refine (SF.out w6 G6.out).mono ?_
      rintro e7 w7 ⟨rfl, g7⟩
      have G7 := Lib.hid (G6.out.trans g7)
      clear g7
      have C7 := Lib.hid (CL.out w7 G7.out)
      obtain ⟨w7c1, w7c2, w7c3, w7c4, w7c5, w7c6, w7h0, w7h1, w7h2, w7h3, w7h4⟩ := C7.out
      go_wp2
      go_ret
      exact RetBool.mk (by rw [HM.out]; simp [h1, h2, r0, e0] <;> (intros; omega)) (GG.out.trans G7.out)
    | true =>
    by_cases i0 : n = 0
    case pos =>
      subst i0
      go_wp2_with fail
      refine (SV.out w5 (Gr.refl _)).mono ?_
      rintro e6 w6 ⟨rfl, g6⟩
      have G6 := Lib.hid g6
      have C6 := Lib.hid (CL.out w6 g6)
      clear g6
      obtain ⟨w6c1, w6c2, w6c3, w6c4, w6c5, w6c6, w6h0, w6h1, w6h2, w6h3, w6h4⟩ := C6.out
      go_wp2_with fail
      refine (SF.out w6 G6.out).mono ?_
      rintro e7 w7 ⟨rfl, g7⟩
      have G7 := Lib.hid (G6.out.trans g7)
      clear g7
      have C7 := Lib.hid (CL.out w7 G7.out)
      obtain ⟨w7c1, w7c2, w7c3, w7c4, w7c5, w7c6, w7h0, w7h1, w7h2, w7h3, w7h4⟩ := C7.out
      go_wp2_with fail
      refine (CI.out w7 G7.out).mono ?_
      rintro e8 w8 ⟨rfl, g8⟩
      have G8 := Lib.hid (G7.out.trans g8)
      clear g8
      go_wp2
      go_ret
      exact RetBool.mk (by rw [HM.out]; simp [h1, h2, r0, e0] <;> (intros; omega)) (GG.out.trans G8.out)
    have in0 : ((n : Int) == 0) = false := by simp [i0]
    cases hi with
    | false =>
      go_wp2_with fail
      refine (SV.out w5 (Gr.refl _)).mono ?_
      rintro e6 w6 ⟨rfl, g6⟩
      have G6 := Lib.hid g6
      have C6 := Lib.hid (CL.out w6 g6)
      clear g6
      obtain ⟨w6c1, w6c2, w6c3, w6c4, w6c5, w6c6, w6h0, w6h1, w6h2, w6h3, w6h4⟩ := C6.out
      go_wp2_with fail
      refine (SF.out w6 G6.out).mono ?_
      rintro e7 w7 ⟨rfl, g7⟩
      have G7 := Lib.hid (G6.out.trans g7)
      clear g7
      have C7 := Lib.hid (CL.out w7 G7.out)
      obtain ⟨w7c1, w7c2, w7c3, w7c4, w7c5, w7c6, w7h0, w7h1, w7h2, w7h3, w7h4⟩ := C7.out
      go_wp2
      go_ret
      exact RetBool.mk (by rw [HM.out]; simp [h1, h2, r0, e0, i0] <;> (intros; omega)) (GG.out.trans G7.out)
    | true =>
    by_cases i8 : n ≤ 8
    case neg =>
      have in8 : ¬ (n : Int) ≤ 8 := by omega
      go_wp2_with fail
      refine (SV.out w5 (Gr.refl _)).mono ?_
      rintro e6 w6 ⟨rfl, g6⟩
      have G6 := Lib.hid g6
      have C6 := Lib.hid (CL.out w6 g6)
      clear g6
      obtain ⟨w6c1, w6c2, w6c3, w6c4, w6c5, w6c6, w6h0, w6h1, w6h2, w6h3, w6h4⟩ := C6.out
      go_wp2_with fail
      refine (SF.out w6 G6.out).mono ?_
      rintro e7 w7 ⟨rfl, g7⟩
      have G7 := Lib.hid (G6.out.trans g7)
      clear g7
      have C7 := Lib.hid (CL.out w7 G7.out)
      obtain ⟨w7c1, w7c2, w7c3, w7c4, w7c5, w7c6, w7h0, w7h1, w7h2, w7h3, w7h4⟩ := C7.out
      go_wp2
      go_ret
      exact RetBool.mk (by rw [HM.out]; simp [h1, h2, r0, e0, i0, i8] <;> (intros; omega)) (GG.out.trans G7.out)
    have in8 : (n : Int) ≤ 8 := by omega
    go_wp2_with fail
    refine (SV.out w5 (Gr.refl _)).mono ?_
    rintro e6 w6 ⟨rfl, g6⟩
    have G6 := Lib.hid g6
    have C6 := Lib.hid (CL.out w6 g6)
    clear g6
    obtain ⟨w6c1, w6c2, w6c3, w6c4, w6c5, w6c6, w6h0, w6h1, w6h2, w6h3, w6h4⟩ := C6.out
    go_wp2_with fail
    refine (SF.out w6 G6.out).mono ?_
    rintro e7 w7 ⟨rfl, g7⟩
    have G7 := Lib.hid (G6.out.trans g7)
    clear g7
    have C7 := Lib.hid (CL.out w7 G7.out)
    obtain ⟨w7c1, w7c2, w7c3, w7c4, w7c5, w7c6, w7h0, w7h1, w7h2, w7h3, w7h4⟩ := C7.out
    go_wp2_with fail
    refine (CI.out w7 G7.out).mono ?_
    rintro e8 w8 ⟨rfl, g8⟩
    have G8 := Lib.hid (G7.out.trans g8)
    clear g8
    go_wp2
    go_ret
    exact RetBool.mk (by rw [HM.out]; simp [h1, h2, r0, e0, i0, i8] <;> (intros; omega)) (GG.out.trans G8.out)
  have rq0 : (x.region == 0) = false := by simp [r0]
  cases hr with
  | false =>
    go_wp2_with fail
    refine (SV.out w5 (Gr.refl _)).mono ?_
    rintro e6 w6 ⟨rfl, g6⟩
    have G6 := Lib.hid g6
    have C6 := Lib.hid (CL.out w6 g6)
    clear g6
    obtain ⟨w6c1, w6c2, w6c3, w6c4, w6c5, w6c6, w6h0, w6h1, w6h2, w6h3, w6h4⟩ := C6.out
    go_wp2_with fail
    refine (SF.out w6 G6.out).mono ?_
    rintro e7 w7 ⟨rfl, g7⟩
    have G7 := Lib.hid (G6.out.trans g7)
    clear g7
    have C7 := Lib.hid (CL.out w7 G7.out)
    obtain ⟨w7c1, w7c2, w7c3, w7c4, w7c5, w7c6, w7h0, w7h1, w7h2, w7h3, w7h4⟩ := C7.out
    go_wp2
    go_ret
    exact RetBool.mk (by rw [HM.out]; simp [h1, h2, r0] <;> (intros; omega)) (GG.out.trans G7.out)
  | true =>
  by_cases r1 : 0 < x.region
  case neg =>
    go_wp2_with fail
    refine (SV.out w5 (Gr.refl _)).mono ?_
    rintro e6 w6 ⟨rfl, g6⟩
    have G6 := Lib.hid g6
    have C6 := Lib.hid (CL.out w6 g6)
    clear g6
    obtain ⟨w6c1, w6c2, w6c3, w6c4, w6c5, w6c6, w6h0, w6h1, w6h2, w6h3, w6h4⟩ := C6.out
    go_wp2_with fail
    refine (SF.out w6 G6.out).mono ?_
    rintro e7 w7 ⟨rfl, g7⟩
    have G7 := Lib.hid (G6.out.trans g7)
    clear g7
    have C7 := Lib.hid (CL.out w7 G7.out)
    obtain ⟨w7c1, w7c2, w7c3, w7c4, w7c5, w7c6, w7h0, w7h1, w7h2, w7h3, w7h4⟩ := C7.out
    go_wp2
    go_ret
    exact RetBool.mk (by rw [HM.out]; simp [h1, h2, r0, r1] <;> (intros; omega)) (GG.out.trans G7.out)
  by_cases r4 : x.region < 4
  case neg =>
    go_wp2_with fail
    refine (SV.out w5 (Gr.refl _)).mono ?_
    rintro e6 w6 ⟨rfl, g6⟩
    have G6 := Lib.hid g6
    have C6 := Lib.hid (CL.out w6 g6)
    clear g6
    obtain ⟨w6c1, w6c2, w6c3, w6c4, w6c5, w6c6, w6h0, w6h1, w6h2, w6h3, w6h4⟩ := C6.out
    go_wp2_with fail
    refine (SF.out w6 G6.out).mono ?_
    rintro e7 w7 ⟨rfl, g7⟩
    have G7 := Lib.hid (G6.out.trans g7)
    clear g7
    have C7 := Lib.hid (CL.out w7 G7.out)
    obtain ⟨w7c1, w7c2, w7c3, w7c4, w7c5, w7c6, w7h0, w7h1, w7h2, w7h3, w7h4⟩ := C7.out
    go_wp2
    go_ret
    exact RetBool.mk (by rw [HM.out]; simp [h1, h2, r0, r1, r4] <;> (intros; omega)) (GG.out.trans G7.out)
  by_cases e0 : x.epoch = 0
  case pos =>
    have eq0 : ((x.epoch : Int) == 0) = true := by simp [e0]
    by_cases i0 : n = 0
    case pos =>
      subst i0
      go_wp2_with fail
      refine (SV.out w5 (Gr.refl _)).mono ?_
      rintro e6 w6 ⟨rfl, g6⟩
      have G6 := Lib.hid g6
      have C6 := Lib.hid (CL.out w6 g6)
      clear g6
      obtain ⟨w6c1, w6c2, w6c3, w6c4, w6c5, w6c6, w6h0, w6h1, w6h2, w6h3, w6h4⟩ := C6.out
      go_wp2_with fail
      refine (SF.out w6 G6.out).mono ?_
      rintro e7 w7 ⟨rfl, g7⟩
      have G7 := Lib.hid (G6.out.trans g7)
      clear g7
      have C7 := Lib.hid (CL.out w7 G7.out)
      obtain ⟨w7c1, w7c2, w7c3, w7c4, w7c5, w7c6, w7h0, w7h1, w7h2, w7h3, w7h4⟩ := C7.out
      go_wp2_with fail
      refine (CI.out w7 G7.out).mono ?_
      rintro e8 w8 ⟨rfl, g8⟩
      have G8 := Lib.hid (G7.out.trans g8)
      clear g8
      go_wp2
      go_ret
      exact RetBool.mk (by rw [HM.out]; simp [h1, h2, r0, r1, r4, e0] <;> (intros; omega)) (GG.out.trans G8.out)
    have in0 : ((n : Int) == 0) = false := by simp [i0]
    cases hi with
    | false =>
      go_wp2_with fail
      refine (SV.out w5 (Gr.refl _)).mono ?_
      rintro e6 w6 ⟨rfl, g6⟩
      have G6 := Lib.hid g6
      have C6 := Lib.hid (CL.out w6 g6)
      clear g6
      obtain ⟨w6c1, w6c2, w6c3, w6c4, w6c5, w6c6, w6h0, w6h1, w6h2, w6h3, w6h4⟩ := C6.out
      go_wp2_with fail
      refine (SF.out w6 G6.out).mono ?_
      rintro e7 w7 ⟨rfl, g7⟩
      have G7 := Lib.hid (G6.out.trans g7)
      clear g7
      have C7 := Lib.hid (CL.out w7 G7.out)
      obtain ⟨w7c1, w7c2, w7c3, w7c4, w7c5, w7c6, w7h0, w7h1, w7h2, w7h3, w7h4⟩ := C7.out
      go_wp2
      go_ret
      exact RetBool.mk (by rw [HM.out]; simp [h1, h2, r0, r1, r4, e0, i0] <;> (intros; omega)) (GG.out.trans G7.out)
    | true =>
    by_cases i8 : n ≤ 8
    case neg =>
      have in8 : ¬ (n : Int) ≤ 8 := by omega
      go_wp2_with fail
      refine (SV.out w5 (Gr.refl _)).mono ?_
      rintro e6 w6 ⟨rfl, g6⟩
      have G6 := Lib.hid g6
      have C6 := Lib.hid (CL.out w6 g6)
      clear g6
      obtain ⟨w6c1, w6c2, w6c3, w6c4, w6c5, w6c6, w6h0, w6h1, w6h2, w6h3, w6h4⟩ := C6.out
      go_wp2_with fail
      refine (SF.out w6 G6.out).mono ?_
      rintro e7 w7 ⟨rfl, g7⟩
      have G7 := Lib.hid (G6.out.trans g7)
      clear g7
      have C7 := Lib.hid (CL.out w7 G7.out)
      obtain ⟨w7c1, w7c2, w7c3, w7c4, w7c5, w7c6, w7h0, w7h1, w7h2, w7h3, w7h4⟩ := C7.out
      go_wp2
      go_ret
      exact RetBool.mk (by rw [HM.out]; simp [h1, h2, r0, r1, r4, e0, i0, i8] <;> (intros; omega)) (GG.out.trans G7.out)
    have in8 : (n : Int) ≤ 8 := by omega
    go_wp2_with fail
    refine (SV.out w5 (Gr.refl _)).mono ?_
    rintro e6 w6 ⟨rfl, g6⟩
    have G6 := Lib.hid g6
    have C6 := Lib.hid (CL.out w6 g6)
    clear g6
    obtain ⟨w6c1, w6c2, w6c3, w6c4, w6c5, w6c6, w6h0, w6h1, w6h2, w6h3, w6h4⟩ := C6.out
    go_wp2_with fail
    refine (SF.out w6 G6.out).mono ?_
    rintro e7 w7 ⟨rfl, g7⟩
    have G7 := Lib.hid (G6.out.trans g7)
    clear g7
    have C7 := Lib.hid (CL.out w7 G7.out)
    obtain ⟨w7c1, w7c2, w7c3, w7c4, w7c5, w7c6, w7h0, w7h1, w7h2, w7h3, w7h4⟩ := C7.out
    go_wp2_with fail
    refine (CI.out w7 G7.out).mono ?_
    rintro e8 w8 ⟨rfl, g8⟩
    have G8 := Lib.hid (G7.out.trans g8)
    clear g8
    go_wp2
    go_ret
    exact RetBool.mk (by rw [HM.out]; simp [h1, h2, r0, r1, r4, e0, i0, i8] <;> (intros; omega)) (GG.out.trans G8.out)
  have eq0 : ((x.epoch : Int) == 0) = false := by simp [e0]
  cases he with
  | false =>
    go_wp2_with fail
    refine (SV.out w5 (Gr.refl _)).mono ?_
    rintro e6 w6 ⟨rfl, g6⟩
    have G6 := Lib.hid g6
    have C6 := Lib.hid (CL.out w6 g6)
    clear g6
    obtain ⟨w6c1, w6c2, w6c3, w6c4, w6c5, w6c6, w6h0, w6h1, w6h2, w6h3, w6h4⟩ := C6.out
    go_wp2_with fail
    refine (SF.out w6 G6.out).mono ?_
    rintro e7 w7 ⟨rfl, g7⟩
    have G7 := Lib.hid (G6.out.trans g7)
    clear g7
    have C7 := Lib.hid (CL.out w7 G7.out)
    obtain ⟨w7c1, w7c2, w7c3, w7c4, w7c5, w7c6, w7h0, w7h1, w7h2, w7h3, w7h4⟩ := C7.out
    go_wp2
    go_ret
    exact RetBool.mk (by rw [HM.out]; simp [h1, h2, r0, r1, r4, e0] <;> (intros; omega)) (GG.out.trans G7.out)
  | true =>
  by_cases i0 : n = 0
  case pos =>
    subst i0
    go_wp2_with fail
    refine (SV.out w5 (Gr.refl _)).mono ?_
    rintro e6 w6 ⟨rfl, g6⟩
    have G6 := Lib.hid g6
    have C6 := Lib.hid (CL.out w6 g6)
    clear g6
    obtain ⟨w6c1, w6c2, w6c3, w6c4, w6c5, w6c6, w6h0, w6h1, w6h2, w6h3, w6h4⟩ := C6.out
    go_wp2_with fail
    refine (SF.out w6 G6.out).mono ?_
    rintro e7 w7 ⟨rfl, g7⟩
    have G7 := Lib.hid (G6.out.trans g7)
    clear g7
    have C7 := Lib.hid (CL.out w7 G7.out)
    obtain ⟨w7c1, w7c2, w7c3, w7c4, w7c5, w7c6, w7h0, w7h1, w7h2, w7h3, w7h4⟩ := C7.out
    go_wp2_with fail
    refine (CI.out w7 G7.out).mono ?_
    rintro e8 w8 ⟨rfl, g8⟩
    have G8 := Lib.hid (G7.out.trans g8)
    clear g8
    go_wp2
    go_ret
    exact RetBool.mk (by rw [HM.out]; simp [h1, h2, r0, r1, r4, e0] <;> (intros; omega)) (GG.out.trans G8.out)
  have in0 : ((n : Int) == 0) = false := by simp [i0]
  cases hi with
  | false =>
    go_wp2_with fail
    refine (SV.out w5 (Gr.refl _)).mono ?_
    rintro e6 w6 ⟨rfl, g6⟩
    have G6 := Lib.hid g6
    have C6 := Lib.hid (CL.out w6 g6)
    clear g6
    obtain ⟨w6c1, w6c2, w6c3, w6c4, w6c5, w6c6, w6h0, w6h1, w6h2, w6h3, w6h4⟩ := C6.out
    go_wp2_with fail
    refine (SF.out w6 G6.out).mono ?_
    rintro e7 w7 ⟨rfl, g7⟩
    have G7 := Lib.hid (G6.out.trans g7)
    clear g7
    have C7 := Lib.hid (CL.out w7 G7.out)
    obtain ⟨w7c1, w7c2, w7c3, w7c4, w7c5, w7c6, w7h0, w7h1, w7h2, w7h3, w7h4⟩ := C7.out
    go_wp2
    go_ret
    exact RetBool.mk (by rw [HM.out]; simp [h1, h2, r0, r1, r4, e0, i0] <;> (intros; omega)) (GG.out.trans G7.out)
  | true =>
  by_cases i8 : n ≤ 8
  case neg =>
    have in8 : ¬ (n : Int) ≤ 8 := by omega
    go_wp2_with fail
    refine (SV.out w5 (Gr.refl _)).mono ?_
    rintro e6 w6 ⟨rfl, g6⟩
    have G6 := Lib.hid g6
    have C6 := Lib.hid (CL.out w6 g6)
    clear g6
    obtain ⟨w6c1, w6c2, w6c3, w6c4, w6c5, w6c6, w6h0, w6h1, w6h2, w6h3, w6h4⟩ := C6.out
    go_wp2_with fail
    refine (SF.out w6 G6.out).mono ?_
    rintro e7 w7 ⟨rfl, g7⟩
    have G7 := Lib.hid (G6.out.trans g7)
    clear g7
    have C7 := Lib.hid (CL.out w7 G7.out)
    obtain ⟨w7c1, w7c2, w7c3, w7c4, w7c5, w7c6, w7h0, w7h1, w7h2, w7h3, w7h4⟩ := C7.out
    go_wp2
    go_ret
    exact RetBool.mk (by rw [HM.out]; simp [h1, h2, r0, r1, r4, e0, i0, i8] <;> (intros; omega)) (GG.out.trans G7.out)
  have in8 : (n : Int) ≤ 8 := by omega
  go_wp2_with fail
  refine (SV.out w5 (Gr.refl _)).mono ?_
  rintro e6 w6 ⟨rfl, g6⟩
  have G6 := Lib.hid g6
  have C6 := Lib.hid (CL.out w6 g6)
  clear g6
  obtain ⟨w6c1, w6c2, w6c3, w6c4, w6c5, w6c6, w6h0, w6h1, w6h2, w6h3, w6h4⟩ := C6.out
  go_wp2_with fail
  refine (SF.out w6 G6.out).mono ?_
  rintro e7 w7 ⟨rfl, g7⟩
  have G7 := Lib.hid (G6.out.trans g7)
  clear g7
  have C7 := Lib.hid (CL.out w7 G7.out)
  obtain ⟨w7c1, w7c2, w7c3, w7c4, w7c5, w7c6, w7h0, w7h1, w7h2, w7h3, w7h4⟩ := C7.out
  go_wp2_with fail
  refine (CI.out w7 G7.out).mono ?_
  rintro e8 w8 ⟨rfl, g8⟩
  have G8 := Lib.hid (G7.out.trans g8)
  clear g8
  go_wp2
  go_ret
  exact RetBool.mk (by rw [HM.out]; simp [h1, h2, r0, r1, r4, e0, i0, i8] <;> (intros; omega)) (GG.out.trans G8.out)
end Go.Proofs.Ytgilijkmmcpfjaa
