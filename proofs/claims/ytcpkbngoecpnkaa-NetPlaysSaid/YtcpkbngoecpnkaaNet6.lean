/-
  Package net: Cuts, Cut, Heal.
-/
import Derived.Test.YtcpkbngoecpnkaaNet4
set_option linter.unusedVariables false
namespace Go.Proofs.Ytcpkbngoecpnkaa
open Go.RowKit
def cutsV (sizes : List Int) (cut : AdD × AdD → Bool) (a b : AdD) : Bool := linkV sizes a b && cut (keyV a b)
theorem zero_bool (w : World) : (zeroValue 4).run Try.prog w = .ok (.bool false) w := by kernel_rfl
theorem NetIs.look {w : World} {base N M n : Nat} {lv : Value} {ps : List (LetD × Value)} {sizes : List Int} {cut : AdD × AdD → Bool} (h : NetIs w base N M n lv ps sizes cut) {k : AdD × AdD} (hk : KeyOk k) :
    (Instr.lookup 66 (.map (some M)) (keyA k) false).run Try.prog w = .ok (.bool (cut k)) w := by
  obtain ⟨f, h1, h2⟩ := h.map
  obtain ⟨c, e1, e2⟩ := run_lookup_bool w (f := f) keyLaw Try.underlying66 Try.underlying4 (zero_bool w) h1 (key_some hk)
  rw [h2 k hk] at e1
  injection e1 with e1
  rw [e1]; exact e2

theorem opG_run_lookup {W : World} {ops : Array Oper} {o : Oper} {a : Act} {t : TypeId} {b : Nat} {key c : Value} (hr : (Instr.lookup t (.map (some b)) key false).run Try.prog W = .ok c W) (hg : Region.wanted o (yielded ops a.tmps) = true) (m x : Operand) (hop : o.op = Op.lookup t m x false)
    (hm : a.eval m = .map (some b)) (hx : a.eval x = key) : opG Try.prog ops o a W fun v _ => v = c := by
  unfold opG
  rw [if_pos hg]
  simp [execOp, hop, hm, hx, hr, Result.andThen]
  exact ⟨Gr.refl _, rfl⟩

set_option maxHeartbeats 2000000 in
set_option maxRecDepth 100000 in
/-- (*Net).Cuts -/
theorem cuts_any {w : World} {base N M n : Nat} {lv : Value} {ps : List (LetD × Value)} {sizes : List Int} {cut : AdD × AdD → Bool} (h : NetIs w base N M n lv ps sizes cut) (a b : AdD) (ha : AdOk a) (hb : AdOk b) :
    Calls Try.prog 17 #[.pointer (some ⟨N, 0, Option.none⟩), adV a, adV b] w fun e w' => e = .returned (.bool (cutsV sizes cut a b)) ∧ Gr w w' := by
  obtain ⟨sv, hN, hs⟩ := h.obj
  obtain ⟨ok, hok⟩ : ∃ ok, ok = linkV sizes a b := ⟨_, rfl⟩
  obtain ⟨c, hc⟩ : ∃ c, c = cut (keyV a b) := ⟨_, rfl⟩
  have hv : cutsV sizes cut a b = (ok && c) := by unfold cutsV; rw [← hok, ← hc]
  rw [hv]
  have HK := Lib.hid (keyV_ok ha hb)
  obtain ⟨⟨⟨p1, p2⟩, p3, p4⟩, hkv⟩ : ∃ k, k = keyV a b := ⟨_, rfl⟩
  rw [← hkv] at HK hc
  have HKV := Lib.hid hkv
  have HOK := Lib.hid hok
  have HC := Lib.hid hc
  have H := Lib.hid h
  have HN := Lib.hid (And.intro hN hs.sl)
  have HSZ : Hid (sizes.length ≤ 100) := Lib.hid (by have := h.szs; omega)
  clear hkv hok hc h hN hs hv ha hb
  obtain ⟨a1, a2⟩ := a
  obtain ⟨b1, b2⟩ := b
  unfold adV
  go_enter Try.func17, Try.ntmps17
  go_upto_region 3 with fail
  obtain ⟨w0, hw0⟩ : ∃ w0, w0 = (w.alloc (.cells #[.int .i64 a1, .int .i64 a2] 33)).alloc (.cells #[.int .i64 b1, .int .i64 b2] 33) := ⟨_, rfl⟩
  have g0 : Gr w w0 := by rw [hw0]; exact ((Gr.refl w).alloc _).alloc _
  have cA : CellsAt w0 w.heap.size #[.int .i64 a1, .int .i64 a2] 33 := by rw [hw0]; exact (CellsAt.new _ _ _).gr ((Gr.refl _).alloc _)
  have cB : CellsAt w0 (w.heap.size + 1) #[.int .i64 b1, .int .i64 b2] 33 := by rw [hw0]; exact CellsAt.newAt (w.alloc (.cells #[.int .i64 a1, .int .i64 a2] 33)) _ _ (by simp)
  rw [← hw0]
  clear hw0
  have x0 := cA.cell 0
  have x1 := cA.cell 1
  have y0 := cB.cell 0
  have y1 := cB.cell 1
  have G0 := Lib.hid g0
  clear cA cB g0
  go_wp2_with fail
  refine (linked_any w0 N sv sizes (a1, a2) (b1, b2) ((HN.out.1.gr G0.out).cell 0) (HN.out.2.below G0.out) HSZ.out).mono ?_
  rintro e w1 ⟨rfl, g1⟩
  rw [← HOK.out, ← HKV.out, show keyA ((p1, p2), p3, p4) = .agg #[.int .i64 p1, .int .i64 p2, .int .i64 p3, .int .i64 p4] from rfl]
  have G1 := Lib.hid (Gr.trans G0.out g1)
  clear g1 x0 x1 y0 y1
  go_upto_region 4 with fail
  obtain ⟨w2, hw2⟩ : ∃ w2, w2 = w1.alloc (.cells #[.int .i64 p1, .int .i64 p2, .int .i64 p3, .int .i64 p4] 70) := ⟨_, rfl⟩
  have G2 : Hid (Gr w w2) := Lib.hid (by rw [hw2]; exact G1.out.alloc _)
  have cK : CellsAt w2 w1.heap.size #[.int .i64 p1, .int .i64 p2, .int .i64 p3, .int .i64 p4] 70 := by rw [hw2]; exact CellsAt.new _ _ _
  rw [← hw2]
  clear hw2
  have k0 := cK.cell 0
  have k1 := cK.cell 1
  have k2 := cK.cell 2
  have k3 := cK.cell 3
  have m0 := (HN.out.1.gr G2.out).cell 2
  have FK := Lib.hid (And.intro m0 (And.intro k0 (And.intro k1 (And.intro k2 k3))))
  clear cK k0 k1 k2 k3 m0
  cases ok with
  | false =>
    apply wp_region_draw_grow (.eq _ :: .eq _ :: .eq _ :: .eq _ :: .eq _ :: .eq _ :: .eq _ :: .eq _ :: .eq _ :: .eq _ :: []) (by kernel_rfl) (by kernel_rfl) trivial
    apply wpG_eq
    · intro W hW hs
      unfold opG
      go_simp
      first | exact resG_eq_mk _ _ _ | rfl
    simp only [Act.put, List.setIfInBounds_toArray, List.set_cons_zero, List.set_cons_succ]
    apply wpG_eq
    · intro W hW hs
      unfold opG
      go_simp
      first | exact resG_eq_mk _ _ _ | rfl
    simp only [Act.put, List.setIfInBounds_toArray, List.set_cons_zero, List.set_cons_succ]
    apply wpG_eq
    · intro W hW hs
      unfold opG
      go_simp
      first | exact resG_eq_mk _ _ _ | rfl
    simp only [Act.put, List.setIfInBounds_toArray, List.set_cons_zero, List.set_cons_succ]
    apply wpG_eq
    · intro W hW hs
      unfold opG
      go_simp
      first | exact resG_eq_mk _ _ _ | rfl
    simp only [Act.put, List.setIfInBounds_toArray, List.set_cons_zero, List.set_cons_succ]
    apply wpG_eq
    · intro W hW hs
      unfold opG
      go_simp
      first | exact resG_eq_mk _ _ _ | rfl
    simp only [Act.put, List.setIfInBounds_toArray, List.set_cons_zero, List.set_cons_succ]
    apply wpG_eq
    · intro W hW hs
      obtain ⟨m0, k0, k1, k2, k3⟩ := FK.out
      have m0' := hW.drew0 m0
      have k0' := hW.drew0 k0
      have k1' := hW.drew0 k1
      have k2' := hW.drew0 k2
      have k3' := hW.drew0 k3
      clear m0 k0 k1 k2 k3
      unfold opG
      go_simp
      first | exact resG_eq_mk _ _ _ | rfl
    simp only [Act.put, List.setIfInBounds_toArray, List.set_cons_zero, List.set_cons_succ]
    apply wpG_eq
    · intro W hW hs
      obtain ⟨m0, k0, k1, k2, k3⟩ := FK.out
      have m0' := hW.drew0 m0
      have k0' := hW.drew0 k0
      have k1' := hW.drew0 k1
      have k2' := hW.drew0 k2
      have k3' := hW.drew0 k3
      clear m0 k0 k1 k2 k3
      unfold opG
      go_simp
      first | exact resG_eq_mk _ _ _ | rfl
    simp only [Act.put, List.setIfInBounds_toArray, List.set_cons_zero, List.set_cons_succ]
    apply wpG_eq
    · intro W hW hs
      unfold opG
      go_simp
      first | exact resG_eq_mk _ _ _ | rfl
    simp only [Act.put, List.setIfInBounds_toArray, List.set_cons_zero, List.set_cons_succ]
    apply wpG_eq
    · intro W hW hs
      unfold opG
      go_simp
      first | exact resG_eq_mk _ _ _ | rfl
    simp only [Act.put, List.setIfInBounds_toArray, List.set_cons_zero, List.set_cons_succ]
    apply wpG_eq
    · intro W hW hs
      unfold opG
      go_simp
      first | exact resG_eq_mk _ _ _ | rfl
    simp only [Act.put, List.setIfInBounds_toArray, List.set_cons_zero, List.set_cons_succ]
    apply wpG_nil
    intro W9 hW9 hsAll
    have G9 := Gr.trans G2.out (Gr.trans ((Gr.refl w2).drew) hW9)
    clear hsAll hW9
    go_wp2_with fail
    go_ret
    exact ⟨rfl, G9⟩
  | true =>
    apply wp_region_draw_grow (.eq _ :: .eq _ :: .eq _ :: .eq _ :: .eq _ :: .eq _ :: .eq _ :: .eq _ :: .eq _ :: .eq _ :: []) (by kernel_rfl) (by kernel_rfl) trivial
    apply wpG_eq
    · intro W hW hs
      unfold opG
      go_simp
      first | exact resG_eq_mk _ _ _ | rfl
    simp only [Act.put, List.setIfInBounds_toArray, List.set_cons_zero, List.set_cons_succ]
    apply wpG_eq
    · intro W hW hs
      unfold opG
      go_simp
      first | exact resG_eq_mk _ _ _ | rfl
    simp only [Act.put, List.setIfInBounds_toArray, List.set_cons_zero, List.set_cons_succ]
    apply wpG_eq
    · intro W hW hs
      unfold opG
      go_simp
      first | exact resG_eq_mk _ _ _ | rfl
    simp only [Act.put, List.setIfInBounds_toArray, List.set_cons_zero, List.set_cons_succ]
    apply wpG_eq
    · intro W hW hs
      unfold opG
      go_simp
      first | exact resG_eq_mk _ _ _ | rfl
    simp only [Act.put, List.setIfInBounds_toArray, List.set_cons_zero, List.set_cons_succ]
    apply wpG_eq
    · intro W hW hs
      unfold opG
      go_simp
      first | exact resG_eq_mk _ _ _ | rfl
    simp only [Act.put, List.setIfInBounds_toArray, List.set_cons_zero, List.set_cons_succ]
    apply wpG_eq
    · intro W hW hs
      obtain ⟨m0, k0, k1, k2, k3⟩ := FK.out
      have m0' := hW.drew0 m0
      have k0' := hW.drew0 k0
      have k1' := hW.drew0 k1
      have k2' := hW.drew0 k2
      have k3' := hW.drew0 k3
      clear m0 k0 k1 k2 k3
      unfold opG
      go_simp
      first | exact resG_eq_mk _ _ _ | rfl
    simp only [Act.put, List.setIfInBounds_toArray, List.set_cons_zero, List.set_cons_succ]
    apply wpG_eq
    · intro W hW hs
      obtain ⟨m0, k0, k1, k2, k3⟩ := FK.out
      have m0' := hW.drew0 m0
      have k0' := hW.drew0 k0
      have k1' := hW.drew0 k1
      have k2' := hW.drew0 k2
      have k3' := hW.drew0 k3
      clear m0 k0 k1 k2 k3
      unfold opG
      go_simp
      first | exact resG_eq_mk _ _ _ | rfl
    simp only [Act.put, List.setIfInBounds_toArray, List.set_cons_zero, List.set_cons_succ]
    apply wpG_eq
    · intro W hW hs
      have hr := (H.out.gr (Gr.trans G2.out (Gr.trans ((Gr.refl w2).drew) hW))).look HK.out
      rw [← HC.out] at hr
      have hr2 : (Instr.lookup 66 (.map (some M)) (.agg #[.int .i64 p1, .int .i64 p2, .int .i64 p3, .int .i64 p4]) false).run Try.prog W = .ok (.bool c) W := hr
      clear hr
      refine opG_run_lookup hr2 (by rfl) _ _ rfl rfl rfl
    simp only [Act.put, List.setIfInBounds_toArray, List.set_cons_zero, List.set_cons_succ]
    apply wpG_eq
    · intro W hW hs
      unfold opG
      go_simp
      first | exact resG_eq_mk _ _ _ | rfl
    simp only [Act.put, List.setIfInBounds_toArray, List.set_cons_zero, List.set_cons_succ]
    apply wpG_eq
    · intro W hW hs
      unfold opG
      go_simp
      first | exact resG_eq_mk _ _ _ | rfl
    simp only [Act.put, List.setIfInBounds_toArray, List.set_cons_zero, List.set_cons_succ]
    apply wpG_nil
    intro W9 hW9 hsAll
    have G9 := Gr.trans G2.out (Gr.trans ((Gr.refl w2).drew) hW9)
    clear hsAll hW9
    go_wp2_with fail
    go_ret
    exact ⟨rfl, G9⟩

def setCut (cut : AdD × AdD → Bool) (k : AdD × AdD) (v : Bool) : AdD × AdD → Bool := fun q => if q = k then v else cut q
theorem NetIs.turned {w : World} {base N M n : Nat} {lv : Value} {ps : List (LetD × Value)} {sizes : List Int} {cut : AdD × AdD → Bool} (h : NetIs w base N M n lv ps sizes cut) (hn : n < 1000000) {k : AdD × AdD} (hk : KeyOk k) (v : Bool) :
    ∃ w', (Instr.mapUpdate 66 (.map (some M)) (keyA k) (.bool v)).run Try.prog w = .ok () w' ∧ NetIs w' base N M (n + 1) lv ps sizes (setCut cut k v) ∧ Ch (netB N M lv) w w' := by
  obtain ⟨f, h1, h2⟩ := h.map
  obtain ⟨w', f', hr, h3, h4, h5, hg⟩ := run_update w keyLaw Try.underlying66 h1 (by unfold maxLen; omega) (key_some hk) (val := .bool v) (d := .bool v) (by unfold plainElem; rw [Try.underlying4])
  have hch : Ch (fun j => j = M) w w' := Ch.of_grownBy hg (fun j hj => by injection hj with hj; exact hj.symm)
  have hch2 : Ch (netB N M lv) w w' := hch.mono (fun j hj => .inr (.inl hj))
  obtain ⟨sv, e1, e2⟩ := h.obj
  have hkb := h.kb hch2
  refine ⟨w', hr, ⟨⟨sv, e1.ch hch (fun e => h.NM e), e2.kb (.inr rfl) hkb⟩, h.lets.keep hkb (fun j hj => hch.block j (h.lets.lt j hj).2 (fun e => by have e9 : j = M := e; subst e9; exact h.NR.2 hj)), ⟨f', h3, fun p hp => ?_⟩, h.bN, h.bM, h.szs, h.len⟩, hch2⟩
  unfold setCut
  by_cases e : p = k
  · rw [if_pos e, e, h4]
  · rw [if_neg e, h5 _ (fun he => e (keyL_inj hp hk he)), h2 p hp]
def turnE (sizes : List Int) (a b : AdD) : Int := if linkV sizes a b then 0 else 1
set_option maxHeartbeats 2000000 in
set_option maxRecDepth 100000 in
/-- (*Net).turn -/
theorem turn_any {w : World} {base N M n : Nat} {lv : Value} {ps : List (LetD × Value)} {sizes : List Int} {cut : AdD × AdD → Bool} (h : NetIs w base N M n lv ps sizes cut) (hn : n < 1000000) (a b : AdD) (ha : AdOk a) (hb : AdOk b) (v : Bool) :
    Calls Try.prog 37 #[.pointer (some ⟨N, 0, Option.none⟩), adV a, adV b, .bool v] w fun e w' => e = .returned (.int .i64 (turnE sizes a b)) ∧
      NetIs w' base N M (n + 1) lv ps sizes (if linkV sizes a b then setCut cut (keyV a b) v else cut) ∧ Ch (netB N M lv) w w' := by
  obtain ⟨sv, hN, hs⟩ := h.obj
  obtain ⟨ok, hok⟩ : ∃ ok, ok = linkV sizes a b := ⟨_, rfl⟩
  unfold turnE
  rw [← hok]
  have HK := Lib.hid (keyV_ok ha hb)
  obtain ⟨⟨⟨p1, p2⟩, p3, p4⟩, hkv⟩ : ∃ k, k = keyV a b := ⟨_, rfl⟩
  rw [← hkv] at HK ⊢
  have HKV := Lib.hid hkv
  have HOK := Lib.hid hok
  have H := Lib.hid h
  have HN := Lib.hid (And.intro hN hs.sl)
  have HSZ : Hid (sizes.length ≤ 100) := Lib.hid (by have := h.szs; omega)
  clear hkv hok h hN hs ha hb
  obtain ⟨a1, a2⟩ := a
  obtain ⟨b1, b2⟩ := b
  unfold adV
  go_enter Try.func37, Try.ntmps37
  go_upto_region 3 with fail
  obtain ⟨w0, hw0⟩ : ∃ w0, w0 = (w.alloc (.cells #[.int .i64 a1, .int .i64 a2] 33)).alloc (.cells #[.int .i64 b1, .int .i64 b2] 33) := ⟨_, rfl⟩
  have g0 : Gr w w0 := by rw [hw0]; exact ((Gr.refl w).alloc _).alloc _
  have cA : CellsAt w0 w.heap.size #[.int .i64 a1, .int .i64 a2] 33 := by rw [hw0]; exact (CellsAt.new _ _ _).gr ((Gr.refl _).alloc _)
  have cB : CellsAt w0 (w.heap.size + 1) #[.int .i64 b1, .int .i64 b2] 33 := by rw [hw0]; exact CellsAt.newAt (w.alloc (.cells #[.int .i64 a1, .int .i64 a2] 33)) _ _ (by simp)
  rw [← hw0]
  clear hw0
  have x0 := cA.cell 0
  have x1 := cA.cell 1
  have y0 := cB.cell 0
  have y1 := cB.cell 1
  have G0 := Lib.hid g0
  clear cA cB g0
  go_wp2_with fail
  refine (linked_any w0 N sv sizes (a1, a2) (b1, b2) ((HN.out.1.gr G0.out).cell 0) (HN.out.2.below G0.out) HSZ.out).mono ?_
  rintro e w1 ⟨rfl, g1⟩
  rw [← HOK.out, ← HKV.out, show keyA ((p1, p2), p3, p4) = .agg #[.int .i64 p1, .int .i64 p2, .int .i64 p3, .int .i64 p4] from rfl]
  have G1 := Lib.hid (Gr.trans G0.out g1)
  clear g1 x0 x1 y0 y1
  cases ok with
  | false =>
    go_wp2_with fail
    go_ret
    exact ⟨rfl, (H.out.gr (G1.out.alloc _)).mono (Nat.le_succ _), Ch.of_gr (G1.out.alloc _)⟩
  | true =>
    go_upto_region 6 with fail
    obtain ⟨w2, hw2⟩ : ∃ w2, w2 = w1.alloc (.cells #[.int .i64 p1, .int .i64 p2, .int .i64 p3, .int .i64 p4] 70) := ⟨_, rfl⟩
    have G2 : Hid (Gr w w2) := Lib.hid (by rw [hw2]; exact G1.out.alloc _)
    have cK : CellsAt w2 w1.heap.size #[.int .i64 p1, .int .i64 p2, .int .i64 p3, .int .i64 p4] 70 := by rw [hw2]; exact CellsAt.new _ _ _
    rw [← hw2]
    clear hw2
    have k0 := cK.cell 0
    have k1 := cK.cell 1
    have k2 := cK.cell 2
    have k3 := cK.cell 3
    have m0 := (HN.out.1.gr G2.out).cell 2
    have FK := Lib.hid (And.intro m0 (And.intro k0 (And.intro k1 (And.intro k2 k3))))
    clear cK k0 k1 k2 k3 m0
    apply wp_region_draw_tail 6 (.eq _ :: .eq _ :: .eq _ :: .eq _ :: .eq _ :: .eq _ :: []) (by kernel_rfl) (by kernel_rfl) trivial
    apply wpG_eq
    · intro W hW hs
      unfold opG
      go_simp
      first | exact resG_eq_mk _ _ _ | rfl
    simp only [Act.put, List.setIfInBounds_toArray, List.set_cons_zero, List.set_cons_succ]
    apply wpG_eq
    · intro W hW hs
      unfold opG
      go_simp
      first | exact resG_eq_mk _ _ _ | rfl
    simp only [Act.put, List.setIfInBounds_toArray, List.set_cons_zero, List.set_cons_succ]
    apply wpG_eq
    · intro W hW hs
      unfold opG
      go_simp
      first | exact resG_eq_mk _ _ _ | rfl
    simp only [Act.put, List.setIfInBounds_toArray, List.set_cons_zero, List.set_cons_succ]
    apply wpG_eq
    · intro W hW hs
      obtain ⟨m0, k0, k1, k2, k3⟩ := FK.out
      have m0' := hW.drew0 m0
      have k0' := hW.drew0 k0
      have k1' := hW.drew0 k1
      have k2' := hW.drew0 k2
      have k3' := hW.drew0 k3
      clear m0 k0 k1 k2 k3
      unfold opG
      go_simp
      first | exact resG_eq_mk _ _ _ | rfl
    simp only [Act.put, List.setIfInBounds_toArray, List.set_cons_zero, List.set_cons_succ]
    apply wpG_eq
    · intro W hW hs
      obtain ⟨m0, k0, k1, k2, k3⟩ := FK.out
      have m0' := hW.drew0 m0
      have k0' := hW.drew0 k0
      have k1' := hW.drew0 k1
      have k2' := hW.drew0 k2
      have k3' := hW.drew0 k3
      clear m0 k0 k1 k2 k3
      unfold opG
      go_simp
      first | exact resG_eq_mk _ _ _ | rfl
    simp only [Act.put, List.setIfInBounds_toArray, List.set_cons_zero, List.set_cons_succ]
    apply wpG_eq
    · intro W hW hs
      unfold opG
      go_simp
      first | exact resG_eq_mk _ _ _ | rfl
    simp only [Act.put, List.setIfInBounds_toArray, List.set_cons_zero, List.set_cons_succ]
    apply wpG_nil
    intro W9 hW9 hsAll
    have G9 := Lib.hid (Gr.trans G2.out (Gr.trans ((Gr.refl w2).drew) hW9))
    obtain ⟨w5, hr, hn5, hc5⟩ := (H.out.gr G9.out).turned hn HK.out v
    have hr2 : (Instr.mapUpdate 66 (.map (some M)) (.agg #[.int .i64 p1, .int .i64 p2, .int .i64 p3, .int .i64 p4]) (.bool v)).run Try.prog W9 = .ok () w5 := hr
    have R1 := Lib.hid hn5
    have R2 := Lib.hid hc5
    clear hsAll hW9 hr hn5 hc5
    go_wp2_with (refine wpList_run_update hr2 rfl _ _ _ rfl rfl rfl rfl ?_)
    go_ret
    exact ⟨rfl, R1.out, (Ch.of_gr G9.out).transN R2.out (fun j hj _ => hj)⟩
end Go.Proofs.Ytcpkbngoecpnkaa
