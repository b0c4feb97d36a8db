/-
  The document's net: addresses and links.
-/
import Derived.Test.YtcpkbngoecpnkaaNetN
import Derived.WalkLawsBesides
import Derived.WalkSpells
import Derived.Outline
import Derived.Deep.DeepCutAuto
set_option linter.unusedVariables false
namespace Go.Proofs.Ytcpkbngoecpnkaa
open Go.RowKit
set_option maxHeartbeats 2000000 in
/-- the document's Has: is it an address of these sizes? -/
theorem refhas_any (w : World) (N : Nat) (sv : Value) (sizes : List Int) (a : AdD) (hN : w.cell? ⟨N, 0, Option.none⟩ = some sv) (hs : Sl w sv (ints sizes)) (hl : sizes.length ≤ 100) :
    Calls Try.prog 43 #[.pointer (some ⟨N, 0, Option.none⟩), adV a] w fun e w' => e = .returned (.bool (hasV sizes a)) ∧ Gr w w' := by
  obtain ⟨g, n⟩ := a
  obtain ⟨ad, cap, rfl, hcap, hcell⟩ := hs
  have hlen : (ints sizes).length = sizes.length := by unfold ints; rw [List.length_map]
  rw [hlen] at hcap
  have HC := Lib.hid hcell
  clear hcell
  obtain ⟨L, hL⟩ : ∃ L, L = sizes.length := ⟨_, rfl⟩
  obtain ⟨r, hr⟩ : ∃ r, r = hasV sizes (g, n) := ⟨_, rfl⟩
  rw [hlen, ← hL] at hN
  rw [← hL] at hcap hl
  rw [← hr]
  unfold hasV at hr
  simp only [← hL] at hr
  have HR := Lib.hid hr
  have HL := Lib.hid hL
  clear hL
  clear hr
  unfold adV
  go_enter Try.func43, Try.ntmps43
  go_upto_region 1 with fail
  have FT : Hid (∀ W, Gr (w.alloc (.cells #[.int .i64 g, .int .i64 n] 33)).drew W → W.cell? ⟨w.heap.size, 0, Option.none⟩ = some (.int .i64 g) ∧ W.cell? ⟨w.heap.size, 1, Option.none⟩ = some (.int .i64 n) ∧ W.cell? ⟨N, 0, Option.none⟩ = some (.slice ad L cap)) := Lib.hid fun W hW => by
    have c := CellsAt.new w #[.int .i64 g, .int .i64 n] 33
    have g1 := (Gr.refl w).alloc (.cells #[.int .i64 g, .int .i64 n] 33)
    exact ⟨hW.drew0 (c.cell 0), hW.drew0 (c.cell 1), hW.drew0 ((g1.cell' hN).trans hN)⟩
  by_cases h1 : 0 ≤ g
  · by_cases h2 : g < (L : Int)
    · by_cases h3 : 0 ≤ n
      · obtain ⟨k, rfl⟩ : ∃ k : Nat, g = (k : Int) := ⟨g.toNat, by omega⟩
        have hk : k < L := by omega
        have hL := HL.out
        obtain ⟨b, off, rfl, hb, hcell⟩ := HC.out.resolve_left (by intro h; have := congrArg List.length h; rw [hlen, ← hL] at this; simp only [List.length_nil] at this; omega)
        have hc := hcell k (by rw [hlen, ← hL]; exact hk)
        obtain ⟨m, hm⟩ : ∃ m, m = sizes.getD k 0 := ⟨_, rfl⟩
        have hc2 : w.cell? ⟨b, off + k, Option.none⟩ = some (.int .i64 m) := by
          rw [hc, hm]
          simp [ints, List.getElem?_eq_getElem (show k < sizes.length by omega)]
        have FT2 : Hid (∀ W, Gr (w.alloc (.cells #[.int .i64 (k : Int), .int .i64 n] 33)).drew W → W.cell? ⟨w.heap.size, 0, Option.none⟩ = some (.int .i64 (k : Int)) ∧ W.cell? ⟨w.heap.size, 1, Option.none⟩ = some (.int .i64 n) ∧ W.cell? ⟨N, 0, Option.none⟩ = some (.slice (some ⟨b, off, Option.none⟩) L cap) ∧ W.cell? ⟨b, off + k, Option.none⟩ = some (.int .i64 m)) := Lib.hid fun W hW => by
          obtain ⟨x0, x1, x2⟩ := FT.out W hW
          exact ⟨x0, x1, x2, hW.drew0 ((((Gr.refl w).alloc _).cell' hc2).trans hc2)⟩
        have hre : r = decide (n < m) := by rw [HR.out, hm]; simp [h3, hk]
        clear FT HC hcell hc hc2 hN hm hL
        have FT := FT2
        clear FT2
        apply wp_region_draw_grow (.eq _ :: .eq _ :: .eq _ :: .eq _ :: .eq _ :: .eq _ :: .eq _ :: .eq _ :: .eq _ :: .eq _ :: .eq _ :: .eq _ :: .eq _ :: .eq _ :: .eq _ :: .eq _ :: .eq _ :: .eq _ :: .eq _ :: .eq _ :: .eq _ :: .eq _ :: .eq _ :: .eq _ :: .eq _ :: .eq _ :: .eq _ :: .eq _ :: .eq _ :: .eq _ :: .eq _ :: .eq _ :: []) (by kernel_rfl) (by kernel_rfl) trivial
        repeat
          apply wpG_eq
          · intro W hW hs
            obtain ⟨x0, x1, x2, x3⟩ := FT.out W hW
            unfold opG
            go_simp
            first | exact resG_eq_mk _ _ _ | rfl
          simp only [Act.put, List.setIfInBounds_toArray, List.set_cons_zero, List.set_cons_succ]
        apply wpG_nil
        intro W9 hW9 hsAll
        have G9 : Gr w W9 := Gr.trans (((Gr.refl w).alloc _).drew) hW9
        clear hsAll hW9 FT
        go_wp2_with fail
        go_ret
        exact ⟨ret_bool (by first | rfl | exact hre | (rw [hre])), G9⟩
      · have hre : r = false := by rw [HR.out]; simp [h3]
        clear HC
        apply wp_region_draw_grow (.eq _ :: .eq _ :: .eq _ :: .eq _ :: .eq _ :: .eq _ :: .eq _ :: .eq _ :: .eq _ :: .eq _ :: .eq _ :: .eq _ :: .eq _ :: .eq _ :: .eq _ :: .eq _ :: .eq _ :: .eq _ :: .eq _ :: .eq _ :: .eq _ :: .eq _ :: .eq _ :: .eq _ :: .eq _ :: .eq _ :: .eq _ :: .eq _ :: .eq _ :: .eq _ :: .eq _ :: .eq _ :: []) (by kernel_rfl) (by kernel_rfl) trivial
        repeat
          apply wpG_eq
          · intro W hW hs
            obtain ⟨x0, x1, x2⟩ := FT.out W hW
            unfold opG
            go_simp
            first | exact resG_eq_mk _ _ _ | rfl
          simp only [Act.put, List.setIfInBounds_toArray, List.set_cons_zero, List.set_cons_succ]
        apply wpG_nil
        intro W9 hW9 hsAll
        have G9 : Gr w W9 := Gr.trans (((Gr.refl w).alloc _).drew) hW9
        clear hsAll hW9 FT
        go_wp2_with fail
        go_ret
        exact ⟨ret_bool (by first | rfl | exact hre | (rw [hre])), G9⟩
    · have hre : r = false := by rw [HR.out]; simp [h2]
      clear HC
      apply wp_region_draw_grow (.eq _ :: .eq _ :: .eq _ :: .eq _ :: .eq _ :: .eq _ :: .eq _ :: .eq _ :: .eq _ :: .eq _ :: .eq _ :: .eq _ :: .eq _ :: .eq _ :: .eq _ :: .eq _ :: .eq _ :: .eq _ :: .eq _ :: .eq _ :: .eq _ :: .eq _ :: .eq _ :: .eq _ :: .eq _ :: .eq _ :: .eq _ :: .eq _ :: .eq _ :: .eq _ :: .eq _ :: .eq _ :: []) (by kernel_rfl) (by kernel_rfl) trivial
      repeat
        apply wpG_eq
        · intro W hW hs
          obtain ⟨x0, x1, x2⟩ := FT.out W hW
          unfold opG
          go_simp
          first | exact resG_eq_mk _ _ _ | rfl
        simp only [Act.put, List.setIfInBounds_toArray, List.set_cons_zero, List.set_cons_succ]
      apply wpG_nil
      intro W9 hW9 hsAll
      have G9 : Gr w W9 := Gr.trans (((Gr.refl w).alloc _).drew) hW9
      clear hsAll hW9 FT
      go_wp2_with fail
      go_ret
      exact ⟨ret_bool (by first | rfl | exact hre | (rw [hre])), G9⟩
  · have hre : r = false := by rw [HR.out]; simp [h1]
    clear HC
    apply wp_region_draw_grow (.eq _ :: .eq _ :: .eq _ :: .eq _ :: .eq _ :: .eq _ :: .eq _ :: .eq _ :: .eq _ :: .eq _ :: .eq _ :: .eq _ :: .eq _ :: .eq _ :: .eq _ :: .eq _ :: .eq _ :: .eq _ :: .eq _ :: .eq _ :: .eq _ :: .eq _ :: .eq _ :: .eq _ :: .eq _ :: .eq _ :: .eq _ :: .eq _ :: .eq _ :: .eq _ :: .eq _ :: .eq _ :: []) (by kernel_rfl) (by kernel_rfl) trivial
    repeat
      apply wpG_eq
      · intro W hW hs
        obtain ⟨x0, x1, x2⟩ := FT.out W hW
        unfold opG
        go_simp
        first | exact resG_eq_mk _ _ _ | rfl
      simp only [Act.put, List.setIfInBounds_toArray, List.set_cons_zero, List.set_cons_succ]
    apply wpG_nil
    intro W9 hW9 hsAll
    have G9 : Gr w W9 := Gr.trans (((Gr.refl w).alloc _).drew) hW9
    clear hsAll hW9 FT
    go_wp2_with fail
    go_ret
    exact ⟨ret_bool (by first | rfl | exact hre | (rw [hre])), G9⟩

set_option maxHeartbeats 2000000 in
/-- the document's Link -/
theorem reflink_any (w : World) (N : Nat) (sv : Value) (sizes : List Int) (a b : AdD) (hN : w.cell? ⟨N, 0, Option.none⟩ = some sv) (hs : Sl w sv (ints sizes)) (hl : sizes.length ≤ 100) :
    Calls Try.prog 38 #[.pointer (some ⟨N, 0, Option.none⟩), adV a, adV b] w fun e w' => e = .returned (.bool (linkV sizes a b)) ∧ Gr w w' := by
  obtain ⟨a1, a2⟩ := a
  obtain ⟨b1, b2⟩ := b
  obtain ⟨w0, hw0⟩ : ∃ w0, w0 = (w.alloc (.cells #[.int .i64 a1, .int .i64 a2] 33)).alloc (.cells #[.int .i64 b1, .int .i64 b2] 33) := ⟨_, rfl⟩
  have g0 : Gr w w0 := by rw [hw0]; exact ((Gr.refl w).alloc _).alloc _
  have cA : CellsAt w0 w.heap.size #[.int .i64 a1, .int .i64 a2] 33 := by rw [hw0]; exact (CellsAt.new _ _ _).gr ((Gr.refl _).alloc _)
  have cB : CellsAt w0 (w.heap.size + 1) #[.int .i64 b1, .int .i64 b2] 33 := by rw [hw0]; exact CellsAt.newAt (w.alloc (.cells #[.int .i64 a1, .int .i64 a2] 33)) _ _ (by simp)
  have T : Hid (∀ W, Gr w0 W → (W.cell? ⟨w.heap.size, 0, Option.none⟩ = some (.int .i64 a1) ∧ W.cell? ⟨w.heap.size, 1, Option.none⟩ = some (.int .i64 a2) ∧ W.cell? ⟨w.heap.size + 1, 0, Option.none⟩ = some (.int .i64 b1) ∧ W.cell? ⟨w.heap.size + 1, 1, Option.none⟩ = some (.int .i64 b2)) ∧ W.cell? ⟨N, 0, Option.none⟩ = some sv ∧ Sl W sv (ints sizes)) :=
    Lib.hid fun W g => ⟨⟨(cA.gr g).cell 0, (cA.gr g).cell 1, (cB.gr g).cell 0, (cB.gr g).cell 1⟩, g.cellT (g0.cellT hN), hs.below (Gr.trans g0 g)⟩
  obtain ⟨r1, hr1⟩ : ∃ r, r = hasV sizes (a1, a2) := ⟨_, rfl⟩
  obtain ⟨r2, hr2⟩ : ∃ r, r = hasV sizes (b1, b2) := ⟨_, rfl⟩
  have HR1 := Lib.hid hr1
  have HR2 := Lib.hid hr2
  have G0 := Lib.hid g0
  have HLK : Hid (linkV sizes (a1, a2) (b1, b2) = (r1 && r2 && decide (((a1, a2) : AdD) ≠ (b1, b2)))) := Lib.hid (by rw [hr1, hr2]; rfl)
  rw [HLK.out]
  unfold adV
  clear hr1 hr2 g0 cA cB hN hs
  go_enter Try.func38, Try.ntmps38
  go_upto_region 1 with fail
  rw [← hw0]
  clear hw0
  obtain ⟨⟨x0, x1, y0, y1⟩, hN, hs⟩ := T.out w0 (Gr.refl _)
  go_wp2_with fail
  refine (refhas_any w0 N sv sizes (a1, a2) hN hs hl).mono ?_
  rintro e w1 ⟨rfl, g1⟩
  rw [← HR1.out]
  have G1 := Lib.hid g1
  clear g1 x0 x1 y0 y1 hN hs
  cases r1 with
  | false =>
    go_wp2
    go_ret
    exact ⟨rfl, Gr.trans G0.out G1.out⟩
  | true =>
  obtain ⟨⟨x0, x1, y0, y1⟩, hN, hs⟩ := T.out w1 G1.out
  go_wp2_with fail
  refine (refhas_any w1 N sv sizes (b1, b2) hN hs hl).mono ?_
  rintro e w2 ⟨rfl, g2⟩
  rw [← HR2.out]
  have G2 := Lib.hid (Gr.trans G1.out g2)
  clear g2 x0 x1 y0 y1 hN hs
  cases r2 with
  | false =>
    go_wp2
    go_ret
    exact ⟨rfl, Gr.trans G0.out G2.out⟩
  | true =>
  obtain ⟨⟨x0, x1, y0, y1⟩, hN, hs⟩ := T.out w2 G2.out
  clear hN hs
  by_cases h1 : a1 = b1
  · by_cases h2 : a2 = b2
    · subst h1 h2
      go_wp2
      go_ret
      exact ⟨by simp, Gr.trans G0.out G2.out⟩
    · subst h1
      go_wp2
      go_ret
      exact ⟨by simp [h2], Gr.trans G0.out G2.out⟩
  · go_wp2
    go_ret
    exact ⟨by simp [h1], Gr.trans G0.out G2.out⟩
end Go.Proofs.Ytcpkbngoecpnkaa
