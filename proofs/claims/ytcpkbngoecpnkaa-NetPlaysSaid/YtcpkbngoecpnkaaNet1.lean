/-
  Package net: addresses and links.
-/
import Derived.Test.YtcpkbngoecpnkaaNetS
import Derived.Test.YtcpkbngoecpnkaaStores
import Derived.WalkLawsBesides
import Derived.WalkSpells
import Derived.Outline
import Derived.Deep.DeepCutAuto
set_option linter.unusedVariables false
namespace Go.Proofs.Ytcpkbngoecpnkaa
open Go.RowKit
def ints (l : List Int) : List Value := l.map (Value.int .i64)
set_option maxHeartbeats 2000000 in
/-- (*Net).has: is it an address of these sizes? -/
theorem has_any (w : World) (N : Nat) (sv : Value) (sizes : List Int) (a : AdD) (hN : w.cell? ⟨N, 0, Option.none⟩ = some sv) (hs : Sl w sv (ints sizes)) (hl : sizes.length ≤ 100) :
    Calls Try.prog 41 #[.pointer (some ⟨N, 0, Option.none⟩), adV a] w fun e w' => e = .returned (.bool (hasV sizes a)) ∧ Gr w w' := by
  obtain ⟨g, n⟩ := a
  obtain ⟨ad, cap, rfl, hcap, hcell⟩ := hs
  have hlen : (ints sizes).length = sizes.length := by unfold ints; rw [List.length_map]
  rw [hlen] at hcap
  have HC := Lib.hid hcell
  clear hcell
  obtain ⟨L, hL⟩ : ∃ L, L = sizes.length := ⟨_, rfl⟩
  obtain ⟨r, hr⟩ : ∃ r, r = hasV sizes (g, n) := ⟨_, rfl⟩
  rw [hlen, ← hL] at hN
  rw [← hL] at hcap hl
  rw [← hr]
  unfold hasV at hr
  simp only [← hL] at hr
  have HR := Lib.hid hr
  have HL := Lib.hid hL
  clear hL
  clear hr
  unfold adV
  go_enter Try.func41, Try.ntmps41
  go_upto_region 1 with fail
  have FT : Hid (∀ W, Gr (w.alloc (.cells #[.int .i64 g, .int .i64 n] 33)).drew W → W.cell? ⟨w.heap.size, 0, Option.none⟩ = some (.int .i64 g) ∧ W.cell? ⟨w.heap.size, 1, Option.none⟩ = some (.int .i64 n) ∧ W.cell? ⟨N, 0, Option.none⟩ = some (.slice ad L cap)) := Lib.hid fun W hW => by
    have c := CellsAt.new w #[.int .i64 g, .int .i64 n] 33
    have g1 := (Gr.refl w).alloc (.cells #[.int .i64 g, .int .i64 n] 33)
    exact ⟨hW.drew0 (c.cell 0), hW.drew0 (c.cell 1), hW.drew0 ((g1.cell' hN).trans hN)⟩
  by_cases h1 : 0 ≤ g
  · by_cases h2 : g < (L : Int)
    · by_cases h3 : 0 ≤ n
      · obtain ⟨k, rfl⟩ : ∃ k : Nat, g = (k : Int) := ⟨g.toNat, by omega⟩
        have hk : k < L := by omega
        have hL := HL.out
        obtain ⟨b, off, rfl, hb, hcell⟩ := HC.out.resolve_left (by intro h; have := congrArg List.length h; rw [hlen, ← hL] at this; simp only [List.length_nil] at this; omega)
        have hc := hcell k (by rw [hlen, ← hL]; exact hk)
        obtain ⟨m, hm⟩ : ∃ m, m = sizes.getD k 0 := ⟨_, rfl⟩
        have hc2 : w.cell? ⟨b, off + k, Option.none⟩ = some (.int .i64 m) := by
          rw [hc, hm]
          simp [ints, List.getElem?_eq_getElem (show k < sizes.length by omega)]
        have FT2 : Hid (∀ W, Gr (w.alloc (.cells #[.int .i64 (k : Int), .int .i64 n] 33)).drew W → W.cell? ⟨w.heap.size, 0, Option.none⟩ = some (.int .i64 (k : Int)) ∧ W.cell? ⟨w.heap.size, 1, Option.none⟩ = some (.int .i64 n) ∧ W.cell? ⟨N, 0, Option.none⟩ = some (.slice (some ⟨b, off, Option.none⟩) L cap) ∧ W.cell? ⟨b, off + k, Option.none⟩ = some (.int .i64 m)) := Lib.hid fun W hW => by
          obtain ⟨x0, x1, x2⟩ := FT.out W hW
          exact ⟨x0, x1, x2, hW.drew0 ((((Gr.refl w).alloc _).cell' hc2).trans hc2)⟩
        have hre : r = decide (n < m) := by rw [HR.out, hm]; simp [h3, hk]
        clear FT HC hcell hc hc2 hN hm hL
        have FT := FT2
        clear FT2
        apply wp_region_draw_grow (.eq _ :: .eq _ :: .eq _ :: .eq _ :: .eq _ :: .eq _ :: .eq _ :: .eq _ :: .eq _ :: .eq _ :: .eq _ :: .eq _ :: .eq _ :: .eq _ :: .eq _ :: .eq _ :: .eq _ :: .eq _ :: .eq _ :: .eq _ :: .eq _ :: .eq _ :: .eq _ :: .eq _ :: .eq _ :: .eq _ :: .eq _ :: .eq _ :: .eq _ :: .eq _ :: .eq _ :: .eq _ :: []) (by kernel_rfl) (by kernel_rfl) trivial
        repeat
          apply wpG_eq
          · intro W hW hs
            obtain ⟨x0, x1, x2, x3⟩ := FT.out W hW
            unfold opG
            go_simp
            first | exact resG_eq_mk _ _ _ | rfl
          simp only [Act.put, List.setIfInBounds_toArray, List.set_cons_zero, List.set_cons_succ]
        apply wpG_nil
        intro W9 hW9 hsAll
        have G9 : Gr w W9 := Gr.trans (((Gr.refl w).alloc _).drew) hW9
        clear hsAll hW9 FT
        go_wp2_with fail
        go_ret
        exact ⟨ret_bool (by first | rfl | exact hre | (rw [hre])), G9⟩
      · have hre : r = false := by rw [HR.out]; simp [h3]
        clear HC
        apply wp_region_draw_grow (.eq _ :: .eq _ :: .eq _ :: .eq _ :: .eq _ :: .eq _ :: .eq _ :: .eq _ :: .eq _ :: .eq _ :: .eq _ :: .eq _ :: .eq _ :: .eq _ :: .eq _ :: .eq _ :: .eq _ :: .eq _ :: .eq _ :: .eq _ :: .eq _ :: .eq _ :: .eq _ :: .eq _ :: .eq _ :: .eq _ :: .eq _ :: .eq _ :: .eq _ :: .eq _ :: .eq _ :: .eq _ :: []) (by kernel_rfl) (by kernel_rfl) trivial
        repeat
          apply wpG_eq
          · intro W hW hs
            obtain ⟨x0, x1, x2⟩ := FT.out W hW
            unfold opG
            go_simp
            first | exact resG_eq_mk _ _ _ | rfl
          simp only [Act.put, List.setIfInBounds_toArray, List.set_cons_zero, List.set_cons_succ]
        apply wpG_nil
        intro W9 hW9 hsAll
        have G9 : Gr w W9 := Gr.trans (((Gr.refl w).alloc _).drew) hW9
        clear hsAll hW9 FT
        go_wp2_with fail
        go_ret
        exact ⟨ret_bool (by first | rfl | exact hre | (rw [hre])), G9⟩
    · have hre : r = false := by rw [HR.out]; simp [h2]
      clear HC
      apply wp_region_draw_grow (.eq _ :: .eq _ :: .eq _ :: .eq _ :: .eq _ :: .eq _ :: .eq _ :: .eq _ :: .eq _ :: .eq _ :: .eq _ :: .eq _ :: .eq _ :: .eq _ :: .eq _ :: .eq _ :: .eq _ :: .eq _ :: .eq _ :: .eq _ :: .eq _ :: .eq _ :: .eq _ :: .eq _ :: .eq _ :: .eq _ :: .eq _ :: .eq _ :: .eq _ :: .eq _ :: .eq _ :: .eq _ :: []) (by kernel_rfl) (by kernel_rfl) trivial
      repeat
        apply wpG_eq
        · intro W hW hs
          obtain ⟨x0, x1, x2⟩ := FT.out W hW
          unfold opG
          go_simp
          first | exact resG_eq_mk _ _ _ | rfl
        simp only [Act.put, List.setIfInBounds_toArray, List.set_cons_zero, List.set_cons_succ]
      apply wpG_nil
      intro W9 hW9 hsAll
      have G9 : Gr w W9 := Gr.trans (((Gr.refl w).alloc _).drew) hW9
      clear hsAll hW9 FT
      go_wp2_with fail
      go_ret
      exact ⟨ret_bool (by first | rfl | exact hre | (rw [hre])), G9⟩
  · have hre : r = false := by rw [HR.out]; simp [h1]
    clear HC
    apply wp_region_draw_grow (.eq _ :: .eq _ :: .eq _ :: .eq _ :: .eq _ :: .eq _ :: .eq _ :: .eq _ :: .eq _ :: .eq _ :: .eq _ :: .eq _ :: .eq _ :: .eq _ :: .eq _ :: .eq _ :: .eq _ :: .eq _ :: .eq _ :: .eq _ :: .eq _ :: .eq _ :: .eq _ :: .eq _ :: .eq _ :: .eq _ :: .eq _ :: .eq _ :: .eq _ :: .eq _ :: .eq _ :: .eq _ :: []) (by kernel_rfl) (by kernel_rfl) trivial
    repeat
      apply wpG_eq
      · intro W hW hs
        obtain ⟨x0, x1, x2⟩ := FT.out W hW
        unfold opG
        go_simp
        first | exact resG_eq_mk _ _ _ | rfl
      simp only [Act.put, List.setIfInBounds_toArray, List.set_cons_zero, List.set_cons_succ]
    apply wpG_nil
    intro W9 hW9 hsAll
    have G9 : Gr w W9 := Gr.trans (((Gr.refl w).alloc _).drew) hW9
    clear hsAll hW9 FT
    go_wp2_with fail
    go_ret
    exact ⟨ret_bool (by first | rfl | exact hre | (rw [hre])), G9⟩

set_option maxHeartbeats 2000000 in
/-- (*Net).linked: the link of two addresses, and whether they have one. -/
theorem linked_any (w : World) (N : Nat) (sv : Value) (sizes : List Int) (a b : AdD) (hN : w.cell? ⟨N, 0, Option.none⟩ = some sv) (hs : Sl w sv (ints sizes)) (hl : sizes.length ≤ 100) :
    Calls Try.prog 33 #[.pointer (some ⟨N, 0, Option.none⟩), adV a, adV b] w fun e w' => e = .returned (.tuple #[keyA (keyV a b), .bool (linkV sizes a b)]) ∧ Gr w w' := by
  obtain ⟨a1, a2⟩ := a
  obtain ⟨b1, b2⟩ := b
  obtain ⟨p, hp⟩ : ∃ p, p = keyV (a1, a2) (b1, b2) := ⟨_, rfl⟩
  have HP := Lib.hid hp
  have HN := Lib.hid (And.intro hN hs)
  rw [← hp]
  clear hp hN hs
  by_cases h1 : b1 < a1
  · have hpe : p = ((b1, b2), (a1, a2)) := by rw [HP.out]; unfold keyV lessV; simp; omega
    have hlk : linkV sizes (a1, a2) (b1, b2) = (hasV sizes (b1, b2) && hasV sizes (a1, a2) && decide (((b1, b2) : AdD) ≠ (a1, a2))) := by first | rfl | exact linkV_comm _ _ _
    rw [hpe, hlk]
    have HK : Hid (keyA ((b1, b2), (a1, a2)) = .agg #[.int .i64 b1, .int .i64 b2, .int .i64 a1, .int .i64 a2]) := Lib.hid rfl
    clear HP hpe hlk
    obtain ⟨r1, hr1⟩ : ∃ r, r = hasV sizes (b1, b2) := ⟨_, rfl⟩
    obtain ⟨r2, hr2⟩ : ∃ r, r = hasV sizes (a1, a2) := ⟨_, rfl⟩
    rw [← hr1, ← hr2]
    have HR1 := Lib.hid hr1
    have HR2 := Lib.hid hr2
    clear hr1 hr2
    obtain ⟨ne, hne⟩ : ∃ r, r = decide (((b1, b2) : AdD) ≠ (a1, a2)) := ⟨_, rfl⟩
    rw [← hne]
    have HNE : Hid (∀ W : World, (if b1 = a1 then if b2 = a2 then Result.ok (Next.value (Value.bool false)) W else Result.ok (Next.value (Value.bool true)) W else Result.ok (Next.value (Value.bool true)) W) = Result.ok (Next.value (.bool ne)) W) := Lib.hid fun W => by
      rw [hne]
      by_cases e1 : b1 = a1 <;> by_cases e2 : b2 = a2 <;> simp_all
    have HNF : Hid (∀ W : World, b1 = a1 → (if b2 = a2 then Result.ok (Next.value (Value.bool false)) W else Result.ok (Next.value (Value.bool true)) W) = Result.ok (Next.value (.bool ne)) W) := Lib.hid fun W e1 => by
      rw [hne]
      by_cases e2 : b2 = a2 <;> simp_all
    clear hne
    unfold adV
    go_enter Try.func33, Try.ntmps33
    go_upto_region 3 with fail
    obtain ⟨w0, hw0⟩ : ∃ w0, w0 = ((w.alloc (.cells #[.int .i64 b1, .int .i64 b2] 33)).alloc (.cells #[.int .i64 a1, .int .i64 a2] 33)).alloc (.cells #[.int .i64 0, .int .i64 0, .int .i64 0, .int .i64 0] 70) := ⟨_, rfl⟩
    have g0 : Gr w w0 := by rw [hw0]; exact (((Gr.refl w).alloc _).alloc _).alloc _
    have cA : CellsAt w0 w.heap.size #[.int .i64 b1, .int .i64 b2] 33 := by rw [hw0]; exact (CellsAt.new _ _ _).gr (((Gr.refl _).alloc _).alloc _)
    have cB : CellsAt w0 (w.heap.size + 1) #[.int .i64 a1, .int .i64 a2] 33 := by rw [hw0]; exact (CellsAt.newAt (w.alloc (.cells #[.int .i64 b1, .int .i64 b2] 33)) _ _ (by simp)).gr ((Gr.refl _).alloc _)
    have cR : CellsAt w0 (w.heap.size + 1 + 1) #[.int .i64 0, .int .i64 0, .int .i64 0, .int .i64 0] 70 := by rw [hw0]; exact CellsAt.newAt ((w.alloc (.cells #[.int .i64 b1, .int .i64 b2] 33)).alloc (.cells #[.int .i64 a1, .int .i64 a2] 33)) _ _ (by simp)
    rw [← hw0]
    clear hw0
    have FT : Hid (∀ W, Ch (fun j => j = (w.heap.size + 1 + 1)) w0.drew W → (W.cell? ⟨w.heap.size, 0, Option.none⟩ = some (.int .i64 b1) ∧ W.cell? ⟨w.heap.size, 1, Option.none⟩ = some (.int .i64 b2) ∧ W.cell? ⟨w.heap.size + 1, 0, Option.none⟩ = some (.int .i64 a1) ∧ W.cell? ⟨w.heap.size + 1, 1, Option.none⟩ = some (.int .i64 a2)) ∧ W.cell? ⟨N, 0, Option.none⟩ = some sv ∧ Sl W sv (ints sizes)) := Lib.hid fun W hW => by
      have q1 : CellsAt W w.heap.size _ 33 := (hW.block _ cA.lt (by omega)).trans cA
      have q2 : CellsAt W (w.heap.size + 1) _ 33 := (hW.block _ cB.lt (by omega)).trans cB
      have q3 : Below w.heap.size w W := Below.trans g0.drew ((hW.below (B := w.heap.size) g0.size (fun k hk => by have h9 : k = (w.heap.size + 1 + 1) := hk; omega)))
      exact ⟨⟨q1.cell 0, q1.cell 1, q2.cell 0, q2.cell 1⟩, ((Gr.cell' q3 HN.out.1)).trans HN.out.1, HN.out.2.below q3⟩
    have G0 := Lib.hid g0
    have CR := Lib.hid cR
    clear g0 cA cB cR
    cases r1 with
    | false =>
      apply wp_region_draw_turn (fun j => j = (w.heap.size + 1 + 1)) (fun k W => (k = 0 → CellsAt W (w.heap.size + 1 + 1) #[.int .i64 0, .int .i64 0, .int .i64 0, .int .i64 0] 70) ∧ (k = 1 → CellsAt W (w.heap.size + 1 + 1) #[.int .i64 b1, .int .i64 b2, .int .i64 a1, .int .i64 a2] 70)) (.eq _ :: .eq _ :: .eq _ :: .eq _ :: .eq _ :: .eq _ :: .eq _ :: .eq _ :: .eq _ :: .eq _ :: .eq _ :: .eq _ :: .eq _ :: .eq _ :: .eq _ :: .eq _ :: .useEq undef :: .eq _ :: []) (by kernel_rfl) (by kernel_rfl) (by kernel_rfl) trivial (fun k W W' g h => ⟨fun e => (h.1 e).gr g, fun e => (h.2 e).gr g⟩) (⟨fun _ => CR.out, fun e => by cases e⟩)
      apply wpT_eq
      · intro W hW _
        obtain ⟨⟨x0, x1, y0, y1⟩, _, _⟩ := FT.out W hW
        unfold opT
        go_simp
        first | exact resT_eq_mk _ _ _ | exact ⟨Gr.refl _, rfl⟩
      simp only [Act.put, List.setIfInBounds_toArray, List.set_cons_zero, List.set_cons_succ]
      apply wpT_eq
      · intro W hW _
        obtain ⟨⟨x0, x1, y0, y1⟩, _, _⟩ := FT.out W hW
        unfold opT
        go_simp
        first | exact resT_eq_mk _ _ _ | exact ⟨Gr.refl _, rfl⟩
      simp only [Act.put, List.setIfInBounds_toArray, List.set_cons_zero, List.set_cons_succ]
      apply wpT_eq
      · intro W hW _
        unfold opT
        go_simp
        first | exact resT_eq_mk _ _ _ | exact ⟨Gr.refl _, rfl⟩
      simp only [Act.put, List.setIfInBounds_toArray, List.set_cons_zero, List.set_cons_succ]
      apply wpT_eq
      · intro W hW _
        unfold opT
        go_simp
        first | exact resT_eq_mk _ _ _ | exact ⟨Gr.refl _, rfl⟩
      simp only [Act.put, List.setIfInBounds_toArray, List.set_cons_zero, List.set_cons_succ]
      apply wpT_eq
      · intro W hW _
        obtain ⟨⟨x0, x1, y0, y1⟩, _, _⟩ := FT.out W hW
        unfold opT
        go_simp
        first | exact resT_eq_mk _ _ _ | exact ⟨Gr.refl _, rfl⟩
      simp only [Act.put, List.setIfInBounds_toArray, List.set_cons_zero, List.set_cons_succ]
      apply wpT_eq
      · intro W hW hs
        obtain ⟨_, hN, hs⟩ := FT.out W hW
        unfold opT
        go_simp
        refine resT_call ((has_any W N sv sizes (b1, b2) hN hs hl).mono ?_)
        rintro e W2 ⟨rfl, g2⟩
        exact ⟨_, rfl, g2, by rw [← HR1.out]⟩
      simp only [Act.put, List.setIfInBounds_toArray, List.set_cons_zero, List.set_cons_succ]
      apply wpT_eq
      · intro W hW _
        unfold opT
        go_simp
        first | exact resT_eq_mk _ _ _ | exact ⟨Gr.refl _, rfl⟩
      simp only [Act.put, List.setIfInBounds_toArray, List.set_cons_zero, List.set_cons_succ]
      apply wpT_eq
      · intro W hW _
        unfold opT
        go_simp
        first | exact resT_eq_mk _ _ _ | exact ⟨Gr.refl _, rfl⟩
      simp only [Act.put, List.setIfInBounds_toArray, List.set_cons_zero, List.set_cons_succ]
      apply wpT_eq
      · intro W hW _
        obtain ⟨⟨x0, x1, y0, y1⟩, _, _⟩ := FT.out W hW
        unfold opT
        go_simp
        first | exact resT_eq_mk _ _ _ | exact ⟨Gr.refl _, rfl⟩
      simp only [Act.put, List.setIfInBounds_toArray, List.set_cons_zero, List.set_cons_succ]
      apply wpT_eq
      · intro W hW _
        unfold opT
        go_simp
        first | exact resT_eq_mk _ _ _ | exact ⟨Gr.refl _, rfl⟩
      simp only [Act.put, List.setIfInBounds_toArray, List.set_cons_zero, List.set_cons_succ]
      apply wpT_eq
      · intro W hW _
        unfold opT
        go_simp
        first | exact resT_eq_mk _ _ _ | exact ⟨Gr.refl _, rfl⟩
      simp only [Act.put, List.setIfInBounds_toArray, List.set_cons_zero, List.set_cons_succ]
      apply wpT_eq
      · intro W hW _
        unfold opT
        go_simp
        first | exact resT_eq_mk _ _ _ | exact ⟨Gr.refl _, rfl⟩
      simp only [Act.put, List.setIfInBounds_toArray, List.set_cons_zero, List.set_cons_succ]
      apply wpT_eq
      · intro W hW _
        obtain ⟨⟨x0, x1, y0, y1⟩, _, _⟩ := FT.out W hW
        unfold opT
        go_simp
        first | exact resT_eq_mk _ _ _ | exact ⟨Gr.refl _, rfl⟩
      simp only [Act.put, List.setIfInBounds_toArray, List.set_cons_zero, List.set_cons_succ]
      apply wpT_eq
      · intro W hW _
        obtain ⟨⟨x0, x1, y0, y1⟩, _, _⟩ := FT.out W hW
        unfold opT
        go_simp
        first | exact resT_eq_mk _ _ _ | exact ⟨Gr.refl _, rfl⟩
      simp only [Act.put, List.setIfInBounds_toArray, List.set_cons_zero, List.set_cons_succ]
      apply wpT_eq
      · intro W hW _
        unfold opT
        go_simp
        first | exact resT_eq_mk _ _ _ | exact ⟨Gr.refl _, rfl⟩
      simp only [Act.put, List.setIfInBounds_toArray, List.set_cons_zero, List.set_cons_succ]
      apply wpT_eq
      · intro W hW _
        unfold opT
        go_simp
        first | exact resT_eq_mk _ _ _ | exact ⟨Gr.refl _, rfl⟩
      simp only [Act.put, List.setIfInBounds_toArray, List.set_cons_zero, List.set_cons_succ]
      apply wpT_useEq
      · intro W hW hS hs
        exact opT_run_store 70 _ _ rfl rfl rfl rfl (hS.1 rfl) (by kernel_rfl) rfl (by simp; exact ⟨rfl, rfl, rfl, rfl⟩) (fun f1 f2 => ⟨⟨f2, ⟨(fun e => by cases e), fun _ => f1⟩⟩, rfl⟩)
      simp only [Act.put]
      apply wpT_eq
      · intro W hW _
        unfold opT
        go_simp
        first | exact resT_eq_mk _ _ _ | exact ⟨Gr.refl _, rfl⟩
      simp only [Act.put, List.setIfInBounds_toArray, List.set_cons_zero, List.set_cons_succ]
      apply wpT_nil
      intro W9 hW9 hS9 hsAll
      have c9 := hS9.2 rfl
      have G9 : Gr w W9 := Below.trans G0.out.drew (hW9.below (B := w.heap.size) G0.out.size (fun k hk => by have h9 : k = (w.heap.size + 1 + 1) := hk; omega))
      have k0 := c9.cell 0
      have k1 := c9.cell 1
      have k2 := c9.cell 2
      have k3 := c9.cell 3
      clear FT hsAll hS9 hW9 c9
      (try go_wp2)
      (try simp only [Exit.inBlock, Exit.then])
      refine bodyPost_ret (v := .tuple #[.agg #[.int .i64 b1, .int .i64 b2, .int .i64 a1, .int .i64 a2], .bool false]) ?_ rfl ⟨(by rw [HK.out]; try simp), G9⟩
      simp only [List.getElem?_toArray, List.getElem?_cons_zero, List.getElem?_cons_succ] at k0 k1 k2 k3
      simp [results, Try.f33, go_sem, k0, k1, k2, k3]
    | true =>
      cases r2 with
      | false =>
        apply wp_region_draw_turn (fun j => j = (w.heap.size + 1 + 1)) (fun k W => (k = 0 → CellsAt W (w.heap.size + 1 + 1) #[.int .i64 0, .int .i64 0, .int .i64 0, .int .i64 0] 70) ∧ (k = 1 → CellsAt W (w.heap.size + 1 + 1) #[.int .i64 b1, .int .i64 b2, .int .i64 a1, .int .i64 a2] 70)) (.eq _ :: .eq _ :: .eq _ :: .eq _ :: .eq _ :: .eq _ :: .eq _ :: .eq _ :: .eq _ :: .eq _ :: .eq _ :: .eq _ :: .eq _ :: .eq _ :: .eq _ :: .eq _ :: .useEq undef :: .eq _ :: []) (by kernel_rfl) (by kernel_rfl) (by kernel_rfl) trivial (fun k W W' g h => ⟨fun e => (h.1 e).gr g, fun e => (h.2 e).gr g⟩) (⟨fun _ => CR.out, fun e => by cases e⟩)
        apply wpT_eq
        · intro W hW _
          obtain ⟨⟨x0, x1, y0, y1⟩, _, _⟩ := FT.out W hW
          unfold opT
          go_simp
          first | exact resT_eq_mk _ _ _ | exact ⟨Gr.refl _, rfl⟩
        simp only [Act.put, List.setIfInBounds_toArray, List.set_cons_zero, List.set_cons_succ]
        apply wpT_eq
        · intro W hW _
          obtain ⟨⟨x0, x1, y0, y1⟩, _, _⟩ := FT.out W hW
          unfold opT
          go_simp
          first | exact resT_eq_mk _ _ _ | exact ⟨Gr.refl _, rfl⟩
        simp only [Act.put, List.setIfInBounds_toArray, List.set_cons_zero, List.set_cons_succ]
        apply wpT_eq
        · intro W hW _
          unfold opT
          go_simp
          first | exact resT_eq_mk _ _ _ | exact ⟨Gr.refl _, rfl⟩
        simp only [Act.put, List.setIfInBounds_toArray, List.set_cons_zero, List.set_cons_succ]
        apply wpT_eq
        · intro W hW _
          unfold opT
          go_simp
          first | exact resT_eq_mk _ _ _ | exact ⟨Gr.refl _, rfl⟩
        simp only [Act.put, List.setIfInBounds_toArray, List.set_cons_zero, List.set_cons_succ]
        apply wpT_eq
        · intro W hW _
          obtain ⟨⟨x0, x1, y0, y1⟩, _, _⟩ := FT.out W hW
          unfold opT
          go_simp
          first | exact resT_eq_mk _ _ _ | exact ⟨Gr.refl _, rfl⟩
        simp only [Act.put, List.setIfInBounds_toArray, List.set_cons_zero, List.set_cons_succ]
        apply wpT_eq
        · intro W hW hs
          obtain ⟨_, hN, hs⟩ := FT.out W hW
          unfold opT
          go_simp
          refine resT_call ((has_any W N sv sizes (b1, b2) hN hs hl).mono ?_)
          rintro e W2 ⟨rfl, g2⟩
          exact ⟨_, rfl, g2, by rw [← HR1.out]⟩
        simp only [Act.put, List.setIfInBounds_toArray, List.set_cons_zero, List.set_cons_succ]
        apply wpT_eq
        · intro W hW _
          unfold opT
          go_simp
          first | exact resT_eq_mk _ _ _ | exact ⟨Gr.refl _, rfl⟩
        simp only [Act.put, List.setIfInBounds_toArray, List.set_cons_zero, List.set_cons_succ]
        apply wpT_eq
        · intro W hW _
          unfold opT
          go_simp
          first | exact resT_eq_mk _ _ _ | exact ⟨Gr.refl _, rfl⟩
        simp only [Act.put, List.setIfInBounds_toArray, List.set_cons_zero, List.set_cons_succ]
        apply wpT_eq
        · intro W hW _
          obtain ⟨⟨x0, x1, y0, y1⟩, _, _⟩ := FT.out W hW
          unfold opT
          go_simp
          first | exact resT_eq_mk _ _ _ | exact ⟨Gr.refl _, rfl⟩
        simp only [Act.put, List.setIfInBounds_toArray, List.set_cons_zero, List.set_cons_succ]
        apply wpT_eq
        · intro W hW hs
          obtain ⟨_, hN, hs⟩ := FT.out W hW
          unfold opT
          go_simp
          refine resT_call ((has_any W N sv sizes (a1, a2) hN hs hl).mono ?_)
          rintro e W2 ⟨rfl, g2⟩
          exact ⟨_, rfl, g2, by rw [← HR2.out]⟩
        simp only [Act.put, List.setIfInBounds_toArray, List.set_cons_zero, List.set_cons_succ]
        apply wpT_eq
        · intro W hW _
          unfold opT
          go_simp
          first | exact resT_eq_mk _ _ _ | exact ⟨Gr.refl _, rfl⟩
        simp only [Act.put, List.setIfInBounds_toArray, List.set_cons_zero, List.set_cons_succ]
        apply wpT_eq
        · intro W hW _
          unfold opT
          go_simp
          first | exact resT_eq_mk _ _ _ | exact ⟨Gr.refl _, rfl⟩
        simp only [Act.put, List.setIfInBounds_toArray, List.set_cons_zero, List.set_cons_succ]
        apply wpT_eq
        · intro W hW _
          obtain ⟨⟨x0, x1, y0, y1⟩, _, _⟩ := FT.out W hW
          unfold opT
          go_simp
          first | exact resT_eq_mk _ _ _ | exact ⟨Gr.refl _, rfl⟩
        simp only [Act.put, List.setIfInBounds_toArray, List.set_cons_zero, List.set_cons_succ]
        apply wpT_eq
        · intro W hW _
          obtain ⟨⟨x0, x1, y0, y1⟩, _, _⟩ := FT.out W hW
          unfold opT
          go_simp
          first | exact resT_eq_mk _ _ _ | exact ⟨Gr.refl _, rfl⟩
        simp only [Act.put, List.setIfInBounds_toArray, List.set_cons_zero, List.set_cons_succ]
        apply wpT_eq
        · intro W hW _
          unfold opT
          go_simp
          first | exact resT_eq_mk _ _ _ | exact ⟨Gr.refl _, rfl⟩
        simp only [Act.put, List.setIfInBounds_toArray, List.set_cons_zero, List.set_cons_succ]
        apply wpT_eq
        · intro W hW _
          unfold opT
          go_simp
          first | exact resT_eq_mk _ _ _ | exact ⟨Gr.refl _, rfl⟩
        simp only [Act.put, List.setIfInBounds_toArray, List.set_cons_zero, List.set_cons_succ]
        apply wpT_useEq
        · intro W hW hS hs
          exact opT_run_store 70 _ _ rfl rfl rfl rfl (hS.1 rfl) (by kernel_rfl) rfl (by simp; exact ⟨rfl, rfl, rfl, rfl⟩) (fun f1 f2 => ⟨⟨f2, ⟨(fun e => by cases e), fun _ => f1⟩⟩, rfl⟩)
        simp only [Act.put]
        apply wpT_eq
        · intro W hW _
          unfold opT
          go_simp
          first | exact resT_eq_mk _ _ _ | exact ⟨Gr.refl _, rfl⟩
        simp only [Act.put, List.setIfInBounds_toArray, List.set_cons_zero, List.set_cons_succ]
        apply wpT_nil
        intro W9 hW9 hS9 hsAll
        have c9 := hS9.2 rfl
        have G9 : Gr w W9 := Below.trans G0.out.drew (hW9.below (B := w.heap.size) G0.out.size (fun k hk => by have h9 : k = (w.heap.size + 1 + 1) := hk; omega))
        have k0 := c9.cell 0
        have k1 := c9.cell 1
        have k2 := c9.cell 2
        have k3 := c9.cell 3
        clear FT hsAll hS9 hW9 c9
        (try go_wp2)
        (try simp only [Exit.inBlock, Exit.then])
        refine bodyPost_ret (v := .tuple #[.agg #[.int .i64 b1, .int .i64 b2, .int .i64 a1, .int .i64 a2], .bool false]) ?_ rfl ⟨(by rw [HK.out]; try simp), G9⟩
        simp only [List.getElem?_toArray, List.getElem?_cons_zero, List.getElem?_cons_succ] at k0 k1 k2 k3
        simp [results, Try.f33, go_sem, k0, k1, k2, k3]
      | true =>
        apply wp_region_draw_turn (fun j => j = (w.heap.size + 1 + 1)) (fun k W => (k = 0 → CellsAt W (w.heap.size + 1 + 1) #[.int .i64 0, .int .i64 0, .int .i64 0, .int .i64 0] 70) ∧ (k = 1 → CellsAt W (w.heap.size + 1 + 1) #[.int .i64 b1, .int .i64 b2, .int .i64 a1, .int .i64 a2] 70)) (.eq _ :: .eq _ :: .eq _ :: .eq _ :: .eq _ :: .eq _ :: .eq _ :: .eq _ :: .eq _ :: .eq _ :: .eq _ :: .eq _ :: .eq _ :: .eq _ :: .eq _ :: .eq _ :: .useEq undef :: .eq _ :: []) (by kernel_rfl) (by kernel_rfl) (by kernel_rfl) trivial (fun k W W' g h => ⟨fun e => (h.1 e).gr g, fun e => (h.2 e).gr g⟩) (⟨fun _ => CR.out, fun e => by cases e⟩)
        apply wpT_eq
        · intro W hW _
          obtain ⟨⟨x0, x1, y0, y1⟩, _, _⟩ := FT.out W hW
          unfold opT
          go_simp
          first | exact resT_eq_mk _ _ _ | exact ⟨Gr.refl _, rfl⟩
        simp only [Act.put, List.setIfInBounds_toArray, List.set_cons_zero, List.set_cons_succ]
        apply wpT_eq
        · intro W hW _
          obtain ⟨⟨x0, x1, y0, y1⟩, _, _⟩ := FT.out W hW
          unfold opT
          go_simp
          first | exact resT_eq_mk _ _ _ | exact ⟨Gr.refl _, rfl⟩
        simp only [Act.put, List.setIfInBounds_toArray, List.set_cons_zero, List.set_cons_succ]
        apply wpT_eq
        · intro W hW _
          unfold opT
          go_simp
          first | exact resT_eq_mk _ _ _ | exact ⟨Gr.refl _, rfl⟩
        simp only [Act.put, List.setIfInBounds_toArray, List.set_cons_zero, List.set_cons_succ]
        apply wpT_eq
        · intro W hW _
          unfold opT
          go_simp
          first | exact resT_eq_mk _ _ _ | exact ⟨Gr.refl _, rfl⟩
        simp only [Act.put, List.setIfInBounds_toArray, List.set_cons_zero, List.set_cons_succ]
        apply wpT_eq
        · intro W hW _
          obtain ⟨⟨x0, x1, y0, y1⟩, _, _⟩ := FT.out W hW
          unfold opT
          go_simp
          first | exact resT_eq_mk _ _ _ | exact ⟨Gr.refl _, rfl⟩
        simp only [Act.put, List.setIfInBounds_toArray, List.set_cons_zero, List.set_cons_succ]
        apply wpT_eq
        · intro W hW hs
          obtain ⟨_, hN, hs⟩ := FT.out W hW
          unfold opT
          go_simp
          refine resT_call ((has_any W N sv sizes (b1, b2) hN hs hl).mono ?_)
          rintro e W2 ⟨rfl, g2⟩
          exact ⟨_, rfl, g2, by rw [← HR1.out]⟩
        simp only [Act.put, List.setIfInBounds_toArray, List.set_cons_zero, List.set_cons_succ]
        apply wpT_eq
        · intro W hW _
          unfold opT
          go_simp
          first | exact resT_eq_mk _ _ _ | exact ⟨Gr.refl _, rfl⟩
        simp only [Act.put, List.setIfInBounds_toArray, List.set_cons_zero, List.set_cons_succ]
        apply wpT_eq
        · intro W hW _
          unfold opT
          go_simp
          first | exact resT_eq_mk _ _ _ | exact ⟨Gr.refl _, rfl⟩
        simp only [Act.put, List.setIfInBounds_toArray, List.set_cons_zero, List.set_cons_succ]
        apply wpT_eq
        · intro W hW _
          obtain ⟨⟨x0, x1, y0, y1⟩, _, _⟩ := FT.out W hW
          unfold opT
          go_simp
          first | exact resT_eq_mk _ _ _ | exact ⟨Gr.refl _, rfl⟩
        simp only [Act.put, List.setIfInBounds_toArray, List.set_cons_zero, List.set_cons_succ]
        apply wpT_eq
        · intro W hW hs
          obtain ⟨_, hN, hs⟩ := FT.out W hW
          unfold opT
          go_simp
          refine resT_call ((has_any W N sv sizes (a1, a2) hN hs hl).mono ?_)
          rintro e W2 ⟨rfl, g2⟩
          exact ⟨_, rfl, g2, by rw [← HR2.out]⟩
        simp only [Act.put, List.setIfInBounds_toArray, List.set_cons_zero, List.set_cons_succ]
        apply wpT_eq
        · intro W hW _
          unfold opT
          go_simp
          first | exact resT_eq_mk _ _ _ | exact ⟨Gr.refl _, rfl⟩
        simp only [Act.put, List.setIfInBounds_toArray, List.set_cons_zero, List.set_cons_succ]
        apply wpT_eq
        · intro W hW _
          unfold opT
          go_simp
          first | exact resT_eq_mk _ _ _ | exact ⟨Gr.refl _, rfl⟩
        simp only [Act.put, List.setIfInBounds_toArray, List.set_cons_zero, List.set_cons_succ]
        apply wpT_eq
        · intro W hW _
          obtain ⟨⟨x0, x1, y0, y1⟩, _, _⟩ := FT.out W hW
          unfold opT
          go_simp
          first | exact resT_eq_mk _ _ _ | exact ⟨Gr.refl _, rfl⟩
        simp only [Act.put, List.setIfInBounds_toArray, List.set_cons_zero, List.set_cons_succ]
        apply wpT_eq
        · intro W hW _
          obtain ⟨⟨x0, x1, y0, y1⟩, _, _⟩ := FT.out W hW
          unfold opT
          go_simp
          first | exact resT_eq_mk _ _ _ | exact ⟨Gr.refl _, rfl⟩
        simp only [Act.put, List.setIfInBounds_toArray, List.set_cons_zero, List.set_cons_succ]
        apply wpT_eq
        · intro W hW _
          unfold opT
          go_simp
          first | rw [HNE.out W] | rw [HNF.out W rfl]
          first | exact resT_eq_mk _ _ _ | exact ⟨Gr.refl _, rfl⟩
        simp only [Act.put, List.setIfInBounds_toArray, List.set_cons_zero, List.set_cons_succ]
        apply wpT_eq
        · intro W hW _
          unfold opT
          go_simp
          first | exact resT_eq_mk _ _ _ | exact ⟨Gr.refl _, rfl⟩
        simp only [Act.put, List.setIfInBounds_toArray, List.set_cons_zero, List.set_cons_succ]
        apply wpT_useEq
        · intro W hW hS hs
          exact opT_run_store 70 _ _ rfl rfl rfl rfl (hS.1 rfl) (by kernel_rfl) rfl (by simp; exact ⟨rfl, rfl, rfl, rfl⟩) (fun f1 f2 => ⟨⟨f2, ⟨(fun e => by cases e), fun _ => f1⟩⟩, rfl⟩)
        simp only [Act.put]
        apply wpT_eq
        · intro W hW _
          unfold opT
          go_simp
          first | exact resT_eq_mk _ _ _ | exact ⟨Gr.refl _, rfl⟩
        simp only [Act.put, List.setIfInBounds_toArray, List.set_cons_zero, List.set_cons_succ]
        apply wpT_nil
        intro W9 hW9 hS9 hsAll
        have c9 := hS9.2 rfl
        have G9 : Gr w W9 := Below.trans G0.out.drew (hW9.below (B := w.heap.size) G0.out.size (fun k hk => by have h9 : k = (w.heap.size + 1 + 1) := hk; omega))
        have k0 := c9.cell 0
        have k1 := c9.cell 1
        have k2 := c9.cell 2
        have k3 := c9.cell 3
        clear FT hsAll hS9 hW9 c9
        (try go_wp2)
        (try simp only [Exit.inBlock, Exit.then])
        refine bodyPost_ret (v := .tuple #[.agg #[.int .i64 b1, .int .i64 b2, .int .i64 a1, .int .i64 a2], .bool ne]) ?_ rfl ⟨(by rw [HK.out]; try simp), G9⟩
        simp only [List.getElem?_toArray, List.getElem?_cons_zero, List.getElem?_cons_succ] at k0 k1 k2 k3
        simp [results, Try.f33, go_sem, k0, k1, k2, k3]
  · by_cases h2 : b1 = a1
    · subst h2
      by_cases h3 : b2 < a2
      · have hpe : p = ((b1, b2), (b1, a2)) := by rw [HP.out]; unfold keyV lessV; simp; omega
        have hlk : linkV sizes (b1, a2) (b1, b2) = (hasV sizes (b1, b2) && hasV sizes (b1, a2) && decide (((b1, b2) : AdD) ≠ (b1, a2))) := by first | rfl | exact linkV_comm _ _ _
        rw [hpe, hlk]
        have HK : Hid (keyA ((b1, b2), (b1, a2)) = .agg #[.int .i64 b1, .int .i64 b2, .int .i64 b1, .int .i64 a2]) := Lib.hid rfl
        clear HP hpe hlk
        obtain ⟨r1, hr1⟩ : ∃ r, r = hasV sizes (b1, b2) := ⟨_, rfl⟩
        obtain ⟨r2, hr2⟩ : ∃ r, r = hasV sizes (b1, a2) := ⟨_, rfl⟩
        rw [← hr1, ← hr2]
        have HR1 := Lib.hid hr1
        have HR2 := Lib.hid hr2
        clear hr1 hr2
        obtain ⟨ne, hne⟩ : ∃ r, r = decide (((b1, b2) : AdD) ≠ (b1, a2)) := ⟨_, rfl⟩
        rw [← hne]
        have HNE : Hid (∀ W : World, (if b1 = b1 then if b2 = a2 then Result.ok (Next.value (Value.bool false)) W else Result.ok (Next.value (Value.bool true)) W else Result.ok (Next.value (Value.bool true)) W) = Result.ok (Next.value (.bool ne)) W) := Lib.hid fun W => by
          rw [hne]
          by_cases e1 : b1 = b1 <;> by_cases e2 : b2 = a2 <;> simp_all
        have HNF : Hid (∀ W : World, b1 = b1 → (if b2 = a2 then Result.ok (Next.value (Value.bool false)) W else Result.ok (Next.value (Value.bool true)) W) = Result.ok (Next.value (.bool ne)) W) := Lib.hid fun W e1 => by
          rw [hne]
          by_cases e2 : b2 = a2 <;> simp_all
        clear hne
        unfold adV
        go_enter Try.func33, Try.ntmps33
        go_upto_region 3 with fail
        obtain ⟨w0, hw0⟩ : ∃ w0, w0 = ((w.alloc (.cells #[.int .i64 b1, .int .i64 b2] 33)).alloc (.cells #[.int .i64 b1, .int .i64 a2] 33)).alloc (.cells #[.int .i64 0, .int .i64 0, .int .i64 0, .int .i64 0] 70) := ⟨_, rfl⟩
        have g0 : Gr w w0 := by rw [hw0]; exact (((Gr.refl w).alloc _).alloc _).alloc _
        have cA : CellsAt w0 w.heap.size #[.int .i64 b1, .int .i64 b2] 33 := by rw [hw0]; exact (CellsAt.new _ _ _).gr (((Gr.refl _).alloc _).alloc _)
        have cB : CellsAt w0 (w.heap.size + 1) #[.int .i64 b1, .int .i64 a2] 33 := by rw [hw0]; exact (CellsAt.newAt (w.alloc (.cells #[.int .i64 b1, .int .i64 b2] 33)) _ _ (by simp)).gr ((Gr.refl _).alloc _)
        have cR : CellsAt w0 (w.heap.size + 1 + 1) #[.int .i64 0, .int .i64 0, .int .i64 0, .int .i64 0] 70 := by rw [hw0]; exact CellsAt.newAt ((w.alloc (.cells #[.int .i64 b1, .int .i64 b2] 33)).alloc (.cells #[.int .i64 b1, .int .i64 a2] 33)) _ _ (by simp)
        rw [← hw0]
        clear hw0
        have FT : Hid (∀ W, Ch (fun j => j = (w.heap.size + 1 + 1)) w0.drew W → (W.cell? ⟨w.heap.size, 0, Option.none⟩ = some (.int .i64 b1) ∧ W.cell? ⟨w.heap.size, 1, Option.none⟩ = some (.int .i64 b2) ∧ W.cell? ⟨w.heap.size + 1, 0, Option.none⟩ = some (.int .i64 b1) ∧ W.cell? ⟨w.heap.size + 1, 1, Option.none⟩ = some (.int .i64 a2)) ∧ W.cell? ⟨N, 0, Option.none⟩ = some sv ∧ Sl W sv (ints sizes)) := Lib.hid fun W hW => by
          have q1 : CellsAt W w.heap.size _ 33 := (hW.block _ cA.lt (by omega)).trans cA
          have q2 : CellsAt W (w.heap.size + 1) _ 33 := (hW.block _ cB.lt (by omega)).trans cB
          have q3 : Below w.heap.size w W := Below.trans g0.drew ((hW.below (B := w.heap.size) g0.size (fun k hk => by have h9 : k = (w.heap.size + 1 + 1) := hk; omega)))
          exact ⟨⟨q1.cell 0, q1.cell 1, q2.cell 0, q2.cell 1⟩, ((Gr.cell' q3 HN.out.1)).trans HN.out.1, HN.out.2.below q3⟩
        have G0 := Lib.hid g0
        have CR := Lib.hid cR
        clear g0 cA cB cR
        cases r1 with
        | false =>
          apply wp_region_draw_turn (fun j => j = (w.heap.size + 1 + 1)) (fun k W => (k = 0 → CellsAt W (w.heap.size + 1 + 1) #[.int .i64 0, .int .i64 0, .int .i64 0, .int .i64 0] 70) ∧ (k = 1 → CellsAt W (w.heap.size + 1 + 1) #[.int .i64 b1, .int .i64 b2, .int .i64 b1, .int .i64 a2] 70)) (.eq _ :: .eq _ :: .eq _ :: .eq _ :: .eq _ :: .eq _ :: .eq _ :: .eq _ :: .eq _ :: .eq _ :: .eq _ :: .eq _ :: .eq _ :: .eq _ :: .eq _ :: .eq _ :: .useEq undef :: .eq _ :: []) (by kernel_rfl) (by kernel_rfl) (by kernel_rfl) trivial (fun k W W' g h => ⟨fun e => (h.1 e).gr g, fun e => (h.2 e).gr g⟩) (⟨fun _ => CR.out, fun e => by cases e⟩)
          apply wpT_eq
          · intro W hW _
            obtain ⟨⟨x0, x1, y0, y1⟩, _, _⟩ := FT.out W hW
            unfold opT
            go_simp
            first | exact resT_eq_mk _ _ _ | exact ⟨Gr.refl _, rfl⟩
          simp only [Act.put, List.setIfInBounds_toArray, List.set_cons_zero, List.set_cons_succ]
          apply wpT_eq
          · intro W hW _
            obtain ⟨⟨x0, x1, y0, y1⟩, _, _⟩ := FT.out W hW
            unfold opT
            go_simp
            first | exact resT_eq_mk _ _ _ | exact ⟨Gr.refl _, rfl⟩
          simp only [Act.put, List.setIfInBounds_toArray, List.set_cons_zero, List.set_cons_succ]
          apply wpT_eq
          · intro W hW _
            unfold opT
            go_simp
            first | exact resT_eq_mk _ _ _ | exact ⟨Gr.refl _, rfl⟩
          simp only [Act.put, List.setIfInBounds_toArray, List.set_cons_zero, List.set_cons_succ]
          apply wpT_eq
          · intro W hW _
            unfold opT
            go_simp
            first | exact resT_eq_mk _ _ _ | exact ⟨Gr.refl _, rfl⟩
          simp only [Act.put, List.setIfInBounds_toArray, List.set_cons_zero, List.set_cons_succ]
          apply wpT_eq
          · intro W hW _
            obtain ⟨⟨x0, x1, y0, y1⟩, _, _⟩ := FT.out W hW
            unfold opT
            go_simp
            first | exact resT_eq_mk _ _ _ | exact ⟨Gr.refl _, rfl⟩
          simp only [Act.put, List.setIfInBounds_toArray, List.set_cons_zero, List.set_cons_succ]
          apply wpT_eq
          · intro W hW hs
            obtain ⟨_, hN, hs⟩ := FT.out W hW
            unfold opT
            go_simp
            refine resT_call ((has_any W N sv sizes (b1, b2) hN hs hl).mono ?_)
            rintro e W2 ⟨rfl, g2⟩
            exact ⟨_, rfl, g2, by rw [← HR1.out]⟩
          simp only [Act.put, List.setIfInBounds_toArray, List.set_cons_zero, List.set_cons_succ]
          apply wpT_eq
          · intro W hW _
            unfold opT
            go_simp
            first | exact resT_eq_mk _ _ _ | exact ⟨Gr.refl _, rfl⟩
          simp only [Act.put, List.setIfInBounds_toArray, List.set_cons_zero, List.set_cons_succ]
          apply wpT_eq
          · intro W hW _
            unfold opT
            go_simp
            first | exact resT_eq_mk _ _ _ | exact ⟨Gr.refl _, rfl⟩
          simp only [Act.put, List.setIfInBounds_toArray, List.set_cons_zero, List.set_cons_succ]
          apply wpT_eq
          · intro W hW _
            obtain ⟨⟨x0, x1, y0, y1⟩, _, _⟩ := FT.out W hW
            unfold opT
            go_simp
            first | exact resT_eq_mk _ _ _ | exact ⟨Gr.refl _, rfl⟩
          simp only [Act.put, List.setIfInBounds_toArray, List.set_cons_zero, List.set_cons_succ]
          apply wpT_eq
          · intro W hW _
            unfold opT
            go_simp
            first | exact resT_eq_mk _ _ _ | exact ⟨Gr.refl _, rfl⟩
          simp only [Act.put, List.setIfInBounds_toArray, List.set_cons_zero, List.set_cons_succ]
          apply wpT_eq
          · intro W hW _
            unfold opT
            go_simp
            first | exact resT_eq_mk _ _ _ | exact ⟨Gr.refl _, rfl⟩
          simp only [Act.put, List.setIfInBounds_toArray, List.set_cons_zero, List.set_cons_succ]
          apply wpT_eq
          · intro W hW _
            unfold opT
            go_simp
            first | exact resT_eq_mk _ _ _ | exact ⟨Gr.refl _, rfl⟩
          simp only [Act.put, List.setIfInBounds_toArray, List.set_cons_zero, List.set_cons_succ]
          apply wpT_eq
          · intro W hW _
            obtain ⟨⟨x0, x1, y0, y1⟩, _, _⟩ := FT.out W hW
            unfold opT
            go_simp
            first | exact resT_eq_mk _ _ _ | exact ⟨Gr.refl _, rfl⟩
          simp only [Act.put, List.setIfInBounds_toArray, List.set_cons_zero, List.set_cons_succ]
          apply wpT_eq
          · intro W hW _
            obtain ⟨⟨x0, x1, y0, y1⟩, _, _⟩ := FT.out W hW
            unfold opT
            go_simp
            first | exact resT_eq_mk _ _ _ | exact ⟨Gr.refl _, rfl⟩
          simp only [Act.put, List.setIfInBounds_toArray, List.set_cons_zero, List.set_cons_succ]
          apply wpT_eq
          · intro W hW _
            unfold opT
            go_simp
            first | exact resT_eq_mk _ _ _ | exact ⟨Gr.refl _, rfl⟩
          simp only [Act.put, List.setIfInBounds_toArray, List.set_cons_zero, List.set_cons_succ]
          apply wpT_eq
          · intro W hW _
            unfold opT
            go_simp
            first | exact resT_eq_mk _ _ _ | exact ⟨Gr.refl _, rfl⟩
          simp only [Act.put, List.setIfInBounds_toArray, List.set_cons_zero, List.set_cons_succ]
          apply wpT_useEq
          · intro W hW hS hs
            exact opT_run_store 70 _ _ rfl rfl rfl rfl (hS.1 rfl) (by kernel_rfl) rfl (by simp; exact ⟨rfl, rfl, rfl, rfl⟩) (fun f1 f2 => ⟨⟨f2, ⟨(fun e => by cases e), fun _ => f1⟩⟩, rfl⟩)
          simp only [Act.put]
          apply wpT_eq
          · intro W hW _
            unfold opT
            go_simp
            first | exact resT_eq_mk _ _ _ | exact ⟨Gr.refl _, rfl⟩
          simp only [Act.put, List.setIfInBounds_toArray, List.set_cons_zero, List.set_cons_succ]
          apply wpT_nil
          intro W9 hW9 hS9 hsAll
          have c9 := hS9.2 rfl
          have G9 : Gr w W9 := Below.trans G0.out.drew (hW9.below (B := w.heap.size) G0.out.size (fun k hk => by have h9 : k = (w.heap.size + 1 + 1) := hk; omega))
          have k0 := c9.cell 0
          have k1 := c9.cell 1
          have k2 := c9.cell 2
          have k3 := c9.cell 3
          clear FT hsAll hS9 hW9 c9
          (try go_wp2)
          (try simp only [Exit.inBlock, Exit.then])
          refine bodyPost_ret (v := .tuple #[.agg #[.int .i64 b1, .int .i64 b2, .int .i64 b1, .int .i64 a2], .bool false]) ?_ rfl ⟨(by rw [HK.out]; try simp), G9⟩
          simp only [List.getElem?_toArray, List.getElem?_cons_zero, List.getElem?_cons_succ] at k0 k1 k2 k3
          simp [results, Try.f33, go_sem, k0, k1, k2, k3]
        | true =>
          cases r2 with
          | false =>
            apply wp_region_draw_turn (fun j => j = (w.heap.size + 1 + 1)) (fun k W => (k = 0 → CellsAt W (w.heap.size + 1 + 1) #[.int .i64 0, .int .i64 0, .int .i64 0, .int .i64 0] 70) ∧ (k = 1 → CellsAt W (w.heap.size + 1 + 1) #[.int .i64 b1, .int .i64 b2, .int .i64 b1, .int .i64 a2] 70)) (.eq _ :: .eq _ :: .eq _ :: .eq _ :: .eq _ :: .eq _ :: .eq _ :: .eq _ :: .eq _ :: .eq _ :: .eq _ :: .eq _ :: .eq _ :: .eq _ :: .eq _ :: .eq _ :: .useEq undef :: .eq _ :: []) (by kernel_rfl) (by kernel_rfl) (by kernel_rfl) trivial (fun k W W' g h => ⟨fun e => (h.1 e).gr g, fun e => (h.2 e).gr g⟩) (⟨fun _ => CR.out, fun e => by cases e⟩)
            apply wpT_eq
            · intro W hW _
              obtain ⟨⟨x0, x1, y0, y1⟩, _, _⟩ := FT.out W hW
              unfold opT
              go_simp
              first | exact resT_eq_mk _ _ _ | exact ⟨Gr.refl _, rfl⟩
            simp only [Act.put, List.setIfInBounds_toArray, List.set_cons_zero, List.set_cons_succ]
            apply wpT_eq
            · intro W hW _
              obtain ⟨⟨x0, x1, y0, y1⟩, _, _⟩ := FT.out W hW
              unfold opT
              go_simp
              first | exact resT_eq_mk _ _ _ | exact ⟨Gr.refl _, rfl⟩
            simp only [Act.put, List.setIfInBounds_toArray, List.set_cons_zero, List.set_cons_succ]
            apply wpT_eq
            · intro W hW _
              unfold opT
              go_simp
              first | exact resT_eq_mk _ _ _ | exact ⟨Gr.refl _, rfl⟩
            simp only [Act.put, List.setIfInBounds_toArray, List.set_cons_zero, List.set_cons_succ]
            apply wpT_eq
            · intro W hW _
              unfold opT
              go_simp
              first | exact resT_eq_mk _ _ _ | exact ⟨Gr.refl _, rfl⟩
            simp only [Act.put, List.setIfInBounds_toArray, List.set_cons_zero, List.set_cons_succ]
            apply wpT_eq
            · intro W hW _
              obtain ⟨⟨x0, x1, y0, y1⟩, _, _⟩ := FT.out W hW
              unfold opT
              go_simp
              first | exact resT_eq_mk _ _ _ | exact ⟨Gr.refl _, rfl⟩
            simp only [Act.put, List.setIfInBounds_toArray, List.set_cons_zero, List.set_cons_succ]
            apply wpT_eq
            · intro W hW hs
              obtain ⟨_, hN, hs⟩ := FT.out W hW
              unfold opT
              go_simp
              refine resT_call ((has_any W N sv sizes (b1, b2) hN hs hl).mono ?_)
              rintro e W2 ⟨rfl, g2⟩
              exact ⟨_, rfl, g2, by rw [← HR1.out]⟩
            simp only [Act.put, List.setIfInBounds_toArray, List.set_cons_zero, List.set_cons_succ]
            apply wpT_eq
            · intro W hW _
              unfold opT
              go_simp
              first | exact resT_eq_mk _ _ _ | exact ⟨Gr.refl _, rfl⟩
            simp only [Act.put, List.setIfInBounds_toArray, List.set_cons_zero, List.set_cons_succ]
            apply wpT_eq
            · intro W hW _
              unfold opT
              go_simp
              first | exact resT_eq_mk _ _ _ | exact ⟨Gr.refl _, rfl⟩
            simp only [Act.put, List.setIfInBounds_toArray, List.set_cons_zero, List.set_cons_succ]
            apply wpT_eq
            · intro W hW _
              obtain ⟨⟨x0, x1, y0, y1⟩, _, _⟩ := FT.out W hW
              unfold opT
              go_simp
              first | exact resT_eq_mk _ _ _ | exact ⟨Gr.refl _, rfl⟩
            simp only [Act.put, List.setIfInBounds_toArray, List.set_cons_zero, List.set_cons_succ]
            apply wpT_eq
            · intro W hW hs
              obtain ⟨_, hN, hs⟩ := FT.out W hW
              unfold opT
              go_simp
              refine resT_call ((has_any W N sv sizes (b1, a2) hN hs hl).mono ?_)
              rintro e W2 ⟨rfl, g2⟩
              exact ⟨_, rfl, g2, by rw [← HR2.out]⟩
            simp only [Act.put, List.setIfInBounds_toArray, List.set_cons_zero, List.set_cons_succ]
            apply wpT_eq
            · intro W hW _
              unfold opT
              go_simp
              first | exact resT_eq_mk _ _ _ | exact ⟨Gr.refl _, rfl⟩
            simp only [Act.put, List.setIfInBounds_toArray, List.set_cons_zero, List.set_cons_succ]
            apply wpT_eq
            · intro W hW _
              unfold opT
              go_simp
              first | exact resT_eq_mk _ _ _ | exact ⟨Gr.refl _, rfl⟩
            simp only [Act.put, List.setIfInBounds_toArray, List.set_cons_zero, List.set_cons_succ]
            apply wpT_eq
            · intro W hW _
              obtain ⟨⟨x0, x1, y0, y1⟩, _, _⟩ := FT.out W hW
              unfold opT
              go_simp
              first | exact resT_eq_mk _ _ _ | exact ⟨Gr.refl _, rfl⟩
            simp only [Act.put, List.setIfInBounds_toArray, List.set_cons_zero, List.set_cons_succ]
            apply wpT_eq
            · intro W hW _
              obtain ⟨⟨x0, x1, y0, y1⟩, _, _⟩ := FT.out W hW
              unfold opT
              go_simp
              first | exact resT_eq_mk _ _ _ | exact ⟨Gr.refl _, rfl⟩
            simp only [Act.put, List.setIfInBounds_toArray, List.set_cons_zero, List.set_cons_succ]
            apply wpT_eq
            · intro W hW _
              unfold opT
              go_simp
              first | exact resT_eq_mk _ _ _ | exact ⟨Gr.refl _, rfl⟩
            simp only [Act.put, List.setIfInBounds_toArray, List.set_cons_zero, List.set_cons_succ]
            apply wpT_eq
            · intro W hW _
              unfold opT
              go_simp
              first | exact resT_eq_mk _ _ _ | exact ⟨Gr.refl _, rfl⟩
            simp only [Act.put, List.setIfInBounds_toArray, List.set_cons_zero, List.set_cons_succ]
            apply wpT_useEq
            · intro W hW hS hs
              exact opT_run_store 70 _ _ rfl rfl rfl rfl (hS.1 rfl) (by kernel_rfl) rfl (by simp; exact ⟨rfl, rfl, rfl, rfl⟩) (fun f1 f2 => ⟨⟨f2, ⟨(fun e => by cases e), fun _ => f1⟩⟩, rfl⟩)
            simp only [Act.put]
            apply wpT_eq
            · intro W hW _
              unfold opT
              go_simp
              first | exact resT_eq_mk _ _ _ | exact ⟨Gr.refl _, rfl⟩
            simp only [Act.put, List.setIfInBounds_toArray, List.set_cons_zero, List.set_cons_succ]
            apply wpT_nil
            intro W9 hW9 hS9 hsAll
            have c9 := hS9.2 rfl
            have G9 : Gr w W9 := Below.trans G0.out.drew (hW9.below (B := w.heap.size) G0.out.size (fun k hk => by have h9 : k = (w.heap.size + 1 + 1) := hk; omega))
            have k0 := c9.cell 0
            have k1 := c9.cell 1
            have k2 := c9.cell 2
            have k3 := c9.cell 3
            clear FT hsAll hS9 hW9 c9
            (try go_wp2)
            (try simp only [Exit.inBlock, Exit.then])
            refine bodyPost_ret (v := .tuple #[.agg #[.int .i64 b1, .int .i64 b2, .int .i64 b1, .int .i64 a2], .bool false]) ?_ rfl ⟨(by rw [HK.out]; try simp), G9⟩
            simp only [List.getElem?_toArray, List.getElem?_cons_zero, List.getElem?_cons_succ] at k0 k1 k2 k3
            simp [results, Try.f33, go_sem, k0, k1, k2, k3]
          | true =>
            apply wp_region_draw_turn (fun j => j = (w.heap.size + 1 + 1)) (fun k W => (k = 0 → CellsAt W (w.heap.size + 1 + 1) #[.int .i64 0, .int .i64 0, .int .i64 0, .int .i64 0] 70) ∧ (k = 1 → CellsAt W (w.heap.size + 1 + 1) #[.int .i64 b1, .int .i64 b2, .int .i64 b1, .int .i64 a2] 70)) (.eq _ :: .eq _ :: .eq _ :: .eq _ :: .eq _ :: .eq _ :: .eq _ :: .eq _ :: .eq _ :: .eq _ :: .eq _ :: .eq _ :: .eq _ :: .eq _ :: .eq _ :: .eq _ :: .useEq undef :: .eq _ :: []) (by kernel_rfl) (by kernel_rfl) (by kernel_rfl) trivial (fun k W W' g h => ⟨fun e => (h.1 e).gr g, fun e => (h.2 e).gr g⟩) (⟨fun _ => CR.out, fun e => by cases e⟩)
            apply wpT_eq
            · intro W hW _
              obtain ⟨⟨x0, x1, y0, y1⟩, _, _⟩ := FT.out W hW
              unfold opT
              go_simp
              first | exact resT_eq_mk _ _ _ | exact ⟨Gr.refl _, rfl⟩
            simp only [Act.put, List.setIfInBounds_toArray, List.set_cons_zero, List.set_cons_succ]
            apply wpT_eq
            · intro W hW _
              obtain ⟨⟨x0, x1, y0, y1⟩, _, _⟩ := FT.out W hW
              unfold opT
              go_simp
              first | exact resT_eq_mk _ _ _ | exact ⟨Gr.refl _, rfl⟩
            simp only [Act.put, List.setIfInBounds_toArray, List.set_cons_zero, List.set_cons_succ]
            apply wpT_eq
            · intro W hW _
              unfold opT
              go_simp
              first | exact resT_eq_mk _ _ _ | exact ⟨Gr.refl _, rfl⟩
            simp only [Act.put, List.setIfInBounds_toArray, List.set_cons_zero, List.set_cons_succ]
            apply wpT_eq
            · intro W hW _
              unfold opT
              go_simp
              first | exact resT_eq_mk _ _ _ | exact ⟨Gr.refl _, rfl⟩
            simp only [Act.put, List.setIfInBounds_toArray, List.set_cons_zero, List.set_cons_succ]
            apply wpT_eq
            · intro W hW _
              obtain ⟨⟨x0, x1, y0, y1⟩, _, _⟩ := FT.out W hW
              unfold opT
              go_simp
              first | exact resT_eq_mk _ _ _ | exact ⟨Gr.refl _, rfl⟩
            simp only [Act.put, List.setIfInBounds_toArray, List.set_cons_zero, List.set_cons_succ]
            apply wpT_eq
            · intro W hW hs
              obtain ⟨_, hN, hs⟩ := FT.out W hW
              unfold opT
              go_simp
              refine resT_call ((has_any W N sv sizes (b1, b2) hN hs hl).mono ?_)
              rintro e W2 ⟨rfl, g2⟩
              exact ⟨_, rfl, g2, by rw [← HR1.out]⟩
            simp only [Act.put, List.setIfInBounds_toArray, List.set_cons_zero, List.set_cons_succ]
            apply wpT_eq
            · intro W hW _
              unfold opT
              go_simp
              first | exact resT_eq_mk _ _ _ | exact ⟨Gr.refl _, rfl⟩
            simp only [Act.put, List.setIfInBounds_toArray, List.set_cons_zero, List.set_cons_succ]
            apply wpT_eq
            · intro W hW _
              unfold opT
              go_simp
              first | exact resT_eq_mk _ _ _ | exact ⟨Gr.refl _, rfl⟩
            simp only [Act.put, List.setIfInBounds_toArray, List.set_cons_zero, List.set_cons_succ]
            apply wpT_eq
            · intro W hW _
              obtain ⟨⟨x0, x1, y0, y1⟩, _, _⟩ := FT.out W hW
              unfold opT
              go_simp
              first | exact resT_eq_mk _ _ _ | exact ⟨Gr.refl _, rfl⟩
            simp only [Act.put, List.setIfInBounds_toArray, List.set_cons_zero, List.set_cons_succ]
            apply wpT_eq
            · intro W hW hs
              obtain ⟨_, hN, hs⟩ := FT.out W hW
              unfold opT
              go_simp
              refine resT_call ((has_any W N sv sizes (b1, a2) hN hs hl).mono ?_)
              rintro e W2 ⟨rfl, g2⟩
              exact ⟨_, rfl, g2, by rw [← HR2.out]⟩
            simp only [Act.put, List.setIfInBounds_toArray, List.set_cons_zero, List.set_cons_succ]
            apply wpT_eq
            · intro W hW _
              unfold opT
              go_simp
              first | exact resT_eq_mk _ _ _ | exact ⟨Gr.refl _, rfl⟩
            simp only [Act.put, List.setIfInBounds_toArray, List.set_cons_zero, List.set_cons_succ]
            apply wpT_eq
            · intro W hW _
              unfold opT
              go_simp
              first | exact resT_eq_mk _ _ _ | exact ⟨Gr.refl _, rfl⟩
            simp only [Act.put, List.setIfInBounds_toArray, List.set_cons_zero, List.set_cons_succ]
            apply wpT_eq
            · intro W hW _
              obtain ⟨⟨x0, x1, y0, y1⟩, _, _⟩ := FT.out W hW
              unfold opT
              go_simp
              first | exact resT_eq_mk _ _ _ | exact ⟨Gr.refl _, rfl⟩
            simp only [Act.put, List.setIfInBounds_toArray, List.set_cons_zero, List.set_cons_succ]
            apply wpT_eq
            · intro W hW _
              obtain ⟨⟨x0, x1, y0, y1⟩, _, _⟩ := FT.out W hW
              unfold opT
              go_simp
              first | exact resT_eq_mk _ _ _ | exact ⟨Gr.refl _, rfl⟩
            simp only [Act.put, List.setIfInBounds_toArray, List.set_cons_zero, List.set_cons_succ]
            apply wpT_eq
            · intro W hW _
              unfold opT
              go_simp
              first | rw [HNE.out W] | rw [HNF.out W rfl]
              first | exact resT_eq_mk _ _ _ | exact ⟨Gr.refl _, rfl⟩
            simp only [Act.put, List.setIfInBounds_toArray, List.set_cons_zero, List.set_cons_succ]
            apply wpT_eq
            · intro W hW _
              unfold opT
              go_simp
              first | exact resT_eq_mk _ _ _ | exact ⟨Gr.refl _, rfl⟩
            simp only [Act.put, List.setIfInBounds_toArray, List.set_cons_zero, List.set_cons_succ]
            apply wpT_useEq
            · intro W hW hS hs
              exact opT_run_store 70 _ _ rfl rfl rfl rfl (hS.1 rfl) (by kernel_rfl) rfl (by simp; exact ⟨rfl, rfl, rfl, rfl⟩) (fun f1 f2 => ⟨⟨f2, ⟨(fun e => by cases e), fun _ => f1⟩⟩, rfl⟩)
            simp only [Act.put]
            apply wpT_eq
            · intro W hW _
              unfold opT
              go_simp
              first | exact resT_eq_mk _ _ _ | exact ⟨Gr.refl _, rfl⟩
            simp only [Act.put, List.setIfInBounds_toArray, List.set_cons_zero, List.set_cons_succ]
            apply wpT_nil
            intro W9 hW9 hS9 hsAll
            have c9 := hS9.2 rfl
            have G9 : Gr w W9 := Below.trans G0.out.drew (hW9.below (B := w.heap.size) G0.out.size (fun k hk => by have h9 : k = (w.heap.size + 1 + 1) := hk; omega))
            have k0 := c9.cell 0
            have k1 := c9.cell 1
            have k2 := c9.cell 2
            have k3 := c9.cell 3
            clear FT hsAll hS9 hW9 c9
            (try go_wp2)
            (try simp only [Exit.inBlock, Exit.then])
            refine bodyPost_ret (v := .tuple #[.agg #[.int .i64 b1, .int .i64 b2, .int .i64 b1, .int .i64 a2], .bool ne]) ?_ rfl ⟨(by rw [HK.out]; try simp), G9⟩
            simp only [List.getElem?_toArray, List.getElem?_cons_zero, List.getElem?_cons_succ] at k0 k1 k2 k3
            simp [results, Try.f33, go_sem, k0, k1, k2, k3]
      · have hpe : p = ((b1, a2), (b1, b2)) := by rw [HP.out]; unfold keyV lessV; simp; omega
        have hlk : linkV sizes (b1, a2) (b1, b2) = (hasV sizes (b1, a2) && hasV sizes (b1, b2) && decide (((b1, a2) : AdD) ≠ (b1, b2))) := by first | rfl | exact linkV_comm _ _ _
        rw [hpe, hlk]
        have HK : Hid (keyA ((b1, a2), (b1, b2)) = .agg #[.int .i64 b1, .int .i64 a2, .int .i64 b1, .int .i64 b2]) := Lib.hid rfl
        clear HP hpe hlk
        obtain ⟨r1, hr1⟩ : ∃ r, r = hasV sizes (b1, a2) := ⟨_, rfl⟩
        obtain ⟨r2, hr2⟩ : ∃ r, r = hasV sizes (b1, b2) := ⟨_, rfl⟩
        rw [← hr1, ← hr2]
        have HR1 := Lib.hid hr1
        have HR2 := Lib.hid hr2
        clear hr1 hr2
        obtain ⟨ne, hne⟩ : ∃ r, r = decide (((b1, a2) : AdD) ≠ (b1, b2)) := ⟨_, rfl⟩
        rw [← hne]
        have HNE : Hid (∀ W : World, (if b1 = b1 then if a2 = b2 then Result.ok (Next.value (Value.bool false)) W else Result.ok (Next.value (Value.bool true)) W else Result.ok (Next.value (Value.bool true)) W) = Result.ok (Next.value (.bool ne)) W) := Lib.hid fun W => by
          rw [hne]
          by_cases e1 : b1 = b1 <;> by_cases e2 : a2 = b2 <;> simp_all
        have HNF : Hid (∀ W : World, b1 = b1 → (if a2 = b2 then Result.ok (Next.value (Value.bool false)) W else Result.ok (Next.value (Value.bool true)) W) = Result.ok (Next.value (.bool ne)) W) := Lib.hid fun W e1 => by
          rw [hne]
          by_cases e2 : a2 = b2 <;> simp_all
        clear hne
        unfold adV
        go_enter Try.func33, Try.ntmps33
        go_upto_region 3 with fail
        obtain ⟨w0, hw0⟩ : ∃ w0, w0 = ((w.alloc (.cells #[.int .i64 b1, .int .i64 a2] 33)).alloc (.cells #[.int .i64 b1, .int .i64 b2] 33)).alloc (.cells #[.int .i64 0, .int .i64 0, .int .i64 0, .int .i64 0] 70) := ⟨_, rfl⟩
        have g0 : Gr w w0 := by rw [hw0]; exact (((Gr.refl w).alloc _).alloc _).alloc _
        have cA : CellsAt w0 w.heap.size #[.int .i64 b1, .int .i64 a2] 33 := by rw [hw0]; exact (CellsAt.new _ _ _).gr (((Gr.refl _).alloc _).alloc _)
        have cB : CellsAt w0 (w.heap.size + 1) #[.int .i64 b1, .int .i64 b2] 33 := by rw [hw0]; exact (CellsAt.newAt (w.alloc (.cells #[.int .i64 b1, .int .i64 a2] 33)) _ _ (by simp)).gr ((Gr.refl _).alloc _)
        have cR : CellsAt w0 (w.heap.size + 1 + 1) #[.int .i64 0, .int .i64 0, .int .i64 0, .int .i64 0] 70 := by rw [hw0]; exact CellsAt.newAt ((w.alloc (.cells #[.int .i64 b1, .int .i64 a2] 33)).alloc (.cells #[.int .i64 b1, .int .i64 b2] 33)) _ _ (by simp)
        rw [← hw0]
        clear hw0
        have FT : Hid (∀ W, Ch (fun j => j = (w.heap.size + 1 + 1)) w0.drew W → (W.cell? ⟨w.heap.size, 0, Option.none⟩ = some (.int .i64 b1) ∧ W.cell? ⟨w.heap.size, 1, Option.none⟩ = some (.int .i64 a2) ∧ W.cell? ⟨w.heap.size + 1, 0, Option.none⟩ = some (.int .i64 b1) ∧ W.cell? ⟨w.heap.size + 1, 1, Option.none⟩ = some (.int .i64 b2)) ∧ W.cell? ⟨N, 0, Option.none⟩ = some sv ∧ Sl W sv (ints sizes)) := Lib.hid fun W hW => by
          have q1 : CellsAt W w.heap.size _ 33 := (hW.block _ cA.lt (by omega)).trans cA
          have q2 : CellsAt W (w.heap.size + 1) _ 33 := (hW.block _ cB.lt (by omega)).trans cB
          have q3 : Below w.heap.size w W := Below.trans g0.drew ((hW.below (B := w.heap.size) g0.size (fun k hk => by have h9 : k = (w.heap.size + 1 + 1) := hk; omega)))
          exact ⟨⟨q1.cell 0, q1.cell 1, q2.cell 0, q2.cell 1⟩, ((Gr.cell' q3 HN.out.1)).trans HN.out.1, HN.out.2.below q3⟩
        have G0 := Lib.hid g0
        have CR := Lib.hid cR
        clear g0 cA cB cR
        cases r1 with
        | false =>
          apply wp_region_draw_turn (fun j => j = (w.heap.size + 1 + 1)) (fun k W => (k = 0 → CellsAt W (w.heap.size + 1 + 1) #[.int .i64 0, .int .i64 0, .int .i64 0, .int .i64 0] 70) ∧ (k = 1 → CellsAt W (w.heap.size + 1 + 1) #[.int .i64 b1, .int .i64 a2, .int .i64 b1, .int .i64 b2] 70)) (.eq _ :: .eq _ :: .eq _ :: .eq _ :: .eq _ :: .eq _ :: .eq _ :: .eq _ :: .eq _ :: .eq _ :: .eq _ :: .eq _ :: .eq _ :: .eq _ :: .eq _ :: .eq _ :: .useEq undef :: .eq _ :: []) (by kernel_rfl) (by kernel_rfl) (by kernel_rfl) trivial (fun k W W' g h => ⟨fun e => (h.1 e).gr g, fun e => (h.2 e).gr g⟩) (⟨fun _ => CR.out, fun e => by cases e⟩)
          apply wpT_eq
          · intro W hW _
            obtain ⟨⟨x0, x1, y0, y1⟩, _, _⟩ := FT.out W hW
            unfold opT
            go_simp
            first | exact resT_eq_mk _ _ _ | exact ⟨Gr.refl _, rfl⟩
          simp only [Act.put, List.setIfInBounds_toArray, List.set_cons_zero, List.set_cons_succ]
          apply wpT_eq
          · intro W hW _
            obtain ⟨⟨x0, x1, y0, y1⟩, _, _⟩ := FT.out W hW
            unfold opT
            go_simp
            first | exact resT_eq_mk _ _ _ | exact ⟨Gr.refl _, rfl⟩
          simp only [Act.put, List.setIfInBounds_toArray, List.set_cons_zero, List.set_cons_succ]
          apply wpT_eq
          · intro W hW _
            unfold opT
            go_simp
            first | exact resT_eq_mk _ _ _ | exact ⟨Gr.refl _, rfl⟩
          simp only [Act.put, List.setIfInBounds_toArray, List.set_cons_zero, List.set_cons_succ]
          apply wpT_eq
          · intro W hW _
            unfold opT
            go_simp
            first | exact resT_eq_mk _ _ _ | exact ⟨Gr.refl _, rfl⟩
          simp only [Act.put, List.setIfInBounds_toArray, List.set_cons_zero, List.set_cons_succ]
          apply wpT_eq
          · intro W hW _
            obtain ⟨⟨x0, x1, y0, y1⟩, _, _⟩ := FT.out W hW
            unfold opT
            go_simp
            first | exact resT_eq_mk _ _ _ | exact ⟨Gr.refl _, rfl⟩
          simp only [Act.put, List.setIfInBounds_toArray, List.set_cons_zero, List.set_cons_succ]
          apply wpT_eq
          · intro W hW hs
            obtain ⟨_, hN, hs⟩ := FT.out W hW
            unfold opT
            go_simp
            refine resT_call ((has_any W N sv sizes (b1, a2) hN hs hl).mono ?_)
            rintro e W2 ⟨rfl, g2⟩
            exact ⟨_, rfl, g2, by rw [← HR1.out]⟩
          simp only [Act.put, List.setIfInBounds_toArray, List.set_cons_zero, List.set_cons_succ]
          apply wpT_eq
          · intro W hW _
            unfold opT
            go_simp
            first | exact resT_eq_mk _ _ _ | exact ⟨Gr.refl _, rfl⟩
          simp only [Act.put, List.setIfInBounds_toArray, List.set_cons_zero, List.set_cons_succ]
          apply wpT_eq
          · intro W hW _
            unfold opT
            go_simp
            first | exact resT_eq_mk _ _ _ | exact ⟨Gr.refl _, rfl⟩
          simp only [Act.put, List.setIfInBounds_toArray, List.set_cons_zero, List.set_cons_succ]
          apply wpT_eq
          · intro W hW _
            obtain ⟨⟨x0, x1, y0, y1⟩, _, _⟩ := FT.out W hW
            unfold opT
            go_simp
            first | exact resT_eq_mk _ _ _ | exact ⟨Gr.refl _, rfl⟩
          simp only [Act.put, List.setIfInBounds_toArray, List.set_cons_zero, List.set_cons_succ]
          apply wpT_eq
          · intro W hW _
            unfold opT
            go_simp
            first | exact resT_eq_mk _ _ _ | exact ⟨Gr.refl _, rfl⟩
          simp only [Act.put, List.setIfInBounds_toArray, List.set_cons_zero, List.set_cons_succ]
          apply wpT_eq
          · intro W hW _
            unfold opT
            go_simp
            first | exact resT_eq_mk _ _ _ | exact ⟨Gr.refl _, rfl⟩
          simp only [Act.put, List.setIfInBounds_toArray, List.set_cons_zero, List.set_cons_succ]
          apply wpT_eq
          · intro W hW _
            unfold opT
            go_simp
            first | exact resT_eq_mk _ _ _ | exact ⟨Gr.refl _, rfl⟩
          simp only [Act.put, List.setIfInBounds_toArray, List.set_cons_zero, List.set_cons_succ]
          apply wpT_eq
          · intro W hW _
            obtain ⟨⟨x0, x1, y0, y1⟩, _, _⟩ := FT.out W hW
            unfold opT
            go_simp
            first | exact resT_eq_mk _ _ _ | exact ⟨Gr.refl _, rfl⟩
          simp only [Act.put, List.setIfInBounds_toArray, List.set_cons_zero, List.set_cons_succ]
          apply wpT_eq
          · intro W hW _
            obtain ⟨⟨x0, x1, y0, y1⟩, _, _⟩ := FT.out W hW
            unfold opT
            go_simp
            first | exact resT_eq_mk _ _ _ | exact ⟨Gr.refl _, rfl⟩
          simp only [Act.put, List.setIfInBounds_toArray, List.set_cons_zero, List.set_cons_succ]
          apply wpT_eq
          · intro W hW _
            unfold opT
            go_simp
            first | exact resT_eq_mk _ _ _ | exact ⟨Gr.refl _, rfl⟩
          simp only [Act.put, List.setIfInBounds_toArray, List.set_cons_zero, List.set_cons_succ]
          apply wpT_eq
          · intro W hW _
            unfold opT
            go_simp
            first | exact resT_eq_mk _ _ _ | exact ⟨Gr.refl _, rfl⟩
          simp only [Act.put, List.setIfInBounds_toArray, List.set_cons_zero, List.set_cons_succ]
          apply wpT_useEq
          · intro W hW hS hs
            exact opT_run_store 70 _ _ rfl rfl rfl rfl (hS.1 rfl) (by kernel_rfl) rfl (by simp; exact ⟨rfl, rfl, rfl, rfl⟩) (fun f1 f2 => ⟨⟨f2, ⟨(fun e => by cases e), fun _ => f1⟩⟩, rfl⟩)
          simp only [Act.put]
          apply wpT_eq
          · intro W hW _
            unfold opT
            go_simp
            first | exact resT_eq_mk _ _ _ | exact ⟨Gr.refl _, rfl⟩
          simp only [Act.put, List.setIfInBounds_toArray, List.set_cons_zero, List.set_cons_succ]
          apply wpT_nil
          intro W9 hW9 hS9 hsAll
          have c9 := hS9.2 rfl
          have G9 : Gr w W9 := Below.trans G0.out.drew (hW9.below (B := w.heap.size) G0.out.size (fun k hk => by have h9 : k = (w.heap.size + 1 + 1) := hk; omega))
          have k0 := c9.cell 0
          have k1 := c9.cell 1
          have k2 := c9.cell 2
          have k3 := c9.cell 3
          clear FT hsAll hS9 hW9 c9
          (try go_wp2)
          (try simp only [Exit.inBlock, Exit.then])
          refine bodyPost_ret (v := .tuple #[.agg #[.int .i64 b1, .int .i64 a2, .int .i64 b1, .int .i64 b2], .bool false]) ?_ rfl ⟨(by rw [HK.out]; try simp), G9⟩
          simp only [List.getElem?_toArray, List.getElem?_cons_zero, List.getElem?_cons_succ] at k0 k1 k2 k3
          simp [results, Try.f33, go_sem, k0, k1, k2, k3]
        | true =>
          cases r2 with
          | false =>
            apply wp_region_draw_turn (fun j => j = (w.heap.size + 1 + 1)) (fun k W => (k = 0 → CellsAt W (w.heap.size + 1 + 1) #[.int .i64 0, .int .i64 0, .int .i64 0, .int .i64 0] 70) ∧ (k = 1 → CellsAt W (w.heap.size + 1 + 1) #[.int .i64 b1, .int .i64 a2, .int .i64 b1, .int .i64 b2] 70)) (.eq _ :: .eq _ :: .eq _ :: .eq _ :: .eq _ :: .eq _ :: .eq _ :: .eq _ :: .eq _ :: .eq _ :: .eq _ :: .eq _ :: .eq _ :: .eq _ :: .eq _ :: .eq _ :: .useEq undef :: .eq _ :: []) (by kernel_rfl) (by kernel_rfl) (by kernel_rfl) trivial (fun k W W' g h => ⟨fun e => (h.1 e).gr g, fun e => (h.2 e).gr g⟩) (⟨fun _ => CR.out, fun e => by cases e⟩)
            apply wpT_eq
            · intro W hW _
              obtain ⟨⟨x0, x1, y0, y1⟩, _, _⟩ := FT.out W hW
              unfold opT
              go_simp
              first | exact resT_eq_mk _ _ _ | exact ⟨Gr.refl _, rfl⟩
            simp only [Act.put, List.setIfInBounds_toArray, List.set_cons_zero, List.set_cons_succ]
            apply wpT_eq
            · intro W hW _
              obtain ⟨⟨x0, x1, y0, y1⟩, _, _⟩ := FT.out W hW
              unfold opT
              go_simp
              first | exact resT_eq_mk _ _ _ | exact ⟨Gr.refl _, rfl⟩
            simp only [Act.put, List.setIfInBounds_toArray, List.set_cons_zero, List.set_cons_succ]
            apply wpT_eq
            · intro W hW _
              unfold opT
              go_simp
              first | exact resT_eq_mk _ _ _ | exact ⟨Gr.refl _, rfl⟩
            simp only [Act.put, List.setIfInBounds_toArray, List.set_cons_zero, List.set_cons_succ]
            apply wpT_eq
            · intro W hW _
              unfold opT
              go_simp
              first | exact resT_eq_mk _ _ _ | exact ⟨Gr.refl _, rfl⟩
            simp only [Act.put, List.setIfInBounds_toArray, List.set_cons_zero, List.set_cons_succ]
            apply wpT_eq
            · intro W hW _
              obtain ⟨⟨x0, x1, y0, y1⟩, _, _⟩ := FT.out W hW
              unfold opT
              go_simp
              first | exact resT_eq_mk _ _ _ | exact ⟨Gr.refl _, rfl⟩
            simp only [Act.put, List.setIfInBounds_toArray, List.set_cons_zero, List.set_cons_succ]
            apply wpT_eq
            · intro W hW hs
              obtain ⟨_, hN, hs⟩ := FT.out W hW
              unfold opT
              go_simp
              refine resT_call ((has_any W N sv sizes (b1, a2) hN hs hl).mono ?_)
              rintro e W2 ⟨rfl, g2⟩
              exact ⟨_, rfl, g2, by rw [← HR1.out]⟩
            simp only [Act.put, List.setIfInBounds_toArray, List.set_cons_zero, List.set_cons_succ]
            apply wpT_eq
            · intro W hW _
              unfold opT
              go_simp
              first | exact resT_eq_mk _ _ _ | exact ⟨Gr.refl _, rfl⟩
            simp only [Act.put, List.setIfInBounds_toArray, List.set_cons_zero, List.set_cons_succ]
            apply wpT_eq
            · intro W hW _
              unfold opT
              go_simp
              first | exact resT_eq_mk _ _ _ | exact ⟨Gr.refl _, rfl⟩
            simp only [Act.put, List.setIfInBounds_toArray, List.set_cons_zero, List.set_cons_succ]
            apply wpT_eq
            · intro W hW _
              obtain ⟨⟨x0, x1, y0, y1⟩, _, _⟩ := FT.out W hW
              unfold opT
              go_simp
              first | exact resT_eq_mk _ _ _ | exact ⟨Gr.refl _, rfl⟩
            simp only [Act.put, List.setIfInBounds_toArray, List.set_cons_zero, List.set_cons_succ]
            apply wpT_eq
            · intro W hW hs
              obtain ⟨_, hN, hs⟩ := FT.out W hW
              unfold opT
              go_simp
              refine resT_call ((has_any W N sv sizes (b1, b2) hN hs hl).mono ?_)
              rintro e W2 ⟨rfl, g2⟩
              exact ⟨_, rfl, g2, by rw [← HR2.out]⟩
            simp only [Act.put, List.setIfInBounds_toArray, List.set_cons_zero, List.set_cons_succ]
            apply wpT_eq
            · intro W hW _
              unfold opT
              go_simp
              first | exact resT_eq_mk _ _ _ | exact ⟨Gr.refl _, rfl⟩
            simp only [Act.put, List.setIfInBounds_toArray, List.set_cons_zero, List.set_cons_succ]
            apply wpT_eq
            · intro W hW _
              unfold opT
              go_simp
              first | exact resT_eq_mk _ _ _ | exact ⟨Gr.refl _, rfl⟩
            simp only [Act.put, List.setIfInBounds_toArray, List.set_cons_zero, List.set_cons_succ]
            apply wpT_eq
            · intro W hW _
              obtain ⟨⟨x0, x1, y0, y1⟩, _, _⟩ := FT.out W hW
              unfold opT
              go_simp
              first | exact resT_eq_mk _ _ _ | exact ⟨Gr.refl _, rfl⟩
            simp only [Act.put, List.setIfInBounds_toArray, List.set_cons_zero, List.set_cons_succ]
            apply wpT_eq
            · intro W hW _
              obtain ⟨⟨x0, x1, y0, y1⟩, _, _⟩ := FT.out W hW
              unfold opT
              go_simp
              first | exact resT_eq_mk _ _ _ | exact ⟨Gr.refl _, rfl⟩
            simp only [Act.put, List.setIfInBounds_toArray, List.set_cons_zero, List.set_cons_succ]
            apply wpT_eq
            · intro W hW _
              unfold opT
              go_simp
              first | exact resT_eq_mk _ _ _ | exact ⟨Gr.refl _, rfl⟩
            simp only [Act.put, List.setIfInBounds_toArray, List.set_cons_zero, List.set_cons_succ]
            apply wpT_eq
            · intro W hW _
              unfold opT
              go_simp
              first | exact resT_eq_mk _ _ _ | exact ⟨Gr.refl _, rfl⟩
            simp only [Act.put, List.setIfInBounds_toArray, List.set_cons_zero, List.set_cons_succ]
            apply wpT_useEq
            · intro W hW hS hs
              exact opT_run_store 70 _ _ rfl rfl rfl rfl (hS.1 rfl) (by kernel_rfl) rfl (by simp; exact ⟨rfl, rfl, rfl, rfl⟩) (fun f1 f2 => ⟨⟨f2, ⟨(fun e => by cases e), fun _ => f1⟩⟩, rfl⟩)
            simp only [Act.put]
            apply wpT_eq
            · intro W hW _
              unfold opT
              go_simp
              first | exact resT_eq_mk _ _ _ | exact ⟨Gr.refl _, rfl⟩
            simp only [Act.put, List.setIfInBounds_toArray, List.set_cons_zero, List.set_cons_succ]
            apply wpT_nil
            intro W9 hW9 hS9 hsAll
            have c9 := hS9.2 rfl
            have G9 : Gr w W9 := Below.trans G0.out.drew (hW9.below (B := w.heap.size) G0.out.size (fun k hk => by have h9 : k = (w.heap.size + 1 + 1) := hk; omega))
            have k0 := c9.cell 0
            have k1 := c9.cell 1
            have k2 := c9.cell 2
            have k3 := c9.cell 3
            clear FT hsAll hS9 hW9 c9
            (try go_wp2)
            (try simp only [Exit.inBlock, Exit.then])
            refine bodyPost_ret (v := .tuple #[.agg #[.int .i64 b1, .int .i64 a2, .int .i64 b1, .int .i64 b2], .bool false]) ?_ rfl ⟨(by rw [HK.out]; try simp), G9⟩
            simp only [List.getElem?_toArray, List.getElem?_cons_zero, List.getElem?_cons_succ] at k0 k1 k2 k3
            simp [results, Try.f33, go_sem, k0, k1, k2, k3]
          | true =>
            apply wp_region_draw_turn (fun j => j = (w.heap.size + 1 + 1)) (fun k W => (k = 0 → CellsAt W (w.heap.size + 1 + 1) #[.int .i64 0, .int .i64 0, .int .i64 0, .int .i64 0] 70) ∧ (k = 1 → CellsAt W (w.heap.size + 1 + 1) #[.int .i64 b1, .int .i64 a2, .int .i64 b1, .int .i64 b2] 70)) (.eq _ :: .eq _ :: .eq _ :: .eq _ :: .eq _ :: .eq _ :: .eq _ :: .eq _ :: .eq _ :: .eq _ :: .eq _ :: .eq _ :: .eq _ :: .eq _ :: .eq _ :: .eq _ :: .useEq undef :: .eq _ :: []) (by kernel_rfl) (by kernel_rfl) (by kernel_rfl) trivial (fun k W W' g h => ⟨fun e => (h.1 e).gr g, fun e => (h.2 e).gr g⟩) (⟨fun _ => CR.out, fun e => by cases e⟩)
            apply wpT_eq
            · intro W hW _
              obtain ⟨⟨x0, x1, y0, y1⟩, _, _⟩ := FT.out W hW
              unfold opT
              go_simp
              first | exact resT_eq_mk _ _ _ | exact ⟨Gr.refl _, rfl⟩
            simp only [Act.put, List.setIfInBounds_toArray, List.set_cons_zero, List.set_cons_succ]
            apply wpT_eq
            · intro W hW _
              obtain ⟨⟨x0, x1, y0, y1⟩, _, _⟩ := FT.out W hW
              unfold opT
              go_simp
              first | exact resT_eq_mk _ _ _ | exact ⟨Gr.refl _, rfl⟩
            simp only [Act.put, List.setIfInBounds_toArray, List.set_cons_zero, List.set_cons_succ]
            apply wpT_eq
            · intro W hW _
              unfold opT
              go_simp
              first | exact resT_eq_mk _ _ _ | exact ⟨Gr.refl _, rfl⟩
            simp only [Act.put, List.setIfInBounds_toArray, List.set_cons_zero, List.set_cons_succ]
            apply wpT_eq
            · intro W hW _
              unfold opT
              go_simp
              first | exact resT_eq_mk _ _ _ | exact ⟨Gr.refl _, rfl⟩
            simp only [Act.put, List.setIfInBounds_toArray, List.set_cons_zero, List.set_cons_succ]
            apply wpT_eq
            · intro W hW _
              obtain ⟨⟨x0, x1, y0, y1⟩, _, _⟩ := FT.out W hW
              unfold opT
              go_simp
              first | exact resT_eq_mk _ _ _ | exact ⟨Gr.refl _, rfl⟩
            simp only [Act.put, List.setIfInBounds_toArray, List.set_cons_zero, List.set_cons_succ]
            apply wpT_eq
            · intro W hW hs
              obtain ⟨_, hN, hs⟩ := FT.out W hW
              unfold opT
              go_simp
              refine resT_call ((has_any W N sv sizes (b1, a2) hN hs hl).mono ?_)
              rintro e W2 ⟨rfl, g2⟩
              exact ⟨_, rfl, g2, by rw [← HR1.out]⟩
            simp only [Act.put, List.setIfInBounds_toArray, List.set_cons_zero, List.set_cons_succ]
            apply wpT_eq
            · intro W hW _
              unfold opT
              go_simp
              first | exact resT_eq_mk _ _ _ | exact ⟨Gr.refl _, rfl⟩
            simp only [Act.put, List.setIfInBounds_toArray, List.set_cons_zero, List.set_cons_succ]
            apply wpT_eq
            · intro W hW _
              unfold opT
              go_simp
              first | exact resT_eq_mk _ _ _ | exact ⟨Gr.refl _, rfl⟩
            simp only [Act.put, List.setIfInBounds_toArray, List.set_cons_zero, List.set_cons_succ]
            apply wpT_eq
            · intro W hW _
              obtain ⟨⟨x0, x1, y0, y1⟩, _, _⟩ := FT.out W hW
              unfold opT
              go_simp
              first | exact resT_eq_mk _ _ _ | exact ⟨Gr.refl _, rfl⟩
            simp only [Act.put, List.setIfInBounds_toArray, List.set_cons_zero, List.set_cons_succ]
            apply wpT_eq
            · intro W hW hs
              obtain ⟨_, hN, hs⟩ := FT.out W hW
              unfold opT
              go_simp
              refine resT_call ((has_any W N sv sizes (b1, b2) hN hs hl).mono ?_)
              rintro e W2 ⟨rfl, g2⟩
              exact ⟨_, rfl, g2, by rw [← HR2.out]⟩
            simp only [Act.put, List.setIfInBounds_toArray, List.set_cons_zero, List.set_cons_succ]
            apply wpT_eq
            · intro W hW _
              unfold opT
              go_simp
              first | exact resT_eq_mk _ _ _ | exact ⟨Gr.refl _, rfl⟩
            simp only [Act.put, List.setIfInBounds_toArray, List.set_cons_zero, List.set_cons_succ]
            apply wpT_eq
            · intro W hW _
              unfold opT
              go_simp
              first | exact resT_eq_mk _ _ _ | exact ⟨Gr.refl _, rfl⟩
            simp only [Act.put, List.setIfInBounds_toArray, List.set_cons_zero, List.set_cons_succ]
            apply wpT_eq
            · intro W hW _
              obtain ⟨⟨x0, x1, y0, y1⟩, _, _⟩ := FT.out W hW
              unfold opT
              go_simp
              first | exact resT_eq_mk _ _ _ | exact ⟨Gr.refl _, rfl⟩
            simp only [Act.put, List.setIfInBounds_toArray, List.set_cons_zero, List.set_cons_succ]
            apply wpT_eq
            · intro W hW _
              obtain ⟨⟨x0, x1, y0, y1⟩, _, _⟩ := FT.out W hW
              unfold opT
              go_simp
              first | exact resT_eq_mk _ _ _ | exact ⟨Gr.refl _, rfl⟩
            simp only [Act.put, List.setIfInBounds_toArray, List.set_cons_zero, List.set_cons_succ]
            apply wpT_eq
            · intro W hW _
              unfold opT
              go_simp
              first | rw [HNE.out W] | rw [HNF.out W rfl]
              first | exact resT_eq_mk _ _ _ | exact ⟨Gr.refl _, rfl⟩
            simp only [Act.put, List.setIfInBounds_toArray, List.set_cons_zero, List.set_cons_succ]
            apply wpT_eq
            · intro W hW _
              unfold opT
              go_simp
              first | exact resT_eq_mk _ _ _ | exact ⟨Gr.refl _, rfl⟩
            simp only [Act.put, List.setIfInBounds_toArray, List.set_cons_zero, List.set_cons_succ]
            apply wpT_useEq
            · intro W hW hS hs
              exact opT_run_store 70 _ _ rfl rfl rfl rfl (hS.1 rfl) (by kernel_rfl) rfl (by simp; exact ⟨rfl, rfl, rfl, rfl⟩) (fun f1 f2 => ⟨⟨f2, ⟨(fun e => by cases e), fun _ => f1⟩⟩, rfl⟩)
            simp only [Act.put]
            apply wpT_eq
            · intro W hW _
              unfold opT
              go_simp
              first | exact resT_eq_mk _ _ _ | exact ⟨Gr.refl _, rfl⟩
            simp only [Act.put, List.setIfInBounds_toArray, List.set_cons_zero, List.set_cons_succ]
            apply wpT_nil
            intro W9 hW9 hS9 hsAll
            have c9 := hS9.2 rfl
            have G9 : Gr w W9 := Below.trans G0.out.drew (hW9.below (B := w.heap.size) G0.out.size (fun k hk => by have h9 : k = (w.heap.size + 1 + 1) := hk; omega))
            have k0 := c9.cell 0
            have k1 := c9.cell 1
            have k2 := c9.cell 2
            have k3 := c9.cell 3
            clear FT hsAll hS9 hW9 c9
            (try go_wp2)
            (try simp only [Exit.inBlock, Exit.then])
            refine bodyPost_ret (v := .tuple #[.agg #[.int .i64 b1, .int .i64 a2, .int .i64 b1, .int .i64 b2], .bool ne]) ?_ rfl ⟨(by rw [HK.out]; try simp), G9⟩
            simp only [List.getElem?_toArray, List.getElem?_cons_zero, List.getElem?_cons_succ] at k0 k1 k2 k3
            simp [results, Try.f33, go_sem, k0, k1, k2, k3]
    · have hpe : p = ((a1, a2), (b1, b2)) := by rw [HP.out]; unfold keyV lessV; simp; omega
      have hlk : linkV sizes (a1, a2) (b1, b2) = (hasV sizes (a1, a2) && hasV sizes (b1, b2) && decide (((a1, a2) : AdD) ≠ (b1, b2))) := by first | rfl | exact linkV_comm _ _ _
      rw [hpe, hlk]
      have HK : Hid (keyA ((a1, a2), (b1, b2)) = .agg #[.int .i64 a1, .int .i64 a2, .int .i64 b1, .int .i64 b2]) := Lib.hid rfl
      clear HP hpe hlk
      obtain ⟨r1, hr1⟩ : ∃ r, r = hasV sizes (a1, a2) := ⟨_, rfl⟩
      obtain ⟨r2, hr2⟩ : ∃ r, r = hasV sizes (b1, b2) := ⟨_, rfl⟩
      rw [← hr1, ← hr2]
      have HR1 := Lib.hid hr1
      have HR2 := Lib.hid hr2
      clear hr1 hr2
      obtain ⟨ne, hne⟩ : ∃ r, r = decide (((a1, a2) : AdD) ≠ (b1, b2)) := ⟨_, rfl⟩
      rw [← hne]
      have HNE : Hid (∀ W : World, (if a1 = b1 then if a2 = b2 then Result.ok (Next.value (Value.bool false)) W else Result.ok (Next.value (Value.bool true)) W else Result.ok (Next.value (Value.bool true)) W) = Result.ok (Next.value (.bool ne)) W) := Lib.hid fun W => by
        rw [hne]
        by_cases e1 : a1 = b1 <;> by_cases e2 : a2 = b2 <;> simp_all
      have HNF : Hid (∀ W : World, a1 = b1 → (if a2 = b2 then Result.ok (Next.value (Value.bool false)) W else Result.ok (Next.value (Value.bool true)) W) = Result.ok (Next.value (.bool ne)) W) := Lib.hid fun W e1 => by
        rw [hne]
        by_cases e2 : a2 = b2 <;> simp_all
      clear hne
      unfold adV
      go_enter Try.func33, Try.ntmps33
      go_upto_region 3 with fail
      obtain ⟨w0, hw0⟩ : ∃ w0, w0 = ((w.alloc (.cells #[.int .i64 a1, .int .i64 a2] 33)).alloc (.cells #[.int .i64 b1, .int .i64 b2] 33)).alloc (.cells #[.int .i64 0, .int .i64 0, .int .i64 0, .int .i64 0] 70) := ⟨_, rfl⟩
      have g0 : Gr w w0 := by rw [hw0]; exact (((Gr.refl w).alloc _).alloc _).alloc _
      have cA : CellsAt w0 w.heap.size #[.int .i64 a1, .int .i64 a2] 33 := by rw [hw0]; exact (CellsAt.new _ _ _).gr (((Gr.refl _).alloc _).alloc _)
      have cB : CellsAt w0 (w.heap.size + 1) #[.int .i64 b1, .int .i64 b2] 33 := by rw [hw0]; exact (CellsAt.newAt (w.alloc (.cells #[.int .i64 a1, .int .i64 a2] 33)) _ _ (by simp)).gr ((Gr.refl _).alloc _)
      have cR : CellsAt w0 (w.heap.size + 1 + 1) #[.int .i64 0, .int .i64 0, .int .i64 0, .int .i64 0] 70 := by rw [hw0]; exact CellsAt.newAt ((w.alloc (.cells #[.int .i64 a1, .int .i64 a2] 33)).alloc (.cells #[.int .i64 b1, .int .i64 b2] 33)) _ _ (by simp)
      rw [← hw0]
      clear hw0
      have FT : Hid (∀ W, Ch (fun j => j = (w.heap.size + 1 + 1)) w0.drew W → (W.cell? ⟨w.heap.size, 0, Option.none⟩ = some (.int .i64 a1) ∧ W.cell? ⟨w.heap.size, 1, Option.none⟩ = some (.int .i64 a2) ∧ W.cell? ⟨w.heap.size + 1, 0, Option.none⟩ = some (.int .i64 b1) ∧ W.cell? ⟨w.heap.size + 1, 1, Option.none⟩ = some (.int .i64 b2)) ∧ W.cell? ⟨N, 0, Option.none⟩ = some sv ∧ Sl W sv (ints sizes)) := Lib.hid fun W hW => by
        have q1 : CellsAt W w.heap.size _ 33 := (hW.block _ cA.lt (by omega)).trans cA
        have q2 : CellsAt W (w.heap.size + 1) _ 33 := (hW.block _ cB.lt (by omega)).trans cB
        have q3 : Below w.heap.size w W := Below.trans g0.drew ((hW.below (B := w.heap.size) g0.size (fun k hk => by have h9 : k = (w.heap.size + 1 + 1) := hk; omega)))
        exact ⟨⟨q1.cell 0, q1.cell 1, q2.cell 0, q2.cell 1⟩, ((Gr.cell' q3 HN.out.1)).trans HN.out.1, HN.out.2.below q3⟩
      have G0 := Lib.hid g0
      have CR := Lib.hid cR
      clear g0 cA cB cR
      cases r1 with
      | false =>
        apply wp_region_draw_turn (fun j => j = (w.heap.size + 1 + 1)) (fun k W => (k = 0 → CellsAt W (w.heap.size + 1 + 1) #[.int .i64 0, .int .i64 0, .int .i64 0, .int .i64 0] 70) ∧ (k = 1 → CellsAt W (w.heap.size + 1 + 1) #[.int .i64 a1, .int .i64 a2, .int .i64 b1, .int .i64 b2] 70)) (.eq _ :: .eq _ :: .eq _ :: .eq _ :: .eq _ :: .eq _ :: .eq _ :: .eq _ :: .eq _ :: .eq _ :: .eq _ :: .eq _ :: .eq _ :: .eq _ :: .eq _ :: .eq _ :: .useEq undef :: .eq _ :: []) (by kernel_rfl) (by kernel_rfl) (by kernel_rfl) trivial (fun k W W' g h => ⟨fun e => (h.1 e).gr g, fun e => (h.2 e).gr g⟩) (⟨fun _ => CR.out, fun e => by cases e⟩)
        apply wpT_eq
        · intro W hW _
          obtain ⟨⟨x0, x1, y0, y1⟩, _, _⟩ := FT.out W hW
          unfold opT
          go_simp
          first | exact resT_eq_mk _ _ _ | exact ⟨Gr.refl _, rfl⟩
        simp only [Act.put, List.setIfInBounds_toArray, List.set_cons_zero, List.set_cons_succ]
        apply wpT_eq
        · intro W hW _
          obtain ⟨⟨x0, x1, y0, y1⟩, _, _⟩ := FT.out W hW
          unfold opT
          go_simp
          first | exact resT_eq_mk _ _ _ | exact ⟨Gr.refl _, rfl⟩
        simp only [Act.put, List.setIfInBounds_toArray, List.set_cons_zero, List.set_cons_succ]
        apply wpT_eq
        · intro W hW _
          unfold opT
          go_simp
          first | exact resT_eq_mk _ _ _ | exact ⟨Gr.refl _, rfl⟩
        simp only [Act.put, List.setIfInBounds_toArray, List.set_cons_zero, List.set_cons_succ]
        apply wpT_eq
        · intro W hW _
          unfold opT
          go_simp
          first | exact resT_eq_mk _ _ _ | exact ⟨Gr.refl _, rfl⟩
        simp only [Act.put, List.setIfInBounds_toArray, List.set_cons_zero, List.set_cons_succ]
        apply wpT_eq
        · intro W hW _
          obtain ⟨⟨x0, x1, y0, y1⟩, _, _⟩ := FT.out W hW
          unfold opT
          go_simp
          first | exact resT_eq_mk _ _ _ | exact ⟨Gr.refl _, rfl⟩
        simp only [Act.put, List.setIfInBounds_toArray, List.set_cons_zero, List.set_cons_succ]
        apply wpT_eq
        · intro W hW hs
          obtain ⟨_, hN, hs⟩ := FT.out W hW
          unfold opT
          go_simp
          refine resT_call ((has_any W N sv sizes (a1, a2) hN hs hl).mono ?_)
          rintro e W2 ⟨rfl, g2⟩
          exact ⟨_, rfl, g2, by rw [← HR1.out]⟩
        simp only [Act.put, List.setIfInBounds_toArray, List.set_cons_zero, List.set_cons_succ]
        apply wpT_eq
        · intro W hW _
          unfold opT
          go_simp
          first | exact resT_eq_mk _ _ _ | exact ⟨Gr.refl _, rfl⟩
        simp only [Act.put, List.setIfInBounds_toArray, List.set_cons_zero, List.set_cons_succ]
        apply wpT_eq
        · intro W hW _
          unfold opT
          go_simp
          first | exact resT_eq_mk _ _ _ | exact ⟨Gr.refl _, rfl⟩
        simp only [Act.put, List.setIfInBounds_toArray, List.set_cons_zero, List.set_cons_succ]
        apply wpT_eq
        · intro W hW _
          obtain ⟨⟨x0, x1, y0, y1⟩, _, _⟩ := FT.out W hW
          unfold opT
          go_simp
          first | exact resT_eq_mk _ _ _ | exact ⟨Gr.refl _, rfl⟩
        simp only [Act.put, List.setIfInBounds_toArray, List.set_cons_zero, List.set_cons_succ]
        apply wpT_eq
        · intro W hW _
          unfold opT
          go_simp
          first | exact resT_eq_mk _ _ _ | exact ⟨Gr.refl _, rfl⟩
        simp only [Act.put, List.setIfInBounds_toArray, List.set_cons_zero, List.set_cons_succ]
        apply wpT_eq
        · intro W hW _
          unfold opT
          go_simp
          first | exact resT_eq_mk _ _ _ | exact ⟨Gr.refl _, rfl⟩
        simp only [Act.put, List.setIfInBounds_toArray, List.set_cons_zero, List.set_cons_succ]
        apply wpT_eq
        · intro W hW _
          unfold opT
          go_simp
          first | exact resT_eq_mk _ _ _ | exact ⟨Gr.refl _, rfl⟩
        simp only [Act.put, List.setIfInBounds_toArray, List.set_cons_zero, List.set_cons_succ]
        apply wpT_eq
        · intro W hW _
          obtain ⟨⟨x0, x1, y0, y1⟩, _, _⟩ := FT.out W hW
          unfold opT
          go_simp
          first | exact resT_eq_mk _ _ _ | exact ⟨Gr.refl _, rfl⟩
        simp only [Act.put, List.setIfInBounds_toArray, List.set_cons_zero, List.set_cons_succ]
        apply wpT_eq
        · intro W hW _
          obtain ⟨⟨x0, x1, y0, y1⟩, _, _⟩ := FT.out W hW
          unfold opT
          go_simp
          first | exact resT_eq_mk _ _ _ | exact ⟨Gr.refl _, rfl⟩
        simp only [Act.put, List.setIfInBounds_toArray, List.set_cons_zero, List.set_cons_succ]
        apply wpT_eq
        · intro W hW _
          unfold opT
          go_simp
          first | exact resT_eq_mk _ _ _ | exact ⟨Gr.refl _, rfl⟩
        simp only [Act.put, List.setIfInBounds_toArray, List.set_cons_zero, List.set_cons_succ]
        apply wpT_eq
        · intro W hW _
          unfold opT
          go_simp
          first | exact resT_eq_mk _ _ _ | exact ⟨Gr.refl _, rfl⟩
        simp only [Act.put, List.setIfInBounds_toArray, List.set_cons_zero, List.set_cons_succ]
        apply wpT_useEq
        · intro W hW hS hs
          exact opT_run_store 70 _ _ rfl rfl rfl rfl (hS.1 rfl) (by kernel_rfl) rfl (by simp; exact ⟨rfl, rfl, rfl, rfl⟩) (fun f1 f2 => ⟨⟨f2, ⟨(fun e => by cases e), fun _ => f1⟩⟩, rfl⟩)
        simp only [Act.put]
        apply wpT_eq
        · intro W hW _
          unfold opT
          go_simp
          first | exact resT_eq_mk _ _ _ | exact ⟨Gr.refl _, rfl⟩
        simp only [Act.put, List.setIfInBounds_toArray, List.set_cons_zero, List.set_cons_succ]
        apply wpT_nil
        intro W9 hW9 hS9 hsAll
        have c9 := hS9.2 rfl
        have G9 : Gr w W9 := Below.trans G0.out.drew (hW9.below (B := w.heap.size) G0.out.size (fun k hk => by have h9 : k = (w.heap.size + 1 + 1) := hk; omega))
        have k0 := c9.cell 0
        have k1 := c9.cell 1
        have k2 := c9.cell 2
        have k3 := c9.cell 3
        clear FT hsAll hS9 hW9 c9
        (try go_wp2)
        (try simp only [Exit.inBlock, Exit.then])
        refine bodyPost_ret (v := .tuple #[.agg #[.int .i64 a1, .int .i64 a2, .int .i64 b1, .int .i64 b2], .bool false]) ?_ rfl ⟨(by rw [HK.out]; try simp), G9⟩
        simp only [List.getElem?_toArray, List.getElem?_cons_zero, List.getElem?_cons_succ] at k0 k1 k2 k3
        simp [results, Try.f33, go_sem, k0, k1, k2, k3]
      | true =>
        cases r2 with
        | false =>
          apply wp_region_draw_turn (fun j => j = (w.heap.size + 1 + 1)) (fun k W => (k = 0 → CellsAt W (w.heap.size + 1 + 1) #[.int .i64 0, .int .i64 0, .int .i64 0, .int .i64 0] 70) ∧ (k = 1 → CellsAt W (w.heap.size + 1 + 1) #[.int .i64 a1, .int .i64 a2, .int .i64 b1, .int .i64 b2] 70)) (.eq _ :: .eq _ :: .eq _ :: .eq _ :: .eq _ :: .eq _ :: .eq _ :: .eq _ :: .eq _ :: .eq _ :: .eq _ :: .eq _ :: .eq _ :: .eq _ :: .eq _ :: .eq _ :: .useEq undef :: .eq _ :: []) (by kernel_rfl) (by kernel_rfl) (by kernel_rfl) trivial (fun k W W' g h => ⟨fun e => (h.1 e).gr g, fun e => (h.2 e).gr g⟩) (⟨fun _ => CR.out, fun e => by cases e⟩)
          apply wpT_eq
          · intro W hW _
            obtain ⟨⟨x0, x1, y0, y1⟩, _, _⟩ := FT.out W hW
            unfold opT
            go_simp
            first | exact resT_eq_mk _ _ _ | exact ⟨Gr.refl _, rfl⟩
          simp only [Act.put, List.setIfInBounds_toArray, List.set_cons_zero, List.set_cons_succ]
          apply wpT_eq
          · intro W hW _
            obtain ⟨⟨x0, x1, y0, y1⟩, _, _⟩ := FT.out W hW
            unfold opT
            go_simp
            first | exact resT_eq_mk _ _ _ | exact ⟨Gr.refl _, rfl⟩
          simp only [Act.put, List.setIfInBounds_toArray, List.set_cons_zero, List.set_cons_succ]
          apply wpT_eq
          · intro W hW _
            unfold opT
            go_simp
            first | exact resT_eq_mk _ _ _ | exact ⟨Gr.refl _, rfl⟩
          simp only [Act.put, List.setIfInBounds_toArray, List.set_cons_zero, List.set_cons_succ]
          apply wpT_eq
          · intro W hW _
            unfold opT
            go_simp
            first | exact resT_eq_mk _ _ _ | exact ⟨Gr.refl _, rfl⟩
          simp only [Act.put, List.setIfInBounds_toArray, List.set_cons_zero, List.set_cons_succ]
          apply wpT_eq
          · intro W hW _
            obtain ⟨⟨x0, x1, y0, y1⟩, _, _⟩ := FT.out W hW
            unfold opT
            go_simp
            first | exact resT_eq_mk _ _ _ | exact ⟨Gr.refl _, rfl⟩
          simp only [Act.put, List.setIfInBounds_toArray, List.set_cons_zero, List.set_cons_succ]
          apply wpT_eq
          · intro W hW hs
            obtain ⟨_, hN, hs⟩ := FT.out W hW
            unfold opT
            go_simp
            refine resT_call ((has_any W N sv sizes (a1, a2) hN hs hl).mono ?_)
            rintro e W2 ⟨rfl, g2⟩
            exact ⟨_, rfl, g2, by rw [← HR1.out]⟩
          simp only [Act.put, List.setIfInBounds_toArray, List.set_cons_zero, List.set_cons_succ]
          apply wpT_eq
          · intro W hW _
            unfold opT
            go_simp
            first | exact resT_eq_mk _ _ _ | exact ⟨Gr.refl _, rfl⟩
          simp only [Act.put, List.setIfInBounds_toArray, List.set_cons_zero, List.set_cons_succ]
          apply wpT_eq
          · intro W hW _
            unfold opT
            go_simp
            first | exact resT_eq_mk _ _ _ | exact ⟨Gr.refl _, rfl⟩
          simp only [Act.put, List.setIfInBounds_toArray, List.set_cons_zero, List.set_cons_succ]
          apply wpT_eq
          · intro W hW _
            obtain ⟨⟨x0, x1, y0, y1⟩, _, _⟩ := FT.out W hW
            unfold opT
            go_simp
            first | exact resT_eq_mk _ _ _ | exact ⟨Gr.refl _, rfl⟩
          simp only [Act.put, List.setIfInBounds_toArray, List.set_cons_zero, List.set_cons_succ]
          apply wpT_eq
          · intro W hW hs
            obtain ⟨_, hN, hs⟩ := FT.out W hW
            unfold opT
            go_simp
            refine resT_call ((has_any W N sv sizes (b1, b2) hN hs hl).mono ?_)
            rintro e W2 ⟨rfl, g2⟩
            exact ⟨_, rfl, g2, by rw [← HR2.out]⟩
          simp only [Act.put, List.setIfInBounds_toArray, List.set_cons_zero, List.set_cons_succ]
          apply wpT_eq
          · intro W hW _
            unfold opT
            go_simp
            first | exact resT_eq_mk _ _ _ | exact ⟨Gr.refl _, rfl⟩
          simp only [Act.put, List.setIfInBounds_toArray, List.set_cons_zero, List.set_cons_succ]
          apply wpT_eq
          · intro W hW _
            unfold opT
            go_simp
            first | exact resT_eq_mk _ _ _ | exact ⟨Gr.refl _, rfl⟩
          simp only [Act.put, List.setIfInBounds_toArray, List.set_cons_zero, List.set_cons_succ]
          apply wpT_eq
          · intro W hW _
            obtain ⟨⟨x0, x1, y0, y1⟩, _, _⟩ := FT.out W hW
            unfold opT
            go_simp
            first | exact resT_eq_mk _ _ _ | exact ⟨Gr.refl _, rfl⟩
          simp only [Act.put, List.setIfInBounds_toArray, List.set_cons_zero, List.set_cons_succ]
          apply wpT_eq
          · intro W hW _
            obtain ⟨⟨x0, x1, y0, y1⟩, _, _⟩ := FT.out W hW
            unfold opT
            go_simp
            first | exact resT_eq_mk _ _ _ | exact ⟨Gr.refl _, rfl⟩
          simp only [Act.put, List.setIfInBounds_toArray, List.set_cons_zero, List.set_cons_succ]
          apply wpT_eq
          · intro W hW _
            unfold opT
            go_simp
            first | exact resT_eq_mk _ _ _ | exact ⟨Gr.refl _, rfl⟩
          simp only [Act.put, List.setIfInBounds_toArray, List.set_cons_zero, List.set_cons_succ]
          apply wpT_eq
          · intro W hW _
            unfold opT
            go_simp
            first | exact resT_eq_mk _ _ _ | exact ⟨Gr.refl _, rfl⟩
          simp only [Act.put, List.setIfInBounds_toArray, List.set_cons_zero, List.set_cons_succ]
          apply wpT_useEq
          · intro W hW hS hs
            exact opT_run_store 70 _ _ rfl rfl rfl rfl (hS.1 rfl) (by kernel_rfl) rfl (by simp; exact ⟨rfl, rfl, rfl, rfl⟩) (fun f1 f2 => ⟨⟨f2, ⟨(fun e => by cases e), fun _ => f1⟩⟩, rfl⟩)
          simp only [Act.put]
          apply wpT_eq
          · intro W hW _
            unfold opT
            go_simp
            first | exact resT_eq_mk _ _ _ | exact ⟨Gr.refl _, rfl⟩
          simp only [Act.put, List.setIfInBounds_toArray, List.set_cons_zero, List.set_cons_succ]
          apply wpT_nil
          intro W9 hW9 hS9 hsAll
          have c9 := hS9.2 rfl
          have G9 : Gr w W9 := Below.trans G0.out.drew (hW9.below (B := w.heap.size) G0.out.size (fun k hk => by have h9 : k = (w.heap.size + 1 + 1) := hk; omega))
          have k0 := c9.cell 0
          have k1 := c9.cell 1
          have k2 := c9.cell 2
          have k3 := c9.cell 3
          clear FT hsAll hS9 hW9 c9
          (try go_wp2)
          (try simp only [Exit.inBlock, Exit.then])
          refine bodyPost_ret (v := .tuple #[.agg #[.int .i64 a1, .int .i64 a2, .int .i64 b1, .int .i64 b2], .bool false]) ?_ rfl ⟨(by rw [HK.out]; try simp), G9⟩
          simp only [List.getElem?_toArray, List.getElem?_cons_zero, List.getElem?_cons_succ] at k0 k1 k2 k3
          simp [results, Try.f33, go_sem, k0, k1, k2, k3]
        | true =>
          apply wp_region_draw_turn (fun j => j = (w.heap.size + 1 + 1)) (fun k W => (k = 0 → CellsAt W (w.heap.size + 1 + 1) #[.int .i64 0, .int .i64 0, .int .i64 0, .int .i64 0] 70) ∧ (k = 1 → CellsAt W (w.heap.size + 1 + 1) #[.int .i64 a1, .int .i64 a2, .int .i64 b1, .int .i64 b2] 70)) (.eq _ :: .eq _ :: .eq _ :: .eq _ :: .eq _ :: .eq _ :: .eq _ :: .eq _ :: .eq _ :: .eq _ :: .eq _ :: .eq _ :: .eq _ :: .eq _ :: .eq _ :: .eq _ :: .useEq undef :: .eq _ :: []) (by kernel_rfl) (by kernel_rfl) (by kernel_rfl) trivial (fun k W W' g h => ⟨fun e => (h.1 e).gr g, fun e => (h.2 e).gr g⟩) (⟨fun _ => CR.out, fun e => by cases e⟩)
          apply wpT_eq
          · intro W hW _
            obtain ⟨⟨x0, x1, y0, y1⟩, _, _⟩ := FT.out W hW
            unfold opT
            go_simp
            first | exact resT_eq_mk _ _ _ | exact ⟨Gr.refl _, rfl⟩
          simp only [Act.put, List.setIfInBounds_toArray, List.set_cons_zero, List.set_cons_succ]
          apply wpT_eq
          · intro W hW _
            obtain ⟨⟨x0, x1, y0, y1⟩, _, _⟩ := FT.out W hW
            unfold opT
            go_simp
            first | exact resT_eq_mk _ _ _ | exact ⟨Gr.refl _, rfl⟩
          simp only [Act.put, List.setIfInBounds_toArray, List.set_cons_zero, List.set_cons_succ]
          apply wpT_eq
          · intro W hW _
            unfold opT
            go_simp
            first | exact resT_eq_mk _ _ _ | exact ⟨Gr.refl _, rfl⟩
          simp only [Act.put, List.setIfInBounds_toArray, List.set_cons_zero, List.set_cons_succ]
          apply wpT_eq
          · intro W hW _
            unfold opT
            go_simp
            first | exact resT_eq_mk _ _ _ | exact ⟨Gr.refl _, rfl⟩
          simp only [Act.put, List.setIfInBounds_toArray, List.set_cons_zero, List.set_cons_succ]
          apply wpT_eq
          · intro W hW _
            obtain ⟨⟨x0, x1, y0, y1⟩, _, _⟩ := FT.out W hW
            unfold opT
            go_simp
            first | exact resT_eq_mk _ _ _ | exact ⟨Gr.refl _, rfl⟩
          simp only [Act.put, List.setIfInBounds_toArray, List.set_cons_zero, List.set_cons_succ]
          apply wpT_eq
          · intro W hW hs
            obtain ⟨_, hN, hs⟩ := FT.out W hW
            unfold opT
            go_simp
            refine resT_call ((has_any W N sv sizes (a1, a2) hN hs hl).mono ?_)
            rintro e W2 ⟨rfl, g2⟩
            exact ⟨_, rfl, g2, by rw [← HR1.out]⟩
          simp only [Act.put, List.setIfInBounds_toArray, List.set_cons_zero, List.set_cons_succ]
          apply wpT_eq
          · intro W hW _
            unfold opT
            go_simp
            first | exact resT_eq_mk _ _ _ | exact ⟨Gr.refl _, rfl⟩
          simp only [Act.put, List.setIfInBounds_toArray, List.set_cons_zero, List.set_cons_succ]
          apply wpT_eq
          · intro W hW _
            unfold opT
            go_simp
            first | exact resT_eq_mk _ _ _ | exact ⟨Gr.refl _, rfl⟩
          simp only [Act.put, List.setIfInBounds_toArray, List.set_cons_zero, List.set_cons_succ]
          apply wpT_eq
          · intro W hW _
            obtain ⟨⟨x0, x1, y0, y1⟩, _, _⟩ := FT.out W hW
            unfold opT
            go_simp
            first | exact resT_eq_mk _ _ _ | exact ⟨Gr.refl _, rfl⟩
          simp only [Act.put, List.setIfInBounds_toArray, List.set_cons_zero, List.set_cons_succ]
          apply wpT_eq
          · intro W hW hs
            obtain ⟨_, hN, hs⟩ := FT.out W hW
            unfold opT
            go_simp
            refine resT_call ((has_any W N sv sizes (b1, b2) hN hs hl).mono ?_)
            rintro e W2 ⟨rfl, g2⟩
            exact ⟨_, rfl, g2, by rw [← HR2.out]⟩
          simp only [Act.put, List.setIfInBounds_toArray, List.set_cons_zero, List.set_cons_succ]
          apply wpT_eq
          · intro W hW _
            unfold opT
            go_simp
            first | exact resT_eq_mk _ _ _ | exact ⟨Gr.refl _, rfl⟩
          simp only [Act.put, List.setIfInBounds_toArray, List.set_cons_zero, List.set_cons_succ]
          apply wpT_eq
          · intro W hW _
            unfold opT
            go_simp
            first | exact resT_eq_mk _ _ _ | exact ⟨Gr.refl _, rfl⟩
          simp only [Act.put, List.setIfInBounds_toArray, List.set_cons_zero, List.set_cons_succ]
          apply wpT_eq
          · intro W hW _
            obtain ⟨⟨x0, x1, y0, y1⟩, _, _⟩ := FT.out W hW
            unfold opT
            go_simp
            first | exact resT_eq_mk _ _ _ | exact ⟨Gr.refl _, rfl⟩
          simp only [Act.put, List.setIfInBounds_toArray, List.set_cons_zero, List.set_cons_succ]
          apply wpT_eq
          · intro W hW _
            obtain ⟨⟨x0, x1, y0, y1⟩, _, _⟩ := FT.out W hW
            unfold opT
            go_simp
            first | exact resT_eq_mk _ _ _ | exact ⟨Gr.refl _, rfl⟩
          simp only [Act.put, List.setIfInBounds_toArray, List.set_cons_zero, List.set_cons_succ]
          apply wpT_eq
          · intro W hW _
            unfold opT
            go_simp
            first | rw [HNE.out W] | rw [HNF.out W rfl]
            first | exact resT_eq_mk _ _ _ | exact ⟨Gr.refl _, rfl⟩
          simp only [Act.put, List.setIfInBounds_toArray, List.set_cons_zero, List.set_cons_succ]
          apply wpT_eq
          · intro W hW _
            unfold opT
            go_simp
            first | exact resT_eq_mk _ _ _ | exact ⟨Gr.refl _, rfl⟩
          simp only [Act.put, List.setIfInBounds_toArray, List.set_cons_zero, List.set_cons_succ]
          apply wpT_useEq
          · intro W hW hS hs
            exact opT_run_store 70 _ _ rfl rfl rfl rfl (hS.1 rfl) (by kernel_rfl) rfl (by simp; exact ⟨rfl, rfl, rfl, rfl⟩) (fun f1 f2 => ⟨⟨f2, ⟨(fun e => by cases e), fun _ => f1⟩⟩, rfl⟩)
          simp only [Act.put]
          apply wpT_eq
          · intro W hW _
            unfold opT
            go_simp
            first | exact resT_eq_mk _ _ _ | exact ⟨Gr.refl _, rfl⟩
          simp only [Act.put, List.setIfInBounds_toArray, List.set_cons_zero, List.set_cons_succ]
          apply wpT_nil
          intro W9 hW9 hS9 hsAll
          have c9 := hS9.2 rfl
          have G9 : Gr w W9 := Below.trans G0.out.drew (hW9.below (B := w.heap.size) G0.out.size (fun k hk => by have h9 : k = (w.heap.size + 1 + 1) := hk; omega))
          have k0 := c9.cell 0
          have k1 := c9.cell 1
          have k2 := c9.cell 2
          have k3 := c9.cell 3
          clear FT hsAll hS9 hW9 c9
          (try go_wp2)
          (try simp only [Exit.inBlock, Exit.then])
          refine bodyPost_ret (v := .tuple #[.agg #[.int .i64 a1, .int .i64 a2, .int .i64 b1, .int .i64 b2], .bool ne]) ?_ rfl ⟨(by rw [HK.out]; try simp), G9⟩
          simp only [List.getElem?_toArray, List.getElem?_cons_zero, List.getElem?_cons_succ] at k0 k1 k2 k3
          simp [results, Try.f33, go_sem, k0, k1, k2, k3]
end Go.Proofs.Ytcpkbngoecpnkaa
