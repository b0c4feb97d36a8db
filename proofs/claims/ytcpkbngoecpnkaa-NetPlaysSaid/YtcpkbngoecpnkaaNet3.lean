/-
  Package net: Send.
-/
import Derived.Test.YtcpkbngoecpnkaaNet2
set_option linter.unusedVariables false
namespace Go.Proofs.Ytcpkbngoecpnkaa
open Go.RowKit
theorem Sl.drew0 {w : World} {v : Value} {xs : List Value} (h : Sl w v xs) : Sl w.drew v xs := h.below ((Gr.refl w).drew)
def sendE (sizes : List Int) (n : Nat) (l : LetD) : Int := if linkV sizes l.src l.dst = false then 1 else if 2097152 < l.b.length then 1 else if 4096 ≤ n then 4 else 0
theorem cellB {W W' : World} {b i : Nat} {v : Value} (e : W'.heap[b]? = W.heap[b]?) (h : W.cell? ⟨b, i, Option.none⟩ = some v) : W'.cell? ⟨b, i, Option.none⟩ = some v :=
  (World.cell?_of_block (a := ⟨b, i, Option.none⟩) e).trans h
/-- As Did; and each letter's bytes are those it had, or new. -/
def Did5 (w : World) (base N M n : Nat) (lv : Value) (ps : List (LetD × Value)) (sizes : List Int) (cut : AdD × AdD → Bool) (ls : List LetD) (w' : World) : Prop :=
  ∃ lv' ps', NetIs w' base N M n lv' ps' sizes cut ∧ ps'.map Prod.fst = ls ∧ Ch (netB N M lv) w w' ∧ (∀ j, lv'.ownBlock = some j → lv.ownBlock = some j ∨ w.heap.size ≤ j) ∧ ∀ p ∈ ps', p ∈ ps ∨ ∀ j, p.2.ownBlock = some j → w.heap.size ≤ j

set_option maxHeartbeats 2000000 in
set_option maxRecDepth 100000 in
/-- (*Net).Send -/
theorem send_any5 {w : World} {base N M n : Nat} {lv : Value} {ps : List (LetD × Value)} {sizes : List Int} {cut : AdD × AdD → Bool} (h : NetIs w base N M n lv ps sizes cut) (l : LetD) (bv : Value) (hb : Sl w bv (bytes l.b)) (hl : l.b.length ≤ 140737488355328) (hne : l.b ≠ [] → ∀ j, bv.ownBlock = some j → lv.ownBlock ≠ some j) :
    Calls Try.prog 10 #[.pointer (some ⟨N, 0, Option.none⟩), letV l bv] w fun e w' => e = .returned (.int .i64 (sendE sizes ps.length l)) ∧
      Did5 w base N M n lv ps sizes cut (if sendE sizes ps.length l = 0 then ps.map Prod.fst ++ [l] else ps.map Prod.fst) w' := by
  have hd0 : ∀ w', Gr w w' → Did5 w base N M n lv ps sizes cut (ps.map Prod.fst) w' := fun w' g => ⟨lv, ps, h.gr g, rfl, Ch.of_gr g, fun j hj => .inl hj, fun p hp => .inl hp⟩
  have hdS : ∀ w1 w' lv' bv', Gr w w1 → NetIs w' base N M n lv' (ps ++ [(l, bv')]) sizes cut → Ch (netB N M lv) w1 w' → (∀ j, lv'.ownBlock = some j → lv.ownBlock = some j ∨ w1.heap.size ≤ j) → (∀ j, bv'.ownBlock = some j → w1.heap.size ≤ j) → Did5 w base N M n lv ps sizes cut (ps.map Prod.fst ++ [l]) w' := fun w1 w' lv' bv' g h1 h2 h3 h4 =>
    ⟨lv', ps ++ [(l, bv')], h1, by simp, (Ch.of_gr g).transN h2 (fun j hj _ => hj), fun j hj => (h3 j hj).imp id (Nat.le_trans g.size), fun p hp => (List.mem_append.1 hp).imp id (fun hp => by rw [List.mem_singleton.1 hp]; exact fun j hj => Nat.le_trans g.size (h4 j hj))⟩
  have HNE := Lib.hid hne
  clear hne
  have HD0 := Lib.hid hd0
  have HDS := Lib.hid hdS
  clear hd0 hdS
  obtain ⟨sv, hN, hs⟩ := h.obj
  have hs2 := hs.sl
  have H0 := Lib.hid h
  obtain ⟨a, cap, rfl⟩ := h.lets.shape
  obtain ⟨L, hL⟩ : ∃ L, L = ps.length := ⟨_, rfl⟩
  have hln := h.len
  rw [← hL] at hN hln H0 HDS HD0 HNE ⊢
  have HL := Lib.hid hL
  clear hL h
  obtain ⟨z, hz⟩ : ∃ z, z = sendE sizes L l := ⟨_, rfl⟩
  rw [← hz]
  unfold sendE at hz
  obtain ⟨ok, hok⟩ : ∃ ok, ok = linkV sizes l.src l.dst := ⟨_, rfl⟩
  rw [← hok] at hz
  obtain ⟨⟨a1, a2⟩, ⟨b1, b2⟩, b⟩ := l
  obtain ⟨ab, cb, rfl, _⟩ := hb.bytes
  simp only at *
  unfold letV
  go_enter Try.func10, Try.ntmps10
  go_upto_region 3 with fail
  obtain ⟨w0, hw0⟩ : ∃ w0, w0 = w.alloc (.cells #[.int .i64 a1, .int .i64 a2, .int .i64 b1, .int .i64 b2, .slice ab b.length cb] 35) := ⟨_, rfl⟩
  have g0 : Gr w w0 := by rw [hw0]; exact (Gr.refl w).alloc _
  have cA : CellsAt w0 w.heap.size #[.int .i64 a1, .int .i64 a2, .int .i64 b1, .int .i64 b2, .slice ab b.length cb] 35 := by rw [hw0]; exact CellsAt.new _ _ _
  have FT : Hid (∀ W, Gr w0 W → CellsAt W w.heap.size #[.int .i64 a1, .int .i64 a2, .int .i64 b1, .int .i64 b2, .slice ab b.length cb] 35 ∧ W.cell? ⟨N, 0, Option.none⟩ = some sv ∧ Sl W sv (ints sizes) ∧ Sl W (.slice ab b.length cb) (bytes b) ∧ NetIs W base N M n (.slice a L cap) ps sizes cut) := Lib.hid fun W hW =>
    ⟨cA.gr hW, (hN.gr (Gr.trans g0 hW)).cell 0, hs2.below (Gr.trans g0 hW), hb.below (Gr.trans g0 hW), H0.out.gr (Gr.trans g0 hW)⟩
  have HSZ : Hid (sizes.length ≤ 100) := Lib.hid (by have := H0.out.szs; omega)
  have G0 := Lib.hid g0
  rw [← hw0]
  clear hw0 g0 cA hN hs hs2 hb
  obtain ⟨cA, hN0, hs0, _, _⟩ := FT.out w0 (Gr.refl _)
  have x0 := cA.cell 0
  have x1 := cA.cell 1
  have x2 := cA.cell 2
  have x3 := cA.cell 3
  clear cA
  go_wp2_with fail
  refine (linked_any w0 N sv sizes (a1, a2) (b1, b2) hN0 hs0 HSZ.out).mono ?_
  rintro e w1 ⟨rfl, g1⟩
  obtain ⟨⟨⟨p1, p2⟩, p3, p4⟩, hkv⟩ : ∃ k, k = keyV (a1, a2) (b1, b2) := ⟨_, rfl⟩
  rw [← hok, ← hkv, show keyA ((p1, p2), p3, p4) = .agg #[.int .i64 p1, .int .i64 p2, .int .i64 p3, .int .i64 p4] from rfl]
  clear hok hkv
  have G1 := Lib.hid g1
  obtain ⟨cA1, hN1, _, _, _⟩ := FT.out w1 g1
  have y4 := (cA1.gr ((Gr.refl w1).alloc (.cells #[.int .i64 p1, .int .i64 p2, .int .i64 p3, .int .i64 p4] 70))).cell 4
  clear g1 hN0 hs0 x0 x1 x2 x3 cA1 hN1
  cases ok with
  | false =>
    obtain rfl : z = 1 := by rw [hz]; rfl
    have HD := Lib.hid (HD0.out _ (Gr.trans G0.out (G1.out.alloc (.cells #[.int .i64 p1, .int .i64 p2, .int .i64 p3, .int .i64 p4] 70))))
    clear hz
    go_wp2_with fail
    go_ret
    exact ⟨rfl, HD.out⟩
  | true =>
    by_cases hbl : 2097152 < b.length
    · obtain rfl : z = 1 := by rw [hz, if_neg (by decide), if_pos hbl]
      have HD := Lib.hid (HD0.out _ (Gr.trans G0.out (G1.out.alloc (.cells #[.int .i64 p1, .int .i64 p2, .int .i64 p3, .int .i64 p4] 70))))
      clear hz
      go_wp2_with fail
      go_ret
      exact ⟨rfl, HD.out⟩
    · have FT2 : Hid (∀ W, Gr (w1.alloc (.cells #[.int .i64 p1, .int .i64 p2, .int .i64 p3, .int .i64 p4] 70)) W → Gr w0 W) := Lib.hid fun W hW => Gr.trans (G1.out.alloc _) hW
      go_upto_region 6 with fail
      obtain ⟨w2, hw2⟩ : ∃ w2, w2 = w1.alloc (.cells #[.int .i64 p1, .int .i64 p2, .int .i64 p3, .int .i64 p4] 70) := ⟨_, rfl⟩
      have G2 := Lib.hid (FT2.out w2 (by rw [hw2]; exact Gr.refl _))
      rw [← hw2]
      clear hw2 FT2
      obtain ⟨cA2, hN2, hs2, hb2, H2⟩ := FT.out w2 G2.out
      obtain ⟨sv2, hNN, _⟩ := H2.obj
      have y1 := hNN.cell 1
      by_cases hfull : 4096 ≤ L
      · obtain rfl : z = 4 := by rw [hz, if_neg (by decide), if_neg hbl, if_pos hfull]
        have HD := Lib.hid (HD0.out _ (Gr.trans G0.out G2.out))
        clear hz hln
        go_wp2_with fail
        go_ret
        exact ⟨rfl, HD.out⟩
      · obtain rfl : z = 0 := by rw [hz, if_neg (by decide), if_neg hbl, if_neg hfull]
        clear hz
        have hl0 : L < 4096 := by omega
        have C2 := Lib.hid cA2
        have H := Lib.hid H2
        have HN := Lib.hid hNN
        have HB2 := Lib.hid hb2
        clear cA2 H2 hNN hb2 hN2 hs2 y1
        have hln2 : L < 4096 := hl0
        clear hln
        have y1 := HN.out.cell 1
        have y2 := C2.out.cell 0
        have y3 := C2.out.cell 1
        have y5 := C2.out.cell 2
        have y6 := C2.out.cell 3
        have y7 := C2.out.cell 4
        go_upto_region 8 with fail
        by_cases hroom : ∃ g cap', a = some ⟨g, 0, Option.none⟩ ∧ cap = cap' ∧ L + 1 ≤ cap'
        · obtain ⟨g, cap', rfl, rfl, hcap⟩ := hroom
          have hgl : g < w2.heap.size := (H.out.lets.lt g rfl).2
          have hgN : N ≠ g := fun e => H.out.NR.1 (by rw [e]; rfl)
          have hgc := H.out.lets.cells g rfl
          have HCAP := Lib.hid hcap
          clear hcap
          have hgw : g ≠ w.heap.size := fun e => by have := H0.out.lets.lt g rfl; omega
          have y2n : ¬ w.heap.size = g := fun e => hgw e.symm
          have y3n : ¬ w.heap.size = g := fun e => hgw e.symm
          have y5n : ¬ w.heap.size = g := fun e => hgw e.symm
          have y6n : ¬ w.heap.size = g := fun e => hgw e.symm
          have y7n : ¬ w.heap.size = g := fun e => hgw e.symm
          have y1n : ¬ N = g := hgN
          have SLT : Hid (∀ W, Ch (fun j => j = g) w2.drew W → Sl W (.slice ab b.length cb) (bytes b)) := Lib.hid fun W hW => by
            by_cases e0 : b = []
            · rw [e0]; exact Sl.nil _ _ _
            · exact Sl.ch HB2.out.drew0 hW (fun j hj e => by have e9 : j = g := e; exact HNE.out e0 j hj (by rw [e9]; rfl))
          apply wp_region_draw_turnTail 9 (fun j => j = g) (fun j W => (j ≤ 0 → W.heap[g]? = w2.heap[g]?) ∧ (j = 1 → ∃ bv, (KOwn w2.heap.size b) bv W ∧ LetsR W base (.slice (some ⟨g, 0, Option.none⟩) (L + 1) cap) (ps ++ [(⟨(a1, a2), (b1, b2), b⟩, bv)]))) (.eq _ :: .eq _ :: .eq _ :: .eq _ :: .eq _ :: .eq _ :: .ok (OwnW w2.heap.size ⟨(a1, a2), (b1, b2), b⟩) :: .ok (NewRow w2.heap.size ⟨(a1, a2), (b1, b2), b⟩ (KOwn w2.heap.size b)) :: .useEq (.slice (some ⟨g, 0, Option.none⟩) (L + 1) cap) :: []) (by kernel_rfl) (by kernel_rfl) ⟨OwnW.monoT _ _ g hgl, NewRow.monoT _ _ g hgl (KOwn.monoT _ _ g hgl), trivial⟩
            (fun k W W' hg h => ⟨fun e => (hg.block g (Array.getElem?_eq_some_iff.1 ((h.1 e).trans hgc.choose_spec)).1).trans (h.1 e), fun e => by obtain ⟨bv, k1, k2⟩ := h.2 e; exact ⟨bv, (KOwn.mono _ _) _ _ _ hg k1, k2.gr hg⟩⟩) ⟨fun _ => rfl, fun e => absurd e (by decide)⟩
          apply wpT_eq
          · intro W hW hs
            unfold opT
            go_simp
            first | exact resT_eq_mk _ _ _ | rfl
          simp only [Act.put, List.setIfInBounds_toArray, List.set_cons_zero, List.set_cons_succ]
          apply wpT_eq
          · intro W hW hs
            unfold opT
            go_simp
            first | exact resT_eq_mk _ _ _ | rfl
          simp only [Act.put, List.setIfInBounds_toArray, List.set_cons_zero, List.set_cons_succ]
          apply wpT_eq
          · intro W hW hs
            unfold opT
            go_simp
            first | exact resT_eq_mk _ _ _ | rfl
          simp only [Act.put, List.setIfInBounds_toArray, List.set_cons_zero, List.set_cons_succ]
          apply wpT_eq
          · intro W hW hs
            unfold opT
            go_simp
            first | exact resT_eq_mk _ _ _ | rfl
          simp only [Act.put, List.setIfInBounds_toArray, List.set_cons_zero, List.set_cons_succ]
          apply wpT_eq
          · intro W hW hs
            have y1' := hW.drew0 y1 y1n
            unfold opT
            go_simp
            first | exact resT_eq_mk _ _ _ | rfl
          simp only [Act.put, List.setIfInBounds_toArray, List.set_cons_zero, List.set_cons_succ]
          apply wpT_eq
          · intro W hW hs
            have y2' := hW.drew0 y2 y2n
            have y3' := hW.drew0 y3 y3n
            have y5' := hW.drew0 y5 y5n
            have y6' := hW.drew0 y6 y6n
            have y7' := hW.drew0 y7 y7n
            unfold opT
            go_simp
            first | exact resT_eq_mk _ _ _ | rfl
          simp only [Act.put, List.setIfInBounds_toArray, List.set_cons_zero, List.set_cons_succ]
          apply wpT_ok
          · intro W hW hs
            have g1 : w2.heap.size ≤ W.heap.size := hW.size
            have hsl := SLT.out W hW
            unfold opT
            go_simp
            refine resT_call ((own_any W ⟨(a1, a2), (b1, b2), b⟩ _ hsl (by omega)).mono ?_)
            rintro e W2 ⟨bv', rfl, ho, hg⟩
            exact ⟨_, rfl, hg, bv', rfl, ho.mono g1⟩
          intro vo
          simp only [Act.put, List.setIfInBounds_toArray, List.set_cons_zero, List.set_cons_succ]
          apply wpT_ok
          · intro W hW hs
            obtain ⟨bv', rfl, ho⟩ := hs _ (.head _) rfl
            unfold letV
            unfold opT
            go_simp
            refine resT_mk ((Gr.refl _).alloc _) ?_
            exact ⟨W.heap.size, bv', rfl, hW.size, CellsAt.new W _ 35, KOwn.mono _ _ _ _ _ ((Gr.refl W).alloc _) ho⟩
          intro vy
          simp only [Act.put, List.setIfInBounds_toArray, List.set_cons_zero, List.set_cons_succ]
          apply wpT_useEq
          · intro W hW hS hs
            have hy : NewRow w2.heap.size ⟨(a1, a2), (b1, b2), b⟩ (KOwn w2.heap.size b) vy W := hs _ (.head _) rfl
            obtain ⟨w9, hr9, ⟨bv9, hi9⟩, hc9⟩ := app_room H.out.lets hW (hS.1 (by decide)) (by rw [← HL.out]) (by rw [← HL.out]; exact HCAP.out) (KOwn.monoT _ _ g hgl) hy (fun bv hb => Own.mono (show Own _ w2.heap.size 5 bv (bytes b) from hb) H.out.bB) (by have := HL.out; omega) H.out.bB
            rw [← HL.out] at hr9 hi9
            exact opT_run_append hr9 rfl _ _ rfl rfl rfl ⟨hc9, ⟨fun e => absurd e (by decide), fun _ => ⟨bv9, hi9⟩⟩⟩ rfl
          simp only [Act.put, List.setIfInBounds_toArray, List.set_cons_zero, List.set_cons_succ]
          apply wpT_nil
          intro wq hW hS hsAll
          obtain ⟨bvn, q4, q1⟩ := hS.2 rfl
          have q2 : Ch (fun j => (Value.slice (some ⟨g, 0, Option.none⟩) L cap).ownBlock = some j) w2 wq := (hW.drewL).mono (fun k hk => by have e : k = g := hk; rw [e]; rfl)
          have q3 : ∀ j, ((.slice (some ⟨g, 0, Option.none⟩) (L + 1) cap) : Value).ownBlock = some j → (Value.slice (some ⟨g, 0, Option.none⟩) L cap).ownBlock = some j ∨ w2.heap.size ≤ j := fun j hj => .inl hj
          clear hsAll hS hW
          have qN := HN.out.ch q2 (fun e => H.out.NR.1 e)
          have k1 := qN.cell 1
          have k2 := qN.frozen 1
          obtain ⟨r1, r2⟩ := H.out.stored q2 q1 q3 (by rw [List.length_append]; have := HL.out; simp; omega)
          have R1 := Lib.hid r1
          have R2 := Lib.hid r2
          have Q3 := Lib.hid q3
          have Q5 := Lib.hid (show ∀ j, bvn.ownBlock = some j → w2.heap.size ≤ j from fun j hj => (World.ownsRow.lt (show Own _ w2.heap.size 5 bvn (bytes b) from q4) j hj).1)
          clear r1 r2 q1 q2 q3 qN q4
          go_wp2_with fail
          go_ret
          exact ⟨rfl, HDS.out w2 _ _ bvn (Gr.trans G0.out G2.out) R1.out R2.out Q3.out Q5.out⟩
        · have hno : ¬ ∃ g cap', Value.slice a L cap = .slice (some ⟨g, 0, Option.none⟩) L cap' ∧ L + 1 ≤ cap' := fun ⟨g, cap', e, h9⟩ => by
            injection e with e1 e2 e3
            exact hroom ⟨g, cap', e1, e3, h9⟩
          clear hroom
          have HNO := Lib.hid hno
          clear hno
          have SLG : Hid (∀ W, Gr w2.drew W → Sl W (.slice ab b.length cb) (bytes b)) := Lib.hid fun W hW => HB2.out.below (Gr.trans ((Gr.refl w2).drew) hW)
          apply wp_region_draw_tail 9 (.eq _ :: .eq _ :: .eq _ :: .eq _ :: .eq _ :: .eq _ :: .ok (OwnW w2.heap.size ⟨(a1, a2), (b1, b2), b⟩) :: .ok (NewRow w2.heap.size ⟨(a1, a2), (b1, b2), b⟩ (KOwn w2.heap.size b)) :: .ok (LongRow w2.heap.size base ps ⟨(a1, a2), (b1, b2), b⟩ (KOwn w2.heap.size b)) :: []) (by kernel_rfl) (by kernel_rfl) ⟨OwnW.mono _ _, NewRow.mono _ _ (KOwn.mono _ _), LongRow.mono _ _ _ _ (KOwn.mono _ _), trivial⟩
          apply wpG_eq
          · intro W hW hs
            unfold opG
            go_simp
            first | exact resG_eq_mk _ _ _ | rfl
          simp only [Act.put, List.setIfInBounds_toArray, List.set_cons_zero, List.set_cons_succ]
          apply wpG_eq
          · intro W hW hs
            unfold opG
            go_simp
            first | exact resG_eq_mk _ _ _ | rfl
          simp only [Act.put, List.setIfInBounds_toArray, List.set_cons_zero, List.set_cons_succ]
          apply wpG_eq
          · intro W hW hs
            unfold opG
            go_simp
            first | exact resG_eq_mk _ _ _ | rfl
          simp only [Act.put, List.setIfInBounds_toArray, List.set_cons_zero, List.set_cons_succ]
          apply wpG_eq
          · intro W hW hs
            unfold opG
            go_simp
            first | exact resG_eq_mk _ _ _ | rfl
          simp only [Act.put, List.setIfInBounds_toArray, List.set_cons_zero, List.set_cons_succ]
          apply wpG_eq
          · intro W hW hs
            have y1' := hW.drew0 y1
            unfold opG
            go_simp
            first | exact resG_eq_mk _ _ _ | rfl
          simp only [Act.put, List.setIfInBounds_toArray, List.set_cons_zero, List.set_cons_succ]
          apply wpG_eq
          · intro W hW hs
            have y2' := hW.drew0 y2
            have y3' := hW.drew0 y3
            have y5' := hW.drew0 y5
            have y6' := hW.drew0 y6
            have y7' := hW.drew0 y7
            unfold opG
            go_simp
            first | exact resG_eq_mk _ _ _ | rfl
          simp only [Act.put, List.setIfInBounds_toArray, List.set_cons_zero, List.set_cons_succ]
          apply wpG_ok
          · intro W hW hs
            have g1 : w2.heap.size ≤ W.heap.size := hW.size
            have hsl := SLG.out W hW
            unfold opG
            go_simp
            refine resG_call ((own_any W ⟨(a1, a2), (b1, b2), b⟩ _ hsl (by omega)).mono ?_)
            rintro e W2 ⟨bv', rfl, ho, hg⟩
            exact ⟨_, rfl, hg, bv', rfl, ho.mono g1⟩
          intro vo
          simp only [Act.put, List.setIfInBounds_toArray, List.set_cons_zero, List.set_cons_succ]
          apply wpG_ok
          · intro W hW hs
            obtain ⟨bv', rfl, ho⟩ := hs _ (.head _) rfl
            unfold letV
            unfold opG
            go_simp
            refine resG_mk ((Gr.refl _).alloc _) ?_
            exact ⟨W.heap.size, bv', rfl, hW.size, CellsAt.new W _ 35, KOwn.mono _ _ _ _ _ ((Gr.refl W).alloc _) ho⟩
          intro vy
          simp only [Act.put, List.setIfInBounds_toArray, List.set_cons_zero, List.set_cons_succ]
          apply wpG_ok
          · intro W hW hs
            have hy : NewRow w2.heap.size ⟨(a1, a2), (b1, b2), b⟩ (KOwn w2.heap.size b) vy W := hs _ (.head _) rfl
            obtain ⟨v9, w9, hr9, hi9, hc9⟩ := app_new H.out.lets hW (by rw [← HL.out]; exact HNO.out) (KOwn.mono _ _) hy (fun bv hb => Own.mono (show Own _ w2.heap.size 5 bv (bytes b) from hb) H.out.bB) (by have := HL.out; omega) H.out.bB
            exact opG_run_append hr9 rfl _ _ rfl rfl rfl hc9 hi9
          intro vz
          simp only [Act.put, List.setIfInBounds_toArray, List.set_cons_zero, List.set_cons_succ]
          apply wpG_nil
          intro wq hW hsAll
          have hz : LongRow w2.heap.size base ps ⟨(a1, a2), (b1, b2), b⟩ (KOwn w2.heap.size b) vz wq := hsAll _ (.head _)
          obtain ⟨bvn, q4, ⟨az, cz, rfl⟩, q1, q3'⟩ := hz
          rw [← HL.out] at q1 q3' ⊢
          have q2 : Ch (fun j => (Value.slice a L cap).ownBlock = some j) w2 wq := Ch.of_gr (Gr.trans ((Gr.refl w2).drew) hW)
          have q3 : ∀ j, (Value.slice az (L + 1) cz).ownBlock = some j → (Value.slice a L cap).ownBlock = some j ∨ w2.heap.size ≤ j := fun j hj => .inr (q3' j hj)
          clear hsAll hW q3'
          have qN := HN.out.ch q2 (fun e => H.out.NR.1 e)
          have k1 := qN.cell 1
          have k2 := qN.frozen 1
          obtain ⟨r1, r2⟩ := H.out.stored q2 q1 q3 (by rw [List.length_append]; have := HL.out; simp; omega)
          have R1 := Lib.hid r1
          have R2 := Lib.hid r2
          have Q3 := Lib.hid q3
          have Q5 := Lib.hid (show ∀ j, bvn.ownBlock = some j → w2.heap.size ≤ j from fun j hj => (World.ownsRow.lt (show Own _ w2.heap.size 5 bvn (bytes b) from q4) j hj).1)
          clear r1 r2 q1 q2 q3 qN q4
          go_wp2_with fail
          go_ret
          exact ⟨rfl, HDS.out w2 _ _ bvn (Gr.trans G0.out G2.out) R1.out R2.out Q3.out Q5.out⟩
theorem send_any {w : World} {base N M n : Nat} {lv : Value} {ps : List (LetD × Value)} {sizes : List Int} {cut : AdD × AdD → Bool} (h : NetIs w base N M n lv ps sizes cut) (l : LetD) (bv : Value) (hb : Sl w bv (bytes l.b)) (hl : l.b.length ≤ 140737488355328) (hne : l.b ≠ [] → ∀ j, bv.ownBlock = some j → lv.ownBlock ≠ some j) :
    Calls Try.prog 10 #[.pointer (some ⟨N, 0, Option.none⟩), letV l bv] w fun e w' => e = .returned (.int .i64 (sendE sizes ps.length l)) ∧
      Did w base N M n lv sizes cut (if sendE sizes ps.length l = 0 then ps.map Prod.fst ++ [l] else ps.map Prod.fst) w' :=
  (send_any5 h l bv hb hl hne).mono fun e w' ⟨h1, lv', ps', k1, k2, k3, k4, _⟩ => ⟨h1, lv', ps', k1, k2, k3, k4⟩
end Go.Proofs.Ytcpkbngoecpnkaa
