/-
  Package net: Hold.
-/
import Derived.Test.YtcpkbngoecpnkaaNet7
set_option linter.unusedVariables false
namespace Go.Proofs.Ytcpkbngoecpnkaa
open Go.RowKit

def holdL (ls : List LetD) (i : Int) : List LetD := if mayV i ls.length = 0 then ls.eraseIdx i.toNat ++ (ls[i.toNat]?).toList else ls
set_option maxHeartbeats 2000000 in
set_option maxRecDepth 100000 in
/-- (*Net).Hold -/
theorem hold_any {w : World} {base N M n : Nat} {lv : Value} {ps : List (LetD × Value)} {sizes : List Int} {cut : AdD × AdD → Bool} (h : NetIs w base N M n lv ps sizes cut) (i : Int) :
    Calls Try.prog 11 #[.pointer (some ⟨N, 0, Option.none⟩), .int .i64 i] w fun e w' => e = .returned (.int .i64 (mayV i ps.length)) ∧
      Did w base N M n lv sizes cut (holdL (ps.map Prod.fst) i) w' := by
  have hmay := may_any h i
  obtain ⟨ls', hls⟩ : ∃ l, l = holdL (ps.map Prod.fst) i := ⟨_, rfl⟩
  rw [← hls]
  unfold holdL at hls
  rw [List.length_map] at hls
  rcases mayV_or i ps.length with hm | hm
  · obtain ⟨k, rfl, hk⟩ := mayV_lt hm
    have ho := out_any h k hk
    have hown := h.lets.own _ (List.getElem_mem hk)
    rw [if_pos hm, show (k : Int).toNat = k by omega, ← map_erase, List.getElem?_map, List.getElem?_eq_getElem hk] at hls
    obtain ⟨x, hx⟩ : ∃ x, x = ps[k]'hk := ⟨_, rfl⟩
    rw [← hx] at hls hown ho
    obtain ⟨⟨⟨a1, a2⟩, ⟨b1, b2⟩, b⟩, bv⟩ := x
    simp only at hls hown ho
    obtain ⟨av, nv, cv, rfl⟩ := hown.sh
    rw [hm] at hmay ⊢
    have hlen1 : (ps.eraseIdx k).length < 4096 := by rw [List.length_eraseIdx_of_lt hk]; have := h.len; omega
    obtain ⟨ps1, hps1⟩ : ∃ p, p = ps.eraseIdx k := ⟨_, rfl⟩
    rw [← hps1] at hls ho hlen1
    have hsz := h.bB
    have hls2 : ls' = (ps1 ++ [((⟨(a1, a2), (b1, b2), b⟩ : LetD), Value.slice av nv cv)]).map Prod.fst := by rw [hls]; simp
    have HLS := Lib.hid hls2
    have HMAY := Lib.hid hmay
    have HO := Lib.hid ho
    have HOWN := Lib.hid hown
    have H0 := Lib.hid h
    clear hmay ho hm h hown hx hls hls2 hk hps1
    unfold letV at HO
    go_enter Try.func11, Try.ntmps11
    go_wp2_with fail
    refine HMAY.out.mono ?_
    rintro e w1 ⟨rfl, hw1⟩
    rw [hw1]
    clear hw1 w1
    go_wp2_with fail
    refine HO.out.mono ?_
    rintro e w2 ⟨rfl, lv', h1, h2, h3⟩
    go_upto_region 4 with fail
    obtain ⟨w3, hw3⟩ : ∃ w3, w3 = w2.alloc (.cells #[.int .i64 a1, .int .i64 a2, .int .i64 b1, .int .i64 b2, .slice av nv cv] 35) := ⟨_, rfl⟩
    have g3 : Gr w2 w3 := by rw [hw3]; exact (Gr.refl w2).alloc _
    have cA : CellsAt w3 w2.heap.size #[.int .i64 a1, .int .i64 a2, .int .i64 b1, .int .i64 b2, .slice av nv cv] 35 := by rw [hw3]; exact CellsAt.new _ _ _
    rw [← hw3]
    clear hw3
    have ow3 := ((HOWN.out.kb (.inl rfl) (H0.out.kb h2)).gr g3)
    have h1' := h1.gr g3
    have HB2 : Hid (∀ j, netB N M lv' j → j < w2.heap.size) := Lib.hid fun j hj => (h1.ltB j hj).2
    have C3 := Lib.hid cA
    have OW3 := Lib.hid ow3
    have H := Lib.hid h1'
    have HC := Lib.hid (And.intro (h2.transN (Ch.of_gr (ρ := fun _ => False) g3) (fun j hj _ => hj.elim)) (And.intro h3 (show w.heap.size ≤ w3.heap.size from Nat.le_trans h2.size g3.size)))
    obtain ⟨a, cap, rfl⟩ := h1.lets.shape
    obtain ⟨sv, hN, _⟩ := h1'.obj
    have HNN := Lib.hid hN
    obtain ⟨L, hL⟩ : ∃ L, L = ps1.length := ⟨_, rfl⟩
    rw [← hL] at H HNN HB2 hlen1 HC
    have HL := Lib.hid hL
    have hln2 : L < 4096 := hlen1
    clear h1 h2 h3 g3 cA ow3 h1' hN hL hlen1
    have y1 := HNN.out.cell 1
    have y2 := C3.out.cell 0
    have y3 := C3.out.cell 1
    have y5 := C3.out.cell 2
    have y6 := C3.out.cell 3
    have y7 := C3.out.cell 4
    have HBK : Hid (∀ j, netB N M (.slice a L cap) j → j < w.heap.size → netB N M lv j) := Lib.hid fun j hj hlt => hj.elim .inl (fun h9 => h9.elim (fun e => .inr (.inl e)) (fun e => (HC.out.2.1 j e).elim (fun e => .inr (.inr e)) (fun e => by omega)))
    skip
    by_cases hroom : ∃ g cap', a = some ⟨g, 0, Option.none⟩ ∧ cap = cap' ∧ L + 1 ≤ cap'
    · obtain ⟨g, cap', rfl, rfl, hcap⟩ := hroom
      have hgl : g < w3.heap.size := (H.out.lets.lt g rfl).2
      have hgN : N ≠ g := fun e => H.out.NR.1 (by rw [e]; rfl)
      have hgc := H.out.lets.cells g rfl
      have HCAP := Lib.hid hcap
      clear hcap
      have hgw : g ≠ w2.heap.size := fun e => by have := HB2.out g (.inr (.inr rfl)); omega
      have y2n : ¬ w2.heap.size = g := fun e => hgw e.symm
      have y3n : ¬ w2.heap.size = g := fun e => hgw e.symm
      have y5n : ¬ w2.heap.size = g := fun e => hgw e.symm
      have y6n : ¬ w2.heap.size = g := fun e => hgw e.symm
      have y7n : ¬ w2.heap.size = g := fun e => hgw e.symm
      have y1n : ¬ N = g := hgN
      have KBR : Hid (∀ W, Ch (fun j => j = g) w3.drew W → Kb w3 W) := Lib.hid fun W hW => Kb.ch hW.drewL (fun j cs t fr hj hc => by
        have e9 : j = g := hj
        obtain ⟨cs9, hc9⟩ := hgc
        subst e9
        rw [cells_type hc hc9]
        exact ⟨by decide, by decide⟩)
      apply wp_region_draw_turnTail 8 (fun j => j = g) (fun j W => (j ≤ 0 → W.heap[g]? = w3.heap[g]?) ∧ (j = 1 → ∃ bv, (KEq (Value.slice av nv cv)) bv W ∧ LetsR W base (.slice (some ⟨g, 0, Option.none⟩) (L + 1) cap) (ps1 ++ [(⟨(a1, a2), (b1, b2), b⟩, bv)]))) (.eq _ :: .eq _ :: .eq _ :: .eq _ :: .eq _ :: .eq _ :: .ok (NewRow w3.heap.size ⟨(a1, a2), (b1, b2), b⟩ (KEq (Value.slice av nv cv))) :: .useEq (.slice (some ⟨g, 0, Option.none⟩) (L + 1) cap) :: []) (by kernel_rfl) (by kernel_rfl) ⟨NewRow.monoT _ _ g hgl (KEq.monoT _ _), trivial⟩
        (fun k W W' hg h => ⟨fun e => (hg.block g (Array.getElem?_eq_some_iff.1 ((h.1 e).trans hgc.choose_spec)).1).trans (h.1 e), fun e => by obtain ⟨bv, k1, k2⟩ := h.2 e; exact ⟨bv, (KEq.mono _) _ _ _ hg k1, k2.gr hg⟩⟩) ⟨fun _ => rfl, fun e => absurd e (by decide)⟩
      apply wpT_eq
      · intro W hW hs
        unfold opT
        go_simp
        first | exact resT_eq_mk _ _ _ | rfl
      simp only [Act.put, List.setIfInBounds_toArray, List.set_cons_zero, List.set_cons_succ]
      apply wpT_eq
      · intro W hW hs
        unfold opT
        go_simp
        first | exact resT_eq_mk _ _ _ | rfl
      simp only [Act.put, List.setIfInBounds_toArray, List.set_cons_zero, List.set_cons_succ]
      apply wpT_eq
      · intro W hW hs
        unfold opT
        go_simp
        first | exact resT_eq_mk _ _ _ | rfl
      simp only [Act.put, List.setIfInBounds_toArray, List.set_cons_zero, List.set_cons_succ]
      apply wpT_eq
      · intro W hW hs
        unfold opT
        go_simp
        first | exact resT_eq_mk _ _ _ | rfl
      simp only [Act.put, List.setIfInBounds_toArray, List.set_cons_zero, List.set_cons_succ]
      apply wpT_eq
      · intro W hW hs
        have y1' := hW.drew0 y1 y1n
        unfold opT
        go_simp
        first | exact resT_eq_mk _ _ _ | rfl
      simp only [Act.put, List.setIfInBounds_toArray, List.set_cons_zero, List.set_cons_succ]
      apply wpT_eq
      · intro W hW hs
        have y2' := hW.drew0 y2 y2n
        have y3' := hW.drew0 y3 y3n
        have y5' := hW.drew0 y5 y5n
        have y6' := hW.drew0 y6 y6n
        have y7' := hW.drew0 y7 y7n
        unfold opT
        go_simp
        first | exact resT_eq_mk _ _ _ | rfl
      simp only [Act.put, List.setIfInBounds_toArray, List.set_cons_zero, List.set_cons_succ]
      apply wpT_ok
      · intro W hW hs
        unfold opT
        go_simp
        refine resT_mk ((Gr.refl _).alloc _) ?_
        exact ⟨W.heap.size, _, rfl, hW.size, CellsAt.new W _ 35, rfl⟩
      intro vy
      simp only [Act.put, List.setIfInBounds_toArray, List.set_cons_zero, List.set_cons_succ]
      apply wpT_useEq
      · intro W hW hS hs
        have hy : NewRow w3.heap.size ⟨(a1, a2), (b1, b2), b⟩ (KEq (Value.slice av nv cv)) vy W := hs _ (.head _) rfl
        obtain ⟨w9, hr9, ⟨bv9, hi9⟩, hc9⟩ := app_room H.out.lets hW (hS.1 (by decide)) (by rw [← HL.out]) (by rw [← HL.out]; exact HCAP.out) (KEq.monoT _ _) hy (fun bv hb => by rw [show bv = Value.slice av nv cv from hb]; exact OW3.out.kb (.inl rfl) (KBR.out _ hW)) (by have := HL.out; omega) H.out.bB
        rw [← HL.out] at hr9 hi9
        exact opT_run_append hr9 rfl _ _ rfl rfl rfl ⟨hc9, ⟨fun e => absurd e (by decide), fun _ => ⟨bv9, hi9⟩⟩⟩ rfl
      simp only [Act.put, List.setIfInBounds_toArray, List.set_cons_zero, List.set_cons_succ]
      apply wpT_nil
      intro wq hW hS hsAll
      obtain ⟨bvn, q4, q1⟩ := hS.2 rfl
      have q2 : Ch (fun j => (Value.slice (some ⟨g, 0, Option.none⟩) L cap).ownBlock = some j) w3 wq := (hW.drewL).mono (fun k hk => by have e : k = g := hk; rw [e]; rfl)
      have q3 : ∀ j, ((.slice (some ⟨g, 0, Option.none⟩) (L + 1) cap) : Value).ownBlock = some j → (Value.slice (some ⟨g, 0, Option.none⟩) L cap).ownBlock = some j ∨ w3.heap.size ≤ j := fun j hj => .inl hj
      clear hsAll hS hW
      have qN := HNN.out.ch q2 (fun e => H.out.NR.1 e)
      have k1 := qN.cell 1
      have k2 := qN.frozen 1
      obtain ⟨r1, r2⟩ := H.out.stored q2 q1 q3 (by rw [List.length_append]; have := HL.out; simp; omega)
      have R1 := Lib.hid r1
      have R2 := Lib.hid r2
      have Q3 := Lib.hid q3
      clear r1 r2 q1 q2 q3 qN
      go_wp2_with fail
      go_ret
      have eb : bvn = Value.slice av nv cv := q4
      rw [eb] at R1
      exact ⟨rfl, _, _, R1.out, HLS.out.symm, HC.out.1.transN R2.out (fun j hj hlt => HBK.out j hj hlt), fun j hj => (Q3.out j hj).elim (fun e => HC.out.2.1 j e) (fun e => .inr (Nat.le_trans HC.out.2.2 e))⟩
    · have hno : ¬ ∃ g cap', Value.slice a L cap = .slice (some ⟨g, 0, Option.none⟩) L cap' ∧ L + 1 ≤ cap' := fun ⟨g, cap', e, h9⟩ => by
        injection e with e1 e2 e3
        exact hroom ⟨g, cap', e1, e3, h9⟩
      clear hroom
      have HNO := Lib.hid hno
      clear hno
      have KBR : Hid (∀ W, Gr w3.drew W → Kb w3 W) := Lib.hid fun W hW => Kb.gr (Gr.trans ((Gr.refl w3).drew) hW)
      apply wp_region_draw_tail 8 (.eq _ :: .eq _ :: .eq _ :: .eq _ :: .eq _ :: .eq _ :: .ok (NewRow w3.heap.size ⟨(a1, a2), (b1, b2), b⟩ (KEq (Value.slice av nv cv))) :: .ok (LongRow w3.heap.size base ps1 ⟨(a1, a2), (b1, b2), b⟩ (KEq (Value.slice av nv cv))) :: []) (by kernel_rfl) (by kernel_rfl) ⟨NewRow.mono _ _ (KEq.mono _), LongRow.mono _ _ _ _ (KEq.mono _), trivial⟩
      apply wpG_eq
      · intro W hW hs
        unfold opG
        go_simp
        first | exact resG_eq_mk _ _ _ | rfl
      simp only [Act.put, List.setIfInBounds_toArray, List.set_cons_zero, List.set_cons_succ]
      apply wpG_eq
      · intro W hW hs
        unfold opG
        go_simp
        first | exact resG_eq_mk _ _ _ | rfl
      simp only [Act.put, List.setIfInBounds_toArray, List.set_cons_zero, List.set_cons_succ]
      apply wpG_eq
      · intro W hW hs
        unfold opG
        go_simp
        first | exact resG_eq_mk _ _ _ | rfl
      simp only [Act.put, List.setIfInBounds_toArray, List.set_cons_zero, List.set_cons_succ]
      apply wpG_eq
      · intro W hW hs
        unfold opG
        go_simp
        first | exact resG_eq_mk _ _ _ | rfl
      simp only [Act.put, List.setIfInBounds_toArray, List.set_cons_zero, List.set_cons_succ]
      apply wpG_eq
      · intro W hW hs
        have y1' := hW.drew0 y1
        unfold opG
        go_simp
        first | exact resG_eq_mk _ _ _ | rfl
      simp only [Act.put, List.setIfInBounds_toArray, List.set_cons_zero, List.set_cons_succ]
      apply wpG_eq
      · intro W hW hs
        have y2' := hW.drew0 y2
        have y3' := hW.drew0 y3
        have y5' := hW.drew0 y5
        have y6' := hW.drew0 y6
        have y7' := hW.drew0 y7
        unfold opG
        go_simp
        first | exact resG_eq_mk _ _ _ | rfl
      simp only [Act.put, List.setIfInBounds_toArray, List.set_cons_zero, List.set_cons_succ]
      apply wpG_ok
      · intro W hW hs
        unfold opG
        go_simp
        refine resG_mk ((Gr.refl _).alloc _) ?_
        exact ⟨W.heap.size, _, rfl, hW.size, CellsAt.new W _ 35, rfl⟩
      intro vy
      simp only [Act.put, List.setIfInBounds_toArray, List.set_cons_zero, List.set_cons_succ]
      apply wpG_ok
      · intro W hW hs
        have hy : NewRow w3.heap.size ⟨(a1, a2), (b1, b2), b⟩ (KEq (Value.slice av nv cv)) vy W := hs _ (.head _) rfl
        obtain ⟨v9, w9, hr9, hi9, hc9⟩ := app_new H.out.lets hW (by rw [← HL.out]; exact HNO.out) (KEq.mono _) hy (fun bv hb => by rw [show bv = Value.slice av nv cv from hb]; exact OW3.out.kb (.inl rfl) (KBR.out _ hW)) (by have := HL.out; omega) H.out.bB
        exact opG_run_append hr9 rfl _ _ rfl rfl rfl hc9 hi9
      intro vz
      simp only [Act.put, List.setIfInBounds_toArray, List.set_cons_zero, List.set_cons_succ]
      apply wpG_nil
      intro wq hW hsAll
      have hz : LongRow w3.heap.size base ps1 ⟨(a1, a2), (b1, b2), b⟩ (KEq (Value.slice av nv cv)) vz wq := hsAll _ (.head _)
      obtain ⟨bvn, q4, ⟨az, cz, rfl⟩, q1, q3'⟩ := hz
      rw [← HL.out] at q1 q3' ⊢
      have q2 : Ch (fun j => (Value.slice a L cap).ownBlock = some j) w3 wq := Ch.of_gr (Gr.trans ((Gr.refl w3).drew) hW)
      have q3 : ∀ j, (Value.slice az (L + 1) cz).ownBlock = some j → (Value.slice a L cap).ownBlock = some j ∨ w3.heap.size ≤ j := fun j hj => .inr (q3' j hj)
      clear hsAll hW q3'
      have qN := HNN.out.ch q2 (fun e => H.out.NR.1 e)
      have k1 := qN.cell 1
      have k2 := qN.frozen 1
      obtain ⟨r1, r2⟩ := H.out.stored q2 q1 q3 (by rw [List.length_append]; have := HL.out; simp; omega)
      have R1 := Lib.hid r1
      have R2 := Lib.hid r2
      have Q3 := Lib.hid q3
      clear r1 r2 q1 q2 q3 qN
      go_wp2_with fail
      go_ret
      have eb : bvn = Value.slice av nv cv := q4
      rw [eb] at R1
      exact ⟨rfl, _, _, R1.out, HLS.out.symm, HC.out.1.transN R2.out (fun j hj hlt => HBK.out j hj hlt), fun j hj => (Q3.out j hj).elim (fun e => HC.out.2.1 j e) (fun e => .inr (Nat.le_trans HC.out.2.2 e))⟩
  · have HD := Lib.hid (show Did w base N M n lv sizes cut ls' w from ⟨lv, ps, h, by rw [hls, if_neg (by rw [hm]; decide)], Ch.refl _, fun j hj => .inl hj⟩)
    rw [hm] at hmay ⊢
    have HMAY := Lib.hid hmay
    clear hmay hm h hls
    go_enter Try.func11, Try.ntmps11
    go_wp2_with fail
    refine HMAY.out.mono ?_
    rintro e w1 ⟨rfl, hw1⟩
    rw [hw1]
    clear hw1 w1
    go_wp2_with fail
    go_ret
    exact ⟨rfl, HD.out⟩
end Go.Proofs.Ytcpkbngoecpnkaa
