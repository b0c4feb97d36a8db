/-
  Package net: Double.
-/
import Derived.Test.YtcpkbngoecpnkaaNet3
set_option linter.unusedVariables false
namespace Go.Proofs.Ytcpkbngoecpnkaa
open Go.RowKit
def doubleE (n : Nat) (i : Int) : Int := if mayV i n = 0 then (if 4096 ≤ n then 4 else 0) else 1
theorem mayV_or (i : Int) (n : Nat) : mayV i n = 0 ∨ mayV i n = 1 := by unfold mayV; split <;> (try split) <;> simp
theorem mayV_lt {i : Int} {n : Nat} (h : mayV i n = 0) : ∃ k : Nat, i = (k : Int) ∧ k < n := by
  unfold mayV at h
  split at h
  · cases h
  · split at h
    · cases h
    · exact ⟨i.toNat, by omega, by omega⟩

set_option maxHeartbeats 2000000 in
set_option maxRecDepth 100000 in
/-- (*Net).Double -/
theorem double_any {w : World} {base N M n : Nat} {lv : Value} {ps : List (LetD × Value)} {sizes : List Int} {cut : AdD × AdD → Bool} (h : NetIs w base N M n lv ps sizes cut) (i : Int) (hlet : ∀ p ∈ ps, p.1.b.length ≤ 2097152) :
    Calls Try.prog 28 #[.pointer (some ⟨N, 0, Option.none⟩), .int .i64 i] w fun e w' => e = .returned (.int .i64 (doubleE ps.length i)) ∧
      Did w base N M n lv sizes cut (if doubleE ps.length i = 0 then ps.map Prod.fst ++ ((ps.map Prod.fst)[i.toNat]?).toList else ps.map Prod.fst) w' := by
  obtain ⟨ls', hls⟩ : ∃ l, l = (if doubleE ps.length i = 0 then ps.map Prod.fst ++ ((ps.map Prod.fst)[i.toNat]?).toList else ps.map Prod.fst) := ⟨_, rfl⟩
  rw [← hls]
  have hd0 : doubleE ps.length i ≠ 0 → Did w base N M n lv sizes cut ls' w := fun he => ⟨lv, ps, h, by rw [hls, if_neg he], Ch.refl _, fun j hj => .inl hj⟩
  have HD0 := Lib.hid hd0
  clear hd0
  have hmay := may_any h i
  have hln := h.len
  obtain ⟨sv, hN, _⟩ := h.obj
  have H := Lib.hid h
  rcases mayV_or i ps.length with hm | hm
  · obtain ⟨k, rfl, hk⟩ := mayV_lt hm
    obtain ⟨g, cap, hlv, _, _, q0, q1, q2, q3, q4, hown⟩ := h.lets.at k hk
    obtain ⟨x, hx⟩ : ∃ x, x = ps[k]'hk := ⟨_, rfl⟩
    rw [← hx] at q0 q1 q2 q3 q4 hown
    have hxl : x.1.b.length ≤ 2097152 := by rw [hx]; exact hlet _ (List.getElem_mem hk)
    have hget : ((ps.map Prod.fst)[(k : Int).toNat]?).toList = [x.1] := by
      rw [show (k : Int).toNat = k by omega, List.getElem?_map, List.getElem?_eq_getElem hk, ← hx]; rfl
    obtain ⟨⟨⟨a1, a2⟩, ⟨b1, b2⟩, b⟩, bv⟩ := x
    simp only at q0 q1 q2 q3 q4 hown hxl hget
    have hdS : ∀ w' lv' bv', NetIs w' base N M n lv' (ps ++ [(⟨(a1, a2), (b1, b2), b⟩, bv')]) sizes cut → Ch (netB N M lv) w w' → (∀ j, lv'.ownBlock = some j → lv.ownBlock = some j ∨ w.heap.size ≤ j) → doubleE ps.length (k : Int) = 0 → Did w base N M n lv sizes cut ls' w' := fun w' lv' bv' h1 h2 h3 he =>
      ⟨lv', _, h1, by rw [hls, if_pos he, hget]; simp, h2, h3⟩
    have HDS := Lib.hid hdS
    clear hdS
    subst hlv
    have hde : doubleE ps.length (k : Int) = if 4096 ≤ ps.length then 4 else 0 := by unfold doubleE; rw [if_pos hm]
    obtain ⟨av, nv, cv, rfl⟩ := hown.sh
    have HOWN := Lib.hid hown
    clear hown hx hget hls
    obtain ⟨L, hL⟩ : ∃ L, L = ps.length := ⟨_, rfl⟩
    rw [← hL] at hN H HD0 HDS hmay hde hk hln hm ⊢
    rw [hm] at hmay
    have HL := Lib.hid hL
    have HMAY := Lib.hid hmay
    have HNN := Lib.hid hN
    clear hL hmay hN h hlet
    obtain ⟨z, hz⟩ : ∃ z, z = doubleE L (k : Int) := ⟨_, rfl⟩
    rw [← hz]
    rw [← hz] at hde HD0 HDS
    clear hz hm
    have y1 := HNN.out.cell 1
    by_cases hfull : 4096 ≤ L
    · obtain rfl : z = 4 := by rw [hde, if_pos hfull]
      clear hde hln HDS
      have HD := Lib.hid (HD0.out (by decide))
      go_enter Try.func28, Try.ntmps28
      go_wp2_with fail
      refine HMAY.out.mono ?_
      rintro e w1 ⟨rfl, hw1⟩
      rw [hw1]
      clear hw1 w1
      go_wp2_with fail
      go_ret
      exact ⟨rfl, HD.out⟩
    · obtain rfl : z = 0 := by rw [hde, if_neg hfull]
      clear hde hln
      have HZ : Hid ((0 : Int) = 0) := Lib.hid rfl
      have hln2 : L < 4096 := by omega
      go_enter Try.func28, Try.ntmps28
      go_wp2_with fail
      refine HMAY.out.mono ?_
      rintro e w1 ⟨rfl, hw1⟩
      rw [hw1]
      clear hw1 w1
      have hk0 : (0 : Int) ≤ (k : Int) := by omega
      have hk1 : (k : Int) < (L : Int) := by omega
      go_upto_region 6 with fail
      by_cases hcap : L + 1 ≤ cap
      · have hgl : g < w.heap.size := (H.out.lets.lt g rfl).2
        have hgN : N ≠ g := fun e => H.out.NR.1 (by rw [e]; rfl)
        have hgc := H.out.lets.cells g rfl
        have HCAP := Lib.hid hcap
        clear hcap
        have y1n : ¬ N = g := hgN
        have SLT : Hid (∀ W, Ch (fun j => j = g) w.drew W → Sl W (.slice av nv cv) (bytes b)) := Lib.hid fun W hW => ((HOWN.out.gr ((Gr.refl w).drew)).kb (.inl rfl) (Kb.ch hW (fun j cs t fr hj hc => by
          have e9 : j = g := hj
          obtain ⟨cs9, hc9⟩ := hgc
          subst e9
          rw [cells_type hc hc9]
          exact ⟨by decide, by decide⟩))).sl
        apply wp_region_draw_turnTail 15 (fun j => j = g) (fun j W => (j ≤ 1 → W.heap[g]? = w.heap[g]?) ∧ (j = 2 → ∃ bv, (KOwn w.heap.size b) bv W ∧ LetsR W base (.slice (some ⟨g, 0, Option.none⟩) (L + 1) cap) (ps ++ [(⟨(a1, a2), (b1, b2), b⟩, bv)]))) (.eq _ :: .eq _ :: .eq _ :: .eq _ :: .eq _ :: .eq _ :: .eq _ :: .eq _ :: .eq _ :: .eq _ :: .eq _ :: .useEq _ :: .ok (OwnW w.heap.size ⟨(a1, a2), (b1, b2), b⟩) :: .ok (NewRow w.heap.size ⟨(a1, a2), (b1, b2), b⟩ (KOwn w.heap.size b)) :: .useEq (.slice (some ⟨g, 0, Option.none⟩) (L + 1) cap) :: []) (by kernel_rfl) (by kernel_rfl) ⟨OwnW.monoT _ _ g hgl, NewRow.monoT _ _ g hgl (KOwn.monoT _ _ g hgl), trivial⟩
          (fun k W W' hg h => ⟨fun e => (hg.block g (Array.getElem?_eq_some_iff.1 ((h.1 e).trans hgc.choose_spec)).1).trans (h.1 e), fun e => by obtain ⟨bv, k1, k2⟩ := h.2 e; exact ⟨bv, (KOwn.mono _ _) _ _ _ hg k1, k2.gr hg⟩⟩) ⟨fun _ => rfl, fun e => absurd e (by decide)⟩
        apply wpT_eq
        · intro W hW hs
          unfold opT
          go_simp
          first | exact resT_eq_mk _ _ _ | rfl
        simp only [Act.put, List.setIfInBounds_toArray, List.set_cons_zero, List.set_cons_succ]
        apply wpT_eq
        · intro W hW hs
          unfold opT
          go_simp
          first | exact resT_eq_mk _ _ _ | rfl
        simp only [Act.put, List.setIfInBounds_toArray, List.set_cons_zero, List.set_cons_succ]
        apply wpT_eq
        · intro W hW hs
          unfold opT
          go_simp
          first | exact resT_eq_mk _ _ _ | rfl
        simp only [Act.put, List.setIfInBounds_toArray, List.set_cons_zero, List.set_cons_succ]
        apply wpT_eq
        · intro W hW hs
          unfold opT
          go_simp
          first | exact resT_eq_mk _ _ _ | rfl
        simp only [Act.put, List.setIfInBounds_toArray, List.set_cons_zero, List.set_cons_succ]
        apply wpT_eq
        · intro W hW hs
          have y1' := hW.drew0 y1 y1n
          unfold opT
          go_simp
          first | exact resT_eq_mk _ _ _ | rfl
        simp only [Act.put, List.setIfInBounds_toArray, List.set_cons_zero, List.set_cons_succ]
        apply wpT_eq
        · intro W hW hs
          unfold opT
          go_simp
          first | exact resT_eq_mk _ _ _ | rfl
        simp only [Act.put, List.setIfInBounds_toArray, List.set_cons_zero, List.set_cons_succ]
        apply wpT_eq
        · intro W hW hs
          unfold opT
          go_simp
          first | exact resT_eq_mk _ _ _ | rfl
        simp only [Act.put, List.setIfInBounds_toArray, List.set_cons_zero, List.set_cons_succ]
        apply wpT_eq
        · intro W hW hs
          unfold opT
          go_simp
          first | exact resT_eq_mk _ _ _ | rfl
        simp only [Act.put, List.setIfInBounds_toArray, List.set_cons_zero, List.set_cons_succ]
        apply wpT_eq
        · intro W hW hs
          have y1' := hW.drew0 y1 y1n
          unfold opT
          go_simp
          first | exact resT_eq_mk _ _ _ | rfl
        simp only [Act.put, List.setIfInBounds_toArray, List.set_cons_zero, List.set_cons_succ]
        apply wpT_eq
        · intro W hW hs
          unfold opT
          go_simp
          first | exact resT_eq_mk _ _ _ | rfl
        simp only [Act.put, List.setIfInBounds_toArray, List.set_cons_zero, List.set_cons_succ]
        apply wpT_eq
        · intro W hW hs
          unfold opT
          go_simp
          first | exact resT_eq_mk _ _ _ | rfl
        simp only [Act.put, List.setIfInBounds_toArray, List.set_cons_zero, List.set_cons_succ]
        apply wpT_useEq
        · intro W hW hS hs
          have q0' := cellB (hS.1 (by decide)) q0
          have q1' := cellB (hS.1 (by decide)) q1
          have q2' := cellB (hS.1 (by decide)) q2
          have q3' := cellB (hS.1 (by decide)) q3
          have q4' := cellB (hS.1 (by decide)) q4
          have HS9 := Lib.hid (hS.1 (by decide))
          clear hS
          unfold opT
          go_simp
          exact ⟨⟨Ch.refl _, ⟨fun _ => (by first | exact HS9.out | exact HS9.out.trans (Array.getElem?_eq_getElem hgl)), fun e => absurd e (by decide)⟩⟩, rfl⟩
        simp only [Act.put, List.setIfInBounds_toArray, List.set_cons_zero, List.set_cons_succ]
        apply wpT_ok
        · intro W hW hs
          have g1 : w.heap.size ≤ W.heap.size := hW.size
          have hsl := SLT.out W hW
          unfold opT
          go_simp
          refine resT_call ((own_any W ⟨(a1, a2), (b1, b2), b⟩ _ hsl (show b.length ≤ _ by omega)).mono ?_)
          rintro e W2 ⟨bv', rfl, ho, hg⟩
          exact ⟨_, rfl, hg, bv', rfl, ho.mono g1⟩
        intro vo
        simp only [Act.put, List.setIfInBounds_toArray, List.set_cons_zero, List.set_cons_succ]
        apply wpT_ok
        · intro W hW hs
          obtain ⟨bv', rfl, ho⟩ := hs _ (.head _) rfl
          unfold letV
          unfold opT
          go_simp
          refine resT_mk ((Gr.refl _).alloc _) ?_
          exact ⟨W.heap.size, bv', rfl, hW.size, CellsAt.new W _ 35, KOwn.mono _ _ _ _ _ ((Gr.refl W).alloc _) ho⟩
        intro vy
        simp only [Act.put, List.setIfInBounds_toArray, List.set_cons_zero, List.set_cons_succ]
        apply wpT_useEq
        · intro W hW hS hs
          have hy : NewRow w.heap.size ⟨(a1, a2), (b1, b2), b⟩ (KOwn w.heap.size b) vy W := hs _ (.head _) rfl
          obtain ⟨w9, hr9, ⟨bv9, hi9⟩, hc9⟩ := app_room H.out.lets hW (hS.1 (by decide)) (by rw [← HL.out]) (by rw [← HL.out]; exact HCAP.out) (KOwn.monoT _ _ g hgl) hy (fun bv hb => Own.mono (show Own _ w.heap.size 5 bv (bytes b) from hb) H.out.bB) (by have := HL.out; omega) H.out.bB
          rw [← HL.out] at hr9 hi9
          exact opT_run_append hr9 rfl _ _ rfl rfl rfl ⟨hc9, ⟨fun e => absurd e (by decide), fun _ => ⟨bv9, hi9⟩⟩⟩ rfl
        simp only [Act.put, List.setIfInBounds_toArray, List.set_cons_zero, List.set_cons_succ]
        apply wpT_nil
        intro wq hW hS hsAll
        obtain ⟨bvn, q4, q1⟩ := hS.2 rfl
        have q2 : Ch (fun j => (Value.slice (some ⟨g, 0, Option.none⟩) L cap).ownBlock = some j) w wq := (hW.drewL).mono (fun k hk => by have e : k = g := hk; rw [e]; rfl)
        have q3 : ∀ j, ((.slice (some ⟨g, 0, Option.none⟩) (L + 1) cap) : Value).ownBlock = some j → (Value.slice (some ⟨g, 0, Option.none⟩) L cap).ownBlock = some j ∨ w.heap.size ≤ j := fun j hj => .inl hj
        clear hsAll hS hW
        have qN := HNN.out.ch q2 (fun e => H.out.NR.1 e)
        have k1 := qN.cell 1
        have k2 := qN.frozen 1
        obtain ⟨r1, r2⟩ := H.out.stored q2 q1 q3 (by rw [List.length_append]; have := HL.out; simp; omega)
        have R1 := Lib.hid r1
        have R2 := Lib.hid r2
        have Q3 := Lib.hid q3
        clear r1 r2 q1 q2 q3 qN q4
        go_wp2_with fail
        go_ret
        exact ⟨rfl, HDS.out _ _ bvn R1.out R2.out Q3.out HZ.out⟩
      · have hno : ¬ ∃ g' cap', Value.slice (some ⟨g, 0, Option.none⟩) L cap = .slice (some ⟨g', 0, Option.none⟩) L cap' ∧ L + 1 ≤ cap' := fun ⟨g', cap', e, h9⟩ => by
          injection e with e1 e2 e3
          rw [← e3] at h9
          exact hcap h9
        clear hcap
        have HNO := Lib.hid hno
        clear hno
        have SLG : Hid (∀ W, Gr w.drew W → Sl W (.slice av nv cv) (bytes b)) := Lib.hid fun W hW => HOWN.out.sl.below (Gr.trans ((Gr.refl w).drew) hW)
        apply wp_region_draw_tail 15 (.eq _ :: .eq _ :: .eq _ :: .eq _ :: .eq _ :: .eq _ :: .eq _ :: .eq _ :: .eq _ :: .eq _ :: .eq _ :: .eq _ :: .ok (OwnW w.heap.size ⟨(a1, a2), (b1, b2), b⟩) :: .ok (NewRow w.heap.size ⟨(a1, a2), (b1, b2), b⟩ (KOwn w.heap.size b)) :: .ok (LongRow w.heap.size base ps ⟨(a1, a2), (b1, b2), b⟩ (KOwn w.heap.size b)) :: []) (by kernel_rfl) (by kernel_rfl) ⟨OwnW.mono _ _, NewRow.mono _ _ (KOwn.mono _ _), LongRow.mono _ _ _ _ (KOwn.mono _ _), trivial⟩
        apply wpG_eq
        · intro W hW hs
          unfold opG
          go_simp
          first | exact resG_eq_mk _ _ _ | rfl
        simp only [Act.put, List.setIfInBounds_toArray, List.set_cons_zero, List.set_cons_succ]
        apply wpG_eq
        · intro W hW hs
          unfold opG
          go_simp
          first | exact resG_eq_mk _ _ _ | rfl
        simp only [Act.put, List.setIfInBounds_toArray, List.set_cons_zero, List.set_cons_succ]
        apply wpG_eq
        · intro W hW hs
          unfold opG
          go_simp
          first | exact resG_eq_mk _ _ _ | rfl
        simp only [Act.put, List.setIfInBounds_toArray, List.set_cons_zero, List.set_cons_succ]
        apply wpG_eq
        · intro W hW hs
          unfold opG
          go_simp
          first | exact resG_eq_mk _ _ _ | rfl
        simp only [Act.put, List.setIfInBounds_toArray, List.set_cons_zero, List.set_cons_succ]
        apply wpG_eq
        · intro W hW hs
          have y1' := hW.drew0 y1
          unfold opG
          go_simp
          first | exact resG_eq_mk _ _ _ | rfl
        simp only [Act.put, List.setIfInBounds_toArray, List.set_cons_zero, List.set_cons_succ]
        apply wpG_eq
        · intro W hW hs
          unfold opG
          go_simp
          first | exact resG_eq_mk _ _ _ | rfl
        simp only [Act.put, List.setIfInBounds_toArray, List.set_cons_zero, List.set_cons_succ]
        apply wpG_eq
        · intro W hW hs
          unfold opG
          go_simp
          first | exact resG_eq_mk _ _ _ | rfl
        simp only [Act.put, List.setIfInBounds_toArray, List.set_cons_zero, List.set_cons_succ]
        apply wpG_eq
        · intro W hW hs
          unfold opG
          go_simp
          first | exact resG_eq_mk _ _ _ | rfl
        simp only [Act.put, List.setIfInBounds_toArray, List.set_cons_zero, List.set_cons_succ]
        apply wpG_eq
        · intro W hW hs
          have y1' := hW.drew0 y1
          unfold opG
          go_simp
          first | exact resG_eq_mk _ _ _ | rfl
        simp only [Act.put, List.setIfInBounds_toArray, List.set_cons_zero, List.set_cons_succ]
        apply wpG_eq
        · intro W hW hs
          unfold opG
          go_simp
          first | exact resG_eq_mk _ _ _ | rfl
        simp only [Act.put, List.setIfInBounds_toArray, List.set_cons_zero, List.set_cons_succ]
        apply wpG_eq
        · intro W hW hs
          unfold opG
          go_simp
          first | exact resG_eq_mk _ _ _ | rfl
        simp only [Act.put, List.setIfInBounds_toArray, List.set_cons_zero, List.set_cons_succ]
        apply wpG_eq
        · intro W hW hs
          have q0' := hW.drew0 q0
          have q1' := hW.drew0 q1
          have q2' := hW.drew0 q2
          have q3' := hW.drew0 q3
          have q4' := hW.drew0 q4
          unfold opG
          go_simp
          first | exact resG_eq_mk _ _ _ | rfl
        simp only [Act.put, List.setIfInBounds_toArray, List.set_cons_zero, List.set_cons_succ]
        apply wpG_ok
        · intro W hW hs
          have g1 : w.heap.size ≤ W.heap.size := hW.size
          have hsl := SLG.out W hW
          unfold opG
          go_simp
          refine resG_call ((own_any W ⟨(a1, a2), (b1, b2), b⟩ _ hsl (show b.length ≤ _ by omega)).mono ?_)
          rintro e W2 ⟨bv', rfl, ho, hg⟩
          exact ⟨_, rfl, hg, bv', rfl, ho.mono g1⟩
        intro vo
        simp only [Act.put, List.setIfInBounds_toArray, List.set_cons_zero, List.set_cons_succ]
        apply wpG_ok
        · intro W hW hs
          obtain ⟨bv', rfl, ho⟩ := hs _ (.head _) rfl
          unfold letV
          unfold opG
          go_simp
          refine resG_mk ((Gr.refl _).alloc _) ?_
          exact ⟨W.heap.size, bv', rfl, hW.size, CellsAt.new W _ 35, KOwn.mono _ _ _ _ _ ((Gr.refl W).alloc _) ho⟩
        intro vy
        simp only [Act.put, List.setIfInBounds_toArray, List.set_cons_zero, List.set_cons_succ]
        apply wpG_ok
        · intro W hW hs
          have hy : NewRow w.heap.size ⟨(a1, a2), (b1, b2), b⟩ (KOwn w.heap.size b) vy W := hs _ (.head _) rfl
          obtain ⟨v9, w9, hr9, hi9, hc9⟩ := app_new H.out.lets hW (by rw [← HL.out]; exact HNO.out) (KOwn.mono _ _) hy (fun bv hb => Own.mono (show Own _ w.heap.size 5 bv (bytes b) from hb) H.out.bB) (by have := HL.out; omega) H.out.bB
          exact opG_run_append hr9 rfl _ _ rfl rfl rfl hc9 hi9
        intro vz
        simp only [Act.put, List.setIfInBounds_toArray, List.set_cons_zero, List.set_cons_succ]
        apply wpG_nil
        intro wq hW hsAll
        have hz : LongRow w.heap.size base ps ⟨(a1, a2), (b1, b2), b⟩ (KOwn w.heap.size b) vz wq := hsAll _ (.head _)
        obtain ⟨bvn, q4, ⟨az, cz, rfl⟩, q1, q3'⟩ := hz
        rw [← HL.out] at q1 q3' ⊢
        have q2 : Ch (fun j => (Value.slice (some ⟨g, 0, Option.none⟩) L cap).ownBlock = some j) w wq := Ch.of_gr (Gr.trans ((Gr.refl w).drew) hW)
        have q3 : ∀ j, (Value.slice az (L + 1) cz).ownBlock = some j → (Value.slice (some ⟨g, 0, Option.none⟩) L cap).ownBlock = some j ∨ w.heap.size ≤ j := fun j hj => .inr (q3' j hj)
        clear hsAll hW q3'
        have qN := HNN.out.ch q2 (fun e => H.out.NR.1 e)
        have k1 := qN.cell 1
        have k2 := qN.frozen 1
        obtain ⟨r1, r2⟩ := H.out.stored q2 q1 q3 (by rw [List.length_append]; have := HL.out; simp; omega)
        have R1 := Lib.hid r1
        have R2 := Lib.hid r2
        have Q3 := Lib.hid q3
        clear r1 r2 q1 q2 q3 qN q4
        go_wp2_with fail
        go_ret
        exact ⟨rfl, HDS.out _ _ bvn R1.out R2.out Q3.out HZ.out⟩
  · have hz1 : doubleE ps.length i = 1 := by unfold doubleE; rw [if_neg (by rw [hm]; decide)]
    rw [hz1] at HD0 ⊢
    have HD := Lib.hid (HD0.out (by decide))
    rw [hm] at hmay
    have HMAY := Lib.hid hmay
    clear hz1 hm hmay h hls hN hlet hln
    go_enter Try.func28, Try.ntmps28
    go_wp2_with fail
    refine HMAY.out.mono ?_
    rintro e w1 ⟨rfl, hw1⟩
    rw [hw1]
    clear hw1 w1
    go_wp2_with fail
    go_ret
    exact ⟨rfl, HD.out⟩
end Go.Proofs.Ytcpkbngoecpnkaa
