/-
  Package net: out, Drop.
-/
import Derived.Test.YtcpkbngoecpnkaaNet4
set_option linter.unusedVariables false
namespace Go.Proofs.Ytcpkbngoecpnkaa
open Go.RowKit
theorem flatten_take {α : Type} {k : Nat} : ∀ (rs : List (List α)) (m : Nat), (∀ r ∈ rs, r.length = k) → m ≤ rs.length → rs.flatten.take (m * k) = (rs.take m).flatten
  | _, 0, _, _ => by simp
  | [], m + 1, _, h => by simp at h
  | r :: rs, m + 1, hk, h => by
    have hr := hk r (by simp)
    have ih := flatten_take rs m (fun x hx => hk x (by simp [hx])) (by simpa using h)
    rw [List.flatten_cons, List.take_succ_cons, List.flatten_cons, List.take_append, hr, show (m + 1) * k - k = m * k by rw [Nat.add_mul]; omega, ih, List.take_of_length_le (by rw [hr, Nat.add_mul]; omega)]
theorem OwnR.cut {w : World} {base k : Nat} {e : TypeId} {rs : List (List Value)} {g cap : Nat} (h : OwnR w base e k (.slice (some ⟨g, 0, none⟩) rs.length cap) rs) (m : Nat) (hm : m ≤ rs.length) : OwnR w base e k (.slice (some ⟨g, 0, none⟩) m m) (rs.take m) := by
  have hl : (rs.take m).length = m := by rw [List.length_take]; omega
  refine ⟨fun r hr => h.1 r (List.mem_of_mem_take hr), .inr ?_⟩
  rcases h.2 with ⟨e1, _⟩ | ⟨g', cap', cur, e1, hb, hg, h1, h2, h3, h4⟩
  · cases e1
  · injection e1 with e2 e3 e4
    injection e2 with e2
    injection e2 with e2
    subst e2 e4
    have h5 : m * k ≤ cap * k := Nat.mul_le_mul_right _ (by omega)
    refine ⟨g, m, cur, by rw [hl], hb, hg, by omega, by omega, by omega, ?_⟩
    rw [hl, ← flatten_take rs m h.1 hm, ← h4, List.take_take, Nat.min_eq_left (Nat.mul_le_mul_right _ hm)]
theorem LetsR.cut {w : World} {base : Nat} {ps : List (LetD × Value)} {g cap : Nat} (h : LetsR w base (.slice (some ⟨g, 0, none⟩) ps.length cap) ps) (m : Nat) (hm : m ≤ ps.length) : LetsR w base (.slice (some ⟨g, 0, none⟩) m m) (ps.take m) := by
  refine ⟨?_, fun p hp => h.own p (List.mem_of_mem_take hp)⟩
  rw [List.map_take]
  have h9 := h.rows
  have e9 : ps.length = (ps.map rowP).length := (List.length_map rowP).symm
  rw [e9] at h9
  exact h9.cut m (by rw [← e9]; exact hm)
/-- What follows a place, as rows. -/
theorem LetsR.rest {w : World} {base : Nat} {ps : List (LetD × Value)} {g cap : Nat} (h : LetsR w base (.slice (some ⟨g, 0, none⟩) ps.length cap) ps) (m c : Nat) (hm : m ≤ ps.length) (hc : ps.length - m ≤ c) :
    Rows w (.slice (some ⟨g, m * 5, none⟩) (ps.length - m) c) (ps.drop m).length 5 (fun i j => (((ps.drop m).map rowP).getD i []).getD j (.bool false)) := by
  have hd : (ps.drop m).length = ps.length - m := List.length_drop
  refine ⟨_, c, by rw [hd], by omega, ?_⟩
  by_cases h0 : ps.length - m = 0
  · exact .inl (by omega)
  · right
    obtain ⟨g', cap', e, _, hlt, _, hcell⟩ := h.rows.formN (by rw [List.length_map]; omega)
    injection e with e1 e2 e3
    injection e1 with e1
    injection e1 with e1
    subst e1
    refine ⟨g, m * 5, rfl, hlt, fun i hi j hj => ?_⟩
    have hi2 : m + i < (ps.map rowP).length := by rw [List.length_map]; omega
    have hr : (ps.map rowP)[m + i] = rowP (ps[m + i]'(by simpa using hi2)) := by simp
    have hc2 := hcell (m + i) hi2 j (by rw [hr]; simpa [rowP, letRow] using hj)
    rw [Nat.add_mul] at hc2
    rw [hc2]
    show _ = some ((((ps.drop m).map rowP).getD i []).getD j (.bool false))
    rw [List.getD_eq_getElem?_getD, List.getD_eq_getElem?_getD, List.getElem?_map, List.getElem?_drop, List.getElem?_eq_getElem (show m + i < ps.length by simpa using hi2), Option.map_some, Option.getD_some]
    simp only [hr]
    have hj5 : j < (rowP (ps[m + i]'(by simpa using hi2))).length := by simpa [rowP, letRow] using hj
    rw [List.getElem?_eq_getElem hj5, Option.getD_some]
theorem run_append_none {w : World} {base : Nat} {v : Value} {rs : List (List Value)} (hown : OwnR w base 35 5 v rs) (a : Option Addr) (c : Nat) : (Builtin.append_ #[30, 30] 30 #[v, .slice a 0 c]).run Try.prog w = .ok v w := by
  obtain ⟨i0, hi0, hz0, hz1, hz2⟩ := info_parts info_let
  rcases hown.2 with ⟨rfl, rfl⟩ | ⟨g, cap, cur, rfl, _, _, hnc, _⟩
  · cases a <;> simp [Builtin.append_, run_underlying (P := Try.prog) Try.underlying30, sizeOf, typeInfo, hi0, Builtin.lenOf, Builtin.firstCells, loadCells, loadCellsFrom]
  · cases a <;> simp [Builtin.append_, run_underlying (P := Try.prog) Try.underlying30, sizeOf, typeInfo, hi0, Builtin.lenOf, Builtin.firstCells, hnc, storeCells, loadCells, loadCellsFrom]
/-- The word on a row that is what is left of the letters. -/
def OutW (N0 B : Nat) (lv : Value) (ps' : List (LetD × Value)) : Sp := fun r W => (∃ a c, r = .slice a ps'.length c) ∧ LetsR W B r ps' ∧ ∀ j, r.ownBlock = some j → lv.ownBlock = some j ∨ N0 ≤ j
theorem OutW.mono (N0 B : Nat) (lv : Value) (ps' : List (LetD × Value)) : MonoSp (OutW N0 B lv ps') := fun _ _ _ g ⟨e, h1, h2⟩ => ⟨e, h1.gr g, h2⟩

set_option maxHeartbeats 2000000 in
set_option maxRecDepth 100000 in
/-- (*Net).out -/
theorem out_any {w : World} {base N M n : Nat} {lv : Value} {ps : List (LetD × Value)} {sizes : List Int} {cut : AdD × AdD → Bool} (h : NetIs w base N M n lv ps sizes cut) (k : Nat) (hk : k < ps.length) :
    Calls Try.prog 36 #[.pointer (some ⟨N, 0, Option.none⟩), .int .i64 (k : Int)] w fun e w' => e = .returned (letV (ps[k]'hk).1 (ps[k]'hk).2) ∧
      ∃ lv', NetIs w' base N M n lv' (ps.eraseIdx k) sizes cut ∧ Ch (netB N M lv) w w' ∧ ∀ j, lv'.ownBlock = some j → lv.ownBlock = some j ∨ w.heap.size ≤ j := by
  obtain ⟨sv, hN, _⟩ := h.obj
  have hln := h.len
  have H := Lib.hid h
  obtain ⟨g, cap, hlv, _, hgl, q0, q1, q2, q3, q4, hown⟩ := h.lets.at k hk
  have hk' := hk
  obtain ⟨x, hx⟩ : ∃ x, x = ps[k]'hk := ⟨_, rfl⟩
  rw [← hx] at q0 q1 q2 q3 q4 hown ⊢
  subst hlv
  have hps : ps.eraseIdx k = ps.take k ++ ps.drop (k + 1) := List.eraseIdx_eq_take_drop_succ ps k
  obtain ⟨⟨⟨a1, a2⟩, ⟨b1, b2⟩, b⟩, bv⟩ := x
  simp only at q0 q1 q2 q3 q4 hown
  obtain ⟨av, nv, cv, rfl⟩ := hown.sh
  have hcapL := h.lets.rows.rows
  clear hown hx
  have hlcap : ps.length ≤ cap := by
    obtain ⟨_, c9, e9, h9, _⟩ := hcapL
    rw [List.length_map] at h9
    injection e9 with _ _ e9
    omega
  have HCUT : Hid (∀ W, Gr w W → LetsR W base (.slice (some ⟨g, 0, Option.none⟩) k k) (ps.take k)) := Lib.hid fun W hW => (h.lets.gr hW).cut k (by omega)
  have HREST : Hid (∀ W, Gr w W → ∀ a c, (a = some ⟨g, (k + 1) * 5, Option.none⟩ ∨ ps.length = k + 1) → ps.length - (k + 1) ≤ c → Rows W (.slice a (ps.length - (k + 1)) c) (ps.drop (k + 1)).length 5 (fun i j => (((ps.drop (k + 1)).map rowP).getD i []).getD j (.bool false))) := Lib.hid fun W hW a c ha hc => by
    rcases ha with rfl | ha
    · exact (h.lets.gr hW).rest (k + 1) c (by omega) hc
    · have e0 : (ps.drop (k + 1)).length = 0 := by rw [List.length_drop]; omega
      exact ⟨a, c, by rw [List.length_drop], by rw [List.length_drop]; exact hc, .inl e0⟩
  clear hcapL h
  obtain ⟨L, hL⟩ : ∃ L, L = ps.length := ⟨_, rfl⟩
  rw [← hL] at hN hln hk' hlcap H HREST ⊢
  have HL := Lib.hid hL
  have HN := Lib.hid hN
  have HPS := Lib.hid hps
  clear hL hk hN hps
  have gz : Gr w (w.alloc (.cells #[.int .i64 0, .int .i64 0, .int .i64 0, .int .i64 0, .slice none 0 0] 35)) := (Gr.refl w).alloc _
  have y1 := (HN.out.gr gz).cell 1
  replace q0 := gz.cellT q0
  replace q1 := gz.cellT q1
  replace q2 := gz.cellT q2
  replace q3 := gz.cellT q3
  replace q4 := gz.cellT q4
  clear gz
  have hk0 : (0 : Int) ≤ (k : Int) := by omega
  have hk1 : (k : Int) < (L : Int) := by omega
  unfold letV
  go_enter Try.func36, Try.ntmps36
  go_upto_region 2 with fail
  obtain ⟨w0, hw0⟩ : ∃ w0, w0 = (w.alloc (.cells #[.int .i64 0, .int .i64 0, .int .i64 0, .int .i64 0, .slice none 0 0] 35)).alloc (.cells #[.int .i64 a1, .int .i64 a2, .int .i64 b1, .int .i64 b2, .slice av nv cv] 35) := ⟨_, rfl⟩
  have g0 : Gr w w0 := by rw [hw0]; exact ((Gr.refl w).alloc _).alloc _
  have cA : CellsAt w0 w.heap.size #[.int .i64 0, .int .i64 0, .int .i64 0, .int .i64 0, .slice none 0 0] 35 := by rw [hw0]; exact (CellsAt.new _ _ _).gr ((Gr.refl _).alloc _)
  have cB : CellsAt w0 (w.heap.size + 1) #[.int .i64 a1, .int .i64 a2, .int .i64 b1, .int .i64 b2, .slice av nv cv] 35 := by rw [hw0]; exact CellsAt.newAt (w.alloc (.cells #[.int .i64 0, .int .i64 0, .int .i64 0, .int .i64 0, .slice none 0 0] 35)) _ _ (by simp)
  have hw0s : w0.heap.size = w.heap.size + 2 := by rw [hw0]; simp
  rw [← hw0]
  have G0 := Lib.hid g0
  have CA := Lib.hid cA
  have CB := Lib.hid cB
  clear hw0 g0 cA cB q0 q1 q2 q3 q4 y1
  have y1 := (HN.out.gr G0.out).cell 1
  have hkc : k ≤ cap := by omega
  have hkL : k + 1 ≤ L := by omega
  obtain ⟨yA, hyA⟩ : ∃ y, y = (if cap = k + 1 then some (⟨g, 0, Option.none⟩ : Addr) else some ⟨g, (k + 1) * 5, Option.none⟩) := ⟨_, rfl⟩
  have HYA : Hid (yA = some ⟨g, (k + 1) * 5, Option.none⟩ ∨ L = k + 1) := Lib.hid (by
    rw [hyA]
    by_cases e : cap = k + 1
    · exact .inr (by omega)
    · rw [if_neg e]; exact .inl rfl)
  have HY := Lib.hid hyA
  clear hyA
  have HW1 : Hid (IntKind.i64.wrap ((k : Int) + 1) = (k : Int) + 1) := Lib.hid (by simp [IntKind.wrap, IntKind.bits, IntKind.signed]; omega)
  apply wp_region_draw_tail 16 (.eq _ :: .eq _ :: .eq _ :: .eq _ :: .eq _ :: .eq _ :: .eq _ :: .eq (.slice (some ⟨g, 0, Option.none⟩) k k) :: .eq _ :: .eq _ :: .eq _ :: .eq _ :: .eq _ :: .eq _ :: .eq (.slice yA (L - (k + 1)) (cap - (k + 1))) :: .ok (OutW w0.heap.size base (Value.slice (some ⟨g, 0, Option.none⟩) L cap) (ps.eraseIdx k)) :: []) (by kernel_rfl) (by kernel_rfl) ⟨OutW.mono _ _ _ _, trivial⟩
  apply wpG_eq
  · intro W hW hs
    unfold opG
    go_simp
    first | exact resG_eq_mk _ _ _ | rfl
  simp only [Act.put, List.setIfInBounds_toArray, List.set_cons_zero, List.set_cons_succ]
  apply wpG_eq
  · intro W hW hs
    unfold opG
    go_simp
    first | exact resG_eq_mk _ _ _ | rfl
  simp only [Act.put, List.setIfInBounds_toArray, List.set_cons_zero, List.set_cons_succ]
  apply wpG_eq
  · intro W hW hs
    unfold opG
    go_simp
    first | exact resG_eq_mk _ _ _ | rfl
  simp only [Act.put, List.setIfInBounds_toArray, List.set_cons_zero, List.set_cons_succ]
  apply wpG_eq
  · intro W hW hs
    unfold opG
    go_simp
    first | exact resG_eq_mk _ _ _ | rfl
  simp only [Act.put, List.setIfInBounds_toArray, List.set_cons_zero, List.set_cons_succ]
  apply wpG_eq
  · intro W hW hs
    have y1' := hW.drew0 y1
    unfold opG
    go_simp
    first | exact resG_eq_mk _ _ _ | rfl
  simp only [Act.put, List.setIfInBounds_toArray, List.set_cons_zero, List.set_cons_succ]
  apply wpG_eq
  · intro W hW hs
    unfold opG
    go_simp
    first | exact resG_eq_mk _ _ _ | rfl
  simp only [Act.put, List.setIfInBounds_toArray, List.set_cons_zero, List.set_cons_succ]
  apply wpG_eq
  · intro W hW hs
    unfold opG
    go_simp
    first | exact resG_eq_mk _ _ _ | rfl
  simp only [Act.put, List.setIfInBounds_toArray, List.set_cons_zero, List.set_cons_succ]
  apply wpG_eq
  · intro W hW hs
    unfold opG
    go_simp
    first | exact resG_eq_mk _ _ _ | rfl
  simp only [Act.put, List.setIfInBounds_toArray, List.set_cons_zero, List.set_cons_succ]
  apply wpG_eq
  · intro W hW hs
    unfold opG
    go_simp
    first | exact resG_eq_mk _ _ _ | rfl
  simp only [Act.put, List.setIfInBounds_toArray, List.set_cons_zero, List.set_cons_succ]
  apply wpG_eq
  · intro W hW hs
    unfold opG
    go_simp
    first | exact resG_eq_mk _ _ _ | rfl
  simp only [Act.put, List.setIfInBounds_toArray, List.set_cons_zero, List.set_cons_succ]
  apply wpG_eq
  · intro W hW hs
    unfold opG
    go_simp
    first | exact resG_eq_mk _ _ _ | rfl
  simp only [Act.put, List.setIfInBounds_toArray, List.set_cons_zero, List.set_cons_succ]
  apply wpG_eq
  · intro W hW hs
    have y1' := hW.drew0 y1
    unfold opG
    go_simp
    first | exact resG_eq_mk _ _ _ | rfl
  simp only [Act.put, List.setIfInBounds_toArray, List.set_cons_zero, List.set_cons_succ]
  apply wpG_eq
  · intro W hW hs
    unfold opG
    go_simp
    first | exact resG_eq_mk _ _ _ | rfl
  simp only [Act.put, List.setIfInBounds_toArray, List.set_cons_zero, List.set_cons_succ]
  apply wpG_eq
  · intro W hW hs
    unfold opG
    go_simp
    first | exact resG_eq_mk _ _ _ | rfl
  simp only [Act.put, List.setIfInBounds_toArray, List.set_cons_zero, List.set_cons_succ]
  apply wpG_eq
  · intro W hW hs
    unfold opG
    go_simp
    rw [HW1.out, if_pos ⟨by omega, by omega⟩, show ((k : Int) + 1).toNat = k + 1 by omega, ← HY.out]
    exact ⟨Gr.refl _, rfl⟩
  simp only [Act.put, List.setIfInBounds_toArray, List.set_cons_zero, List.set_cons_succ]
  apply wpG_ok
  · intro W hW hs
    have gW := Gr.trans G0.out (Gr.trans ((Gr.refl w0).drew) hW)
    have hlen : (ps.take k).length = k := by rw [List.length_take]; have := HL.out; omega
    have hsz : w0.heap.size ≤ W.heap.size := hW.size
    by_cases h0 : L = k + 1
    · have hr9 : (Builtin.append_ #[30, 30] 30 #[.slice (some ⟨g, 0, Option.none⟩) k k, .slice yA (L - (k + 1)) (cap - (k + 1))]).run Try.prog W = .ok (.slice (some ⟨g, 0, Option.none⟩) k k) W := by
        rw [show L - (k + 1) = 0 by omega]
        exact run_append_none (HCUT.out W gW).rows yA (cap - (k + 1))
      have hi9 : LetsR W base (.slice (some ⟨g, 0, Option.none⟩) k k) (ps.eraseIdx k) := by
        rw [HPS.out, List.drop_of_length_le (by have := HL.out; omega), List.append_nil]
        exact HCUT.out W gW
      have HI9 := Lib.hid (show OutW w0.heap.size base (Value.slice (some ⟨g, 0, Option.none⟩) L cap) (ps.eraseIdx k) (.slice (some ⟨g, 0, Option.none⟩) k k) W from ⟨hi9.shape, hi9, fun j hj => .inl hj⟩)
      exact opG_run_append hr9 rfl _ _ rfl rfl rfl (Gr.refl _) HI9.out
    · obtain ⟨v9, w9, hr9, hi9, hg9, h93, h94⟩ := run_append_lets W base _ (.slice yA (L - (k + 1)) (cap - (k + 1))) (ps.take k) (ps.drop (k + 1)) (HCUT.out W gW) (HREST.out W gW _ _ HYA.out (by omega)) (fun q hq => ((H.out.gr gW).lets.own q (List.mem_of_mem_drop hq))) (by simp only [List.length_take, List.length_drop]; have := HL.out; omega) (Nat.le_trans H.out.bB gW.size)
      rw [← HPS.out] at hi9
      have hgw : Gr W w9 ∧ ∀ j, v9.ownBlock = some j → w0.heap.size ≤ j := by
        rcases h93 (by rw [List.length_drop]; have := HL.out; omega) with ⟨g', cap', e1, e2, _⟩ | ⟨_, e2, j, e3, e4⟩
        · injection e1 with _ e5 e6
          rw [List.length_drop] at e2
          have := HL.out
          omega
        · exact ⟨grownBy_below e2 (Nat.le_refl _) (by intro k hk; cases hk), fun j' hj' => by rw [e3] at hj'; injection hj' with hj'; omega⟩
      have HI9 := Lib.hid (show OutW w0.heap.size base (Value.slice (some ⟨g, 0, Option.none⟩) L cap) (ps.eraseIdx k) v9 w9 from ⟨hi9.shape, hi9, fun j hj => .inr (hgw.2 j hj)⟩)
      exact opG_run_append hr9 rfl _ _ rfl rfl rfl hgw.1 HI9.out
  intro vz
  simp only [Act.put, List.setIfInBounds_toArray, List.set_cons_zero, List.set_cons_succ]
  apply wpG_nil
  intro wq hW hsAll
  obtain ⟨⟨az, cz, rfl⟩, q1, q3⟩ : OutW w0.heap.size base (Value.slice (some ⟨g, 0, Option.none⟩) L cap) (ps.eraseIdx k) vz wq := hsAll _ (.head _)
  clear hsAll
  have gq : Gr w0 wq := Gr.trans ((Gr.refl w0).drew) hW
  have gq2 := Gr.trans G0.out gq
  have q2 : Ch (fun j => (Value.slice (some ⟨g, 0, Option.none⟩) L cap).ownBlock = some j) w wq := Ch.of_gr gq2
  have q3' : ∀ j, (Value.slice az (ps.eraseIdx k).length cz).ownBlock = some j → (Value.slice (some ⟨g, 0, Option.none⟩) L cap).ownBlock = some j ∨ w.heap.size ≤ j := fun j hj => (q3 j hj).imp id (Nat.le_trans G0.out.size)
  have qN := HN.out.gr gq2
  have k1 := qN.cell 1
  have k2 := qN.frozen 1
  obtain ⟨r1, r2⟩ := H.out.stored q2 q1 q3' (by have := List.length_eraseIdx_le ps k; have := HL.out; omega)
  obtain ⟨m9, hm9⟩ : ∃ m, m = (ps.eraseIdx k).length := ⟨_, rfl⟩
  rw [← hm9] at r1 r2 q3' ⊢
  have gs := ch_setCell wq N 1 (.slice az m9 cz)
  have hNA : N ≠ w.heap.size ∧ N ≠ w.heap.size + 1 := by have := H.out.ltN; omega
  have cA := (CA.out.gr gq).ch gs (fun e => hNA.1 e.symm)
  have cB := (CB.out.gr gq).ch gs (fun e => hNA.2 e.symm)
  have b0 := (CB.out.gr gq).cell 0
  have b1' := (CB.out.gr gq).cell 1
  have b2' := (CB.out.gr gq).cell 2
  have b3' := (CB.out.gr gq).cell 3
  have b4' := (CB.out.gr gq).cell 4
  have Q4 : Hid (∀ j, (Value.slice az m9 cz).ownBlock = some j → g = j ∨ w.heap.size + 2 ≤ j) := Lib.hid fun j hj => (q3 j (by rw [← hm9]; exact hj)).imp (fun e => by injection e) (fun e => by omega)
  have R1 := Lib.hid r1
  have R2 := Lib.hid r2
  have Q3 := Lib.hid q3'
  have CA2 := Lib.hid cA
  have hnb : (some N : Option Nat) ≠ some w.heap.size := fun e => hNA.1 (by injection e)
  clear hw0s
  clear r1 r2 q1 q2 q3 q3' qN cA cB gs hW hm9 gq gq2
  go_wp2_with (refine wpList_store_all 35 _ _ rfl rfl rfl rfl CA2.out (by kernel_rfl) rfl (by simp; exact ⟨rfl, rfl, rfl, rfl, rfl⟩) ?_; intro w5 f1 f2)
  (try simp only [Exit.inBlock, Exit.then])
  have hnB : ∀ (j : Nat), netB N M (Value.slice (some ⟨g, 0, Option.none⟩) L cap) j → j < w.heap.size := fun j hj => (H.out.ltB j hj).2
  refine bodyPost_ret (v := .agg #[.int .i64 a1, .int .i64 a2, .int .i64 b1, .int .i64 b2, .slice av nv cv]) ?_ rfl ⟨rfl, _, R1.out.keep (Kb.ch f2 (fun j cs t fr hj hc => by
      have e : j = w.heap.size := hj
      subst e
      rw [cells_type hc CA2.out]
      exact ⟨by decide, by decide⟩)) (fun j hj => f2.block j (R1.out.ltB j hj).2 (fun e => by
      have e9 : j = w.heap.size := e
      subst e9
      have hN9 := H.out.ltN
      have hM9 := H.out.ltM
      rcases hj with e7 | e7 | e7
      · omega
      · omega
      · rcases Q4.out _ e7 with e6 | e6 <;> omega)), R2.out.transN f2 (fun j hj hlt => by have e : j = w.heap.size := hj; omega), Q3.out⟩
  have m0 := f1.cell 0
  have m1 := f1.cell 1
  have m2 := f1.cell 2
  have m3 := f1.cell 3
  have m4 := f1.cell 4
  simp only [List.getElem?_toArray, List.getElem?_cons_zero, List.getElem?_cons_succ] at m0 m1 m2 m3 m4
  simp [results, Try.f36, go_sem, m0, m1, m2, m3, m4]
end Go.Proofs.Ytcpkbngoecpnkaa
