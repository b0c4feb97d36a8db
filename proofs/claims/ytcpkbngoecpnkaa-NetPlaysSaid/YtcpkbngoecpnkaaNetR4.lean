/-
  The document's net: without, New.
-/
import Derived.Test.YtcpkbngoecpnkaaNetR3
set_option linter.unusedVariables false
namespace Go.Proofs.Ytcpkbngoecpnkaa
open Go.RowKit

theorem run_append_row {W : World} {base : Nat} {v : Value} {qs : List (LetD × Value)} (h : OwnR W base 35 5 v (qs.map rowP)) (x : LetD × Value) (Y : Nat) (hc : CellsAt W Y (rowP x).toArray 35) (hx : ∃ a n c, x.2 = .slice a n c) (hl : qs.length ≤ 100000) (hB : base ≤ W.heap.size) :
    ∃ v' w', (Builtin.append_ #[30, 30] 30 #[v, .slice (some ⟨Y, 0, none⟩) 1 1]).run Try.prog W = .ok v' w' ∧ OwnR w' base 35 5 v' ((qs ++ [x]).map rowP) ∧ Ch (fun j => v.ownBlock = some j) W w' ∧ (v'.ownBlock = v.ownBlock ∨ ∃ j, v'.ownBlock = some j ∧ W.heap.size ≤ j) := by
  obtain ⟨i0, hi0, hz0, hz1, hz2⟩ := info_parts info_let
  obtain ⟨v', w', hr, h1, h2, h3, _⟩ := run_append_rows (P := Try.prog) W base 30 30 35 i0 _ 5 56 Try.underlying30 hi0 hz0 hz1 hz2 rfl v _ (qs.map rowP) ([x].map rowP) h
    _ (by rw [List.length_map]; exact rows_one (q := x) hc) (fun i hi => ⟨by simp [rowP, letRow], fun j hj => by rw [List.getD_eq_getElem?_getD, List.getD_eq_getElem?_getD, List.getElem?_eq_getElem hi, Option.getD_some, List.getElem?_eq_getElem hj, Option.getD_some]⟩)
    (fun r hr u hu => by
      obtain ⟨q, hq', rfl⟩ := List.mem_map.1 hr
      rw [List.mem_singleton.1 hq'] at hu
      exact letRow_one x.1 x.2 hx u hu)
    (by rw [List.length_map]; unfold maxLen; simp; omega) (by rw [List.length_map]; simp; omega) hB
  exact ⟨v', w', hr, by rw [List.map_append]; exact h1, Ch.of_grownBy h2 (fun k hk => hk), h3⟩
section
variable {w0 w w' : World} {Q : Nat} {sv lv cv : Value} {ps : List (LetD × Value)} {cuts : List (AdD × AdD)} {sizes : List Int}
/-- The letters were stored anew. -/
theorem RNet.setL {lv' : Value} {ps' : List (LetD × Value)} (h : RNet w0 w Q sv lv cv ps cuts sizes) (h2 : LetsR w w0.heap.size lv' ps') :
    RNet w0 (w.setCell ⟨Q, 1, none⟩ lv') Q sv lv' cv ps' cuts sizes ∧ Ch (fun j => j = Q) w (w.setCell ⟨Q, 1, none⟩ lv') := by
  have gs := ch_setCell w Q 1 lv'
  have hQc : lv'.ownBlock ≠ some Q := fun e => by
    obtain ⟨cs', hc'⟩ := h2.cells Q e
    cases cells_type h.obj hc'
  have hk : Kb w (w.setCell ⟨Q, 1, none⟩ lv') := Kb.ch gs (fun j cs t fr hj hc => by
    have e : j = Q := hj
    subst e
    rw [cells_type hc h.obj]
    exact ⟨by decide, by decide⟩)
  refine ⟨⟨?_, h.szs, h.szl, h2.keep hk (fun j hj => gs.block j (h2.lt j hj).2 (fun e => hQc (by rw [← (show j = Q from e)]; exact hj))), h.cuts.block (fun j hj => gs.block j (h.cuts.lt j hj).2 (fun e => h.QR.2 (by rw [← (show j = Q from e)]; exact hj))), h.bQ, Below.trans h.gr (gs.below h.gr.size (fun k hk => by have e : k = Q := hk; have := h.bQ; omega))⟩, gs⟩
  have := h.obj.set 1 lv'
  exact this
theorem RNet.capL (h : RNet w0 w Q sv lv cv ps cuts sizes) : ∃ a cap, lv = .slice a ps.length cap := h.lets.shape
end
theorem erase_step {α : Type} (ps : List α) (i k : Nat) (hk : k < ps.length) (hne : k ≠ i) : (ps.take (k + 1)).eraseIdx i = (ps.take k).eraseIdx i ++ [ps[k]] := by
  rw [List.take_add_one, List.getElem?_eq_getElem hk, Option.toList_some]
  by_cases h : i < k
  · rw [List.eraseIdx_append_of_lt_length (by rw [List.length_take]; omega)]
  · rw [List.eraseIdx_of_length_le (by simp [List.length_take]; omega), List.eraseIdx_of_length_le (by rw [List.length_take]; omega)]
theorem erase_same {α : Type} (ps : List α) (k : Nat) (hk : k < ps.length) : (ps.take (k + 1)).eraseIdx k = (ps.take k).eraseIdx k := by
  rw [List.take_add_one, List.getElem?_eq_getElem hk, Option.toList_some, List.eraseIdx_append_of_length_le (by rw [List.length_take]; omega), List.eraseIdx_of_length_le (l := ps.take k) (by rw [List.length_take]; omega), List.length_take, show k - min k ps.length = 0 by omega]
  simp
set_option maxHeartbeats 2000000 in
set_option maxRecDepth 100000 in
/-- the document's without -/
theorem refwithout_any {w0 w : World} {Q : Nat} {sv lv cv : Value} {ps : List (LetD × Value)} {cuts : List (AdD × AdD)} {sizes : List Int} (h : RNet w0 w Q sv lv cv ps cuts sizes) (hl : ps.length ≤ 10000) (i : Nat) (hi : i < ps.length) :
    Calls Try.prog 39 #[.pointer (some ⟨Q, 0, Option.none⟩), .int .i64 (i : Int)] w fun e w' => e = .returned (.tuple #[]) ∧ ∃ lv', RNet w0 w' Q sv lv' cv (ps.eraseIdx i) cuts sizes ∧ Ch (fun j => j = Q) w w' ∧ ∀ j, lv'.ownBlock = some j → w.heap.size ≤ j := by
  obtain ⟨a, cap, rfl⟩ := h.capL
  have H := Lib.hid h
  obtain ⟨L, hL⟩ : ∃ L, L = ps.length := ⟨_, rfl⟩
  rw [← hL] at H hl
  have HL := Lib.hid hL
  have TQ : Hid (∀ W, Gr w W → W.cell? ⟨Q, 1, Option.none⟩ = some (.slice a L cap) ∧ W.frozen? ⟨Q, 1, Option.none⟩ = false) := Lib.hid fun W g => ⟨(H.out.obj.gr g).cell 1, (H.out.obj.gr g).frozen 1⟩
  clear h hL
  go_enter Try.func39, Try.ntmps39
  go_wp2
  go_loopw [4, 5] (fun v4 k' W => ∃ k : Nat, k ≤ L ∧ k' = .int .i64 k ∧ (∃ m c x, v4 = .slice x m c ∧ m = ((ps.take k).eraseIdx i).length) ∧ OwnR W w.heap.size 35 5 v4 (((ps.take k).eraseIdx i).map rowP) ∧ Gr w W) (fun _ k' _ => L - (intOf k').toNat)
  case atStart => exact ⟨0, Nat.zero_le _, rfl, ⟨0, 0, none, rfl, by simp⟩, by simpa using OwnR.nil _ _ _ _, Gr.refl _⟩
  case round =>
    obtain ⟨k, hk, rfl, ⟨m4, c4, x4, rfl, hm4⟩, ho, hg⟩ := hrel
    have hm4l : m4 ≤ 10000 := by rw [hm4]; exact Nat.le_trans (List.length_eraseIdx_le _ _) (by rw [List.length_take]; omega)
    have HO := Lib.hid ho
    have HM := Lib.hid hm4
    have HG := Lib.hid hg
    clear ho hm4 hg
    obtain ⟨y1, y2⟩ := TQ.out _ HG.out
    by_cases hlt : k < L
    · have hkp : k < ps.length := by rw [← HL.out]; exact hlt
      by_cases hki : k = i
      · subst hki
        have HNX := Lib.hid (erase_same ps k hkp)
        go_wp2
        exact ⟨⟨k + 1, by omega, by go_num, ⟨m4, c4, x4, rfl, by rw [HNX.out]; exact HM.out⟩, by rw [HNX.out]; exact HO.out, HG.out⟩, by simp [intOf]; omega⟩
      · have HNX := Lib.hid (erase_step ps i k hkp hki)
        have hkiI : ¬ (k : Int) = (i : Int) := by omega
        obtain ⟨g, cap9, e9, _, hgl, p0, p1, p2, p3, p4, hown⟩ := (H.out.lets.gr HG.out).at k hkp
        injection e9 with e1 e2 e3
        subst e1 e3
        clear e2
        obtain ⟨x, hx⟩ : ∃ x, x = ps[k] := ⟨_, rfl⟩
        rw [← hx] at p0 p1 p2 p3 p4 hown
        have HX := Lib.hid hx
        clear hx
        obtain ⟨⟨⟨x1, x2⟩, ⟨x3, x4'⟩, b⟩, bv⟩ := x
        simp only at p0 p1 p2 p3 p4 hown
        obtain ⟨ab, nb, cb, rfl⟩ := hown.sh
        obtain ⟨w3, hw3⟩ : ∃ w3, w3 = wr.alloc (.cells #[.int .i64 x1, .int .i64 x2, .int .i64 x3, .int .i64 x4', .slice ab nb cb] 35) := ⟨_, rfl⟩
        have g3 : Gr wr w3 := by rw [hw3]; exact (Gr.refl _).alloc _
        have c3 : CellsAt w3 wr.heap.size (rowP (⟨(x1, x2), (x3, x4'), b⟩, .slice ab nb cb)).toArray 35 := by rw [hw3]; exact CellsAt.new _ _ _
        obtain ⟨v5, w5, hr5, ho5, hc5, _⟩ := run_append_row (HO.out.block (w' := w3) (fun j hj => g3.block j (HO.out.lt j hj).2)) (⟨(x1, x2), (x3, x4'), b⟩, .slice ab nb cb) wr.heap.size c3 ⟨_, _, _, rfl⟩ (by rw [← HM.out]; omega) (Nat.le_trans HG.out.size g3.size)
        have hg5 : Gr w w5 := Below.trans (Gr.trans HG.out g3) (hc5.below (Nat.le_trans HG.out.size g3.size) (fun j hj => (HO.out.lt j hj).1))
        obtain ⟨x5, c5, e5⟩ := ho5.shape
        have hln : (((ps.take k).eraseIdx i ++ [((⟨(x1, x2), (x3, x4'), b⟩ : LetD), Value.slice ab nb cb)]).map rowP).length = m4 + 1 := by rw [List.length_map, List.length_append, ← HM.out]; rfl
        rw [hln] at e5
        subst e5
        rw [hw3] at hr5
        rw [← HX.out] at HNX
        have HR5 := Lib.hid hr5
        have HO5 := Lib.hid ho5
        have HG5 := Lib.hid hg5
        have HLN := Lib.hid hln
        have hk0 : (0 : Int) ≤ (k : Int) := by omega
        have hk1 : (k : Int) < (L : Int) := by omega
        clear hr5 ho5 hg5 hc5 c3 g3 hw3 hln hown
        go_wp2_with (first | (at_builtin; refine wpList_run_append HR5.out rfl _ _ rfl rfl rfl ?_; clear HR5) | fail)
        exact ⟨⟨k + 1, by omega, by go_num, ⟨m4 + 1, _, _, rfl, by rw [HNX.out, ← HLN.out, List.length_map]⟩, by rw [HNX.out]; exact HO5.out, HG5.out⟩, by simp [intOf]; omega⟩
    · obtain rfl : k = L := by omega
      have hall : (ps.take k).eraseIdx i = ps.eraseIdx i := by rw [HL.out, List.take_length]
      rw [hall] at HO HM
      have hle : LetsR wr w0.heap.size (.slice x4 m4 c4) (ps.eraseIdx i) := ⟨HO.out.mono H.out.gr.size, fun p hp => (((H.out.lets.gr HG.out).own p (List.mem_of_mem_eraseIdx hp)))⟩
      have HF := Lib.hid ((H.out.go HG.out).setL hle)
      have HQ : Hid (∀ j, (Value.slice x4 m4 c4).ownBlock = some j → w.heap.size ≤ j) := Lib.hid fun j hj => (HO.out.lt j hj).1
      clear hle hall
      go_wp2
      refine bodyPost_end (results_none rfl _ _ _) rfl ?_
      exact ⟨rfl, _, HF.out.1, (Ch.of_gr HG.out).transN HF.out.2 (fun j hj _ => hj), HQ.out⟩
theorem RNet.rebase {w0 w w' : World} {Q : Nat} {sv lv cv : Value} {ps : List (LetD × Value)} {cuts : List (AdD × AdD)} {sizes : List Int} (h : RNet w w' Q sv lv cv ps cuts sizes) (g : Gr w0 w) (hs : Sl w0 sv (ints sizes)) : RNet w0 w' Q sv lv cv ps cuts sizes :=
  ⟨h.obj, hs, h.szl, ⟨h.lets.rows.mono g.size, fun p hp => (h.lets.own p hp).mono g.size⟩, h.cuts.mono g.size, Nat.le_trans g.size h.bQ, Below.trans g (h.gr.mono g.size)⟩
/-- What the document's New hands back. -/
def RNewPost (w : World) (sv : Value) (sizes : List Int) (e : Ending) (w' : World) : Prop :=
  if newOk sizes then ∃ Q, e = .returned (.tuple #[.pointer (some ⟨Q, 0, Option.none⟩), .int .i64 0]) ∧ RNet w w' Q sv (.slice none 0 0) (.slice none 0 0) [] [] sizes
  else e = .returned (.tuple #[.pointer Option.none, .int .i64 1]) ∧ Gr w w'
set_option maxHeartbeats 2000000 in
/-- the document's New -/
theorem refnew_any (w : World) (sv : Value) (sizes : List Int) (hs : Sl w sv (ints sizes)) (hl : sizes.length ≤ 1000000) : Calls Try.prog 20 #[sv] w fun e w' => RNewPost w sv sizes e w' := by
  have hs0 := hs
  obtain ⟨a, cap, rfl, hcap, hcell⟩ := hs
  have hlen : (ints sizes).length = sizes.length := by unfold ints; rw [List.length_map]
  have HC := Lib.hid hcell
  have HS := Lib.hid hs0
  obtain ⟨ok, hok⟩ : ∃ ok, ok = newOk sizes := ⟨_, rfl⟩
  unfold RNewPost
  rw [← hok]
  unfold newOk at hok
  obtain ⟨L, hL⟩ : ∃ L, L = sizes.length := ⟨_, rfl⟩
  rw [hlen, ← hL] at HS
  rw [← hL] at hok hl
  rw [hlen, ← hL]
  have HL := Lib.hid hL
  have HOK := Lib.hid hok
  clear hs0 hcell hcap hok hL
  go_enter Try.func20, Try.ntmps20
  by_cases h1 : L < 1
  · have e : ok = false := by rw [HOK.out, decide_eq_true h1]; rfl
    subst e
    go_wp2
    refine bodyPost_ret (results_tmp2 rfl _ _ _) rfl ?_
    exact ⟨rfl, Gr.refl _⟩
  by_cases h4 : 4 < L
  · have e : ok = false := by rw [HOK.out, decide_eq_true h4]; simp
    subst e
    go_wp2
    refine bodyPost_ret (results_tmp2 rfl _ _ _) rfl ?_
    exact ⟨rfl, Gr.refl _⟩
  have HOK2 : Hid (ok = !(sizes.any badV)) := Lib.hid (by rw [HOK.out, decide_eq_false h1, decide_eq_false h4]; rfl)
  clear HOK
  go_wp2
  go_loopw [4] (fun i W => ∃ k : Nat, k ≤ L ∧ i = .int .i64 k ∧ (sizes.take k).any badV = false ∧ W = w) (fun i _ => L - (intOf i).toNat)
  case atStart => exact ⟨0, Nat.zero_le _, rfl, rfl, rfl⟩
  case round =>
    obtain ⟨k, hk, rfl, hno, hwr⟩ := hrel
    subst wr
    have HNO := Lib.hid hno
    clear hno
    by_cases hlt : k < L
    · have hks : k < sizes.length := by rw [← HL.out]; exact hlt
      obtain ⟨b, off, rfl, hb, hcell⟩ := HC.out.resolve_left (by intro h; have := congrArg List.length h; rw [hlen] at this; simp only [List.length_nil] at this; omega)
      have hc := hcell k (by rw [hlen]; exact hks)
      obtain ⟨z, hz⟩ : ∃ z, z = sizes[k] := ⟨_, rfl⟩
      have hc2 : w.cell? ⟨b, off + k, none⟩ = some (.int .i64 z) := by rw [hc, hz]; simp [ints]
      have HZ := Lib.hid hz
      have HNX : Hid ((sizes.take (k + 1)).any badV = badV z ∧ (badV z = true → sizes.any badV = true)) := Lib.hid (by
        refine ⟨?_, fun h => ?_⟩
        · rw [List.take_add_one, List.getElem?_eq_getElem hks, Option.toList_some, List.any_append, HNO.out, Bool.false_or, hz]; simp
        · rw [List.any_eq_true]; exact ⟨sizes[k], List.getElem_mem _, by rw [← hz]; exact h⟩)
      have hk0 : (0 : Int) ≤ (k : Int) := by omega
      have hk1 : (k : Int) < (L : Int) := by omega
      clear hc hcell hz
      by_cases z1 : z < 1
      · have e : ok = false := by rw [HOK2.out, HNX.out.2 (by unfold badV; rw [decide_eq_true z1]; rfl)]; rfl
        subst e
        go_wp2
        refine bodyPost_ret (results_tmp2 rfl _ _ _) rfl ?_
        exact ⟨rfl, Gr.refl _⟩
      by_cases z3 : 3 < z
      · have e : ok = false := by rw [HOK2.out, HNX.out.2 (by unfold badV; rw [decide_eq_true z3]; simp)]; rfl
        subst e
        go_wp2
        refine bodyPost_ret (results_tmp2 rfl _ _ _) rfl ?_
        exact ⟨rfl, Gr.refl _⟩
      have hbad : badV z = false := by unfold badV; rw [decide_eq_false z1, decide_eq_false z3]; rfl
      have HB := Lib.hid hbad
      clear hbad
      go_wp2
      exact ⟨⟨k + 1, by omega, by go_num, by rw [HNX.out.1]; exact HB.out, by first | rfl | trivial⟩, by simp [intOf]; omega⟩
    · obtain rfl : k = L := by omega
      have e : ok = true := by
        have h9 := HNO.out
        rw [HL.out, List.take_length] at h9
        rw [HOK2.out, h9]; rfl
      subst e
      have HF : Hid (RNet w (w.alloc (.cells #[.slice a k cap, .slice none 0 0, .slice none 0 0] 57)) w.heap.size (.slice a k cap) (.slice none 0 0) (.slice none 0 0) [] [] sizes) := Lib.hid ⟨CellsAt.new _ _ _, HS.out, by rw [← HL.out]; omega, LetsR.nil _ _, OwnR.nil _ _ _ _, Nat.le_refl _, (Gr.refl w).alloc _⟩
      go_wp2
      refine bodyPost_ret (results_tmp2 rfl _ _ _) rfl ?_
      exact ⟨_, rfl, HF.out⟩
end Go.Proofs.Ytcpkbngoecpnkaa
