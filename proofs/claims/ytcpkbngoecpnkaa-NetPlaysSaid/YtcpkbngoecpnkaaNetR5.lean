/-
  The document's net: Send.
-/
import Derived.Test.YtcpkbngoecpnkaaNetR4
set_option linter.unusedVariables false
namespace Go.Proofs.Ytcpkbngoecpnkaa
open Go.RowKit

theorem lit_bytes {W : World} {B Y cb : Nat} {ab : Option Addr} {b : List UInt8} (hc : CellsAt W Y #[] 5) (hy : Sl W (.slice ab b.length cb) (bytes b)) (hB : B ≤ Y) (hl : b.length ≤ 4194304) :
    ∃ v' w', (Builtin.append_ #[23, 23] 23 #[.slice (some ⟨Y, 0, none⟩) 0 0, .slice ab b.length cb]).run Try.prog W = .ok v' w' ∧ Own w' B 5 v' (bytes b) ∧ Gr W w' := by
  obtain ⟨i0, hi0, hz0, hz1, hz2⟩ := info_parts info_u8
  have hlt := hc.lt
  have hown : Own W B 5 (.slice (some ⟨Y, 0, none⟩) 0 0) [] := ⟨rfl, .inr ⟨Y, 0, #[], rfl, hB, hc, by simp, by decide, by simp, by simp⟩⟩
  have hone : ∀ u ∈ bytes b, u.oneCell' = true := fun u hu => by
    obtain ⟨c, _, rfl⟩ := List.mem_map.1 hu
    rfl
  obtain ⟨v', w', hr, h1, h2⟩ := run_append_sl (P := Try.prog) W B 23 23 5 i0 _ 1 Try.underlying23 hi0 hz0 hz1 hz2 rfl (.slice (some ⟨Y, 0, none⟩) 0 0) (.slice ab b.length cb) [] (bytes b) hown hy hone (by rw [bytes_length]; unfold maxLen; simp; omega) (by rw [bytes_length]; simp; omega) (by omega)
  rw [List.nil_append] at h1
  by_cases hb : b = []
  · subst hb
    have hr2 : (Builtin.append_ #[23, 23] 23 #[.slice (some ⟨Y, 0, none⟩) 0 0, .slice ab ([] : List UInt8).length cb]).run Try.prog W = .ok (.slice (some ⟨Y, 0, none⟩) 0 0) W := by
      cases ab <;> simp [Builtin.append_, run_underlying (P := Try.prog) Try.underlying23, sizeOf, typeInfo, hi0, Builtin.lenOf, Builtin.firstCells, storeCells, loadCells, loadCellsFrom]
    exact ⟨_, W, hr2, hown, Gr.refl _⟩
  · have hrow : Rows W (.slice ab b.length cb) b.length 1 (fun i j => ((b.map fun c => [byte c]).getD i []).getD j (.bool false)) := by
      obtain ⟨a', c', e, hcap, hx⟩ := hy
      injection e with e1 e2 e3
      subst e1 e3
      rw [bytes_length] at hcap
      refine ⟨_, cb, rfl, hcap, .inr ?_⟩
      obtain ⟨bb, off, rfl, hbl, hcell⟩ := hx.resolve_left (by intro e9; apply hb; have := congrArg List.length e9; rw [bytes_length] at this; exact List.eq_nil_of_length_eq_zero this)
      refine ⟨bb, off, rfl, hbl, fun i hi j hj => ?_⟩
      obtain rfl : j = 0 := by omega
      have h9 := hcell i (by rw [bytes_length]; exact hi)
      rw [Nat.mul_one, Nat.add_zero, h9]
      simp [bytes, List.getElem?_eq_getElem hi]
    obtain ⟨v2, w2, hr2, _, _, _, h3⟩ := run_append_rows (P := Try.prog) W B 23 23 5 i0 _ 1 1 Try.underlying23 hi0 hz0 hz1 hz2 rfl (.slice (some ⟨Y, 0, none⟩) 0 0) (.slice ab b.length cb) [] (b.map fun c => [byte c]) ⟨fun r hr => (by cases hr), .inr ⟨Y, 0, #[], rfl, hB, hc, by simp, by decide, by simp, by simp⟩⟩
      _ (by rw [List.length_map]; exact hrow) (fun i hi => ⟨by simp, fun j hj => by rw [List.getD_eq_getElem?_getD, List.getD_eq_getElem?_getD, List.getElem?_eq_getElem hi, Option.getD_some, List.getElem?_eq_getElem hj, Option.getD_some]⟩)
      (fun r hr u hu => by
        obtain ⟨c, _, rfl⟩ := List.mem_map.1 hr
        rw [List.mem_singleton.1 hu]; rfl)
      (by rw [List.length_map]; unfold maxLen; simp; omega) (by rw [List.length_map]; simp; omega) (by omega)
    rw [hr] at hr2
    injection hr2 with e1 e2
    subst e1 e2
    have hpos : 0 < b.length := List.length_pos_iff.2 hb
    rcases h3 (by rw [List.length_map]; exact hpos) with ⟨g9, cap9, e9, hc9, _⟩ | ⟨_, hg, _⟩
    · injection e9 with _ _ e9
      subst e9
      rw [List.length_map] at hc9
      simp at hc9
      first | exact absurd hc9 hb | omega
    · exact ⟨v', w', hr, h1, grownBy_below hg (Nat.le_refl _) (by intro k hk; cases hk)⟩
/-- The word on an empty literal. -/
def LitW (N0 : Nat) : Sp := fun r W => ∃ Y, r = .slice (some ⟨Y, 0, Option.none⟩) 0 0 ∧ N0 ≤ Y ∧ CellsAt W Y #[] 5
theorem LitW.mono (N0 : Nat) : MonoSp (LitW N0) := fun _ _ _ g ⟨Y, e, h1, h2⟩ => ⟨Y, e, h1, h2.gr g⟩
theorem LitW.monoT (N0 g : Nat) (hg : g < N0) : MonoT (fun j => j = g) (LitW N0) := fun _ _ _ h ⟨Y, e, h1, h2⟩ => ⟨Y, e, h1, h2.ch h (by show ¬ Y = g; omega)⟩
section
variable {w0 w w1 : World} {Q : Nat} {sv lv lv' cv : Value} {ps ps' : List (LetD × Value)} {cuts : List (AdD × AdD)} {sizes : List Int}
/-- The letters' slice was stored into the object. -/
theorem RNet.stored (h : RNet w0 w Q sv lv cv ps cuts sizes) (g : Ch (fun j => lv.ownBlock = some j) w w1) (hl : LetsR w1 w0.heap.size lv' ps') :
    RNet w0 (w1.setCell ⟨Q, 1, none⟩ lv') Q sv lv' cv ps' cuts sizes ∧ Ch (refB Q lv cv) w (w1.setCell ⟨Q, 1, none⟩ lv') := by
  have gQ : w1.heap[Q]? = w.heap[Q]? := g.block Q h.obj.lt h.QR.1
  have hk : Kb w w1 := Kb.ch g (fun j cs t fr hj hc => by
    obtain ⟨cs', hc'⟩ := h.lets.cells j hj
    rw [cells_type hc hc']
    exact ⟨by decide, by decide⟩)
  have g1 : Gr w0 w1 := Below.trans h.gr (g.below h.gr.size (fun k hk => (h.lets.lt k hk).1))
  have hcut : OwnR w1 w0.heap.size 76 4 cv (cuts.map rowC) := h.cuts.block (fun j hj => g.block j (h.cuts.lt j hj).2 (fun e => by
    obtain ⟨c1, hc1⟩ := h.lets.cells j e
    obtain ⟨c2, hc2⟩ := h.cuts.cellsC j hj
    cases cells_type hc1 hc2))
  have h1 : RNet w0 w1 Q sv lv' cv ps' cuts sizes → RNet w0 (w1.setCell ⟨Q, 1, none⟩ lv') Q sv lv' cv ps' cuts sizes ∧ Ch (fun j => j = Q) w1 (w1.setCell ⟨Q, 1, none⟩ lv') := fun h9 => h9.setL hl
  have gs := ch_setCell w1 Q 1 lv'
  have hQc : lv'.ownBlock ≠ some Q := fun e => by
    obtain ⟨cs', hc'⟩ := hl.cells Q e
    cases cells_type (h.obj.block gQ) hc'
  have hk2 : Kb w1 (w1.setCell ⟨Q, 1, none⟩ lv') := Kb.ch gs (fun j cs t fr hj hc => by
    have e : j = Q := hj
    subst e
    rw [cells_type hc (h.obj.block gQ)]
    exact ⟨by decide, by decide⟩)
  refine ⟨⟨?_, h.szs, h.szl, hl.keep hk2 (fun j hj => gs.block j (hl.lt j hj).2 (fun e => hQc (by rw [← (show j = Q from e)]; exact hj))), hcut.block (fun j hj => gs.block j (hcut.lt j hj).2 (fun e => h.QR.2 (by rw [← (show j = Q from e)]; exact hj))), h.bQ, Below.trans g1 (gs.below g1.size (fun k hk => by have e : k = Q := hk; have := h.bQ; omega))⟩,
    (g.mono (fun k hk => .inr (.inl hk))).transN gs (fun j hj _ => .inl hj)⟩
  have := (h.obj.block gQ).set 1 lv'
  exact this
end

set_option maxHeartbeats 0 in
set_option maxRecDepth 100000 in
/-- the document's Send -/
theorem refsend_any {w0 w : World} {Q : Nat} {sv lv cv : Value} {ps : List (LetD × Value)} {cuts : List (AdD × AdD)} {sizes : List Int} (h : RNet w0 w Q sv lv cv ps cuts sizes) (hln : ps.length ≤ 4096) (l : LetD) (bv : Value) (hb : Sl w bv (bytes l.b)) (hl : l.b.length ≤ 140737488355328) (hne : l.b ≠ [] → ∀ j, bv.ownBlock = some j → lv.ownBlock ≠ some j) :
    Calls Try.prog 22 #[.pointer (some ⟨Q, 0, Option.none⟩), letV l bv] w fun e w' => e = .returned (.int .i64 (sendE sizes ps.length l)) ∧
      RDid w0 w Q sv lv cv sizes (if sendE sizes ps.length l = 0 then ps.map Prod.fst ++ [l] else ps.map Prod.fst) cuts w' := by
  have hd0 : ∀ w', Gr w w' → RDid w0 w Q sv lv cv sizes (ps.map Prod.fst) cuts w' := fun w' g => ⟨lv, cv, ps, h.go g, rfl, Ch.of_gr g, fun j hj => .inl hj, fun j hj => .inl hj⟩
  have hdS : ∀ w1 w' lv' bv', Gr w w1 → RNet w0 w' Q sv lv' cv (ps ++ [(l, bv')]) cuts sizes → Ch (refB Q lv cv) w1 w' → (∀ j, lv'.ownBlock = some j → lv.ownBlock = some j ∨ w1.heap.size ≤ j) → RDid w0 w Q sv lv cv sizes (ps.map Prod.fst ++ [l]) cuts w' := fun w1 w' lv' bv' g h1 h2 h3 =>
    ⟨lv', cv, ps ++ [(l, bv')], h1, by simp, (Ch.of_gr g).transN h2 (fun j hj _ => hj), fun j hj => (h3 j hj).imp id (Nat.le_trans g.size), fun j hj => .inl hj⟩
  have HNE := Lib.hid hne
  have HD0 := Lib.hid hd0
  have HDS := Lib.hid hdS
  clear hd0 hdS hne
  have H0 := Lib.hid h
  obtain ⟨a, cap, rfl⟩ := h.capL
  obtain ⟨L, hL⟩ : ∃ L, L = ps.length := ⟨_, rfl⟩
  rw [← hL] at hln H0 HDS HD0 HNE ⊢
  have HL := Lib.hid hL
  clear hL h
  obtain ⟨z, hz⟩ : ∃ z, z = sendE sizes L l := ⟨_, rfl⟩
  rw [← hz]
  unfold sendE at hz
  obtain ⟨ok, hok⟩ : ∃ ok, ok = linkV sizes l.src l.dst := ⟨_, rfl⟩
  rw [← hok] at hz
  obtain ⟨⟨a1, a2⟩, ⟨b1, b2⟩, b⟩ := l
  obtain ⟨ab, cb, rfl, _⟩ := hb.bytes
  simp only at *
  unfold letV
  obtain ⟨w1, hw1⟩ : ∃ w1, w1 = w.alloc (.cells #[.int .i64 a1, .int .i64 a2, .int .i64 b1, .int .i64 b2, .slice ab b.length cb] 35) := ⟨_, rfl⟩
  have g1 : Gr w w1 := by rw [hw1]; exact (Gr.refl w).alloc _
  have cA : CellsAt w1 w.heap.size #[.int .i64 a1, .int .i64 a2, .int .i64 b1, .int .i64 b2, .slice ab b.length cb] 35 := by rw [hw1]; exact CellsAt.new _ _ _
  have C1 := Lib.hid cA
  have H1 := Lib.hid (H0.out.go g1)
  have S1 := Lib.hid (hb.below g1)
  have G1 := Lib.hid g1
  go_enter Try.func22, Try.ntmps22
  go_upto_region 1 with fail
  rw [← hw1]
  clear hw1 g1 cA hb
  have y0 := C1.out.cell 0
  have y1 := C1.out.cell 1
  have y2 := C1.out.cell 2
  have y3 := C1.out.cell 3
  go_wp2_with fail
  clear y0 y1 y2 y3
  refine (reflink_any w1 Q sv sizes (a1, a2) (b1, b2) (H1.out.obj.cell 0) (H1.out.szs.below H1.out.gr) (by have := H1.out.szl; omega)).mono ?_
  rintro e w2 ⟨rfl, g2⟩
  rw [← hok]
  have G2 := Lib.hid (Gr.trans G1.out g2)
  have C2 := Lib.hid (C1.out.gr g2)
  have H := Lib.hid (H1.out.go g2)
  have HB2 := Lib.hid (S1.out.below g2)
  clear g2 H1 C1 S1 hok
  cases ok with
  | false =>
    obtain rfl : z = 1 := by rw [hz]; rfl
    have HD := Lib.hid (HD0.out _ G2.out)
    clear hz
    go_wp2_with fail
    go_ret
    exact ⟨rfl, HD.out⟩
  | true =>
  have y4 := C2.out.cell 4
  by_cases hbl : 2097152 < b.length
  · obtain rfl : z = 1 := by rw [hz, if_neg (by decide), if_pos hbl]
    have HD := Lib.hid (HD0.out _ G2.out)
    clear hz
    go_wp2_with fail
    go_ret
    exact ⟨rfl, HD.out⟩
  have y1 := H.out.obj.cell 1
  by_cases hfull : 4096 ≤ L
  · obtain rfl : z = 4 := by rw [hz, if_neg (by decide), if_neg hbl, if_pos hfull]
    have HD := Lib.hid (HD0.out _ G2.out)
    clear hz hln
    go_wp2_with fail
    go_ret
    exact ⟨rfl, HD.out⟩
  obtain rfl : z = 0 := by rw [hz, if_neg (by decide), if_neg hbl, if_neg hfull]
  clear hz hln
  have hbl2 : b.length ≤ 4194304 := by omega
  go_upto_region 5 with fail
  clear y4
  have y2 := C2.out.cell 0
  have y3 := C2.out.cell 1
  have y5 := C2.out.cell 2
  have y6 := C2.out.cell 3
  have y7 := C2.out.cell 4
  by_cases hroom : ∃ g cap', a = some ⟨g, 0, Option.none⟩ ∧ cap = cap' ∧ L + 1 ≤ cap'
  · obtain ⟨g, cap', rfl, rfl, hcap⟩ := hroom
    have hgl : g < w2.heap.size := (H.out.lets.lt g rfl).2
    have hgN : Q ≠ g := fun e => H.out.QR.1 (by rw [e]; rfl)
    have hgc := H.out.lets.cells g rfl
    have HCAP := Lib.hid hcap
    clear hcap
    have hgw : g ≠ w.heap.size := fun e => by have := H0.out.lets.lt g rfl; omega
    have y2n : ¬ w.heap.size = g := fun e => hgw e.symm
    have y3n : ¬ w.heap.size = g := fun e => hgw e.symm
    have y5n : ¬ w.heap.size = g := fun e => hgw e.symm
    have y6n : ¬ w.heap.size = g := fun e => hgw e.symm
    have y7n : ¬ w.heap.size = g := fun e => hgw e.symm
    have y1n : ¬ Q = g := hgN
    have SLT : Hid (∀ W, Ch (fun j => j = g) w2.drew W → Sl W (.slice ab b.length cb) (bytes b)) := Lib.hid fun W hW => by
      by_cases e0 : b = []
      · rw [e0]; exact Sl.nil _ _ _
      · exact Sl.ch HB2.out.drew0 hW (fun j hj e => by have e9 : j = g := e; exact HNE.out e0 j hj (by rw [e9]; rfl))
    apply wp_region_draw_turnTail 16 (fun j => j = g) (fun j W => (j ≤ 0 → W.heap[g]? = w2.heap[g]?) ∧ (j = 1 → ∃ bv, (KOwn w2.heap.size b) bv W ∧ LetsR W w0.heap.size (.slice (some ⟨g, 0, Option.none⟩) (L + 1) cap) (ps ++ [((⟨(a1, a2), (b1, b2), b⟩ : LetD), bv)]))) (.eq _ :: .eq _ :: .eq _ :: .eq _ :: .eq _ :: .eq _ :: .eq _ :: .eq _ :: .eq _ :: .ok (LitW w2.heap.size) :: .eq _ :: .eq _ :: .ok (KOwn w2.heap.size b) :: .ok (OwnW w2.heap.size (⟨(a1, a2), (b1, b2), b⟩ : LetD)) :: .ok (NewRow w2.heap.size (⟨(a1, a2), (b1, b2), b⟩ : LetD) (KOwn w2.heap.size b)) :: .useEq (.slice (some ⟨g, 0, Option.none⟩) (L + 1) cap) :: []) (by kernel_rfl) (by kernel_rfl) ⟨LitW.monoT _ g hgl, KOwn.monoT _ _ g hgl, OwnW.monoT _ _ g hgl, NewRow.monoT _ _ g hgl (KOwn.monoT _ _ g hgl), trivial⟩
      (fun k W W' hg h => ⟨fun e => (hg.block g (Array.getElem?_eq_some_iff.1 ((h.1 e).trans hgc.choose_spec)).1).trans (h.1 e), fun e => by obtain ⟨bv, k1, k2⟩ := h.2 e; exact ⟨bv, (KOwn.mono _ _) _ _ _ hg k1, k2.gr hg⟩⟩) ⟨fun _ => rfl, fun e => absurd e (by decide)⟩
    apply wpT_eq
    · intro W hW hs
      unfold opT
      go_simp
      first | exact resT_eq_mk _ _ _ | rfl
    simp only [Act.put, List.setIfInBounds_toArray, List.set_cons_zero, List.set_cons_succ]
    apply wpT_eq
    · intro W hW hs
      unfold opT
      go_simp
      first | exact resT_eq_mk _ _ _ | rfl
    simp only [Act.put, List.setIfInBounds_toArray, List.set_cons_zero, List.set_cons_succ]
    apply wpT_eq
    · intro W hW hs
      unfold opT
      go_simp
      first | exact resT_eq_mk _ _ _ | rfl
    simp only [Act.put, List.setIfInBounds_toArray, List.set_cons_zero, List.set_cons_succ]
    apply wpT_eq
    · intro W hW hs
      unfold opT
      go_simp
      first | exact resT_eq_mk _ _ _ | rfl
    simp only [Act.put, List.setIfInBounds_toArray, List.set_cons_zero, List.set_cons_succ]
    apply wpT_eq
    · intro W hW hs
      have y1' := hW.drew0 y1 y1n
      unfold opT
      go_simp
      first | exact resT_eq_mk _ _ _ | rfl
    simp only [Act.put, List.setIfInBounds_toArray, List.set_cons_zero, List.set_cons_succ]
    apply wpT_eq
    · intro W hW hs
      unfold opT
      go_simp
      first | exact resT_eq_mk _ _ _ | rfl
    simp only [Act.put, List.setIfInBounds_toArray, List.set_cons_zero, List.set_cons_succ]
    apply wpT_eq
    · intro W hW hs
      have y2' := hW.drew0 y2 y2n
      have y3' := hW.drew0 y3 y3n
      unfold opT
      go_simp
      first | exact resT_eq_mk _ _ _ | rfl
    simp only [Act.put, List.setIfInBounds_toArray, List.set_cons_zero, List.set_cons_succ]
    apply wpT_eq
    · intro W hW hs
      unfold opT
      go_simp
      first | exact resT_eq_mk _ _ _ | rfl
    simp only [Act.put, List.setIfInBounds_toArray, List.set_cons_zero, List.set_cons_succ]
    apply wpT_eq
    · intro W hW hs
      have y5' := hW.drew0 y5 y5n
      have y6' := hW.drew0 y6 y6n
      unfold opT
      go_simp
      first | exact resT_eq_mk _ _ _ | rfl
    simp only [Act.put, List.setIfInBounds_toArray, List.set_cons_zero, List.set_cons_succ]
    apply wpT_ok
    · intro W hW hs
      unfold opT
      go_simp
      exact resT_mk ((Gr.refl _).alloc _) ⟨_, rfl, hW.size, CellsAt.new W _ 5⟩
    intro vl
    simp only [Act.put, List.setIfInBounds_toArray, List.set_cons_zero, List.set_cons_succ]
    apply wpT_eq
    · intro W hW hs
      unfold opT
      go_simp
      first | exact resT_eq_mk _ _ _ | rfl
    simp only [Act.put, List.setIfInBounds_toArray, List.set_cons_zero, List.set_cons_succ]
    apply wpT_eq
    · intro W hW hs
      have y7' := hW.drew0 y7 y7n
      unfold opT
      go_simp
      first | exact resT_eq_mk _ _ _ | rfl
    simp only [Act.put, List.setIfInBounds_toArray, List.set_cons_zero, List.set_cons_succ]
    apply wpT_ok
    · intro W hW hs
      obtain ⟨Y, rfl, hY1, hY2⟩ : LitW w2.heap.size vl W := hs _ (.head _) rfl
      obtain ⟨v9, w9, hr9, ho9, hg9⟩ := lit_bytes hY2 (SLT.out W hW) hY1 hbl2
      exact opT_run_append hr9 rfl _ _ rfl rfl rfl hg9 ho9
    intro vb
    simp only [Act.put, List.setIfInBounds_toArray, List.set_cons_zero, List.set_cons_succ]
    apply wpT_ok
    · intro W hW hs
      have hb9 : KOwn w2.heap.size b vb W := hs _ (.head _) rfl
      obtain ⟨a9, c9, rfl⟩ := (show Own W w2.heap.size 5 vb (bytes b) from hb9).shape
      have HB9 := Lib.hid hb9
      clear hb9 hs
      unfold opT
      go_simp
      exact resT_mk (Gr.refl _) ⟨_, rfl, HB9.out⟩
    intro vo
    simp only [Act.put, List.setIfInBounds_toArray, List.set_cons_zero, List.set_cons_succ]
    apply wpT_ok
    · intro W hW hs
      have ho9 : OwnW w2.heap.size (⟨(a1, a2), (b1, b2), b⟩ : LetD) vo W := hs _ (.head _) rfl
      obtain ⟨bv', rfl, ho⟩ := ho9
      obtain ⟨a9, c9, rfl⟩ := (show Own W w2.heap.size 5 bv' (bytes b) from ho).shape
      have HO9 := Lib.hid ho
      clear ho hs
      unfold letV
      unfold opT
      go_simp
      refine resT_mk ((Gr.refl _).alloc _) ?_
      exact ⟨W.heap.size, _, rfl, hW.size, CellsAt.new W _ 35, KOwn.mono _ _ _ _ _ ((Gr.refl W).alloc _) HO9.out⟩
    intro vy
    simp only [Act.put, List.setIfInBounds_toArray, List.set_cons_zero, List.set_cons_succ]
    apply wpT_useEq
    · intro W hW hS hs
      have hy : NewRow w2.heap.size (⟨(a1, a2), (b1, b2), b⟩ : LetD) (KOwn w2.heap.size b) vy W := hs _ (.head _) rfl
      obtain ⟨w9, hr9, ⟨bv9, hi9⟩, hc9⟩ := app_room H.out.lets hW (hS.1 (by decide)) (by rw [← HL.out]) (by rw [← HL.out]; exact HCAP.out) (KOwn.monoT _ _ g hgl) hy (fun bv hb => Own.mono (show Own _ w2.heap.size 5 bv (bytes b) from hb) H.out.gr.size) (by have := HL.out; omega) H.out.gr.size
      rw [← HL.out] at hr9 hi9
      exact opT_run_append hr9 rfl _ _ rfl rfl rfl ⟨hc9, ⟨fun e => absurd e (by decide), fun _ => ⟨bv9, hi9⟩⟩⟩ rfl
    simp only [Act.put, List.setIfInBounds_toArray, List.set_cons_zero, List.set_cons_succ]
    apply wpT_nil
    intro wq hW hS hsAll
    obtain ⟨bvn, q4, q1⟩ := hS.2 rfl
    have q2 : Ch (fun j => (Value.slice (some ⟨g, 0, Option.none⟩) L cap).ownBlock = some j) w2 wq := (hW.drewL).mono (fun k hk => by have e : k = g := hk; rw [e]; rfl)
    have q3 : ∀ j, ((.slice (some ⟨g, 0, Option.none⟩) (L + 1) cap) : Value).ownBlock = some j → (Value.slice (some ⟨g, 0, Option.none⟩) L cap).ownBlock = some j ∨ w2.heap.size ≤ j := fun j hj => .inl hj
    clear hsAll hS hW
    obtain ⟨r1, r2⟩ := H.out.stored q2 q1
    have R1 := Lib.hid r1
    have R2 := Lib.hid r2
    have Q3 := Lib.hid q3
    have qN := H.out.obj.ch q2 (fun e => H.out.QR.1 e)
    have k1 := qN.cell 1
    have k2 := qN.frozen 1
    clear r1 r2 q1 q2 q3 qN q4
    go_wp2_with fail
    go_ret
    exact ⟨rfl, HDS.out w2 _ _ bvn G2.out R1.out R2.out Q3.out⟩
  · have hno : ¬ ∃ g cap', Value.slice a L cap = .slice (some ⟨g, 0, Option.none⟩) L cap' ∧ L + 1 ≤ cap' := fun ⟨g, cap', e, h9⟩ => by
      injection e with e1 e2 e3
      exact hroom ⟨g, cap', e1, e3, h9⟩
    clear hroom
    have HNO := Lib.hid hno
    clear hno
    have SLG : Hid (∀ W, Gr w2.drew W → Sl W (.slice ab b.length cb) (bytes b)) := Lib.hid fun W hW => HB2.out.below (Gr.trans ((Gr.refl w2).drew) hW)
    apply wp_region_draw_tail 16 (.eq _ :: .eq _ :: .eq _ :: .eq _ :: .eq _ :: .eq _ :: .eq _ :: .eq _ :: .eq _ :: .ok (LitW w2.heap.size) :: .eq _ :: .eq _ :: .ok (KOwn w2.heap.size b) :: .ok (OwnW w2.heap.size (⟨(a1, a2), (b1, b2), b⟩ : LetD)) :: .ok (NewRow w2.heap.size (⟨(a1, a2), (b1, b2), b⟩ : LetD) (KOwn w2.heap.size b)) :: .ok (LongRow w2.heap.size w0.heap.size ps (⟨(a1, a2), (b1, b2), b⟩ : LetD) (KOwn w2.heap.size b)) :: []) (by kernel_rfl) (by kernel_rfl) ⟨LitW.mono _, KOwn.mono _ _, OwnW.mono _ _, NewRow.mono _ _ (KOwn.mono _ _), LongRow.mono _ _ _ _ (KOwn.mono _ _), trivial⟩
    apply wpG_eq
    · intro W hW hs
      unfold opG
      go_simp
      first | exact resG_eq_mk _ _ _ | rfl
    simp only [Act.put, List.setIfInBounds_toArray, List.set_cons_zero, List.set_cons_succ]
    apply wpG_eq
    · intro W hW hs
      unfold opG
      go_simp
      first | exact resG_eq_mk _ _ _ | rfl
    simp only [Act.put, List.setIfInBounds_toArray, List.set_cons_zero, List.set_cons_succ]
    apply wpG_eq
    · intro W hW hs
      unfold opG
      go_simp
      first | exact resG_eq_mk _ _ _ | rfl
    simp only [Act.put, List.setIfInBounds_toArray, List.set_cons_zero, List.set_cons_succ]
    apply wpG_eq
    · intro W hW hs
      unfold opG
      go_simp
      first | exact resG_eq_mk _ _ _ | rfl
    simp only [Act.put, List.setIfInBounds_toArray, List.set_cons_zero, List.set_cons_succ]
    apply wpG_eq
    · intro W hW hs
      have y1' := hW.drew0 y1
      unfold opG
      go_simp
      first | exact resG_eq_mk _ _ _ | rfl
    simp only [Act.put, List.setIfInBounds_toArray, List.set_cons_zero, List.set_cons_succ]
    apply wpG_eq
    · intro W hW hs
      unfold opG
      go_simp
      first | exact resG_eq_mk _ _ _ | rfl
    simp only [Act.put, List.setIfInBounds_toArray, List.set_cons_zero, List.set_cons_succ]
    apply wpG_eq
    · intro W hW hs
      have y2' := hW.drew0 y2
      have y3' := hW.drew0 y3
      unfold opG
      go_simp
      first | exact resG_eq_mk _ _ _ | rfl
    simp only [Act.put, List.setIfInBounds_toArray, List.set_cons_zero, List.set_cons_succ]
    apply wpG_eq
    · intro W hW hs
      unfold opG
      go_simp
      first | exact resG_eq_mk _ _ _ | rfl
    simp only [Act.put, List.setIfInBounds_toArray, List.set_cons_zero, List.set_cons_succ]
    apply wpG_eq
    · intro W hW hs
      have y5' := hW.drew0 y5
      have y6' := hW.drew0 y6
      unfold opG
      go_simp
      first | exact resG_eq_mk _ _ _ | rfl
    simp only [Act.put, List.setIfInBounds_toArray, List.set_cons_zero, List.set_cons_succ]
    apply wpG_ok
    · intro W hW hs
      unfold opG
      go_simp
      exact resG_mk ((Gr.refl _).alloc _) ⟨_, rfl, hW.size, CellsAt.new W _ 5⟩
    intro vl
    simp only [Act.put, List.setIfInBounds_toArray, List.set_cons_zero, List.set_cons_succ]
    apply wpG_eq
    · intro W hW hs
      unfold opG
      go_simp
      first | exact resG_eq_mk _ _ _ | rfl
    simp only [Act.put, List.setIfInBounds_toArray, List.set_cons_zero, List.set_cons_succ]
    apply wpG_eq
    · intro W hW hs
      have y7' := hW.drew0 y7
      unfold opG
      go_simp
      first | exact resG_eq_mk _ _ _ | rfl
    simp only [Act.put, List.setIfInBounds_toArray, List.set_cons_zero, List.set_cons_succ]
    apply wpG_ok
    · intro W hW hs
      obtain ⟨Y, rfl, hY1, hY2⟩ : LitW w2.heap.size vl W := hs _ (.head _) rfl
      obtain ⟨v9, w9, hr9, ho9, hg9⟩ := lit_bytes hY2 (SLG.out W hW) hY1 hbl2
      exact opG_run_append hr9 rfl _ _ rfl rfl rfl hg9 ho9
    intro vb
    simp only [Act.put, List.setIfInBounds_toArray, List.set_cons_zero, List.set_cons_succ]
    apply wpG_ok
    · intro W hW hs
      have hb9 : KOwn w2.heap.size b vb W := hs _ (.head _) rfl
      obtain ⟨a9, c9, rfl⟩ := (show Own W w2.heap.size 5 vb (bytes b) from hb9).shape
      have HB9 := Lib.hid hb9
      clear hb9 hs
      unfold opG
      go_simp
      exact resG_mk (Gr.refl _) ⟨_, rfl, HB9.out⟩
    intro vo
    simp only [Act.put, List.setIfInBounds_toArray, List.set_cons_zero, List.set_cons_succ]
    apply wpG_ok
    · intro W hW hs
      have ho9 : OwnW w2.heap.size (⟨(a1, a2), (b1, b2), b⟩ : LetD) vo W := hs _ (.head _) rfl
      obtain ⟨bv', rfl, ho⟩ := ho9
      obtain ⟨a9, c9, rfl⟩ := (show Own W w2.heap.size 5 bv' (bytes b) from ho).shape
      have HO9 := Lib.hid ho
      clear ho hs
      unfold letV
      unfold opG
      go_simp
      refine resG_mk ((Gr.refl _).alloc _) ?_
      exact ⟨W.heap.size, _, rfl, hW.size, CellsAt.new W _ 35, KOwn.mono _ _ _ _ _ ((Gr.refl W).alloc _) HO9.out⟩
    intro vy
    simp only [Act.put, List.setIfInBounds_toArray, List.set_cons_zero, List.set_cons_succ]
    apply wpG_ok
    · intro W hW hs
      have hy : NewRow w2.heap.size (⟨(a1, a2), (b1, b2), b⟩ : LetD) (KOwn w2.heap.size b) vy W := hs _ (.head _) rfl
      obtain ⟨v9, w9, hr9, hi9, hc9⟩ := app_new H.out.lets hW (by rw [← HL.out]; exact HNO.out) (KOwn.mono _ _) hy (fun bv hb => Own.mono (show Own _ w2.heap.size 5 bv (bytes b) from hb) H.out.gr.size) (by have := HL.out; omega) H.out.gr.size
      exact opG_run_append hr9 rfl _ _ rfl rfl rfl hc9 hi9
    intro vz
    simp only [Act.put, List.setIfInBounds_toArray, List.set_cons_zero, List.set_cons_succ]
    apply wpG_nil
    intro wq hW hsAll
    have hz : LongRow w2.heap.size w0.heap.size ps (⟨(a1, a2), (b1, b2), b⟩ : LetD) (KOwn w2.heap.size b) vz wq := hsAll _ (.head _)
    obtain ⟨bvn, q4, ⟨az, cz, rfl⟩, q1, q3'⟩ := hz
    rw [← HL.out] at q1 q3' ⊢
    have q2 : Ch (fun j => (Value.slice a L cap).ownBlock = some j) w2 wq := Ch.of_gr (Gr.trans ((Gr.refl w2).drew) hW)
    have q3 : ∀ j, (Value.slice az (L + 1) cz).ownBlock = some j → (Value.slice a L cap).ownBlock = some j ∨ w2.heap.size ≤ j := fun j hj => .inr (q3' j hj)
    clear hsAll hW q3'
    obtain ⟨r1, r2⟩ := H.out.stored q2 q1
    have R1 := Lib.hid r1
    have R2 := Lib.hid r2
    have Q3 := Lib.hid q3
    have qN := H.out.obj.ch q2 (fun e => H.out.QR.1 e)
    have k1 := qN.cell 1
    have k2 := qN.frozen 1
    clear r1 r2 q1 q2 q3 qN q4
    go_wp2_with fail
    go_ret
    exact ⟨rfl, HDS.out w2 _ _ bvn G2.out R1.out R2.out Q3.out⟩
end Go.Proofs.Ytcpkbngoecpnkaa
