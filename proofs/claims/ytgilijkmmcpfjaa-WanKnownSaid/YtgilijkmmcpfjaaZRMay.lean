/-
  Of the document: which sessions, operations, items may be told.
-/
import Derived.Test.YtgilijkmmcpfjaaZK
import Derived.Test.YtgilijkmmcpfjaaZRApp4
set_option linter.unusedVariables false
set_option linter.unusedSimpArgs false
set_option maxRecDepth 100000
namespace Go.Proofs.Ytgilijkmmcpfjaa
open Go.RowKit
theorem dmaysess_any (w : World) (s : Int) (n : Nat) : Calls Try.prog 80 #[.agg #[.int .i64 s, .int .u32 (n : Int)]] w (RetBool w (maySess s)) := by
  have E : Hid (maySess s = (decide (0 ≤ s) && decide (s < 3))) := Lib.hid rfl
  rw [E.out]
  by_cases h1 : 0 ≤ s
  · by_cases h2 : s < 3
    · go_enter Try.func80, Try.ntmps80
      go_wp2
      go_ret
      exact RetBool.mk (by simp [h1, h2]) ((Gr.refl w).alloc _)
    · go_enter Try.func80, Try.ntmps80
      go_wp2
      go_ret
      exact RetBool.mk (by simp [h1, h2]) ((Gr.refl w).alloc _)
  · go_enter Try.func80, Try.ntmps80
    go_wp2
    go_ret
    exact RetBool.mk (by simp; omega) ((Gr.refl w).alloc _)
theorem mayOp_path {h : OpH} {ps : List OpD} (k : 64 < h.path.length) : mayOp (.mk h ps) = false := by show (mayHead h && _) = false; unfold mayHead; rw [decide_eq_false (by omega)]; rfl
theorem mayOp_data {h : OpH} {ps : List OpD} (k : 64 < h.data.length) : mayOp (.mk h ps) = false := by show (mayHead h && _) = false; unfold mayHead; rw [decide_eq_false (show ¬ h.data.length ≤ 64 by omega), Bool.and_false]; rfl
theorem mayOp_parts {h : OpH} {ps : List OpD} (k : 6 < ps.length) : mayOp (.mk h ps) = false := by show (mayHead h && (decide (ps.length ≤ 6) && _)) = false; rw [decide_eq_false (show ¬ ps.length ≤ 6 by omega)]; simp
theorem mayOp_bad {h : OpH} {ps : List OpD} (p : OpD) (hp : p ∈ ps) (k : mayOp0 p = false) : mayOp (.mk h ps) = false := by
  show (mayHead h && (decide (ps.length ≤ 6) && ps.all mayOp0)) = false
  have : ps.all mayOp0 = false := List.all_eq_false.2 ⟨p, hp, by rw [k]; decide⟩
  rw [this]; simp
theorem mayOp_good {h : OpH} {ps : List OpD} (h1 : h.path.length ≤ 64) (h2 : h.data.length ≤ 64) (h3 : ps.length ≤ 6) (h4 : ps.all mayOp0 = true) : mayOp (.mk h ps) = true := by
  show (mayHead h && (decide (ps.length ≤ 6) && ps.all mayOp0)) = true
  unfold mayHead
  simp [h1, h2, h3, h4]
theorem mayOp0_path {o : OpD} (k : 64 < o.h.path.length) : mayOp0 o = false := by unfold mayOp0 mayHead; rw [decide_eq_false (by omega)]; rfl
theorem mayOp0_data {o : OpD} (k : 64 < o.h.data.length) : mayOp0 o = false := by unfold mayOp0 mayHead; rw [decide_eq_false (show ¬ o.h.data.length ≤ 64 by omega), Bool.and_false]; rfl
theorem mayOp0_parts {o : OpD} (k : 0 < o.parts.length) : mayOp0 o = false := by unfold mayOp0; rw [decide_eq_false (show ¬ o.parts.length ≤ 0 by omega), Bool.and_false]
theorem mayOp0_good {o : OpD} (h1 : o.h.path.length ≤ 64) (h2 : o.h.data.length ≤ 64) (h3 : o.parts.length ≤ 0) : mayOp0 o = true := by unfold mayOp0 mayHead; simp only [h1, h2, h3, decide_true, Bool.and_true]
theorem all_next {α : Type} (f : α → Bool) (l : List α) (k : Nat) (hk : k < l.length) (h : (l.take k).all f = true) (h2 : f l[k] = true) : (l.take (k + 1)).all f = true := by
  rw [List.take_add_one, List.getElem?_eq_getElem hk, List.all_append, h]; simp [h2]
theorem effs_one {P : Nat → Prop} (W : World) (b : Nat) (e : EffD) (dv : Value) (hc : CellsAt W b (effCells e dv) 43) (hd : SlP P W dv (bytes e.node.data)) (hb : P b) : EffsP P W (.slice (some ⟨b, 0, none⟩) 1 1) [e] := by
  refine ⟨_, ⟨row_one W b _ _ hc 11 (effCells_len e dv), .inr fun k hk => ?_⟩, fun i hi => ?_⟩
  · have : some b = some k := hk
    injection this with this
    rw [← this]; exact hb
  · obtain rfl : i = 0 := by simp at hi; omega
    exact ⟨dv, hd, fun j u hu => by
      show (effCells e dv).getD j (.bool false) = u
      have hu' : (effCells e dv)[j]? = some u := hu
      rw [List.getD_eq_getElem?_getD, hu']; rfl⟩
theorem mayEff_path {e : EffD} (k : 64 < e.path.length) : mayEff e = false := by unfold mayEff; rw [decide_eq_false (by omega)]; rfl
theorem mayEff_data {e : EffD} (k : 64 < e.node.data.length) : mayEff e = false := by unfold mayEff; rw [decide_eq_false (show ¬ e.node.data.length ≤ 64 by omega), Bool.and_false]; rfl
theorem mayEff_site {e : EffD} (k : maySess e.node.site = false) : mayEff e = false := by unfold mayEff; rw [k, Bool.and_false]; rfl
theorem mayEff_zero {e : EffD} (k : e.gone = true) (k2 : zeroNode e.node = false) : mayEff e = false := by unfold mayEff; rw [k, k2]; simp
theorem mayEff_good {e : EffD} (h1 : e.path.length ≤ 64) (h2 : e.node.data.length ≤ 64) (h3 : maySess e.node.site = true) (h4 : e.gone = true → zeroNode e.node = true) : mayEff e = true := by
  unfold mayEff
  rw [h3]
  simp only [h1, h2, decide_true, Bool.true_and]
  cases h : e.gone with
  | true => rw [h4 h]; rfl
  | false => rfl
theorem mayItem_bad {x : ItemD} (e : EffD) (he : e ∈ x.effs) (k : mayEff e = false) : mayItem x = false := by
  have : x.effs.all mayEff = false := List.all_eq_false.2 ⟨e, he, by rw [k]; decide⟩
  unfold mayItem
  rw [this]; simp
theorem mayItem_eq (x : ItemD) : mayItem x = (decide (0 ≤ x.origin) && decide (x.origin < 3) && decide (-1 ≤ x.region) && decide (x.region < 4) && decide (x.stamp.length ≤ 3) && (decide (x.effs.length ≤ 16) && x.effs.all mayEff)) := rfl
set_option maxHeartbeats 4000000 in
theorem dmayitem_any (w : World) (x : ItemD) (sv ev : Value) (hp : ItemP Any w x sv ev) (hl : x.effs.length ≤ 1000000) : Calls Try.prog 45 #[.agg (itemCells x sv ev).toArray] w (RetBool w (mayItem x)) := by
  obtain ⟨ori, seq, reg, epo, st, es, clo⟩ := x
  replace hl : es.length ≤ 1000000 := hl
  obtain ⟨p1, p2⟩ := hp
  replace p1 : SlP Any w sv (nums st) := p1
  replace p2 : EffsP Any w ev es := p2
  obtain ⟨ast, cst, hv, _, _⟩ := Sl.numsAt' p1.1
  obtain ⟨nst, hnst⟩ : ∃ n, n = st.length := ⟨_, rfl⟩
  rw [← hnst] at hv
  subst hv
  obtain ⟨aes, ces, rfl⟩ := p2.shape
  have ME := mayItem_eq ⟨ori, seq, reg, epo, st, es, clo⟩
  dsimp only at ME
  rw [← hnst] at ME
  have MI := Lib.hid ME
  clear hnst ME p1
  show Calls Try.prog 45 #[.agg #[.int .i64 ori, .int .u64 (seq : Int), .int .i64 reg, .int .u64 (epo : Int), .slice ast nst cst, .slice aes es.length ces, .int .u32 (clo : Int)]] w _
  go_enter Try.func45, Try.ntmps45
  go_wp2_with (first | (refine wpList_boxE (cs := [.int .i64 ori, .int .u64 (seq : Int), .int .i64 reg, .int .u64 (epo : Int), .slice ast nst cst, .slice aes es.length ces, .int .u32 (clo : Int)]) _ rfl rfl rfl ?_) | fail)
  intro w1 k1 g1 n1
  obtain ⟨b1, hb1⟩ : ∃ b1, b1 = w.heap.size := ⟨_, rfl⟩
  rw [← hb1]
  rw [← hb1] at k1
  have x0 := k1.cell 0
  have x1 := k1.cell 1
  have x2 := k1.cell 2
  have x3 := k1.cell 3
  have x4 := k1.cell 4
  have x5 := k1.cell 5
  have x6 := k1.cell 6
  simp only [List.getElem?_cons_zero, List.getElem?_cons_succ] at x0 x1 x2 x3 x4 x5 x6
  have T := Lib.hid fun W (hW : Gr w1 W) => (show W.cell? ⟨b1, 5, none⟩ = some (.slice aes es.length ces) from (k1.gr hW).cell 5)
  have GG := Lib.hid g1
  have P2 := Lib.hid (p2.gr g1)
  clear k1 g1 n1 hb1 p2
  by_cases h0 : ori < 0
  · have hq : ori < 0 := h0
    have HN := Lib.hid (show mayItem ⟨ori, seq, reg, epo, st, es, clo⟩ = false from by rw [MI.out, decide_eq_false (by omega)]; rfl)
    go_wp2
    go_ret
    exact RetBool.mk (by rw [HN.out] <;> simp) GG.out
  by_cases h1 : 2 < ori
  · have hq : 2 < ori := h1
    have HN := Lib.hid (show mayItem ⟨ori, seq, reg, epo, st, es, clo⟩ = false from by rw [MI.out, decide_eq_false (show ¬ ori < 3 by omega)]; simp)
    go_wp2
    go_ret
    exact RetBool.mk (by rw [HN.out] <;> simp) GG.out
  by_cases h2 : reg < -1
  · have hq : reg < -1 := h2
    have HN := Lib.hid (show mayItem ⟨ori, seq, reg, epo, st, es, clo⟩ = false from by rw [MI.out, decide_eq_false (show ¬ -1 ≤ reg by omega)]; simp)
    go_wp2
    go_ret
    exact RetBool.mk (by rw [HN.out] <;> simp) GG.out
  by_cases h3 : 3 < reg
  · have hq : 3 < reg := h3
    have HN := Lib.hid (show mayItem ⟨ori, seq, reg, epo, st, es, clo⟩ = false from by rw [MI.out, decide_eq_false (show ¬ reg < 4 by omega)]; simp)
    go_wp2
    go_ret
    exact RetBool.mk (by rw [HN.out] <;> simp) GG.out
  by_cases h4 : 3 < nst
  · have hq : (3 : Int) < (nst : Int) := by omega
    have HN := Lib.hid (show mayItem ⟨ori, seq, reg, epo, st, es, clo⟩ = false from by rw [MI.out, decide_eq_false (show ¬ nst ≤ 3 by omega)]; simp)
    go_wp2
    go_ret
    exact RetBool.mk (by rw [HN.out] <;> simp) GG.out
  have hq4 : ¬ (3 : Int) < (nst : Int) := by omega
  by_cases h5 : 16 < es.length
  · have hq : (16 : Int) < (es.length : Int) := by omega
    have HN := Lib.hid (show mayItem ⟨ori, seq, reg, epo, st, es, clo⟩ = false from by rw [MI.out, decide_eq_false (show ¬ es.length ≤ 16 by omega)]; simp)
    go_wp2
    go_ret
    exact RetBool.mk (by rw [HN.out] <;> simp) GG.out
  have hq5 : ¬ (16 : Int) < (es.length : Int) := by omega
  go_wp2_with fail
  go_loopw [3] (fun i wr => ∃ k : Nat, k ≤ es.length ∧ i = .int .i64 k ∧ (es.take k).all mayEff = true ∧ Gr w1 wr) (fun i _ => es.length - (intOf i).toNat)
  case atStart => exact ⟨0, Nat.zero_le _, rfl, rfl, Gr.refl _⟩
  case round =>
    clear x0 x1 x2 x3 x4 x5 x6 hq4 hq5
    obtain ⟨k, hk, rfl, hall, hg⟩ := hrel
    have x5 := T.out wr hg
    have HA := Lib.hid hall
    clear hall
    by_cases hlt : k < es.length
    · obtain ⟨B3, o3, _, dv3, e3, hB3, op3, t3⟩ := (P2.out.gr hg).at k hlt
      injection e3 with e3 _ q3
      subst e3 q3
      have BAD : Hid (mayEff es[k] = false → mayItem ⟨ori, seq, reg, epo, st, es, clo⟩ = false) := Lib.hid fun h => mayItem_bad _ (List.getElem_mem hlt) h
      have NEXT : Hid (mayEff es[k] = true → (es.take (k + 1)).all mayEff = true) := Lib.hid fun h => all_next mayEff es k hlt HA.out h
      obtain ⟨x, hx⟩ : ∃ x, x = es[k] := ⟨_, rfl⟩
      rw [← hx] at op3 t3 BAD NEXT
      clear hx HA
      obtain ⟨pa, gn, nx⟩ := x
      replace op3 : SlP Any wr dv3 (bytes nx.data) := op3
      obtain ⟨ad, cd, hv⟩ := op3.1.oneCells
      rw [bytes_length] at hv
      obtain ⟨nd, hnd⟩ : ∃ nd, nd = nx.data.length := ⟨_, rfl⟩
      rw [← hnd] at hv
      subst hv
      obtain ⟨np, hnp⟩ : ∃ np, np = pa.length := ⟨_, rfl⟩
      have M1 := Lib.hid hnp
      have M2 := Lib.hid hnd
      have lp : (pa.length : Int) = (np : Int) := by rw [hnp]
      have a0 := t3 0 _ (by decide) rfl
      have a1 := t3 1 _ (by decide) rfl
      have a2 := t3 2 _ (by decide) rfl
      have a3 := t3 3 _ (by decide) rfl
      have a4 := t3 4 _ (by decide) rfl
      have a5 := t3 5 _ (by decide) rfl
      have a6 := t3 6 _ (by decide) rfl
      have a7 := t3 7 _ (by decide) rfl
      have a8 := t3 8 _ (by decide) rfl
      have a9 := t3 9 _ (by decide) rfl
      have a10 := t3 10 _ (by decide) rfl
      simp only [effCells, nodeCells, Nat.add_zero] at a0 a1 a2 a3 a4 a5 a6 a7 a8 a9 a10
      have OP3 := Lib.hid op3
      clear hnd hnp t3 op3
      have i1 : (0 : Int) ≤ (k : Int) := by omega
      have i2 : (k : Int) < (es.length : Int) := by omega
      have HG := Lib.hid hg
      clear hg
      go_wp2_with (first | (refine wpList_storeE effTy _ _ rfl rfl rfl rfl (CellsAt.new _ _ _) rfl rfl rfl ?_) | fail)
      intro W3 K3 C3
      have g3 : Gr wr W3 := Below.trans ((Gr.refl wr).alloc _) (C3.below ((Gr.refl wr).alloc _).size (fun k hk => by have : k = wr.heap.size := hk; omega))
      obtain ⟨b5, hb5⟩ : ∃ b5, b5 = wr.heap.size := ⟨_, rfl⟩
      rw [← hb5] at K3 ⊢
      have TY : Hid (∀ W, Gr W3 W → W.cell? ⟨b5, 0, none⟩ = some (.string ⟨pa.toArray⟩) ∧ W.cell? ⟨b5, 1, none⟩ = some (.bool gn) ∧ W.cell? ⟨b5, 2, none⟩ = some (.slice ad nd cd) ∧ W.cell? ⟨b5, 3, none⟩ = some (.int .u32 (nx.version : Int)) ∧ W.cell? ⟨b5, 4, none⟩ = some (.int .u32 (nx.kin : Int)) ∧ W.cell? ⟨b5, 5, none⟩ = some (.int .u32 (nx.next : Int)) ∧ W.cell? ⟨b5, 6, none⟩ = some (.int .i64 nx.site) ∧ W.cell? ⟨b5, 7, none⟩ = some (.int .u32 (nx.n : Int)) ∧ W.cell? ⟨b5, 8, none⟩ = some (.int .u64 (nx.made : Int)) ∧ W.cell? ⟨b5, 9, none⟩ = some (.int .u64 (nx.changed : Int)) ∧ W.cell? ⟨b5, 10, none⟩ = some (.int .u64 (nx.touched : Int))) := Lib.hid fun W hW => ⟨(K3.gr hW).cell 0, (K3.gr hW).cell 1, (K3.gr hW).cell 2, (K3.gr hW).cell 3, (K3.gr hW).cell 4, (K3.gr hW).cell 5, (K3.gr hW).cell 6, (K3.gr hW).cell 7, (K3.gr hW).cell 8, (K3.gr hW).cell 9, (K3.gr hW).cell 10⟩
      obtain ⟨y0, y1, y2, y3, y4, y5, y6, y7, y8, y9, y10⟩ := TY.out W3 (Gr.refl _)
      have G3 := Lib.hid (HG.out.trans g3)
      have OP4 := Lib.hid (OP3.out.gr g3)
      have GG2 := GG
      clear GG
      have GG := Lib.hid (GG2.out.trans G3.out)
      clear K3 C3 g3 a0 a1 a2 a3 a4 a5 a6 a7 a8 a9 a10 x5 hb5
      by_cases h6 : 64 < np
      · have hq : (64 : Int) < (np : Int) := by omega
        have HN := Lib.hid (BAD.out (mayEff_path (show 64 < pa.length by have := M1.out; omega)))
        go_wp2
        go_ret
        exact RetBool.mk (by rw [HN.out] <;> simp) GG.out
      have hq6 : ¬ (64 : Int) < (np : Int) := by omega
      by_cases h7 : 64 < nd
      · have hq : (64 : Int) < (nd : Int) := by omega
        have HN := Lib.hid (BAD.out (mayEff_data (show 64 < nx.data.length by have := M2.out; omega)))
        go_wp2
        go_ret
        exact RetBool.mk (by rw [HN.out] <;> simp) GG.out
      have hq7 : ¬ (64 : Int) < (nd : Int) := by omega
      go_wp2_with fail
      refine (dmaysess_any W3 nx.site nx.n).mono ?_
      rintro e W4 ⟨rfl, g4⟩
      have G4 := Lib.hid (G3.out.trans g4)
      have hg4 : Hid (Gr W3 W4) := Lib.hid g4
      have GG3 := GG
      clear GG
      have GG := Lib.hid (GG3.out.trans g4)
      clear y0 y1 y2 y3 y4 y5 y6 y7 y8 y9 y10 hq6 hq7
      obtain ⟨y0, y1, y2, y3, y4, y5, y6, y7, y8, y9, y10⟩ := TY.out W4 g4
      have OP5 := Lib.hid (OP4.out.gr g4)
      clear g4
      cases hms : maySess nx.site with
      | false =>
        have HN := Lib.hid (BAD.out (mayEff_site hms))
        clear hms
        go_wp2
        go_ret
        exact RetBool.mk (by rw [HN.out] <;> simp) GG.out
      | true =>
        have MS := Lib.hid hms
        clear hms
        have OK : Hid ((gn = true → zeroNode nx = true) → (es.take (k + 1)).all mayEff = true) := Lib.hid fun h => NEXT.out (mayEff_good (show pa.length ≤ 64 by have := M1.out; omega) (show nx.data.length ≤ 64 by have := M2.out; omega) MS.out h)
        cases gn with
        | false =>
          have YY := Lib.hid (OK.out (fun h => by cases h))
          clear OK NEXT BAD
          go_wp2
          go_roundw
          case rel => first | exact ⟨k + 1, by omega, by go_num, YY.out, G4.out⟩ | ((repeat apply Exists.intro); apply And.intro; rotate_left; rfl; exact ⟨k + 1, by omega, by go_num, YY.out, G4.out⟩)
          case measure => simp [intOf]; omega
        | true =>
          obtain ⟨W5, hW5⟩ : ∃ W5, W5 = W4.alloc (.cells #[.string ⟨pa.toArray⟩, .bool true, .slice ad nd cd, .int .u32 (nx.version : Int), .int .u32 (nx.kin : Int), .int .u32 (nx.next : Int), .int .i64 nx.site, .int .u32 (nx.n : Int), .int .u64 (nx.made : Int), .int .u64 (nx.changed : Int), .int .u64 (nx.touched : Int)] 43) := ⟨_, rfl⟩
          have g5 : Gr W4 W5 := by rw [hW5]; exact (Gr.refl W4).alloc _
          have k5 : CellsAt W5 W4.heap.size (effCells ⟨pa, true, nx⟩ (.slice ad nd cd)) 43 := by rw [hW5]; exact CellsAt.new _ _ _
          obtain ⟨W6, hW6⟩ : ∃ W6, W6 = W5.alloc (.cells #[.string ⟨pa.toArray⟩, .bool true, .slice none 0 0, .int .u32 0, .int .u32 0, .int .u32 0, .int .i64 0, .int .u32 0, .int .u64 0, .int .u64 0, .int .u64 0] 43) := ⟨_, rfl⟩
          have g6 : Gr W5 W6 := by rw [hW6]; exact (Gr.refl W5).alloc _
          have k6 : CellsAt W6 W5.heap.size (effCells ⟨pa, true, zeroN⟩ (.slice none 0 0)) 43 := by rw [hW6]; exact CellsAt.new _ _ _
          have E1 : EffsP Any W6 (.slice (some ⟨W4.heap.size, 0, none⟩) 1 1) [⟨pa, true, nx⟩] := effs_one W6 _ ⟨pa, true, nx⟩ _ (k5.gr g6) (OP5.out.gr (g5.trans g6)) trivial
          have E2 : EffsP Any W6 (.slice (some ⟨W5.heap.size, 0, none⟩) 1 1) [⟨pa, true, zeroN⟩] := effs_one W6 _ ⟨pa, true, zeroN⟩ _ k6 (SlP.nil _ _ _ _) trivial
          have C := Lib.hid (effs_says W6 _ _ _ _ E1 E2 (by simp) (by simp))
          have G6 := Lib.hid (G4.out.trans (g5.trans g6))
          have HW5 := Lib.hid hW5
          have HW6 := Lib.hid hW6
          have n5 : W5.heap.size = W4.heap.size + 1 := by rw [hW5]; simp
          have GG4 := GG
          clear GG
          have GG5 := Lib.hid (GG4.out.trans (g5.trans g6))
          obtain ⟨z0, z1, z2, z3, z4, z5, z6, z7, z8, z9, z10⟩ := TY.out W5 (Gr.trans (show Gr W3 W4 from hg4.out) g5)
          have e5 : W4.alloc (.cells #[.string ⟨pa.toArray⟩, .bool true, .slice ad nd cd, .int .u32 (nx.version : Int), .int .u32 (nx.kin : Int), .int .u32 (nx.next : Int), .int .i64 nx.site, .int .u32 (nx.n : Int), .int .u64 (nx.made : Int), .int .u64 (nx.changed : Int), .int .u64 (nx.touched : Int)] 43) = W5 := hW5.symm
          have e6 : W5.alloc (.cells #[.string ⟨pa.toArray⟩, .bool true, .slice none 0 0, .int .u32 0, .int .u32 0, .int .u32 0, .int .i64 0, .int .u32 0, .int .u64 0, .int .u64 0, .int .u64 0] 43) = W6 := hW6.symm
          clear E1 E2 k5 k6 g5 g6 hW5 hW6
          go_wp2_with fail
          try rw [n5] at C
          refine C.out.mono ?_
          rintro e W7 ⟨z, rfl, hz, g7⟩
          have G7 := Lib.hid (G6.out.trans g7)
          have GG := Lib.hid (GG5.out.trans g7)
          have ZZ : Hid (z = true ↔ zeroNode nx = true) := Lib.hid (by
            rw [hz, zeroNode_iff]
            exact ⟨fun h => by injection h with h; injection h, fun h => by rw [h]⟩)
          clear hz g7 e5 e6 n5
          cases z with
          | false =>
            have hzn : zeroNode nx = false := by cases hc : zeroNode nx with | false => rfl | true => exact absurd (ZZ.out.2 hc) (by decide)
            have HN := Lib.hid (BAD.out (mayEff_zero rfl hzn))
            clear hzn
            go_wp2
            go_ret
            exact RetBool.mk (by rw [HN.out] <;> simp) GG.out
          | true =>
            have YY := Lib.hid (OK.out (fun _ => ZZ.out.1 rfl))
            clear OK NEXT BAD
            go_wp2
            go_roundw
            case rel => first | exact ⟨k + 1, by omega, by go_num, YY.out, G7.out⟩ | ((repeat apply Exists.intro); apply And.intro; rotate_left; rfl; exact ⟨k + 1, by omega, by go_num, YY.out, G7.out⟩)
            case measure => simp [intOf]; omega
    · obtain rfl : k = es.length := by omega
      have e : mayItem ⟨ori, seq, reg, epo, st, es, clo⟩ = true := by
        have := HA.out
        rw [List.take_length] at this
        rw [MI.out, this]
        simp only [Bool.and_true, Bool.and_eq_true, decide_eq_true_eq]
        omega
      have E := Lib.hid e
      have GZ := Lib.hid (GG.out.trans hg)
      clear e HA hg
      go_wp2
      go_ret
      exact RetBool.mk (by rw [E.out]) GZ.out
end Go.Proofs.Ytgilijkmmcpfjaa
