/-
  Of the document: the bytes of an entry.
-/
import Derived.Test.YtiemgmbjhllmbaaGreatZRApp4
set_option linter.unusedVariables false
set_option linter.unusedSimpArgs false
set_option maxRecDepth 100000
namespace Go.Proofs.YtiemgmbjhllmbaaGreat
open Go.RowKit
theorem App.ret {w w2 W : World} {B : Nat} {v0 v : Value} {L : List UInt8} (h : App w2 B v0 L v W) (hv : ∀ k, v0.ownBlock = some k → w.heap.size ≤ k) (g : Gr w w2) : RetSl w L (.returned v) W :=
  ⟨v, rfl, h.own.sl, ⟨h.grown.os.trans g.os, h.grown.tape.trans g.tape, h.grown.output.trans g.output, Nat.le_trans g.size h.grown.size, fun k hk => (h.grown.block k (Nat.lt_of_lt_of_le hk g.size) (fun e => by have := hv k e.symm; omega)).trans (g.block k hk)⟩⟩
theorem EntP.below {w : World} {x : EntD} {q : EntV} {B : Nat} (h : EntP Any w x q) (hB : w.heap.size ≤ B) : EntP (fun k => k < B) w x q := h.monoLt fun k _ hk => Nat.lt_of_lt_of_le hk hB
theorem dopx_any (w : World) (B : Nat) (v dv pv : Value) (l : List UInt8) (o : OpD) (ok : OpOk o) (hf : ∀ p ∈ o.parts, p.parts = []) (hp : OpP (fun k => k < B) w o dv pv) (ho : Own w B 5 v (bytes l)) (hB : B ≤ w.heap.size) (hl : l.length + (opB o).length ≤ 500000000) :
    Calls Tryz.prog 82 #[v, .agg (opCells o.h dv pv).toArray] w (RetApp w B v (l ++ opB o)) := by
  obtain ⟨h, ps⟩ := o
  exact dop_any w B v dv pv l h ps ok hf hp ho hB hl
theorem tellB_eq (x : EntD) (n : Nat) (h : x.kind = n) : tellB x = be 1 n ++ (kindP n).flatMap (partB x) := by subst h; rfl
set_option maxHeartbeats 2000000 in
theorem dbytes_1 (w : World) (x : EntD) (q : EntV) (hk : x.kind = 1) (hp : EntP Any w x q) (ok : EntOk x) (big : EntBig x) (hf : ∀ p ∈ x.op.parts, p.parts = []) : Calls Tryz.prog 23 #[.agg (entCells x q).toArray] w (RetSl w (tellB x)) := by
  have OK := Lib.hid ok
  have BIG := Lib.hid big
  obtain ⟨E, hE⟩ : ∃ E, E = entCells x q := ⟨_, rfl⟩
  obtain ⟨da, dc, pa, pc, sa, sc, ea, ec, fa, fc, rfl⟩ := hp.shapes
  have CE : Hid (∀ W b, CellsAt W b E 35 → W.cell? ⟨b, 0, none⟩ = some (.int .u8 1) ∧ W.cell? ⟨b, 1, none⟩ = some (.int .u32 (x.client : Int)) ∧ W.cell? ⟨b, 2, none⟩ = some (.int .u32 (x.req : Int)) ∧ W.cell? ⟨b, 3, none⟩ = some (.int .i64 x.osite) ∧ W.cell? ⟨b, 4, none⟩ = some (.int .u32 (x.on : Int)) ∧ W.cell? ⟨b, 5, none⟩ = some (.int .u8 (x.op.h.kind : Int)) ∧ W.cell? ⟨b, 6, none⟩ = some (.string ⟨x.op.h.path.toArray⟩) ∧ W.cell? ⟨b, 7, none⟩ = some (.slice da (bytes x.op.h.data).length dc) ∧ W.cell? ⟨b, 8, none⟩ = some (.int .i64 x.op.h.version) ∧ W.cell? ⟨b, 9, none⟩ = some (.bool x.op.h.seq) ∧ W.cell? ⟨b, 10, none⟩ = some (.bool x.op.h.eph) ∧ W.cell? ⟨b, 11, none⟩ = some (.slice pa x.op.parts.length pc)) := Lib.hid fun W b h => by
    have h0 : W.cell? ⟨b, 0, none⟩ = some (.int .u8 (x.kind : Int)) := by subst hE; exact h.cell 0
    rw [hk] at h0
    exact ⟨h0, by subst hE; exact h.cell 1, by subst hE; exact h.cell 2, by subst hE; exact h.cell 3, by subst hE; exact h.cell 4, by subst hE; exact h.cell 5, by subst hE; exact h.cell 6, by subst hE; exact h.cell 7, by subst hE; exact h.cell 8, by subst hE; exact h.cell 9, by subst hE; exact h.cell 10, by subst hE; exact h.cell 11⟩
  have TB := tellB_eq x 1 hk
  rw [← hE, TB]
  have EE : Hid (be 1 1 ++ (kindP 1).flatMap (partB x) = be 1 1 ++ be 8 x.client ++ be 8 x.req ++ sessB x.osite x.on ++ opB x.op) := Lib.hid (by simp [kindP, partB, valB, valOf])
  rw [EE.out]
  have wa := wrap_nat64 x.client (by have := ok.client; omega)
  have wb := wrap_nat64 x.req (by have := ok.req; omega)
  have hb1 := big.op
  have hb2 := big.frontier
  have HFL := Lib.hid hf
  have c1 := ok.client
  have c2 := ok.req
  clear hE hk ok big TB hf
  go_enter Tryz.func23, Tryz.ntmps23
  go_wp2_with (first | (refine wpList_boxE _ rfl rfl rfl ?_) | fail)
  intro w1 K1 G1 n1
  obtain ⟨b, hb⟩ : ∃ b, b = w.heap.size := ⟨_, rfl⟩
  obtain ⟨B, hB⟩ : ∃ B, B = w1.heap.size := ⟨_, rfl⟩
  have hbB : Hid (b < B) := Lib.hid (by rw [hb, hB]; exact K1.lt)
  rw [← hb]
  rw [← hb] at K1
  have PB : Hid (EntP (fun k => k < B) w1 x _) := Lib.hid ((hp.below (B := B) (by rw [hB]; exact G1.size)).gr G1)
  obtain ⟨w2, hw2⟩ : ∃ w2, w2 = w1.alloc (.cells #[.int .u8 1] 5) := ⟨_, rfl⟩
  have g2 : Gr w1 w2 := by rw [hw2]; exact (Gr.refl w1).alloc _
  have O2 : Own w2 B 5 (.slice (some ⟨w1.heap.size, 0, none⟩) 1 1) (bytes (be 1 1)) := by
    rw [hw2, be1_byte 1 (by decide), hB]
    exact World.ownsRow_lit w1 #[.int .u8 1] 1 (Nat.le_refl _) (by decide) rfl
  have K2 := Lib.hid (K1.gr g2)
  have GW := Lib.hid (G1.trans g2)
  have PB2 := Lib.hid (PB.out.gr g2)
  have HW2 := Lib.hid hw2
  have hbs : Hid (w.heap.size ≤ B) := Lib.hid (by rw [hB]; exact G1.size)
  have hB2 : Hid (B ≤ w2.heap.size) := Lib.hid (by rw [hB]; exact g2.size)
  have cc := (CE.out w1 b K1).1
  clear hw2 g2 K1 G1 n1 PB hp hB hb
  obtain ⟨v0, hv0⟩ : ∃ v0, v0 = (.slice (some ⟨w1.heap.size, 0, none⟩) 1 1 : Value) := ⟨_, rfl⟩
  rw [← hv0] at O2
  have V0 := Lib.hid hv0
  have HO := Lib.hid O2
  have HBx := hB2
  have HV0 : Hid (∀ k, v0.ownBlock = some k → k < w2.drew.heap.size) := Lib.hid fun k hk => (World.ownsRow.lt O2 k hk).2
  have HV1 : Hid (∀ k, v0.ownBlock = some k → B ≤ k) := Lib.hid O2.ownBlock_ge
  have dd0 := (CE.out w2 b K2.out).1
  have ee : w1.alloc (.cells #[.int .u8 1] 5) = w2 := HW2.out.symm
  clear O2 hv0
  go_wp2_with fail
  try rw [← HW2.out]
  try rw [← V0.out]
  clear dd0 ee cc
  apply wp_region_draw_turnU (rhoOf v0) (StU B v0 (fun k => ([be 1 1, be 1 1 ++ be 8 x.client, be 1 1 ++ be 8 x.client ++ be 8 x.req, be 1 1 ++ be 8 x.client ++ be 8 x.req ++ sessB x.osite x.on, be 1 1 ++ be 8 x.client ++ be 8 x.req ++ sessB x.osite x.on ++ opB x.op, be 1 1 ++ be 8 x.client ++ be 8 x.req ++ sessB x.osite x.on ++ opB x.op] : List (List UInt8)).getD k [])) (.eq _ :: .eq _ :: .eq _ :: .eq _ :: .use TU :: .eq _ :: .eq _ :: .eq _ :: .use TU :: .eq _ :: .eq _ :: .use TU :: .eq _ :: .eq _ :: .use TU :: .use TU :: []) (by kernel_rfl) (by kernel_rfl) (by kernel_rfl) ⟨TU.mono _, TU.mono _, TU.mono _, TU.mono _, TU.mono _, trivial⟩ StU.gr ⟨(HO.out.gr (Gr.refl _).drew), fun k hk => .inl hk⟩
  iterate 4
   apply wpU_eq
   · intro U W hW hU hs
     have KX := K2.out.gr (Gr.refl w2).drew
     have KY : CellsAt W b E 35 := KX.ch hW (fun e => by have h1 := HV1.out b e; have h2 := hbB.out; omega)
     obtain ⟨d0, d1, d2, d3, d4, d5, d6, d7, d8, d9, d10, d11⟩ := CE.out W b KY
     clear KX KY
     unfold opT
     go_simp
     first | exact resT_eq_mk _ _ _ | exact ⟨Gr.refl _, rfl⟩
   simp only [Act.put, pt1, pt2, pt3]
  apply wpU_use
  · intro U W hW hU hS hs
    have KX := K2.out.gr (Gr.refl w2).drew
    have KY : CellsAt W b E 35 := KX.ch hW (fun e => by have h1 := HV1.out b e; have h2 := hbB.out; omega)
    obtain ⟨d0, d1, d2, d3, d4, d5, d6, d7, d8, d9, d10, d11⟩ := CE.out W b KY
    clear KX KY
    have hu : Own W B 5 v0 (bytes (be 1 1)) := hS.1
    have hBW : B ≤ W.heap.size := Nat.le_trans HBx.out hW.size
    have hlen : (be 1 1).length ≤ 900000000 := (by (try simp only [List.length_append, be_length, textB_length, flagB_length, sessB_length, stampB_length]); omega)
    refine opT_hide fun VV hVV => ?_
    have HVV := Lib.hid hVV
    have HS := Lib.hid hS
    clear hVV hS
    unfold opT
    go_simp
    refine resT_call ((dnum_any W B v0 _ x.client (by have := OK.out.client; omega) hu hBW (by have := hlen; omega)).mono ?_)
    rintro e W2 ⟨v2, rfl, ha⟩
    obtain ⟨c1, c2⟩ := StU.user HS.out (v' := v2) (W' := W2) (by first | exact ha | simpa only [List.append_assoc] using ha)
    exact ⟨_, rfl, c1, HVV.out _ _ ⟨c2, trivial⟩⟩
  intro a1
  simp only [Act.put, pt1, pt2, pt3]
  iterate 3
   apply wpU_eq
   · intro U W hW hU hs
     have KX := K2.out.gr (Gr.refl w2).drew
     have KY : CellsAt W b E 35 := KX.ch hW (fun e => by have h1 := HV1.out b e; have h2 := hbB.out; omega)
     obtain ⟨d0, d1, d2, d3, d4, d5, d6, d7, d8, d9, d10, d11⟩ := CE.out W b KY
     clear KX KY
     unfold opT
     go_simp
     first | exact resT_eq_mk _ _ _ | exact ⟨Gr.refl _, rfl⟩
   simp only [Act.put, pt1, pt2, pt3]
  apply wpU_use
  · intro U W hW hU hS hs
    have KX := K2.out.gr (Gr.refl w2).drew
    have KY : CellsAt W b E 35 := KX.ch hW (fun e => by have h1 := HV1.out b e; have h2 := hbB.out; omega)
    obtain ⟨d0, d1, d2, d3, d4, d5, d6, d7, d8, d9, d10, d11⟩ := CE.out W b KY
    clear KX KY
    have hu : Own W B 5 a1 (bytes (be 1 1 ++ be 8 x.client)) := hS.1
    have hBW : B ≤ W.heap.size := Nat.le_trans HBx.out hW.size
    have hlen : (be 1 1 ++ be 8 x.client).length ≤ 900000000 := (by (try simp only [List.length_append, be_length, textB_length, flagB_length, sessB_length, stampB_length]); omega)
    refine opT_hide fun VV hVV => ?_
    have HVV := Lib.hid hVV
    have HS := Lib.hid hS
    clear hVV hS
    unfold opT
    go_simp
    refine resT_call ((dnum_any W B a1 _ x.req (by have := OK.out.req; omega) hu hBW (by have := hlen; omega)).mono ?_)
    rintro e W2 ⟨v2, rfl, ha⟩
    obtain ⟨c1, c2⟩ := StU.user HS.out (v' := v2) (W' := W2) (by first | exact ha | simpa only [List.append_assoc] using ha)
    exact ⟨_, rfl, c1, HVV.out _ _ ⟨c2, trivial⟩⟩
  intro a2
  simp only [Act.put, pt1, pt2, pt3]
  iterate 2
   apply wpU_eq
   · intro U W hW hU hs
     have KX := K2.out.gr (Gr.refl w2).drew
     have KY : CellsAt W b E 35 := KX.ch hW (fun e => by have h1 := HV1.out b e; have h2 := hbB.out; omega)
     obtain ⟨d0, d1, d2, d3, d4, d5, d6, d7, d8, d9, d10, d11⟩ := CE.out W b KY
     clear KX KY
     unfold opT
     go_simp
     first | exact resT_eq_mk _ _ _ | exact ⟨Gr.refl _, rfl⟩
   simp only [Act.put, pt1, pt2, pt3]
  apply wpU_use
  · intro U W hW hU hS hs
    have KX := K2.out.gr (Gr.refl w2).drew
    have KY : CellsAt W b E 35 := KX.ch hW (fun e => by have h1 := HV1.out b e; have h2 := hbB.out; omega)
    obtain ⟨d0, d1, d2, d3, d4, d5, d6, d7, d8, d9, d10, d11⟩ := CE.out W b KY
    clear KX KY
    have hu : Own W B 5 a2 (bytes (be 1 1 ++ be 8 x.client ++ be 8 x.req)) := hS.1
    have hBW : B ≤ W.heap.size := Nat.le_trans HBx.out hW.size
    have hlen : (be 1 1 ++ be 8 x.client ++ be 8 x.req).length ≤ 900000000 := (by (try simp only [List.length_append, be_length, textB_length, flagB_length, sessB_length, stampB_length]); omega)
    refine opT_hide fun VV hVV => ?_
    have HVV := Lib.hid hVV
    have HS := Lib.hid hS
    clear hVV hS
    unfold opT
    go_simp
    refine resT_call ((dsess_any W B a2 _ x.osite x.on OK.out.on hu hBW (by (try simp only [List.length_append, be_length, textB_length, flagB_length, sessB_length, stampB_length]); omega)).mono ?_)
    rintro e W2 ⟨v2, rfl, ha⟩
    obtain ⟨c1, c2⟩ := StU.user HS.out (v' := v2) (W' := W2) (by first | exact ha | simpa only [List.append_assoc] using ha)
    exact ⟨_, rfl, c1, HVV.out _ _ ⟨c2, trivial⟩⟩
  intro a3
  simp only [Act.put, pt1, pt2, pt3]
  iterate 2
   apply wpU_eq
   · intro U W hW hU hs
     have KX := K2.out.gr (Gr.refl w2).drew
     have KY : CellsAt W b E 35 := KX.ch hW (fun e => by have h1 := HV1.out b e; have h2 := hbB.out; omega)
     obtain ⟨d0, d1, d2, d3, d4, d5, d6, d7, d8, d9, d10, d11⟩ := CE.out W b KY
     clear KX KY
     unfold opT
     go_simp
     first | exact resT_eq_mk _ _ _ | exact ⟨Gr.refl _, rfl⟩
   simp only [Act.put, pt1, pt2, pt3]
  apply wpU_use
  · intro U W hW hU hS hs
    have KX := K2.out.gr (Gr.refl w2).drew
    have KY : CellsAt W b E 35 := KX.ch hW (fun e => by have h1 := HV1.out b e; have h2 := hbB.out; omega)
    obtain ⟨d0, d1, d2, d3, d4, d5, d6, d7, d8, d9, d10, d11⟩ := CE.out W b KY
    clear KX KY
    have hu : Own W B 5 a3 (bytes (be 1 1 ++ be 8 x.client ++ be 8 x.req ++ sessB x.osite x.on)) := hS.1
    have hBW : B ≤ W.heap.size := Nat.le_trans HBx.out hW.size
    have hlen : (be 1 1 ++ be 8 x.client ++ be 8 x.req ++ sessB x.osite x.on).length ≤ 900000000 := (by (try simp only [List.length_append, be_length, textB_length, flagB_length, sessB_length, stampB_length]); omega)
    refine opT_hide fun VV hVV => ?_
    have HVV := Lib.hid hVV
    have HS := Lib.hid hS
    clear hVV hS
    unfold opT
    go_simp
    refine resT_call ((dopx_any W B a3 _ _ _ x.op OK.out.op HFL.out ((PB2.out.gr (Gr.refl w2).drew).keep (keep_rho hW HV1.out)).1 hu hBW (by have := BIG.out.op; (try simp only [List.length_append, be_length, textB_length, flagB_length, sessB_length, stampB_length]); omega)).mono ?_)
    rintro e W2 ⟨v2, rfl, ha⟩
    obtain ⟨c1, c2⟩ := StU.user HS.out (v' := v2) (W' := W2) (by first | exact ha | simpa only [List.append_assoc] using ha)
    exact ⟨_, rfl, c1, HVV.out _ _ ⟨c2, trivial⟩⟩
  intro a4
  simp only [Act.put, pt1, pt2, pt3]
  apply wpU_use
  · intro U W hW hU hS hs
    have KX := K2.out.gr (Gr.refl w2).drew
    have KY : CellsAt W b E 35 := KX.ch hW (fun e => by have h1 := HV1.out b e; have h2 := hbB.out; omega)
    obtain ⟨d0, d1, d2, d3, d4, d5, d6, d7, d8, d9, d10, d11⟩ := CE.out W b KY
    clear KX KY
    have hu : Own W B 5 a4 (bytes (be 1 1 ++ be 8 x.client ++ be 8 x.req ++ sessB x.osite x.on ++ opB x.op)) := hS.1
    have hBW : B ≤ W.heap.size := Nat.le_trans HBx.out hW.size
    have hlen : (be 1 1 ++ be 8 x.client ++ be 8 x.req ++ sessB x.osite x.on ++ opB x.op).length ≤ 900000000 := (by (try simp only [List.length_append, be_length, textB_length, flagB_length, sessB_length, stampB_length]); omega)
    have ha := App.refl hu
    obtain ⟨c1, c2⟩ := StU.user hS (v' := a4) (W' := W) ha
    refine opT_hide fun VV hVV => ?_
    have HVV := Lib.hid (hVV _ _ ⟨c2, trivial⟩)
    clear hVV c2
    unfold opT
    go_simp
    exact ⟨c1, HVV.out⟩
  intro az
  simp only [Act.put, pt1, pt2, pt3]
  apply wpU_nil
  intro U W9 hW9 hU9 hS9 hs9
  have hA : App w2 B v0 (be 1 1 ++ be 8 x.client ++ be 8 x.req ++ sessB x.osite x.on ++ opB x.op) az W9 := App.grL ((Gr.refl _).drew) (StU.fin hS9 hW9 hU9)
  have KP : Keep (fun k => k < B) w2 W9 := hA.keep HV1.out
  have RR := Lib.hid (App.ret hA (w := w) (fun k hk => Nat.le_trans hbs.out (HV1.out k hk)) GW.out)
  clear hS9 hW9 hU9 hs9 hA KP
  go_wp2
  go_ret
  exact RR.out
set_option maxHeartbeats 2000000 in
theorem dbytes_2 (w : World) (x : EntD) (q : EntV) (hk : x.kind = 2) (hp : EntP Any w x q) (ok : EntOk x) (big : EntBig x) : Calls Tryz.prog 23 #[.agg (entCells x q).toArray] w (RetSl w (tellB x)) := by
  have OK := Lib.hid ok
  have BIG := Lib.hid big
  obtain ⟨E, hE⟩ : ∃ E, E = entCells x q := ⟨_, rfl⟩
  obtain ⟨da, dc, pa, pc, sa, sc, ea, ec, fa, fc, rfl⟩ := hp.shapes
  have CE : Hid (∀ W b, CellsAt W b E 35 → W.cell? ⟨b, 0, none⟩ = some (.int .u8 2) ∧ W.cell? ⟨b, 1, none⟩ = some (.int .u32 (x.client : Int)) ∧ W.cell? ⟨b, 2, none⟩ = some (.int .u32 (x.req : Int))) := Lib.hid fun W b h => by
    have h0 : W.cell? ⟨b, 0, none⟩ = some (.int .u8 (x.kind : Int)) := by subst hE; exact h.cell 0
    rw [hk] at h0
    exact ⟨h0, by subst hE; exact h.cell 1, by subst hE; exact h.cell 2⟩
  have TB := tellB_eq x 2 hk
  rw [← hE, TB]
  have EE : Hid (be 1 2 ++ (kindP 2).flatMap (partB x) = be 1 2 ++ be 8 x.client ++ be 8 x.req) := Lib.hid (by simp [kindP, partB, valB, valOf])
  rw [EE.out]
  have wa := wrap_nat64 x.client (by have := ok.client; omega)
  have wb := wrap_nat64 x.req (by have := ok.req; omega)
  have hb1 := big.op
  have hb2 := big.frontier
  have c1 := ok.client
  have c2 := ok.req
  clear hE hk ok big TB
  go_enter Tryz.func23, Tryz.ntmps23
  go_wp2_with (first | (refine wpList_boxE _ rfl rfl rfl ?_) | fail)
  intro w1 K1 G1 n1
  obtain ⟨b, hb⟩ : ∃ b, b = w.heap.size := ⟨_, rfl⟩
  obtain ⟨B, hB⟩ : ∃ B, B = w1.heap.size := ⟨_, rfl⟩
  have hbB : Hid (b < B) := Lib.hid (by rw [hb, hB]; exact K1.lt)
  rw [← hb]
  rw [← hb] at K1
  have PB : Hid (EntP (fun k => k < B) w1 x _) := Lib.hid ((hp.below (B := B) (by rw [hB]; exact G1.size)).gr G1)
  obtain ⟨w2, hw2⟩ : ∃ w2, w2 = w1.alloc (.cells #[.int .u8 2] 5) := ⟨_, rfl⟩
  have g2 : Gr w1 w2 := by rw [hw2]; exact (Gr.refl w1).alloc _
  have O2 : Own w2 B 5 (.slice (some ⟨w1.heap.size, 0, none⟩) 1 1) (bytes (be 1 2)) := by
    rw [hw2, be1_byte 2 (by decide), hB]
    exact World.ownsRow_lit w1 #[.int .u8 2] 1 (Nat.le_refl _) (by decide) rfl
  have K2 := Lib.hid (K1.gr g2)
  have GW := Lib.hid (G1.trans g2)
  have PB2 := Lib.hid (PB.out.gr g2)
  have HW2 := Lib.hid hw2
  have hbs : Hid (w.heap.size ≤ B) := Lib.hid (by rw [hB]; exact G1.size)
  have hB2 : Hid (B ≤ w2.heap.size) := Lib.hid (by rw [hB]; exact g2.size)
  have cc := (CE.out w1 b K1).1
  clear hw2 g2 K1 G1 n1 PB hp hB hb
  obtain ⟨v0, hv0⟩ : ∃ v0, v0 = (.slice (some ⟨w1.heap.size, 0, none⟩) 1 1 : Value) := ⟨_, rfl⟩
  rw [← hv0] at O2
  have V0 := Lib.hid hv0
  have HO := Lib.hid O2
  have HBx := hB2
  have HV0 : Hid (∀ k, v0.ownBlock = some k → k < w2.drew.heap.size) := Lib.hid fun k hk => (World.ownsRow.lt O2 k hk).2
  have HV1 : Hid (∀ k, v0.ownBlock = some k → B ≤ k) := Lib.hid O2.ownBlock_ge
  have dd0 := (CE.out w2 b K2.out).1
  have ee : w1.alloc (.cells #[.int .u8 2] 5) = w2 := HW2.out.symm
  clear O2 hv0
  go_wp2_with fail
  try rw [← HW2.out]
  try rw [← V0.out]
  clear dd0 ee cc
  apply wp_region_draw_turnU (rhoOf v0) (StU B v0 (fun k => ([be 1 2, be 1 2 ++ be 8 x.client, be 1 2 ++ be 8 x.client ++ be 8 x.req, be 1 2 ++ be 8 x.client ++ be 8 x.req] : List (List UInt8)).getD k [])) (.eq _ :: .eq _ :: .eq _ :: .eq _ :: .use TU :: .eq _ :: .eq _ :: .eq _ :: .use TU :: .use TU :: []) (by kernel_rfl) (by kernel_rfl) (by kernel_rfl) ⟨TU.mono _, TU.mono _, TU.mono _, trivial⟩ StU.gr ⟨(HO.out.gr (Gr.refl _).drew), fun k hk => .inl hk⟩
  iterate 4
   apply wpU_eq
   · intro U W hW hU hs
     have KX := K2.out.gr (Gr.refl w2).drew
     have KY : CellsAt W b E 35 := KX.ch hW (fun e => by have h1 := HV1.out b e; have h2 := hbB.out; omega)
     obtain ⟨d0, d1, d2⟩ := CE.out W b KY
     clear KX KY
     unfold opT
     go_simp
     first | exact resT_eq_mk _ _ _ | exact ⟨Gr.refl _, rfl⟩
   simp only [Act.put, pt1, pt2, pt3]
  apply wpU_use
  · intro U W hW hU hS hs
    have KX := K2.out.gr (Gr.refl w2).drew
    have KY : CellsAt W b E 35 := KX.ch hW (fun e => by have h1 := HV1.out b e; have h2 := hbB.out; omega)
    obtain ⟨d0, d1, d2⟩ := CE.out W b KY
    clear KX KY
    have hu : Own W B 5 v0 (bytes (be 1 2)) := hS.1
    have hBW : B ≤ W.heap.size := Nat.le_trans HBx.out hW.size
    have hlen : (be 1 2).length ≤ 900000000 := (by (try simp only [List.length_append, be_length, textB_length, flagB_length, sessB_length, stampB_length]); omega)
    refine opT_hide fun VV hVV => ?_
    have HVV := Lib.hid hVV
    have HS := Lib.hid hS
    clear hVV hS
    unfold opT
    go_simp
    refine resT_call ((dnum_any W B v0 _ x.client (by have := OK.out.client; omega) hu hBW (by have := hlen; omega)).mono ?_)
    rintro e W2 ⟨v2, rfl, ha⟩
    obtain ⟨c1, c2⟩ := StU.user HS.out (v' := v2) (W' := W2) (by first | exact ha | simpa only [List.append_assoc] using ha)
    exact ⟨_, rfl, c1, HVV.out _ _ ⟨c2, trivial⟩⟩
  intro a1
  simp only [Act.put, pt1, pt2, pt3]
  iterate 3
   apply wpU_eq
   · intro U W hW hU hs
     have KX := K2.out.gr (Gr.refl w2).drew
     have KY : CellsAt W b E 35 := KX.ch hW (fun e => by have h1 := HV1.out b e; have h2 := hbB.out; omega)
     obtain ⟨d0, d1, d2⟩ := CE.out W b KY
     clear KX KY
     unfold opT
     go_simp
     first | exact resT_eq_mk _ _ _ | exact ⟨Gr.refl _, rfl⟩
   simp only [Act.put, pt1, pt2, pt3]
  apply wpU_use
  · intro U W hW hU hS hs
    have KX := K2.out.gr (Gr.refl w2).drew
    have KY : CellsAt W b E 35 := KX.ch hW (fun e => by have h1 := HV1.out b e; have h2 := hbB.out; omega)
    obtain ⟨d0, d1, d2⟩ := CE.out W b KY
    clear KX KY
    have hu : Own W B 5 a1 (bytes (be 1 2 ++ be 8 x.client)) := hS.1
    have hBW : B ≤ W.heap.size := Nat.le_trans HBx.out hW.size
    have hlen : (be 1 2 ++ be 8 x.client).length ≤ 900000000 := (by (try simp only [List.length_append, be_length, textB_length, flagB_length, sessB_length, stampB_length]); omega)
    refine opT_hide fun VV hVV => ?_
    have HVV := Lib.hid hVV
    have HS := Lib.hid hS
    clear hVV hS
    unfold opT
    go_simp
    refine resT_call ((dnum_any W B a1 _ x.req (by have := OK.out.req; omega) hu hBW (by have := hlen; omega)).mono ?_)
    rintro e W2 ⟨v2, rfl, ha⟩
    obtain ⟨c1, c2⟩ := StU.user HS.out (v' := v2) (W' := W2) (by first | exact ha | simpa only [List.append_assoc] using ha)
    exact ⟨_, rfl, c1, HVV.out _ _ ⟨c2, trivial⟩⟩
  intro a2
  simp only [Act.put, pt1, pt2, pt3]
  apply wpU_use
  · intro U W hW hU hS hs
    have KX := K2.out.gr (Gr.refl w2).drew
    have KY : CellsAt W b E 35 := KX.ch hW (fun e => by have h1 := HV1.out b e; have h2 := hbB.out; omega)
    obtain ⟨d0, d1, d2⟩ := CE.out W b KY
    clear KX KY
    have hu : Own W B 5 a2 (bytes (be 1 2 ++ be 8 x.client ++ be 8 x.req)) := hS.1
    have hBW : B ≤ W.heap.size := Nat.le_trans HBx.out hW.size
    have hlen : (be 1 2 ++ be 8 x.client ++ be 8 x.req).length ≤ 900000000 := (by (try simp only [List.length_append, be_length, textB_length, flagB_length, sessB_length, stampB_length]); omega)
    have ha := App.refl hu
    obtain ⟨c1, c2⟩ := StU.user hS (v' := a2) (W' := W) ha
    refine opT_hide fun VV hVV => ?_
    have HVV := Lib.hid (hVV _ _ ⟨c2, trivial⟩)
    clear hVV c2
    unfold opT
    go_simp
    exact ⟨c1, HVV.out⟩
  intro az
  simp only [Act.put, pt1, pt2, pt3]
  apply wpU_nil
  intro U W9 hW9 hU9 hS9 hs9
  have hA : App w2 B v0 (be 1 2 ++ be 8 x.client ++ be 8 x.req) az W9 := App.grL ((Gr.refl _).drew) (StU.fin hS9 hW9 hU9)
  have KP : Keep (fun k => k < B) w2 W9 := hA.keep HV1.out
  have RR := Lib.hid (App.ret hA (w := w) (fun k hk => Nat.le_trans hbs.out (HV1.out k hk)) GW.out)
  clear hS9 hW9 hU9 hs9 hA KP
  go_wp2
  go_ret
  exact RR.out
set_option maxHeartbeats 2000000 in
theorem dbytes_3 (w : World) (x : EntD) (q : EntV) (hk : x.kind = 3) (hp : EntP Any w x q) (ok : EntOk x) (big : EntBig x) : Calls Tryz.prog 23 #[.agg (entCells x q).toArray] w (RetSl w (tellB x)) := by
  have OK := Lib.hid ok
  have BIG := Lib.hid big
  obtain ⟨E, hE⟩ : ∃ E, E = entCells x q := ⟨_, rfl⟩
  obtain ⟨da, dc, pa, pc, sa, sc, ea, ec, fa, fc, rfl⟩ := hp.shapes
  have CE : Hid (∀ W b, CellsAt W b E 35 → W.cell? ⟨b, 0, none⟩ = some (.int .u8 3) ∧ W.cell? ⟨b, 1, none⟩ = some (.int .u32 (x.client : Int)) ∧ W.cell? ⟨b, 2, none⟩ = some (.int .u32 (x.req : Int)) ∧ W.cell? ⟨b, 3, none⟩ = some (.int .i64 x.osite) ∧ W.cell? ⟨b, 4, none⟩ = some (.int .u32 (x.on : Int))) := Lib.hid fun W b h => by
    have h0 : W.cell? ⟨b, 0, none⟩ = some (.int .u8 (x.kind : Int)) := by subst hE; exact h.cell 0
    rw [hk] at h0
    exact ⟨h0, by subst hE; exact h.cell 1, by subst hE; exact h.cell 2, by subst hE; exact h.cell 3, by subst hE; exact h.cell 4⟩
  have TB := tellB_eq x 3 hk
  rw [← hE, TB]
  have EE : Hid (be 1 3 ++ (kindP 3).flatMap (partB x) = be 1 3 ++ be 8 x.client ++ be 8 x.req ++ sessB x.osite x.on) := Lib.hid (by simp [kindP, partB, valB, valOf])
  rw [EE.out]
  have wa := wrap_nat64 x.client (by have := ok.client; omega)
  have wb := wrap_nat64 x.req (by have := ok.req; omega)
  have hb1 := big.op
  have hb2 := big.frontier
  have c1 := ok.client
  have c2 := ok.req
  clear hE hk ok big TB
  go_enter Tryz.func23, Tryz.ntmps23
  go_wp2_with (first | (refine wpList_boxE _ rfl rfl rfl ?_) | fail)
  intro w1 K1 G1 n1
  obtain ⟨b, hb⟩ : ∃ b, b = w.heap.size := ⟨_, rfl⟩
  obtain ⟨B, hB⟩ : ∃ B, B = w1.heap.size := ⟨_, rfl⟩
  have hbB : Hid (b < B) := Lib.hid (by rw [hb, hB]; exact K1.lt)
  rw [← hb]
  rw [← hb] at K1
  have PB : Hid (EntP (fun k => k < B) w1 x _) := Lib.hid ((hp.below (B := B) (by rw [hB]; exact G1.size)).gr G1)
  obtain ⟨w2, hw2⟩ : ∃ w2, w2 = w1.alloc (.cells #[.int .u8 3] 5) := ⟨_, rfl⟩
  have g2 : Gr w1 w2 := by rw [hw2]; exact (Gr.refl w1).alloc _
  have O2 : Own w2 B 5 (.slice (some ⟨w1.heap.size, 0, none⟩) 1 1) (bytes (be 1 3)) := by
    rw [hw2, be1_byte 3 (by decide), hB]
    exact World.ownsRow_lit w1 #[.int .u8 3] 1 (Nat.le_refl _) (by decide) rfl
  have K2 := Lib.hid (K1.gr g2)
  have GW := Lib.hid (G1.trans g2)
  have PB2 := Lib.hid (PB.out.gr g2)
  have HW2 := Lib.hid hw2
  have hbs : Hid (w.heap.size ≤ B) := Lib.hid (by rw [hB]; exact G1.size)
  have hB2 : Hid (B ≤ w2.heap.size) := Lib.hid (by rw [hB]; exact g2.size)
  have cc := (CE.out w1 b K1).1
  clear hw2 g2 K1 G1 n1 PB hp hB hb
  obtain ⟨v0, hv0⟩ : ∃ v0, v0 = (.slice (some ⟨w1.heap.size, 0, none⟩) 1 1 : Value) := ⟨_, rfl⟩
  rw [← hv0] at O2
  have V0 := Lib.hid hv0
  have HO := Lib.hid O2
  have HBx := hB2
  have HV0 : Hid (∀ k, v0.ownBlock = some k → k < w2.drew.heap.size) := Lib.hid fun k hk => (World.ownsRow.lt O2 k hk).2
  have HV1 : Hid (∀ k, v0.ownBlock = some k → B ≤ k) := Lib.hid O2.ownBlock_ge
  have dd0 := (CE.out w2 b K2.out).1
  have ee : w1.alloc (.cells #[.int .u8 3] 5) = w2 := HW2.out.symm
  clear O2 hv0
  go_wp2_with fail
  try rw [← HW2.out]
  try rw [← V0.out]
  clear dd0 ee cc
  apply wp_region_draw_turnU (rhoOf v0) (StU B v0 (fun k => ([be 1 3, be 1 3 ++ be 8 x.client, be 1 3 ++ be 8 x.client ++ be 8 x.req, be 1 3 ++ be 8 x.client ++ be 8 x.req ++ sessB x.osite x.on, be 1 3 ++ be 8 x.client ++ be 8 x.req ++ sessB x.osite x.on] : List (List UInt8)).getD k [])) (.eq _ :: .eq _ :: .eq _ :: .eq _ :: .use TU :: .eq _ :: .eq _ :: .eq _ :: .use TU :: .eq _ :: .eq _ :: .use TU :: .use TU :: []) (by kernel_rfl) (by kernel_rfl) (by kernel_rfl) ⟨TU.mono _, TU.mono _, TU.mono _, TU.mono _, trivial⟩ StU.gr ⟨(HO.out.gr (Gr.refl _).drew), fun k hk => .inl hk⟩
  iterate 4
   apply wpU_eq
   · intro U W hW hU hs
     have KX := K2.out.gr (Gr.refl w2).drew
     have KY : CellsAt W b E 35 := KX.ch hW (fun e => by have h1 := HV1.out b e; have h2 := hbB.out; omega)
     obtain ⟨d0, d1, d2, d3, d4⟩ := CE.out W b KY
     clear KX KY
     unfold opT
     go_simp
     first | exact resT_eq_mk _ _ _ | exact ⟨Gr.refl _, rfl⟩
   simp only [Act.put, pt1, pt2, pt3]
  apply wpU_use
  · intro U W hW hU hS hs
    have KX := K2.out.gr (Gr.refl w2).drew
    have KY : CellsAt W b E 35 := KX.ch hW (fun e => by have h1 := HV1.out b e; have h2 := hbB.out; omega)
    obtain ⟨d0, d1, d2, d3, d4⟩ := CE.out W b KY
    clear KX KY
    have hu : Own W B 5 v0 (bytes (be 1 3)) := hS.1
    have hBW : B ≤ W.heap.size := Nat.le_trans HBx.out hW.size
    have hlen : (be 1 3).length ≤ 900000000 := (by (try simp only [List.length_append, be_length, textB_length, flagB_length, sessB_length, stampB_length]); omega)
    refine opT_hide fun VV hVV => ?_
    have HVV := Lib.hid hVV
    have HS := Lib.hid hS
    clear hVV hS
    unfold opT
    go_simp
    refine resT_call ((dnum_any W B v0 _ x.client (by have := OK.out.client; omega) hu hBW (by have := hlen; omega)).mono ?_)
    rintro e W2 ⟨v2, rfl, ha⟩
    obtain ⟨c1, c2⟩ := StU.user HS.out (v' := v2) (W' := W2) (by first | exact ha | simpa only [List.append_assoc] using ha)
    exact ⟨_, rfl, c1, HVV.out _ _ ⟨c2, trivial⟩⟩
  intro a1
  simp only [Act.put, pt1, pt2, pt3]
  iterate 3
   apply wpU_eq
   · intro U W hW hU hs
     have KX := K2.out.gr (Gr.refl w2).drew
     have KY : CellsAt W b E 35 := KX.ch hW (fun e => by have h1 := HV1.out b e; have h2 := hbB.out; omega)
     obtain ⟨d0, d1, d2, d3, d4⟩ := CE.out W b KY
     clear KX KY
     unfold opT
     go_simp
     first | exact resT_eq_mk _ _ _ | exact ⟨Gr.refl _, rfl⟩
   simp only [Act.put, pt1, pt2, pt3]
  apply wpU_use
  · intro U W hW hU hS hs
    have KX := K2.out.gr (Gr.refl w2).drew
    have KY : CellsAt W b E 35 := KX.ch hW (fun e => by have h1 := HV1.out b e; have h2 := hbB.out; omega)
    obtain ⟨d0, d1, d2, d3, d4⟩ := CE.out W b KY
    clear KX KY
    have hu : Own W B 5 a1 (bytes (be 1 3 ++ be 8 x.client)) := hS.1
    have hBW : B ≤ W.heap.size := Nat.le_trans HBx.out hW.size
    have hlen : (be 1 3 ++ be 8 x.client).length ≤ 900000000 := (by (try simp only [List.length_append, be_length, textB_length, flagB_length, sessB_length, stampB_length]); omega)
    refine opT_hide fun VV hVV => ?_
    have HVV := Lib.hid hVV
    have HS := Lib.hid hS
    clear hVV hS
    unfold opT
    go_simp
    refine resT_call ((dnum_any W B a1 _ x.req (by have := OK.out.req; omega) hu hBW (by have := hlen; omega)).mono ?_)
    rintro e W2 ⟨v2, rfl, ha⟩
    obtain ⟨c1, c2⟩ := StU.user HS.out (v' := v2) (W' := W2) (by first | exact ha | simpa only [List.append_assoc] using ha)
    exact ⟨_, rfl, c1, HVV.out _ _ ⟨c2, trivial⟩⟩
  intro a2
  simp only [Act.put, pt1, pt2, pt3]
  iterate 2
   apply wpU_eq
   · intro U W hW hU hs
     have KX := K2.out.gr (Gr.refl w2).drew
     have KY : CellsAt W b E 35 := KX.ch hW (fun e => by have h1 := HV1.out b e; have h2 := hbB.out; omega)
     obtain ⟨d0, d1, d2, d3, d4⟩ := CE.out W b KY
     clear KX KY
     unfold opT
     go_simp
     first | exact resT_eq_mk _ _ _ | exact ⟨Gr.refl _, rfl⟩
   simp only [Act.put, pt1, pt2, pt3]
  apply wpU_use
  · intro U W hW hU hS hs
    have KX := K2.out.gr (Gr.refl w2).drew
    have KY : CellsAt W b E 35 := KX.ch hW (fun e => by have h1 := HV1.out b e; have h2 := hbB.out; omega)
    obtain ⟨d0, d1, d2, d3, d4⟩ := CE.out W b KY
    clear KX KY
    have hu : Own W B 5 a2 (bytes (be 1 3 ++ be 8 x.client ++ be 8 x.req)) := hS.1
    have hBW : B ≤ W.heap.size := Nat.le_trans HBx.out hW.size
    have hlen : (be 1 3 ++ be 8 x.client ++ be 8 x.req).length ≤ 900000000 := (by (try simp only [List.length_append, be_length, textB_length, flagB_length, sessB_length, stampB_length]); omega)
    refine opT_hide fun VV hVV => ?_
    have HVV := Lib.hid hVV
    have HS := Lib.hid hS
    clear hVV hS
    unfold opT
    go_simp
    refine resT_call ((dsess_any W B a2 _ x.osite x.on OK.out.on hu hBW (by (try simp only [List.length_append, be_length, textB_length, flagB_length, sessB_length, stampB_length]); omega)).mono ?_)
    rintro e W2 ⟨v2, rfl, ha⟩
    obtain ⟨c1, c2⟩ := StU.user HS.out (v' := v2) (W' := W2) (by first | exact ha | simpa only [List.append_assoc] using ha)
    exact ⟨_, rfl, c1, HVV.out _ _ ⟨c2, trivial⟩⟩
  intro a3
  simp only [Act.put, pt1, pt2, pt3]
  apply wpU_use
  · intro U W hW hU hS hs
    have KX := K2.out.gr (Gr.refl w2).drew
    have KY : CellsAt W b E 35 := KX.ch hW (fun e => by have h1 := HV1.out b e; have h2 := hbB.out; omega)
    obtain ⟨d0, d1, d2, d3, d4⟩ := CE.out W b KY
    clear KX KY
    have hu : Own W B 5 a3 (bytes (be 1 3 ++ be 8 x.client ++ be 8 x.req ++ sessB x.osite x.on)) := hS.1
    have hBW : B ≤ W.heap.size := Nat.le_trans HBx.out hW.size
    have hlen : (be 1 3 ++ be 8 x.client ++ be 8 x.req ++ sessB x.osite x.on).length ≤ 900000000 := (by (try simp only [List.length_append, be_length, textB_length, flagB_length, sessB_length, stampB_length]); omega)
    have ha := App.refl hu
    obtain ⟨c1, c2⟩ := StU.user hS (v' := a3) (W' := W) ha
    refine opT_hide fun VV hVV => ?_
    have HVV := Lib.hid (hVV _ _ ⟨c2, trivial⟩)
    clear hVV c2
    unfold opT
    go_simp
    exact ⟨c1, HVV.out⟩
  intro az
  simp only [Act.put, pt1, pt2, pt3]
  apply wpU_nil
  intro U W9 hW9 hU9 hS9 hs9
  have hA : App w2 B v0 (be 1 3 ++ be 8 x.client ++ be 8 x.req ++ sessB x.osite x.on) az W9 := App.grL ((Gr.refl _).drew) (StU.fin hS9 hW9 hU9)
  have KP : Keep (fun k => k < B) w2 W9 := hA.keep HV1.out
  have RR := Lib.hid (App.ret hA (w := w) (fun k hk => Nat.le_trans hbs.out (HV1.out k hk)) GW.out)
  clear hS9 hW9 hU9 hs9 hA KP
  go_wp2
  go_ret
  exact RR.out
set_option maxHeartbeats 2000000 in
theorem dbytes_4 (w : World) (x : EntD) (q : EntV) (hk : x.kind = 4) (hp : EntP Any w x q) (ok : EntOk x) (big : EntBig x) : Calls Tryz.prog 23 #[.agg (entCells x q).toArray] w (RetSl w (tellB x)) := by
  have OK := Lib.hid ok
  have BIG := Lib.hid big
  obtain ⟨E, hE⟩ : ∃ E, E = entCells x q := ⟨_, rfl⟩
  obtain ⟨da, dc, pa, pc, sa, sc, ea, ec, fa, fc, rfl⟩ := hp.shapes
  have CE : Hid (∀ W b, CellsAt W b E 35 → W.cell? ⟨b, 0, none⟩ = some (.int .u8 4) ∧ W.cell? ⟨b, 12, none⟩ = some (.int .i64 x.item.origin) ∧ W.cell? ⟨b, 13, none⟩ = some (.int .u64 (x.item.seq : Int)) ∧ W.cell? ⟨b, 14, none⟩ = some (.int .i64 x.item.region) ∧ W.cell? ⟨b, 15, none⟩ = some (.int .u64 (x.item.epoch : Int)) ∧ W.cell? ⟨b, 16, none⟩ = some (.slice sa (nums x.item.stamp).length sc) ∧ W.cell? ⟨b, 17, none⟩ = some (.slice ea x.item.effs.length ec) ∧ W.cell? ⟨b, 18, none⟩ = some (.int .u32 (x.item.closed : Int))) := Lib.hid fun W b h => by
    have h0 : W.cell? ⟨b, 0, none⟩ = some (.int .u8 (x.kind : Int)) := by subst hE; exact h.cell 0
    rw [hk] at h0
    exact ⟨h0, by subst hE; exact h.cell 12, by subst hE; exact h.cell 13, by subst hE; exact h.cell 14, by subst hE; exact h.cell 15, by subst hE; exact h.cell 16, by subst hE; exact h.cell 17, by subst hE; exact h.cell 18⟩
  have TB := tellB_eq x 4 hk
  rw [← hE, TB]
  have EE : Hid (be 1 4 ++ (kindP 4).flatMap (partB x) = be 1 4 ++ itemB x.item) := Lib.hid (by simp [kindP, partB, valB, valOf])
  rw [EE.out]
  have hb1 := big.op
  have hb2 := big.frontier
  clear hE hk ok big TB
  go_enter Tryz.func23, Tryz.ntmps23
  go_wp2_with (first | (refine wpList_boxE _ rfl rfl rfl ?_) | fail)
  intro w1 K1 G1 n1
  obtain ⟨b, hb⟩ : ∃ b, b = w.heap.size := ⟨_, rfl⟩
  obtain ⟨B, hB⟩ : ∃ B, B = w1.heap.size := ⟨_, rfl⟩
  have hbB : Hid (b < B) := Lib.hid (by rw [hb, hB]; exact K1.lt)
  rw [← hb]
  rw [← hb] at K1
  have PB : Hid (EntP (fun k => k < B) w1 x _) := Lib.hid ((hp.below (B := B) (by rw [hB]; exact G1.size)).gr G1)
  obtain ⟨w2, hw2⟩ : ∃ w2, w2 = w1.alloc (.cells #[.int .u8 4] 5) := ⟨_, rfl⟩
  have g2 : Gr w1 w2 := by rw [hw2]; exact (Gr.refl w1).alloc _
  have O2 : Own w2 B 5 (.slice (some ⟨w1.heap.size, 0, none⟩) 1 1) (bytes (be 1 4)) := by
    rw [hw2, be1_byte 4 (by decide), hB]
    exact World.ownsRow_lit w1 #[.int .u8 4] 1 (Nat.le_refl _) (by decide) rfl
  have K2 := Lib.hid (K1.gr g2)
  have GW := Lib.hid (G1.trans g2)
  have PB2 := Lib.hid (PB.out.gr g2)
  have HW2 := Lib.hid hw2
  have hbs : Hid (w.heap.size ≤ B) := Lib.hid (by rw [hB]; exact G1.size)
  have hB2 : Hid (B ≤ w2.heap.size) := Lib.hid (by rw [hB]; exact g2.size)
  have cc := (CE.out w1 b K1).1
  have dd := CE.out w2 b K2.out
  have d0 := dd.1
  have d12 := dd.2.1
  have d13 := dd.2.2.1
  have d14 := dd.2.2.2.1
  have d15 := dd.2.2.2.2.1
  have d16 := dd.2.2.2.2.2.1
  have d17 := dd.2.2.2.2.2.2.1
  have d18 := dd.2.2.2.2.2.2.2
  have ee : w1.alloc (.cells #[.int .u8 4] 5) = w2 := HW2.out.symm
  have O2h := Lib.hid O2
  clear O2
  have O2 := O2h
  clear O2h dd hw2 g2 K1 G1 n1 PB hp hB hb
  go_wp2_with fail
  refine (ditem_any w2 B _ _ _ (be 1 4) x.item OK.out.item BIG.out.item PB2.out.2.1 O2.out hB2.out (by rw [be_length]; omega)).mono ?_
  rintro e w9 ⟨v9, rfl, ha⟩
  have RR := Lib.hid (App.ret ha (w := w) (fun k hk => Nat.le_trans hbs.out (O2.out.ownBlock_ge k hk)) GW.out)
  clear ha
  go_wp2
  go_ret
  exact RR.out
set_option maxHeartbeats 2000000 in
theorem dbytes_5 (w : World) (x : EntD) (q : EntV) (hk : x.kind = 5) (hp : EntP Any w x q) (ok : EntOk x) (big : EntBig x) : Calls Tryz.prog 23 #[.agg (entCells x q).toArray] w (RetSl w (tellB x)) := by
  have OK := Lib.hid ok
  have BIG := Lib.hid big
  obtain ⟨E, hE⟩ : ∃ E, E = entCells x q := ⟨_, rfl⟩
  obtain ⟨da, dc, pa, pc, sa, sc, ea, ec, fa, fc, rfl⟩ := hp.shapes
  have CE : Hid (∀ W b, CellsAt W b E 35 → W.cell? ⟨b, 0, none⟩ = some (.int .u8 5) ∧ W.cell? ⟨b, 20, none⟩ = some (.int .i64 x.region) ∧ W.cell? ⟨b, 21, none⟩ = some (.int .u64 (x.epoch : Int)) ∧ W.cell? ⟨b, 22, none⟩ = some (.slice fa (nums x.frontier).length fc)) := Lib.hid fun W b h => by
    have h0 : W.cell? ⟨b, 0, none⟩ = some (.int .u8 (x.kind : Int)) := by subst hE; exact h.cell 0
    rw [hk] at h0
    exact ⟨h0, by subst hE; exact h.cell 20, by subst hE; exact h.cell 21, by subst hE; exact h.cell 22⟩
  have TB := tellB_eq x 5 hk
  rw [← hE, TB]
  have EE : Hid (be 1 5 ++ (kindP 5).flatMap (partB x) = be 1 5 ++ be 8 (u64 x.region) ++ be 8 x.epoch ++ stampB x.frontier) := Lib.hid (by simp [kindP, partB, valB, valOf])
  rw [EE.out]
  have wa : IntKind.u64.wrap x.region = ((u64 x.region : Nat) : Int) := by rw [u64_cast]; simp [IntKind.wrap, IntKind.bits, IntKind.signed]
  have hb1 := big.op
  have hb2 := big.frontier
  clear hE hk ok big TB
  go_enter Tryz.func23, Tryz.ntmps23
  go_wp2_with (first | (refine wpList_boxE _ rfl rfl rfl ?_) | fail)
  intro w1 K1 G1 n1
  obtain ⟨b, hb⟩ : ∃ b, b = w.heap.size := ⟨_, rfl⟩
  obtain ⟨B, hB⟩ : ∃ B, B = w1.heap.size := ⟨_, rfl⟩
  have hbB : Hid (b < B) := Lib.hid (by rw [hb, hB]; exact K1.lt)
  rw [← hb]
  rw [← hb] at K1
  have PB : Hid (EntP (fun k => k < B) w1 x _) := Lib.hid ((hp.below (B := B) (by rw [hB]; exact G1.size)).gr G1)
  obtain ⟨w2, hw2⟩ : ∃ w2, w2 = w1.alloc (.cells #[.int .u8 5] 5) := ⟨_, rfl⟩
  have g2 : Gr w1 w2 := by rw [hw2]; exact (Gr.refl w1).alloc _
  have O2 : Own w2 B 5 (.slice (some ⟨w1.heap.size, 0, none⟩) 1 1) (bytes (be 1 5)) := by
    rw [hw2, be1_byte 5 (by decide), hB]
    exact World.ownsRow_lit w1 #[.int .u8 5] 1 (Nat.le_refl _) (by decide) rfl
  have K2 := Lib.hid (K1.gr g2)
  have GW := Lib.hid (G1.trans g2)
  have PB2 := Lib.hid (PB.out.gr g2)
  have HW2 := Lib.hid hw2
  have hbs : Hid (w.heap.size ≤ B) := Lib.hid (by rw [hB]; exact G1.size)
  have hB2 : Hid (B ≤ w2.heap.size) := Lib.hid (by rw [hB]; exact g2.size)
  have cc := (CE.out w1 b K1).1
  clear hw2 g2 K1 G1 n1 PB hp hB hb
  obtain ⟨v0, hv0⟩ : ∃ v0, v0 = (.slice (some ⟨w1.heap.size, 0, none⟩) 1 1 : Value) := ⟨_, rfl⟩
  rw [← hv0] at O2
  have V0 := Lib.hid hv0
  have HO := Lib.hid O2
  have HBx := hB2
  have HV0 : Hid (∀ k, v0.ownBlock = some k → k < w2.drew.heap.size) := Lib.hid fun k hk => (World.ownsRow.lt O2 k hk).2
  have HV1 : Hid (∀ k, v0.ownBlock = some k → B ≤ k) := Lib.hid O2.ownBlock_ge
  have dd0 := (CE.out w2 b K2.out).1
  have ee : w1.alloc (.cells #[.int .u8 5] 5) = w2 := HW2.out.symm
  clear O2 hv0
  go_wp2_with fail
  try rw [← HW2.out]
  try rw [← V0.out]
  clear dd0 ee cc
  apply wp_region_draw_turnU (rhoOf v0) (StU B v0 (fun k => ([be 1 5, be 1 5 ++ be 8 (u64 x.region), be 1 5 ++ be 8 (u64 x.region) ++ be 8 x.epoch, be 1 5 ++ be 8 (u64 x.region) ++ be 8 x.epoch ++ stampB x.frontier, be 1 5 ++ be 8 (u64 x.region) ++ be 8 x.epoch ++ stampB x.frontier] : List (List UInt8)).getD k [])) (.eq _ :: .eq _ :: .eq _ :: .eq _ :: .use TU :: .eq _ :: .eq _ :: .use TU :: .eq _ :: .eq _ :: .use TU :: .use TU :: []) (by kernel_rfl) (by kernel_rfl) (by kernel_rfl) ⟨TU.mono _, TU.mono _, TU.mono _, TU.mono _, trivial⟩ StU.gr ⟨(HO.out.gr (Gr.refl _).drew), fun k hk => .inl hk⟩
  iterate 4
   apply wpU_eq
   · intro U W hW hU hs
     have KX := K2.out.gr (Gr.refl w2).drew
     have KY : CellsAt W b E 35 := KX.ch hW (fun e => by have h1 := HV1.out b e; have h2 := hbB.out; omega)
     obtain ⟨d0, d20, d21, d22⟩ := CE.out W b KY
     clear KX KY
     unfold opT
     go_simp
     first | exact resT_eq_mk _ _ _ | exact ⟨Gr.refl _, rfl⟩
   simp only [Act.put, pt1, pt2, pt3]
  apply wpU_use
  · intro U W hW hU hS hs
    have KX := K2.out.gr (Gr.refl w2).drew
    have KY : CellsAt W b E 35 := KX.ch hW (fun e => by have h1 := HV1.out b e; have h2 := hbB.out; omega)
    obtain ⟨d0, d20, d21, d22⟩ := CE.out W b KY
    clear KX KY
    have hu : Own W B 5 v0 (bytes (be 1 5)) := hS.1
    have hBW : B ≤ W.heap.size := Nat.le_trans HBx.out hW.size
    have hlen : (be 1 5).length ≤ 900000000 := (by (try simp only [List.length_append, be_length, textB_length, flagB_length, sessB_length, stampB_length]); omega)
    refine opT_hide fun VV hVV => ?_
    have HVV := Lib.hid hVV
    have HS := Lib.hid hS
    clear hVV hS
    unfold opT
    go_simp
    refine resT_call ((dnum_any W B v0 _ (u64 x.region) (u64_lt _) hu hBW (by have := hlen; omega)).mono ?_)
    rintro e W2 ⟨v2, rfl, ha⟩
    obtain ⟨c1, c2⟩ := StU.user HS.out (v' := v2) (W' := W2) (by first | exact ha | simpa only [List.append_assoc] using ha)
    exact ⟨_, rfl, c1, HVV.out _ _ ⟨c2, trivial⟩⟩
  intro a1
  simp only [Act.put, pt1, pt2, pt3]
  iterate 2
   apply wpU_eq
   · intro U W hW hU hs
     have KX := K2.out.gr (Gr.refl w2).drew
     have KY : CellsAt W b E 35 := KX.ch hW (fun e => by have h1 := HV1.out b e; have h2 := hbB.out; omega)
     obtain ⟨d0, d20, d21, d22⟩ := CE.out W b KY
     clear KX KY
     unfold opT
     go_simp
     first | exact resT_eq_mk _ _ _ | exact ⟨Gr.refl _, rfl⟩
   simp only [Act.put, pt1, pt2, pt3]
  apply wpU_use
  · intro U W hW hU hS hs
    have KX := K2.out.gr (Gr.refl w2).drew
    have KY : CellsAt W b E 35 := KX.ch hW (fun e => by have h1 := HV1.out b e; have h2 := hbB.out; omega)
    obtain ⟨d0, d20, d21, d22⟩ := CE.out W b KY
    clear KX KY
    have hu : Own W B 5 a1 (bytes (be 1 5 ++ be 8 (u64 x.region))) := hS.1
    have hBW : B ≤ W.heap.size := Nat.le_trans HBx.out hW.size
    have hlen : (be 1 5 ++ be 8 (u64 x.region)).length ≤ 900000000 := (by (try simp only [List.length_append, be_length, textB_length, flagB_length, sessB_length, stampB_length]); omega)
    refine opT_hide fun VV hVV => ?_
    have HVV := Lib.hid hVV
    have HS := Lib.hid hS
    clear hVV hS
    unfold opT
    go_simp
    refine resT_call ((dnum_any W B a1 _ x.epoch (by have := OK.out.epoch; omega) hu hBW (by have := hlen; omega)).mono ?_)
    rintro e W2 ⟨v2, rfl, ha⟩
    obtain ⟨c1, c2⟩ := StU.user HS.out (v' := v2) (W' := W2) (by first | exact ha | simpa only [List.append_assoc] using ha)
    exact ⟨_, rfl, c1, HVV.out _ _ ⟨c2, trivial⟩⟩
  intro a2
  simp only [Act.put, pt1, pt2, pt3]
  iterate 2
   apply wpU_eq
   · intro U W hW hU hs
     have KX := K2.out.gr (Gr.refl w2).drew
     have KY : CellsAt W b E 35 := KX.ch hW (fun e => by have h1 := HV1.out b e; have h2 := hbB.out; omega)
     obtain ⟨d0, d20, d21, d22⟩ := CE.out W b KY
     clear KX KY
     unfold opT
     go_simp
     first | exact resT_eq_mk _ _ _ | exact ⟨Gr.refl _, rfl⟩
   simp only [Act.put, pt1, pt2, pt3]
  apply wpU_use
  · intro U W hW hU hS hs
    have KX := K2.out.gr (Gr.refl w2).drew
    have KY : CellsAt W b E 35 := KX.ch hW (fun e => by have h1 := HV1.out b e; have h2 := hbB.out; omega)
    obtain ⟨d0, d20, d21, d22⟩ := CE.out W b KY
    clear KX KY
    have hu : Own W B 5 a2 (bytes (be 1 5 ++ be 8 (u64 x.region) ++ be 8 x.epoch)) := hS.1
    have hBW : B ≤ W.heap.size := Nat.le_trans HBx.out hW.size
    have hlen : (be 1 5 ++ be 8 (u64 x.region) ++ be 8 x.epoch).length ≤ 900000000 := (by (try simp only [List.length_append, be_length, textB_length, flagB_length, sessB_length, stampB_length]); omega)
    refine opT_hide fun VV hVV => ?_
    have HVV := Lib.hid hVV
    have HS := Lib.hid hS
    clear hVV hS
    unfold opT
    go_simp
    refine resT_call ((dstamp_any W B a2 _ _ x.frontier ((PB2.out.gr (Gr.refl w2).drew).keep (keep_rho hW HV1.out)).2.2 OK.out.frontier hu hBW (by (try simp only [List.length_append, be_length, textB_length, flagB_length, sessB_length, stampB_length]); omega)).mono ?_)
    rintro e W2 ⟨v2, rfl, ha⟩
    obtain ⟨c1, c2⟩ := StU.user HS.out (v' := v2) (W' := W2) (by first | exact ha | simpa only [List.append_assoc] using ha)
    exact ⟨_, rfl, c1, HVV.out _ _ ⟨c2, trivial⟩⟩
  intro a3
  simp only [Act.put, pt1, pt2, pt3]
  apply wpU_use
  · intro U W hW hU hS hs
    have KX := K2.out.gr (Gr.refl w2).drew
    have KY : CellsAt W b E 35 := KX.ch hW (fun e => by have h1 := HV1.out b e; have h2 := hbB.out; omega)
    obtain ⟨d0, d20, d21, d22⟩ := CE.out W b KY
    clear KX KY
    have hu : Own W B 5 a3 (bytes (be 1 5 ++ be 8 (u64 x.region) ++ be 8 x.epoch ++ stampB x.frontier)) := hS.1
    have hBW : B ≤ W.heap.size := Nat.le_trans HBx.out hW.size
    have hlen : (be 1 5 ++ be 8 (u64 x.region) ++ be 8 x.epoch ++ stampB x.frontier).length ≤ 900000000 := (by (try simp only [List.length_append, be_length, textB_length, flagB_length, sessB_length, stampB_length]); omega)
    have ha := App.refl hu
    obtain ⟨c1, c2⟩ := StU.user hS (v' := a3) (W' := W) ha
    refine opT_hide fun VV hVV => ?_
    have HVV := Lib.hid (hVV _ _ ⟨c2, trivial⟩)
    clear hVV c2
    unfold opT
    go_simp
    exact ⟨c1, HVV.out⟩
  intro az
  simp only [Act.put, pt1, pt2, pt3]
  apply wpU_nil
  intro U W9 hW9 hU9 hS9 hs9
  have hA : App w2 B v0 (be 1 5 ++ be 8 (u64 x.region) ++ be 8 x.epoch ++ stampB x.frontier) az W9 := App.grL ((Gr.refl _).drew) (StU.fin hS9 hW9 hU9)
  have KP : Keep (fun k => k < B) w2 W9 := hA.keep HV1.out
  have RR := Lib.hid (App.ret hA (w := w) (fun k hk => Nat.le_trans hbs.out (HV1.out k hk)) GW.out)
  clear hS9 hW9 hU9 hs9 hA KP
  go_wp2
  go_ret
  exact RR.out
set_option maxHeartbeats 2000000 in
theorem dbytes_6 (w : World) (x : EntD) (q : EntV) (hk : x.kind = 6) (hp : EntP Any w x q) (ok : EntOk x) (big : EntBig x) : Calls Tryz.prog 23 #[.agg (entCells x q).toArray] w (RetSl w (tellB x)) := by
  have OK := Lib.hid ok
  have BIG := Lib.hid big
  obtain ⟨E, hE⟩ : ∃ E, E = entCells x q := ⟨_, rfl⟩
  obtain ⟨da, dc, pa, pc, sa, sc, ea, ec, fa, fc, rfl⟩ := hp.shapes
  have CE : Hid (∀ W b, CellsAt W b E 35 → W.cell? ⟨b, 0, none⟩ = some (.int .u8 6) ∧ W.cell? ⟨b, 20, none⟩ = some (.int .i64 x.region) ∧ W.cell? ⟨b, 21, none⟩ = some (.int .u64 (x.epoch : Int))) := Lib.hid fun W b h => by
    have h0 : W.cell? ⟨b, 0, none⟩ = some (.int .u8 (x.kind : Int)) := by subst hE; exact h.cell 0
    rw [hk] at h0
    exact ⟨h0, by subst hE; exact h.cell 20, by subst hE; exact h.cell 21⟩
  have TB := tellB_eq x 6 hk
  rw [← hE, TB]
  have EE : Hid (be 1 6 ++ (kindP 6).flatMap (partB x) = be 1 6 ++ be 8 (u64 x.region) ++ be 8 x.epoch) := Lib.hid (by simp [kindP, partB, valB, valOf])
  rw [EE.out]
  have wa : IntKind.u64.wrap x.region = ((u64 x.region : Nat) : Int) := by rw [u64_cast]; simp [IntKind.wrap, IntKind.bits, IntKind.signed]
  have hb1 := big.op
  have hb2 := big.frontier
  clear hE hk ok big TB
  go_enter Tryz.func23, Tryz.ntmps23
  go_wp2_with (first | (refine wpList_boxE _ rfl rfl rfl ?_) | fail)
  intro w1 K1 G1 n1
  obtain ⟨b, hb⟩ : ∃ b, b = w.heap.size := ⟨_, rfl⟩
  obtain ⟨B, hB⟩ : ∃ B, B = w1.heap.size := ⟨_, rfl⟩
  have hbB : Hid (b < B) := Lib.hid (by rw [hb, hB]; exact K1.lt)
  rw [← hb]
  rw [← hb] at K1
  have PB : Hid (EntP (fun k => k < B) w1 x _) := Lib.hid ((hp.below (B := B) (by rw [hB]; exact G1.size)).gr G1)
  obtain ⟨w2, hw2⟩ : ∃ w2, w2 = w1.alloc (.cells #[.int .u8 6] 5) := ⟨_, rfl⟩
  have g2 : Gr w1 w2 := by rw [hw2]; exact (Gr.refl w1).alloc _
  have O2 : Own w2 B 5 (.slice (some ⟨w1.heap.size, 0, none⟩) 1 1) (bytes (be 1 6)) := by
    rw [hw2, be1_byte 6 (by decide), hB]
    exact World.ownsRow_lit w1 #[.int .u8 6] 1 (Nat.le_refl _) (by decide) rfl
  have K2 := Lib.hid (K1.gr g2)
  have GW := Lib.hid (G1.trans g2)
  have PB2 := Lib.hid (PB.out.gr g2)
  have HW2 := Lib.hid hw2
  have hbs : Hid (w.heap.size ≤ B) := Lib.hid (by rw [hB]; exact G1.size)
  have hB2 : Hid (B ≤ w2.heap.size) := Lib.hid (by rw [hB]; exact g2.size)
  have cc := (CE.out w1 b K1).1
  clear hw2 g2 K1 G1 n1 PB hp hB hb
  obtain ⟨v0, hv0⟩ : ∃ v0, v0 = (.slice (some ⟨w1.heap.size, 0, none⟩) 1 1 : Value) := ⟨_, rfl⟩
  rw [← hv0] at O2
  have V0 := Lib.hid hv0
  have HO := Lib.hid O2
  have HBx := hB2
  have HV0 : Hid (∀ k, v0.ownBlock = some k → k < w2.drew.heap.size) := Lib.hid fun k hk => (World.ownsRow.lt O2 k hk).2
  have HV1 : Hid (∀ k, v0.ownBlock = some k → B ≤ k) := Lib.hid O2.ownBlock_ge
  have dd0 := (CE.out w2 b K2.out).1
  have ee : w1.alloc (.cells #[.int .u8 6] 5) = w2 := HW2.out.symm
  clear O2 hv0
  go_wp2_with fail
  try rw [← HW2.out]
  try rw [← V0.out]
  clear dd0 ee cc
  apply wp_region_draw_turnU (rhoOf v0) (StU B v0 (fun k => ([be 1 6, be 1 6 ++ be 8 (u64 x.region), be 1 6 ++ be 8 (u64 x.region) ++ be 8 x.epoch, be 1 6 ++ be 8 (u64 x.region) ++ be 8 x.epoch] : List (List UInt8)).getD k [])) (.eq _ :: .eq _ :: .eq _ :: .eq _ :: .use TU :: .eq _ :: .eq _ :: .use TU :: .use TU :: []) (by kernel_rfl) (by kernel_rfl) (by kernel_rfl) ⟨TU.mono _, TU.mono _, TU.mono _, trivial⟩ StU.gr ⟨(HO.out.gr (Gr.refl _).drew), fun k hk => .inl hk⟩
  iterate 4
   apply wpU_eq
   · intro U W hW hU hs
     have KX := K2.out.gr (Gr.refl w2).drew
     have KY : CellsAt W b E 35 := KX.ch hW (fun e => by have h1 := HV1.out b e; have h2 := hbB.out; omega)
     obtain ⟨d0, d20, d21⟩ := CE.out W b KY
     clear KX KY
     unfold opT
     go_simp
     first | exact resT_eq_mk _ _ _ | exact ⟨Gr.refl _, rfl⟩
   simp only [Act.put, pt1, pt2, pt3]
  apply wpU_use
  · intro U W hW hU hS hs
    have KX := K2.out.gr (Gr.refl w2).drew
    have KY : CellsAt W b E 35 := KX.ch hW (fun e => by have h1 := HV1.out b e; have h2 := hbB.out; omega)
    obtain ⟨d0, d20, d21⟩ := CE.out W b KY
    clear KX KY
    have hu : Own W B 5 v0 (bytes (be 1 6)) := hS.1
    have hBW : B ≤ W.heap.size := Nat.le_trans HBx.out hW.size
    have hlen : (be 1 6).length ≤ 900000000 := (by (try simp only [List.length_append, be_length, textB_length, flagB_length, sessB_length, stampB_length]); omega)
    refine opT_hide fun VV hVV => ?_
    have HVV := Lib.hid hVV
    have HS := Lib.hid hS
    clear hVV hS
    unfold opT
    go_simp
    refine resT_call ((dnum_any W B v0 _ (u64 x.region) (u64_lt _) hu hBW (by have := hlen; omega)).mono ?_)
    rintro e W2 ⟨v2, rfl, ha⟩
    obtain ⟨c1, c2⟩ := StU.user HS.out (v' := v2) (W' := W2) (by first | exact ha | simpa only [List.append_assoc] using ha)
    exact ⟨_, rfl, c1, HVV.out _ _ ⟨c2, trivial⟩⟩
  intro a1
  simp only [Act.put, pt1, pt2, pt3]
  iterate 2
   apply wpU_eq
   · intro U W hW hU hs
     have KX := K2.out.gr (Gr.refl w2).drew
     have KY : CellsAt W b E 35 := KX.ch hW (fun e => by have h1 := HV1.out b e; have h2 := hbB.out; omega)
     obtain ⟨d0, d20, d21⟩ := CE.out W b KY
     clear KX KY
     unfold opT
     go_simp
     first | exact resT_eq_mk _ _ _ | exact ⟨Gr.refl _, rfl⟩
   simp only [Act.put, pt1, pt2, pt3]
  apply wpU_use
  · intro U W hW hU hS hs
    have KX := K2.out.gr (Gr.refl w2).drew
    have KY : CellsAt W b E 35 := KX.ch hW (fun e => by have h1 := HV1.out b e; have h2 := hbB.out; omega)
    obtain ⟨d0, d20, d21⟩ := CE.out W b KY
    clear KX KY
    have hu : Own W B 5 a1 (bytes (be 1 6 ++ be 8 (u64 x.region))) := hS.1
    have hBW : B ≤ W.heap.size := Nat.le_trans HBx.out hW.size
    have hlen : (be 1 6 ++ be 8 (u64 x.region)).length ≤ 900000000 := (by (try simp only [List.length_append, be_length, textB_length, flagB_length, sessB_length, stampB_length]); omega)
    refine opT_hide fun VV hVV => ?_
    have HVV := Lib.hid hVV
    have HS := Lib.hid hS
    clear hVV hS
    unfold opT
    go_simp
    refine resT_call ((dnum_any W B a1 _ x.epoch (by have := OK.out.epoch; omega) hu hBW (by have := hlen; omega)).mono ?_)
    rintro e W2 ⟨v2, rfl, ha⟩
    obtain ⟨c1, c2⟩ := StU.user HS.out (v' := v2) (W' := W2) (by first | exact ha | simpa only [List.append_assoc] using ha)
    exact ⟨_, rfl, c1, HVV.out _ _ ⟨c2, trivial⟩⟩
  intro a2
  simp only [Act.put, pt1, pt2, pt3]
  apply wpU_use
  · intro U W hW hU hS hs
    have KX := K2.out.gr (Gr.refl w2).drew
    have KY : CellsAt W b E 35 := KX.ch hW (fun e => by have h1 := HV1.out b e; have h2 := hbB.out; omega)
    obtain ⟨d0, d20, d21⟩ := CE.out W b KY
    clear KX KY
    have hu : Own W B 5 a2 (bytes (be 1 6 ++ be 8 (u64 x.region) ++ be 8 x.epoch)) := hS.1
    have hBW : B ≤ W.heap.size := Nat.le_trans HBx.out hW.size
    have hlen : (be 1 6 ++ be 8 (u64 x.region) ++ be 8 x.epoch).length ≤ 900000000 := (by (try simp only [List.length_append, be_length, textB_length, flagB_length, sessB_length, stampB_length]); omega)
    have ha := App.refl hu
    obtain ⟨c1, c2⟩ := StU.user hS (v' := a2) (W' := W) ha
    refine opT_hide fun VV hVV => ?_
    have HVV := Lib.hid (hVV _ _ ⟨c2, trivial⟩)
    clear hVV c2
    unfold opT
    go_simp
    exact ⟨c1, HVV.out⟩
  intro az
  simp only [Act.put, pt1, pt2, pt3]
  apply wpU_nil
  intro U W9 hW9 hU9 hS9 hs9
  have hA : App w2 B v0 (be 1 6 ++ be 8 (u64 x.region) ++ be 8 x.epoch) az W9 := App.grL ((Gr.refl _).drew) (StU.fin hS9 hW9 hU9)
  have KP : Keep (fun k => k < B) w2 W9 := hA.keep HV1.out
  have RR := Lib.hid (App.ret hA (w := w) (fun k hk => Nat.le_trans hbs.out (HV1.out k hk)) GW.out)
  clear hS9 hW9 hU9 hs9 hA KP
  go_wp2
  go_ret
  exact RR.out
set_option maxHeartbeats 2000000 in
theorem dbytes_7 (w : World) (x : EntD) (q : EntV) (hk : x.kind = 7) (hp : EntP Any w x q) (ok : EntOk x) (big : EntBig x) : Calls Tryz.prog 23 #[.agg (entCells x q).toArray] w (RetSl w (tellB x)) := by
  have OK := Lib.hid ok
  have BIG := Lib.hid big
  obtain ⟨E, hE⟩ : ∃ E, E = entCells x q := ⟨_, rfl⟩
  obtain ⟨da, dc, pa, pc, sa, sc, ea, ec, fa, fc, rfl⟩ := hp.shapes
  have CE : Hid (∀ W b, CellsAt W b E 35 → W.cell? ⟨b, 0, none⟩ = some (.int .u8 7) ∧ W.cell? ⟨b, 20, none⟩ = some (.int .i64 x.region)) := Lib.hid fun W b h => by
    have h0 : W.cell? ⟨b, 0, none⟩ = some (.int .u8 (x.kind : Int)) := by subst hE; exact h.cell 0
    rw [hk] at h0
    exact ⟨h0, by subst hE; exact h.cell 20⟩
  have TB := tellB_eq x 7 hk
  rw [← hE, TB]
  have EE : Hid (be 1 7 ++ (kindP 7).flatMap (partB x) = be 1 7 ++ be 8 (u64 x.region)) := Lib.hid (by simp [kindP, partB, valB, valOf])
  rw [EE.out]
  have wa : IntKind.u64.wrap x.region = ((u64 x.region : Nat) : Int) := by rw [u64_cast]; simp [IntKind.wrap, IntKind.bits, IntKind.signed]
  have hb1 := big.op
  have hb2 := big.frontier
  clear hE hk ok big TB
  go_enter Tryz.func23, Tryz.ntmps23
  go_wp2_with (first | (refine wpList_boxE _ rfl rfl rfl ?_) | fail)
  intro w1 K1 G1 n1
  obtain ⟨b, hb⟩ : ∃ b, b = w.heap.size := ⟨_, rfl⟩
  obtain ⟨B, hB⟩ : ∃ B, B = w1.heap.size := ⟨_, rfl⟩
  have hbB : Hid (b < B) := Lib.hid (by rw [hb, hB]; exact K1.lt)
  rw [← hb]
  rw [← hb] at K1
  have PB : Hid (EntP (fun k => k < B) w1 x _) := Lib.hid ((hp.below (B := B) (by rw [hB]; exact G1.size)).gr G1)
  obtain ⟨w2, hw2⟩ : ∃ w2, w2 = w1.alloc (.cells #[.int .u8 7] 5) := ⟨_, rfl⟩
  have g2 : Gr w1 w2 := by rw [hw2]; exact (Gr.refl w1).alloc _
  have O2 : Own w2 B 5 (.slice (some ⟨w1.heap.size, 0, none⟩) 1 1) (bytes (be 1 7)) := by
    rw [hw2, be1_byte 7 (by decide), hB]
    exact World.ownsRow_lit w1 #[.int .u8 7] 1 (Nat.le_refl _) (by decide) rfl
  have K2 := Lib.hid (K1.gr g2)
  have GW := Lib.hid (G1.trans g2)
  have PB2 := Lib.hid (PB.out.gr g2)
  have HW2 := Lib.hid hw2
  have hbs : Hid (w.heap.size ≤ B) := Lib.hid (by rw [hB]; exact G1.size)
  have hB2 : Hid (B ≤ w2.heap.size) := Lib.hid (by rw [hB]; exact g2.size)
  have cc := (CE.out w1 b K1).1
  have dd := CE.out w2 b K2.out
  have d0 := dd.1
  have d20 := dd.2
  have ee : w1.alloc (.cells #[.int .u8 7] 5) = w2 := HW2.out.symm
  have O2h := Lib.hid O2
  clear O2
  have O2 := O2h
  clear O2h dd hw2 g2 K1 G1 n1 PB hp hB hb
  go_wp2_with fail
  refine (dnum_any w2 B _ (be 1 7) (u64 x.region) (u64_lt _) O2.out hB2.out (by rw [be_length]; omega)).mono ?_
  rintro e w9 ⟨v9, rfl, ha⟩
  have RR := Lib.hid (App.ret ha (w := w) (fun k hk => Nat.le_trans hbs.out (O2.out.ownBlock_ge k hk)) GW.out)
  clear ha
  go_wp2
  go_ret
  exact RR.out
set_option maxHeartbeats 2000000 in
theorem dbytes_8 (w : World) (x : EntD) (q : EntV) (hk : x.kind = 8) (hp : EntP Any w x q) (ok : EntOk x) (big : EntBig x) : Calls Tryz.prog 23 #[.agg (entCells x q).toArray] w (RetSl w (tellB x)) := by
  have OK := Lib.hid ok
  have BIG := Lib.hid big
  obtain ⟨E, hE⟩ : ∃ E, E = entCells x q := ⟨_, rfl⟩
  obtain ⟨da, dc, pa, pc, sa, sc, ea, ec, fa, fc, rfl⟩ := hp.shapes
  have CE : Hid (∀ W b, CellsAt W b E 35 → W.cell? ⟨b, 0, none⟩ = some (.int .u8 8) ∧ W.cell? ⟨b, 19, none⟩ = some (.int .i64 x.site) ∧ W.cell? ⟨b, 20, none⟩ = some (.int .i64 x.region)) := Lib.hid fun W b h => by
    have h0 : W.cell? ⟨b, 0, none⟩ = some (.int .u8 (x.kind : Int)) := by subst hE; exact h.cell 0
    rw [hk] at h0
    exact ⟨h0, by subst hE; exact h.cell 19, by subst hE; exact h.cell 20⟩
  have TB := tellB_eq x 8 hk
  rw [← hE, TB]
  have EE : Hid (be 1 8 ++ (kindP 8).flatMap (partB x) = be 1 8 ++ be 1 (byteOf x.site) ++ be 8 (u64 x.region)) := Lib.hid (by simp [kindP, partB, valB, valOf])
  rw [EE.out]
  have wa : IntKind.u64.wrap x.region = ((u64 x.region : Nat) : Int) := by rw [u64_cast]; simp [IntKind.wrap, IntKind.bits, IntKind.signed]
  have wb : IntKind.u8.wrap x.site = ((byteOf x.site : Nat) : Int) := by rw [byteOf_cast]; simp [IntKind.wrap, IntKind.bits, IntKind.signed]
  have hb1 := big.op
  have hb2 := big.frontier
  clear hE hk ok big TB
  go_enter Tryz.func23, Tryz.ntmps23
  go_wp2_with (first | (refine wpList_boxE _ rfl rfl rfl ?_) | fail)
  intro w1 K1 G1 n1
  obtain ⟨b, hb⟩ : ∃ b, b = w.heap.size := ⟨_, rfl⟩
  obtain ⟨B, hB⟩ : ∃ B, B = w1.heap.size := ⟨_, rfl⟩
  have hbB : Hid (b < B) := Lib.hid (by rw [hb, hB]; exact K1.lt)
  rw [← hb]
  rw [← hb] at K1
  have PB : Hid (EntP (fun k => k < B) w1 x _) := Lib.hid ((hp.below (B := B) (by rw [hB]; exact G1.size)).gr G1)
  obtain ⟨w2, hw2⟩ : ∃ w2, w2 = w1.alloc (.cells #[.int .u8 8] 5) := ⟨_, rfl⟩
  have g2 : Gr w1 w2 := by rw [hw2]; exact (Gr.refl w1).alloc _
  have O2 : Own w2 B 5 (.slice (some ⟨w1.heap.size, 0, none⟩) 1 1) (bytes (be 1 8)) := by
    rw [hw2, be1_byte 8 (by decide), hB]
    exact World.ownsRow_lit w1 #[.int .u8 8] 1 (Nat.le_refl _) (by decide) rfl
  have K2 := Lib.hid (K1.gr g2)
  have GW := Lib.hid (G1.trans g2)
  have PB2 := Lib.hid (PB.out.gr g2)
  have HW2 := Lib.hid hw2
  have hbs : Hid (w.heap.size ≤ B) := Lib.hid (by rw [hB]; exact G1.size)
  have hB2 : Hid (B ≤ w2.heap.size) := Lib.hid (by rw [hB]; exact g2.size)
  have cc := (CE.out w1 b K1).1
  clear hw2 g2 K1 G1 n1 PB hp hB hb
  obtain ⟨v0, hv0⟩ : ∃ v0, v0 = (.slice (some ⟨w1.heap.size, 0, none⟩) 1 1 : Value) := ⟨_, rfl⟩
  rw [← hv0] at O2
  have V0 := Lib.hid hv0
  have HO := Lib.hid O2
  have HBx := hB2
  have HV0 : Hid (∀ k, v0.ownBlock = some k → k < w2.drew.heap.size) := Lib.hid fun k hk => (World.ownsRow.lt O2 k hk).2
  have HV1 : Hid (∀ k, v0.ownBlock = some k → B ≤ k) := Lib.hid O2.ownBlock_ge
  have dd0 := (CE.out w2 b K2.out).1
  have ee : w1.alloc (.cells #[.int .u8 8] 5) = w2 := HW2.out.symm
  clear O2 hv0
  go_wp2_with fail
  try rw [← HW2.out]
  try rw [← V0.out]
  clear dd0 ee cc
  apply wp_region_draw_turnU (rhoOf v0) (StU B v0 (fun k => ([be 1 8, be 1 8 ++ be 1 (byteOf x.site), be 1 8 ++ be 1 (byteOf x.site) ++ be 8 (u64 x.region), be 1 8 ++ be 1 (byteOf x.site) ++ be 8 (u64 x.region)] : List (List UInt8)).getD k [])) (.eq _ :: .eq _ :: .eq _ :: .eq _ :: .ok (SlU v0 (be 1 (byteOf x.site))) :: .use TU :: .eq _ :: .eq _ :: .eq _ :: .use TU :: .use TU :: []) (by kernel_rfl) (by kernel_rfl) (by kernel_rfl) ⟨SlU.mono _ _, TU.mono _, TU.mono _, TU.mono _, trivial⟩ StU.gr ⟨(HO.out.gr (Gr.refl _).drew), fun k hk => .inl hk⟩
  iterate 4
   apply wpU_eq
   · intro U W hW hU hs
     have KX := K2.out.gr (Gr.refl w2).drew
     have KY : CellsAt W b E 35 := KX.ch hW (fun e => by have h1 := HV1.out b e; have h2 := hbB.out; omega)
     obtain ⟨d0, d19, d20⟩ := CE.out W b KY
     clear KX KY
     unfold opT
     go_simp
     first | exact resT_eq_mk _ _ _ | exact ⟨Gr.refl _, rfl⟩
   simp only [Act.put, pt1, pt2, pt3]
  apply wpU_ok
  · intro U W hW hU hs
    have KX := K2.out.gr (Gr.refl w2).drew
    have KY : CellsAt W b E 35 := KX.ch hW (fun e => by have h1 := HV1.out b e; have h2 := hbB.out; omega)
    obtain ⟨d0, d19, d20⟩ := CE.out W b KY
    clear KX KY
    unfold opT
    go_simp
    exact resT_mk ((Gr.refl _).alloc _) (SlU.byte (byteOf x.site) (byteOf_lt _) HV0.out hW.size hU)
  intro v4
  simp only [Act.put, pt1, pt2, pt3]
  apply wpU_use
  · intro U W hW hU hS hs
    have KX := K2.out.gr (Gr.refl w2).drew
    have KY : CellsAt W b E 35 := KX.ch hW (fun e => by have h1 := HV1.out b e; have h2 := hbB.out; omega)
    obtain ⟨d0, d19, d20⟩ := CE.out W b KY
    clear KX KY
    have hu : Own W B 5 v0 (bytes (be 1 8)) := hS.1
    have hBW : B ≤ W.heap.size := Nat.le_trans HBx.out hW.size
    have hlen : (be 1 8).length ≤ 900000000 := (by (try simp only [List.length_append, be_length, textB_length, flagB_length, sessB_length, stampB_length]); omega)
    obtain ⟨s8, _⟩ := hs _ (.head _) (by rfl)
    obtain ⟨vr, wr9, hr, ha⟩ := run_append_c W B v0 _ (be 1 8) (be 1 (byteOf x.site)) hu s8 (by have h1 := hlen; have h2 : (be 1 (byteOf x.site)).length ≤ 900000000 := (by (try simp only [List.length_append, be_length, textB_length, flagB_length, sessB_length, stampB_length]); omega); omega) hBW
    obtain ⟨c1, c2⟩ := StU.user hS (v' := vr) (W' := wr9) (by first | exact ha | simpa only [List.append_assoc] using ha)
    exact opT_append hr rfl _ _ rfl rfl rfl ⟨c1, c2, trivial⟩
  intro a1
  simp only [Act.put, pt1, pt2, pt3]
  iterate 3
   apply wpU_eq
   · intro U W hW hU hs
     have KX := K2.out.gr (Gr.refl w2).drew
     have KY : CellsAt W b E 35 := KX.ch hW (fun e => by have h1 := HV1.out b e; have h2 := hbB.out; omega)
     obtain ⟨d0, d19, d20⟩ := CE.out W b KY
     clear KX KY
     unfold opT
     go_simp
     first | exact resT_eq_mk _ _ _ | exact ⟨Gr.refl _, rfl⟩
   simp only [Act.put, pt1, pt2, pt3]
  apply wpU_use
  · intro U W hW hU hS hs
    have KX := K2.out.gr (Gr.refl w2).drew
    have KY : CellsAt W b E 35 := KX.ch hW (fun e => by have h1 := HV1.out b e; have h2 := hbB.out; omega)
    obtain ⟨d0, d19, d20⟩ := CE.out W b KY
    clear KX KY
    have hu : Own W B 5 a1 (bytes (be 1 8 ++ be 1 (byteOf x.site))) := hS.1
    have hBW : B ≤ W.heap.size := Nat.le_trans HBx.out hW.size
    have hlen : (be 1 8 ++ be 1 (byteOf x.site)).length ≤ 900000000 := (by (try simp only [List.length_append, be_length, textB_length, flagB_length, sessB_length, stampB_length]); omega)
    refine opT_hide fun VV hVV => ?_
    have HVV := Lib.hid hVV
    have HS := Lib.hid hS
    clear hVV hS
    unfold opT
    go_simp
    refine resT_call ((dnum_any W B a1 _ (u64 x.region) (u64_lt _) hu hBW (by have := hlen; omega)).mono ?_)
    rintro e W2 ⟨v2, rfl, ha⟩
    obtain ⟨c1, c2⟩ := StU.user HS.out (v' := v2) (W' := W2) (by first | exact ha | simpa only [List.append_assoc] using ha)
    exact ⟨_, rfl, c1, HVV.out _ _ ⟨c2, trivial⟩⟩
  intro a2
  simp only [Act.put, pt1, pt2, pt3]
  apply wpU_use
  · intro U W hW hU hS hs
    have KX := K2.out.gr (Gr.refl w2).drew
    have KY : CellsAt W b E 35 := KX.ch hW (fun e => by have h1 := HV1.out b e; have h2 := hbB.out; omega)
    obtain ⟨d0, d19, d20⟩ := CE.out W b KY
    clear KX KY
    have hu : Own W B 5 a2 (bytes (be 1 8 ++ be 1 (byteOf x.site) ++ be 8 (u64 x.region))) := hS.1
    have hBW : B ≤ W.heap.size := Nat.le_trans HBx.out hW.size
    have hlen : (be 1 8 ++ be 1 (byteOf x.site) ++ be 8 (u64 x.region)).length ≤ 900000000 := (by (try simp only [List.length_append, be_length, textB_length, flagB_length, sessB_length, stampB_length]); omega)
    have ha := App.refl hu
    obtain ⟨c1, c2⟩ := StU.user hS (v' := a2) (W' := W) ha
    refine opT_hide fun VV hVV => ?_
    have HVV := Lib.hid (hVV _ _ ⟨c2, trivial⟩)
    clear hVV c2
    unfold opT
    go_simp
    exact ⟨c1, HVV.out⟩
  intro az
  simp only [Act.put, pt1, pt2, pt3]
  apply wpU_nil
  intro U W9 hW9 hU9 hS9 hs9
  have hA : App w2 B v0 (be 1 8 ++ be 1 (byteOf x.site) ++ be 8 (u64 x.region)) az W9 := App.grL ((Gr.refl _).drew) (StU.fin hS9 hW9 hU9)
  have KP : Keep (fun k => k < B) w2 W9 := hA.keep HV1.out
  have RR := Lib.hid (App.ret hA (w := w) (fun k hk => Nat.le_trans hbs.out (HV1.out k hk)) GW.out)
  clear hS9 hW9 hU9 hs9 hA KP
  go_wp2
  go_ret
  exact RR.out
set_option maxHeartbeats 2000000 in
theorem dbytes_9 (w : World) (x : EntD) (q : EntV) (hk : x.kind = 9) (hp : EntP Any w x q) (ok : EntOk x) (big : EntBig x) : Calls Tryz.prog 23 #[.agg (entCells x q).toArray] w (RetSl w (tellB x)) := by
  have OK := Lib.hid ok
  have BIG := Lib.hid big
  obtain ⟨E, hE⟩ : ∃ E, E = entCells x q := ⟨_, rfl⟩
  obtain ⟨da, dc, pa, pc, sa, sc, ea, ec, fa, fc, rfl⟩ := hp.shapes
  have CE : Hid (∀ W b, CellsAt W b E 35 → W.cell? ⟨b, 0, none⟩ = some (.int .u8 9) ∧ W.cell? ⟨b, 19, none⟩ = some (.int .i64 x.site) ∧ W.cell? ⟨b, 20, none⟩ = some (.int .i64 x.region) ∧ W.cell? ⟨b, 21, none⟩ = some (.int .u64 (x.epoch : Int)) ∧ W.cell? ⟨b, 22, none⟩ = some (.slice fa (nums x.frontier).length fc)) := Lib.hid fun W b h => by
    have h0 : W.cell? ⟨b, 0, none⟩ = some (.int .u8 (x.kind : Int)) := by subst hE; exact h.cell 0
    rw [hk] at h0
    exact ⟨h0, by subst hE; exact h.cell 19, by subst hE; exact h.cell 20, by subst hE; exact h.cell 21, by subst hE; exact h.cell 22⟩
  have TB := tellB_eq x 9 hk
  rw [← hE, TB]
  have EE : Hid (be 1 9 ++ (kindP 9).flatMap (partB x) = be 1 9 ++ be 1 (byteOf x.site) ++ be 8 (u64 x.region) ++ be 8 x.epoch ++ stampB x.frontier) := Lib.hid (by simp [kindP, partB, valB, valOf])
  rw [EE.out]
  have wa : IntKind.u64.wrap x.region = ((u64 x.region : Nat) : Int) := by rw [u64_cast]; simp [IntKind.wrap, IntKind.bits, IntKind.signed]
  have wb : IntKind.u8.wrap x.site = ((byteOf x.site : Nat) : Int) := by rw [byteOf_cast]; simp [IntKind.wrap, IntKind.bits, IntKind.signed]
  have hb1 := big.op
  have hb2 := big.frontier
  clear hE hk ok big TB
  go_enter Tryz.func23, Tryz.ntmps23
  go_wp2_with (first | (refine wpList_boxE _ rfl rfl rfl ?_) | fail)
  intro w1 K1 G1 n1
  obtain ⟨b, hb⟩ : ∃ b, b = w.heap.size := ⟨_, rfl⟩
  obtain ⟨B, hB⟩ : ∃ B, B = w1.heap.size := ⟨_, rfl⟩
  have hbB : Hid (b < B) := Lib.hid (by rw [hb, hB]; exact K1.lt)
  rw [← hb]
  rw [← hb] at K1
  have PB : Hid (EntP (fun k => k < B) w1 x _) := Lib.hid ((hp.below (B := B) (by rw [hB]; exact G1.size)).gr G1)
  obtain ⟨w2, hw2⟩ : ∃ w2, w2 = w1.alloc (.cells #[.int .u8 9] 5) := ⟨_, rfl⟩
  have g2 : Gr w1 w2 := by rw [hw2]; exact (Gr.refl w1).alloc _
  have O2 : Own w2 B 5 (.slice (some ⟨w1.heap.size, 0, none⟩) 1 1) (bytes (be 1 9)) := by
    rw [hw2, be1_byte 9 (by decide), hB]
    exact World.ownsRow_lit w1 #[.int .u8 9] 1 (Nat.le_refl _) (by decide) rfl
  have K2 := Lib.hid (K1.gr g2)
  have GW := Lib.hid (G1.trans g2)
  have PB2 := Lib.hid (PB.out.gr g2)
  have HW2 := Lib.hid hw2
  have hbs : Hid (w.heap.size ≤ B) := Lib.hid (by rw [hB]; exact G1.size)
  have hB2 : Hid (B ≤ w2.heap.size) := Lib.hid (by rw [hB]; exact g2.size)
  have cc := (CE.out w1 b K1).1
  clear hw2 g2 K1 G1 n1 PB hp hB hb
  obtain ⟨v0, hv0⟩ : ∃ v0, v0 = (.slice (some ⟨w1.heap.size, 0, none⟩) 1 1 : Value) := ⟨_, rfl⟩
  rw [← hv0] at O2
  have V0 := Lib.hid hv0
  have HO := Lib.hid O2
  have HBx := hB2
  have HV0 : Hid (∀ k, v0.ownBlock = some k → k < w2.drew.heap.size) := Lib.hid fun k hk => (World.ownsRow.lt O2 k hk).2
  have HV1 : Hid (∀ k, v0.ownBlock = some k → B ≤ k) := Lib.hid O2.ownBlock_ge
  have dd0 := (CE.out w2 b K2.out).1
  have ee : w1.alloc (.cells #[.int .u8 9] 5) = w2 := HW2.out.symm
  clear O2 hv0
  go_wp2_with fail
  try rw [← HW2.out]
  try rw [← V0.out]
  clear dd0 ee cc
  apply wp_region_draw_turnU (rhoOf v0) (StU B v0 (fun k => ([be 1 9, be 1 9 ++ be 1 (byteOf x.site), be 1 9 ++ be 1 (byteOf x.site) ++ be 8 (u64 x.region), be 1 9 ++ be 1 (byteOf x.site) ++ be 8 (u64 x.region) ++ be 8 x.epoch, be 1 9 ++ be 1 (byteOf x.site) ++ be 8 (u64 x.region) ++ be 8 x.epoch ++ stampB x.frontier, be 1 9 ++ be 1 (byteOf x.site) ++ be 8 (u64 x.region) ++ be 8 x.epoch ++ stampB x.frontier] : List (List UInt8)).getD k [])) (.eq _ :: .eq _ :: .eq _ :: .eq _ :: .ok (SlU v0 (be 1 (byteOf x.site))) :: .use TU :: .eq _ :: .eq _ :: .eq _ :: .use TU :: .eq _ :: .eq _ :: .use TU :: .eq _ :: .eq _ :: .use TU :: .use TU :: []) (by kernel_rfl) (by kernel_rfl) (by kernel_rfl) ⟨SlU.mono _ _, TU.mono _, TU.mono _, TU.mono _, TU.mono _, TU.mono _, trivial⟩ StU.gr ⟨(HO.out.gr (Gr.refl _).drew), fun k hk => .inl hk⟩
  iterate 4
   apply wpU_eq
   · intro U W hW hU hs
     have KX := K2.out.gr (Gr.refl w2).drew
     have KY : CellsAt W b E 35 := KX.ch hW (fun e => by have h1 := HV1.out b e; have h2 := hbB.out; omega)
     obtain ⟨d0, d19, d20, d21, d22⟩ := CE.out W b KY
     clear KX KY
     unfold opT
     go_simp
     first | exact resT_eq_mk _ _ _ | exact ⟨Gr.refl _, rfl⟩
   simp only [Act.put, pt1, pt2, pt3]
  apply wpU_ok
  · intro U W hW hU hs
    have KX := K2.out.gr (Gr.refl w2).drew
    have KY : CellsAt W b E 35 := KX.ch hW (fun e => by have h1 := HV1.out b e; have h2 := hbB.out; omega)
    obtain ⟨d0, d19, d20, d21, d22⟩ := CE.out W b KY
    clear KX KY
    unfold opT
    go_simp
    exact resT_mk ((Gr.refl _).alloc _) (SlU.byte (byteOf x.site) (byteOf_lt _) HV0.out hW.size hU)
  intro v4
  simp only [Act.put, pt1, pt2, pt3]
  apply wpU_use
  · intro U W hW hU hS hs
    have KX := K2.out.gr (Gr.refl w2).drew
    have KY : CellsAt W b E 35 := KX.ch hW (fun e => by have h1 := HV1.out b e; have h2 := hbB.out; omega)
    obtain ⟨d0, d19, d20, d21, d22⟩ := CE.out W b KY
    clear KX KY
    have hu : Own W B 5 v0 (bytes (be 1 9)) := hS.1
    have hBW : B ≤ W.heap.size := Nat.le_trans HBx.out hW.size
    have hlen : (be 1 9).length ≤ 900000000 := (by (try simp only [List.length_append, be_length, textB_length, flagB_length, sessB_length, stampB_length]); omega)
    obtain ⟨s8, _⟩ := hs _ (.head _) (by rfl)
    obtain ⟨vr, wr9, hr, ha⟩ := run_append_c W B v0 _ (be 1 9) (be 1 (byteOf x.site)) hu s8 (by have h1 := hlen; have h2 : (be 1 (byteOf x.site)).length ≤ 900000000 := (by (try simp only [List.length_append, be_length, textB_length, flagB_length, sessB_length, stampB_length]); omega); omega) hBW
    obtain ⟨c1, c2⟩ := StU.user hS (v' := vr) (W' := wr9) (by first | exact ha | simpa only [List.append_assoc] using ha)
    exact opT_append hr rfl _ _ rfl rfl rfl ⟨c1, c2, trivial⟩
  intro a1
  simp only [Act.put, pt1, pt2, pt3]
  iterate 3
   apply wpU_eq
   · intro U W hW hU hs
     have KX := K2.out.gr (Gr.refl w2).drew
     have KY : CellsAt W b E 35 := KX.ch hW (fun e => by have h1 := HV1.out b e; have h2 := hbB.out; omega)
     obtain ⟨d0, d19, d20, d21, d22⟩ := CE.out W b KY
     clear KX KY
     unfold opT
     go_simp
     first | exact resT_eq_mk _ _ _ | exact ⟨Gr.refl _, rfl⟩
   simp only [Act.put, pt1, pt2, pt3]
  apply wpU_use
  · intro U W hW hU hS hs
    have KX := K2.out.gr (Gr.refl w2).drew
    have KY : CellsAt W b E 35 := KX.ch hW (fun e => by have h1 := HV1.out b e; have h2 := hbB.out; omega)
    obtain ⟨d0, d19, d20, d21, d22⟩ := CE.out W b KY
    clear KX KY
    have hu : Own W B 5 a1 (bytes (be 1 9 ++ be 1 (byteOf x.site))) := hS.1
    have hBW : B ≤ W.heap.size := Nat.le_trans HBx.out hW.size
    have hlen : (be 1 9 ++ be 1 (byteOf x.site)).length ≤ 900000000 := (by (try simp only [List.length_append, be_length, textB_length, flagB_length, sessB_length, stampB_length]); omega)
    refine opT_hide fun VV hVV => ?_
    have HVV := Lib.hid hVV
    have HS := Lib.hid hS
    clear hVV hS
    unfold opT
    go_simp
    refine resT_call ((dnum_any W B a1 _ (u64 x.region) (u64_lt _) hu hBW (by have := hlen; omega)).mono ?_)
    rintro e W2 ⟨v2, rfl, ha⟩
    obtain ⟨c1, c2⟩ := StU.user HS.out (v' := v2) (W' := W2) (by first | exact ha | simpa only [List.append_assoc] using ha)
    exact ⟨_, rfl, c1, HVV.out _ _ ⟨c2, trivial⟩⟩
  intro a2
  simp only [Act.put, pt1, pt2, pt3]
  iterate 2
   apply wpU_eq
   · intro U W hW hU hs
     have KX := K2.out.gr (Gr.refl w2).drew
     have KY : CellsAt W b E 35 := KX.ch hW (fun e => by have h1 := HV1.out b e; have h2 := hbB.out; omega)
     obtain ⟨d0, d19, d20, d21, d22⟩ := CE.out W b KY
     clear KX KY
     unfold opT
     go_simp
     first | exact resT_eq_mk _ _ _ | exact ⟨Gr.refl _, rfl⟩
   simp only [Act.put, pt1, pt2, pt3]
  apply wpU_use
  · intro U W hW hU hS hs
    have KX := K2.out.gr (Gr.refl w2).drew
    have KY : CellsAt W b E 35 := KX.ch hW (fun e => by have h1 := HV1.out b e; have h2 := hbB.out; omega)
    obtain ⟨d0, d19, d20, d21, d22⟩ := CE.out W b KY
    clear KX KY
    have hu : Own W B 5 a2 (bytes (be 1 9 ++ be 1 (byteOf x.site) ++ be 8 (u64 x.region))) := hS.1
    have hBW : B ≤ W.heap.size := Nat.le_trans HBx.out hW.size
    have hlen : (be 1 9 ++ be 1 (byteOf x.site) ++ be 8 (u64 x.region)).length ≤ 900000000 := (by (try simp only [List.length_append, be_length, textB_length, flagB_length, sessB_length, stampB_length]); omega)
    refine opT_hide fun VV hVV => ?_
    have HVV := Lib.hid hVV
    have HS := Lib.hid hS
    clear hVV hS
    unfold opT
    go_simp
    refine resT_call ((dnum_any W B a2 _ x.epoch (by have := OK.out.epoch; omega) hu hBW (by have := hlen; omega)).mono ?_)
    rintro e W2 ⟨v2, rfl, ha⟩
    obtain ⟨c1, c2⟩ := StU.user HS.out (v' := v2) (W' := W2) (by first | exact ha | simpa only [List.append_assoc] using ha)
    exact ⟨_, rfl, c1, HVV.out _ _ ⟨c2, trivial⟩⟩
  intro a3
  simp only [Act.put, pt1, pt2, pt3]
  iterate 2
   apply wpU_eq
   · intro U W hW hU hs
     have KX := K2.out.gr (Gr.refl w2).drew
     have KY : CellsAt W b E 35 := KX.ch hW (fun e => by have h1 := HV1.out b e; have h2 := hbB.out; omega)
     obtain ⟨d0, d19, d20, d21, d22⟩ := CE.out W b KY
     clear KX KY
     unfold opT
     go_simp
     first | exact resT_eq_mk _ _ _ | exact ⟨Gr.refl _, rfl⟩
   simp only [Act.put, pt1, pt2, pt3]
  apply wpU_use
  · intro U W hW hU hS hs
    have KX := K2.out.gr (Gr.refl w2).drew
    have KY : CellsAt W b E 35 := KX.ch hW (fun e => by have h1 := HV1.out b e; have h2 := hbB.out; omega)
    obtain ⟨d0, d19, d20, d21, d22⟩ := CE.out W b KY
    clear KX KY
    have hu : Own W B 5 a3 (bytes (be 1 9 ++ be 1 (byteOf x.site) ++ be 8 (u64 x.region) ++ be 8 x.epoch)) := hS.1
    have hBW : B ≤ W.heap.size := Nat.le_trans HBx.out hW.size
    have hlen : (be 1 9 ++ be 1 (byteOf x.site) ++ be 8 (u64 x.region) ++ be 8 x.epoch).length ≤ 900000000 := (by (try simp only [List.length_append, be_length, textB_length, flagB_length, sessB_length, stampB_length]); omega)
    refine opT_hide fun VV hVV => ?_
    have HVV := Lib.hid hVV
    have HS := Lib.hid hS
    clear hVV hS
    unfold opT
    go_simp
    refine resT_call ((dstamp_any W B a3 _ _ x.frontier ((PB2.out.gr (Gr.refl w2).drew).keep (keep_rho hW HV1.out)).2.2 OK.out.frontier hu hBW (by (try simp only [List.length_append, be_length, textB_length, flagB_length, sessB_length, stampB_length]); omega)).mono ?_)
    rintro e W2 ⟨v2, rfl, ha⟩
    obtain ⟨c1, c2⟩ := StU.user HS.out (v' := v2) (W' := W2) (by first | exact ha | simpa only [List.append_assoc] using ha)
    exact ⟨_, rfl, c1, HVV.out _ _ ⟨c2, trivial⟩⟩
  intro a4
  simp only [Act.put, pt1, pt2, pt3]
  apply wpU_use
  · intro U W hW hU hS hs
    have KX := K2.out.gr (Gr.refl w2).drew
    have KY : CellsAt W b E 35 := KX.ch hW (fun e => by have h1 := HV1.out b e; have h2 := hbB.out; omega)
    obtain ⟨d0, d19, d20, d21, d22⟩ := CE.out W b KY
    clear KX KY
    have hu : Own W B 5 a4 (bytes (be 1 9 ++ be 1 (byteOf x.site) ++ be 8 (u64 x.region) ++ be 8 x.epoch ++ stampB x.frontier)) := hS.1
    have hBW : B ≤ W.heap.size := Nat.le_trans HBx.out hW.size
    have hlen : (be 1 9 ++ be 1 (byteOf x.site) ++ be 8 (u64 x.region) ++ be 8 x.epoch ++ stampB x.frontier).length ≤ 900000000 := (by (try simp only [List.length_append, be_length, textB_length, flagB_length, sessB_length, stampB_length]); omega)
    have ha := App.refl hu
    obtain ⟨c1, c2⟩ := StU.user hS (v' := a4) (W' := W) ha
    refine opT_hide fun VV hVV => ?_
    have HVV := Lib.hid (hVV _ _ ⟨c2, trivial⟩)
    clear hVV c2
    unfold opT
    go_simp
    exact ⟨c1, HVV.out⟩
  intro az
  simp only [Act.put, pt1, pt2, pt3]
  apply wpU_nil
  intro U W9 hW9 hU9 hS9 hs9
  have hA : App w2 B v0 (be 1 9 ++ be 1 (byteOf x.site) ++ be 8 (u64 x.region) ++ be 8 x.epoch ++ stampB x.frontier) az W9 := App.grL ((Gr.refl _).drew) (StU.fin hS9 hW9 hU9)
  have KP : Keep (fun k => k < B) w2 W9 := hA.keep HV1.out
  have RR := Lib.hid (App.ret hA (w := w) (fun k hk => Nat.le_trans hbs.out (HV1.out k hk)) GW.out)
  clear hS9 hW9 hU9 hs9 hA KP
  go_wp2
  go_ret
  exact RR.out
/-- The bytes of an entry that may be told. -/
theorem dbytes_any (w : World) (x : EntD) (q : EntV) (hk : kindK x.kind = true) (hp : EntP Any w x q) (ok : EntOk x) (big : EntBig x) (hf : ∀ p ∈ x.op.parts, p.parts = []) : Calls Tryz.prog 23 #[.agg (entCells x q).toArray] w (RetSl w (tellB x)) := by
  unfold kindK at hk
  simp only [Bool.and_eq_true, decide_eq_true_eq] at hk
  rcases (by omega : x.kind = 1 ∨ x.kind = 2 ∨ x.kind = 3 ∨ x.kind = 4 ∨ x.kind = 5 ∨ x.kind = 6 ∨ x.kind = 7 ∨ x.kind = 8 ∨ x.kind = 9) with h | h | h | h | h | h | h | h | h
  · exact dbytes_1 w x q h hp ok big hf
  · exact dbytes_2 w x q h hp ok big
  · exact dbytes_3 w x q h hp ok big
  · exact dbytes_4 w x q h hp ok big
  · exact dbytes_5 w x q h hp ok big
  · exact dbytes_6 w x q h hp ok big
  · exact dbytes_7 w x q h hp ok big
  · exact dbytes_8 w x q h hp ok big
  · exact dbytes_9 w x q h hp ok big
end Go.Proofs.YtiemgmbjhllmbaaGreat
