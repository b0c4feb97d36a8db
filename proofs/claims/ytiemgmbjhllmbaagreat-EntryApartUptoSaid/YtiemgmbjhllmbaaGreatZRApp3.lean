/-
  Of the document: what puts operations, items behind bytes.
-/
import Derived.Test.YtiemgmbjhllmbaaGreatZRApp2
import Derived.Test.YtiemgmbjhllmbaaGreatZEnPutI
set_option linter.unusedVariables false
set_option linter.unusedSimpArgs false
set_option maxRecDepth 100000
namespace Go.Proofs.YtiemgmbjhllmbaaGreat
open Go.RowKit
theorem opB_flat (h : OpH) : opB (.mk h []) = headB h ++ be 8 0 := by rw [opB_mk, opsB_nil, List.append_nil]; rfl
theorem flat_one {o : OpD} (h : o.parts = []) : opB o = headB o.h ++ be 8 0 := by
  obtain ⟨h0, ps⟩ := o
  replace h : ps = [] := h
  subst h
  exact opB_flat h0
theorem headB_ge (h : OpH) : h.path.length + h.data.length ≤ (headB h).length := by rw [headB_length]; omega
theorem opsB_mem {ps : List OpD} (k : Nat) (hk : k < ps.length) : (opsB (ps.take k)).length + (opB ps[k]).length ≤ (opsB ps).length := by
  have h1 := congrArg List.length (opsB_append (ps.take k) (ps.drop k))
  rw [List.take_append_drop, List.drop_eq_getElem_cons hk, opsB_cons, List.length_append, List.length_append] at h1
  omega
theorem opsB_next (ps : List OpD) (k : Nat) (hk : k < ps.length) : opsB (ps.take (k + 1)) = opsB (ps.take k) ++ opB ps[k] := by
  rw [List.take_add_one, List.getElem?_eq_getElem hk, opsB_append]; simp [opsB_cons, opsB_nil]
set_option maxHeartbeats 2000000 in
theorem dop_any (w : World) (B : Nat) (v dv pv : Value) (l : List UInt8) (h : OpH) (ps : List OpD) (ok : OpOk (.mk h ps)) (hf : ∀ p ∈ ps, p.parts = []) (hp : OpP (fun k => k < B) w (.mk h ps) dv pv) (ho : Own w B 5 v (bytes l)) (hB : B ≤ w.heap.size) (hl : l.length + (opB (.mk h ps)).length ≤ 500000000) :
    Calls Tryz.prog 82 #[v, .agg (opCells h dv pv).toArray] w (RetApp w B v (l ++ opB (.mk h ps))) := by
  have hok := ok.heads
  obtain ⟨hd, hps⟩ := hp.parts
  replace hd : SlP (fun k => k < B) w dv (bytes h.data) := hd
  replace hps : OpsP (fun k => k < B) w pv ps := hps
  have HOK : Hid (∀ p ∈ ps, HeadOk p.h) := Lib.hid hok.2
  have HF := Lib.hid hf
  have hln : l.length + (headB h).length + 8 + (opsB ps).length ≤ 500000000 := by rw [opB_mk] at hl; simp only [List.length_append, be_length] at hl; omega
  have hg2 := opsB_ge ps
  have hg1 := headB_ge h
  have OKH : Hid (HeadOk h) := Lib.hid hok.1
  have EE : Hid (l ++ opB (.mk h ps) = l ++ headB h ++ be 8 ps.length ++ opsB ps) := Lib.hid (by rw [opB_mk]; simp only [List.append_assoc])
  obtain ⟨kd, pa, da, ve, sq, ep⟩ := h
  dsimp only at hd hg1
  obtain ⟨ad, cd, hv⟩ := hd.1.oneCells
  rw [bytes_length] at hv
  subst hv
  obtain ⟨ap, cp, rfl⟩ := hps.shape
  have HLN := hln
  rw [headB_length] at hln
  dsimp only at hln
  show Calls Tryz.prog 82 #[v, .agg #[.int .u8 (kd : Int), .string ⟨pa.toArray⟩, .slice ad da.length cd, .int .i64 ve, .bool sq, .bool ep, .slice ap ps.length cp]] w (RetApp w B v (l ++ opB (.mk ⟨kd, pa, da, ve, sq, ep⟩ ps)))
  obtain ⟨w1, hbox⟩ : ∃ w1, w1 = w.alloc (.cells #[.int .u8 (kd : Int), .string ⟨pa.toArray⟩, .slice ad da.length cd, .int .i64 ve, .bool sq, .bool ep, .slice ap ps.length cp] 28) := ⟨_, rfl⟩
  have g1 : Gr w w1 := by rw [hbox]; exact (Gr.refl w).alloc _
  have k1 : CellsAt w1 w.heap.size [.int .u8 (kd : Int), .string ⟨pa.toArray⟩, .slice ad da.length cd, .int .i64 ve, .bool sq, .bool ep, .slice ap ps.length cp] 28 := by rw [hbox]; exact CellsAt.new _ _ _
  have NL : Hid (w.heap.size < w1.heap.size) := Lib.hid k1.lt
  have HV : Hid (∀ k, v.ownBlock = some k → k < w.heap.size) := Lib.hid fun k hk => (World.ownsRow.lt ho k hk).2
  have HV0 : Hid (∀ k, v.ownBlock = some k → k < w1.drew.heap.size) := Lib.hid fun k hk => Nat.lt_of_lt_of_le (HV.out k hk) g1.size
  have HV1 : Hid (∀ k, v.ownBlock = some k → B ≤ k) := Lib.hid (ho.ownBlock_ge)
  have KB : Hid (∀ W, Ch (rhoOf v) w1.drew W → CellsAt W w.heap.size [.int .u8 (kd : Int), .string ⟨pa.toArray⟩, .slice ad da.length cd, .int .i64 ve, .bool sq, .bool ep, .slice ap ps.length cp] 28) := Lib.hid fun W hW => (k1.gr (Gr.refl w1).drew).chR hW (Nat.le_refl _) HV.out
  have KC : Hid (∀ W : World, W.heap[w.heap.size]? = w1.heap[w.heap.size]? → CellsAt W w.heap.size [.int .u8 (kd : Int), .string ⟨pa.toArray⟩, .slice ad da.length cd, .int .i64 ve, .bool sq, .bool ep, .slice ap ps.length cp] 28) := Lib.hid fun W hW => hW.trans k1
  have HD : Hid (SlP (fun k => k < B) w1.drew (.slice ad da.length cd) (bytes da)) := Lib.hid ((hd.gr g1).gr ((Gr.refl w1).drew))
  have HP : Hid (OpsP (fun k => k < B) w1 (.slice ap ps.length cp) ps) := Lib.hid (hps.gr g1)
  have HO := Lib.hid (ho.gr g1)
  have HBx : Hid (B ≤ w1.heap.size) := Lib.hid (Nat.le_trans hB g1.size)
  have HW := Lib.hid hbox
  have G1 := Lib.hid g1
  have w8 := wrap_nat64 ps.length (by omega)
  clear hbox g1 k1 ho hB hd hps hp hf ok hok hl
  go_enter Tryz.func82, Tryz.ntmps82
  go_wp2_with fail
  rw [← HW.out]
  apply wp_region_draw_turnU (rhoOf v) (StU B v (fun k => ([l, l ++ headB ⟨kd, pa, da, ve, sq, ep⟩, l ++ headB ⟨kd, pa, da, ve, sq, ep⟩ ++ be 8 ps.length, l ++ headB ⟨kd, pa, da, ve, sq, ep⟩ ++ be 8 ps.length] : List (List UInt8)).getD k [])) (.eq _ :: .eq _ :: .use TU :: .eq _ :: .eq _ :: .eq _ :: .eq _ :: .use TU :: .use TU :: []) (by kernel_rfl) (by kernel_rfl) (by kernel_rfl) ⟨TU.mono _, TU.mono _, TU.mono _, trivial⟩ StU.gr ⟨(HO.out.gr (Gr.refl _).drew), fun k hk => .inl hk⟩
  iterate 2
   apply wpU_eq
   · intro U W hW hU hs
     have KX := KB.out W hW
     have c0 : W.cell? ⟨w.heap.size, 0, none⟩ = some (.int .u8 (kd : Int)) := KX.cell 0
     have c1 : W.cell? ⟨w.heap.size, 1, none⟩ = some (.string ⟨pa.toArray⟩) := KX.cell 1
     have c2 : W.cell? ⟨w.heap.size, 2, none⟩ = some (.slice ad da.length cd) := KX.cell 2
     have c3 : W.cell? ⟨w.heap.size, 3, none⟩ = some (.int .i64 ve) := KX.cell 3
     have c4 : W.cell? ⟨w.heap.size, 4, none⟩ = some (.bool sq) := KX.cell 4
     have c5 : W.cell? ⟨w.heap.size, 5, none⟩ = some (.bool ep) := KX.cell 5
     have c6 : W.cell? ⟨w.heap.size, 6, none⟩ = some (.slice ap ps.length cp) := KX.cell 6
     clear KX
     unfold opT
     go_simp
     first | exact resT_eq_mk _ _ _ | exact ⟨Gr.refl _, rfl⟩
   simp only [Act.put, pt1, pt2, pt3]
  apply wpU_use
  · intro U W hW hU hS hs
    have KX := KB.out W hW
    have c0 : W.cell? ⟨w.heap.size, 0, none⟩ = some (.int .u8 (kd : Int)) := KX.cell 0
    have c1 : W.cell? ⟨w.heap.size, 1, none⟩ = some (.string ⟨pa.toArray⟩) := KX.cell 1
    have c2 : W.cell? ⟨w.heap.size, 2, none⟩ = some (.slice ad da.length cd) := KX.cell 2
    have c3 : W.cell? ⟨w.heap.size, 3, none⟩ = some (.int .i64 ve) := KX.cell 3
    have c4 : W.cell? ⟨w.heap.size, 4, none⟩ = some (.bool sq) := KX.cell 4
    have c5 : W.cell? ⟨w.heap.size, 5, none⟩ = some (.bool ep) := KX.cell 5
    have c6 : W.cell? ⟨w.heap.size, 6, none⟩ = some (.slice ap ps.length cp) := KX.cell 6
    clear KX
    have hu : Own W B 5 v (bytes (l)) := hS.1
    have hBW : B ≤ W.heap.size := Nat.le_trans HBx.out hW.size
    have hlen : (l).length ≤ 900000000 := (by (try simp only [List.length_append, be_length, textB_length, flagB_length, sessB_length, stampB_length, headB_length]); omega)
    refine opT_hide fun VV hVV => ?_
    have HVV := Lib.hid hVV
    have HS := Lib.hid hS
    clear hVV hS
    unfold opT
    go_simp
    refine resT_call ((done_any W B v (.slice ad da.length cd) (.slice ap ps.length cp) l ⟨kd, pa, da, ve, sq, ep⟩ OKH.out rfl (HD.out.keep (keep_rho hW HV1.out)) hu hBW (by dsimp only; omega)).mono ?_)
    rintro e W2 ⟨v2, rfl, ha⟩
    obtain ⟨c1, c2⟩ := StU.user HS.out (v' := v2) (W' := W2) (by first | exact ha | simpa only [List.append_assoc] using ha)
    exact ⟨_, rfl, c1, HVV.out _ _ ⟨c2, trivial⟩⟩
  intro u1
  simp only [Act.put, pt1, pt2, pt3]
  iterate 4
   apply wpU_eq
   · intro U W hW hU hs
     have KX := KB.out W hW
     have c0 : W.cell? ⟨w.heap.size, 0, none⟩ = some (.int .u8 (kd : Int)) := KX.cell 0
     have c1 : W.cell? ⟨w.heap.size, 1, none⟩ = some (.string ⟨pa.toArray⟩) := KX.cell 1
     have c2 : W.cell? ⟨w.heap.size, 2, none⟩ = some (.slice ad da.length cd) := KX.cell 2
     have c3 : W.cell? ⟨w.heap.size, 3, none⟩ = some (.int .i64 ve) := KX.cell 3
     have c4 : W.cell? ⟨w.heap.size, 4, none⟩ = some (.bool sq) := KX.cell 4
     have c5 : W.cell? ⟨w.heap.size, 5, none⟩ = some (.bool ep) := KX.cell 5
     have c6 : W.cell? ⟨w.heap.size, 6, none⟩ = some (.slice ap ps.length cp) := KX.cell 6
     clear KX
     unfold opT
     go_simp
     first | exact resT_eq_mk _ _ _ | exact ⟨Gr.refl _, rfl⟩
   simp only [Act.put, pt1, pt2, pt3]
  apply wpU_use
  · intro U W hW hU hS hs
    have KX := KB.out W hW
    have c0 : W.cell? ⟨w.heap.size, 0, none⟩ = some (.int .u8 (kd : Int)) := KX.cell 0
    have c1 : W.cell? ⟨w.heap.size, 1, none⟩ = some (.string ⟨pa.toArray⟩) := KX.cell 1
    have c2 : W.cell? ⟨w.heap.size, 2, none⟩ = some (.slice ad da.length cd) := KX.cell 2
    have c3 : W.cell? ⟨w.heap.size, 3, none⟩ = some (.int .i64 ve) := KX.cell 3
    have c4 : W.cell? ⟨w.heap.size, 4, none⟩ = some (.bool sq) := KX.cell 4
    have c5 : W.cell? ⟨w.heap.size, 5, none⟩ = some (.bool ep) := KX.cell 5
    have c6 : W.cell? ⟨w.heap.size, 6, none⟩ = some (.slice ap ps.length cp) := KX.cell 6
    clear KX
    have hu : Own W B 5 u1 (bytes (l ++ headB ⟨kd, pa, da, ve, sq, ep⟩)) := hS.1
    have hBW : B ≤ W.heap.size := Nat.le_trans HBx.out hW.size
    have hlen : (l ++ headB ⟨kd, pa, da, ve, sq, ep⟩).length ≤ 900000000 := (by (try simp only [List.length_append, be_length, textB_length, flagB_length, sessB_length, stampB_length, headB_length]); omega)
    refine opT_hide fun VV hVV => ?_
    have HVV := Lib.hid hVV
    have HS := Lib.hid hS
    clear hVV hS
    unfold opT
    go_simp
    refine resT_call ((dnum_any W B u1 _ ps.length (by omega) hu hBW (by have := hlen; omega)).mono ?_)
    rintro e W2 ⟨v2, rfl, ha⟩
    obtain ⟨c1, c2⟩ := StU.user HS.out (v' := v2) (W' := W2) (by first | exact ha | simpa only [List.append_assoc] using ha)
    exact ⟨_, rfl, c1, HVV.out _ _ ⟨c2, trivial⟩⟩
  intro u2
  simp only [Act.put, pt1, pt2, pt3]
  apply wpU_use
  · intro U W hW hU hS hs
    have KX := KB.out W hW
    have c0 : W.cell? ⟨w.heap.size, 0, none⟩ = some (.int .u8 (kd : Int)) := KX.cell 0
    have c1 : W.cell? ⟨w.heap.size, 1, none⟩ = some (.string ⟨pa.toArray⟩) := KX.cell 1
    have c2 : W.cell? ⟨w.heap.size, 2, none⟩ = some (.slice ad da.length cd) := KX.cell 2
    have c3 : W.cell? ⟨w.heap.size, 3, none⟩ = some (.int .i64 ve) := KX.cell 3
    have c4 : W.cell? ⟨w.heap.size, 4, none⟩ = some (.bool sq) := KX.cell 4
    have c5 : W.cell? ⟨w.heap.size, 5, none⟩ = some (.bool ep) := KX.cell 5
    have c6 : W.cell? ⟨w.heap.size, 6, none⟩ = some (.slice ap ps.length cp) := KX.cell 6
    clear KX
    have hu : Own W B 5 u2 (bytes (l ++ headB ⟨kd, pa, da, ve, sq, ep⟩ ++ be 8 ps.length)) := hS.1
    have hBW : B ≤ W.heap.size := Nat.le_trans HBx.out hW.size
    have hlen : (l ++ headB ⟨kd, pa, da, ve, sq, ep⟩ ++ be 8 ps.length).length ≤ 900000000 := (by (try simp only [List.length_append, be_length, textB_length, flagB_length, sessB_length, stampB_length, headB_length]); omega)
    have ha := App.refl hu
    obtain ⟨c1, c2⟩ := StU.user hS (v' := u2) (W' := W) ha
    refine opT_hide fun VV hVV => ?_
    have HVV := Lib.hid (hVV _ _ ⟨c2, trivial⟩)
    clear hVV c2
    unfold opT
    go_simp
    exact ⟨c1, HVV.out⟩
  intro u3
  simp only [Act.put, pt1, pt2, pt3]
  apply wpU_nil
  intro U W9 hW9 hU9 hS9 hs9
  have hA : App w1 B v (l ++ headB ⟨kd, pa, da, ve, sq, ep⟩ ++ be 8 ps.length) u3 W9 := App.grL ((Gr.refl _).drew) (StU.fin hS9 hW9 hU9)
  have KP : Keep (fun k => k < B) w1 W9 := hA.keep HV1.out
  have A1 : Hid (App w1 B v (l ++ headB ⟨kd, pa, da, ve, sq, ep⟩ ++ be 8 ps.length ++ opsB (ps.take 0)) u3 W9) := Lib.hid (by rw [List.take_zero, opsB_nil, List.append_nil]; exact hA)
  clear hS9 hW9 hU9 hs9 hA KP
  go_wp2_with fail
  go_loopw [0, 5] (fun u i wr => ∃ k : Nat, k ≤ ps.length ∧ i = .int .i64 k ∧ App w1 B v (l ++ headB ⟨kd, pa, da, ve, sq, ep⟩ ++ be 8 ps.length ++ opsB (ps.take k)) u wr) (fun _ i _ => ps.length - (intOf i).toNat)
  case atStart => exact ⟨0, Nat.zero_le _, rfl, A1.out⟩
  case round =>
    clear A1
    obtain ⟨k, hk, rfl, hap⟩ := hrel
    obtain ⟨wo, rfl⟩ : ∃ wo : World, wo = wr := ⟨_, rfl⟩
    have KR := KC.out wo (hap.grown.block _ NL.out (fun e => by have := HV.out _ e.symm; omega))
    have c6 : wo.cell? ⟨w.heap.size, 6, none⟩ = some (.slice ap ps.length cp) := KR.cell 6
    clear KR
    by_cases hlt : k < ps.length
    · obtain ⟨Bx, o, c, dvk, pvk, e0, hBx, hop, hcell⟩ := (HP.out.keep (hap.keep HV1.out)).at k hlt
      injection e0 with e1 _ e3
      subst e1 e3
      have e1 := opsB_next ps k hlt
      rw [flat_one (HF.out _ (List.getElem_mem hlt))] at e1
      have hge := headB_ge ps[k].h
      have hmm := opsB_mem k hlt
      rw [flat_one (HF.out _ (List.getElem_mem hlt)), List.length_append, be_length] at hmm
      have hl9 : (l ++ headB ⟨kd, pa, da, ve, sq, ep⟩ ++ be 8 ps.length ++ opsB (ps.take k)).length + (headB ps[k].h).length ≤ 600000000 := by simp only [List.length_append, be_length]; omega
      have D := done_any wo B _ dvk pvk (l ++ headB ⟨kd, pa, da, ve, sq, ep⟩ ++ be 8 ps.length ++ opsB (ps.take k)) ps[k].h (HOK.out _ (List.getElem_mem hlt)) (by obtain ⟨_, _, h⟩ := hop.parts.2.shape; rw [h]; rfl) hop.parts.1 hap.own (Nat.le_trans HBx.out hap.grown.size) (by simp only [List.length_append, be_length] at hl9 ⊢; omega)
      have sh1 := hop.parts.1.1.oneCells
      have sh2 := hop.parts.2.shape
      have D2 := fun W u0 v' (hA : App wo B u0 (l ++ headB ⟨kd, pa, da, ve, sq, ep⟩ ++ be 8 ps.length ++ opsB (ps.take k) ++ headB ps[k].h) v' W) => dnum_any W B v' (l ++ headB ⟨kd, pa, da, ve, sq, ep⟩ ++ be 8 ps.length ++ opsB (ps.take k) ++ headB ps[k].h) 0 (by decide) hA.own (Nat.le_trans (Nat.le_trans HBx.out hap.grown.size) hA.grown.size) (by simp only [List.length_append, be_length] at hl9 ⊢; omega)
      have e9 : l ++ headB ⟨kd, pa, da, ve, sq, ep⟩ ++ be 8 ps.length ++ opsB (ps.take k) ++ headB ps[k].h ++ be 8 0 = l ++ headB ⟨kd, pa, da, ve, sq, ep⟩ ++ be 8 ps.length ++ opsB (ps.take (k + 1)) := by rw [e1]; simp only [List.append_assoc]
      obtain ⟨x, hx⟩ : ∃ x, x = ps[k] := ⟨_, rfl⟩
      rw [← hx] at D D2 e9 sh1 sh2 hcell
      clear hmm hl9 hge e1 hx hop
      obtain ⟨⟨ki, pb, db, vb, sb, eb⟩, qs⟩ := x
      have d0 := hcell 0 _ (by decide) rfl
      have d1 := hcell 1 _ (by decide) rfl
      have d2 := hcell 2 _ (by decide) rfl
      have d3 := hcell 3 _ (by decide) rfl
      have d4 := hcell 4 _ (by decide) rfl
      have d5 := hcell 5 _ (by decide) rfl
      have d6 := hcell 6 _ (by decide) rfl
      obtain ⟨ax, cx, rfl⟩ := sh1
      obtain ⟨aq, cq, rfl⟩ := sh2
      simp only [OpD.h, Nat.add_zero] at d0 d1 d2 d3 d4 d5 d6 D D2 e9
      have DD := Lib.hid D
      have DD2 := Lib.hid D2
      have E9 := Lib.hid e9
      have HAP := Lib.hid hap
      clear D D2 e9 hap hcell
      have i1 : (0 : Int) ≤ (k : Int) := by omega
      have i2 : (k : Int) < (ps.length : Int) := by omega
      go_wp2_with fail
      refine DD.out.mono ?_
      rintro e w2 ⟨v2, rfl, ha2⟩
      have HA2 := Lib.hid ha2
      clear ha2
      go_wp2_with fail
      refine (DD2.out _ _ _ HA2.out).mono ?_
      rintro e w3 ⟨v3, rfl, ha3⟩
      rw [E9.out] at ha3
      have HA3 := Lib.hid ((HAP.out.trans HA2.out).trans ha3)
      clear ha3
      go_wp2
      go_roundw
      case rel => exact ⟨k + 1, by omega, by go_num, HA3.out⟩
      case measure => simp [intOf]; omega
    · obtain rfl : k = ps.length := by omega
      rw [List.take_length] at hap
      have AA := Lib.hid (App.grL G1.out hap)
      clear hap
      go_wp2
      go_ret
      exact ⟨_, rfl, by rw [EE.out]; exact AA.out⟩
end Go.Proofs.YtiemgmbjhllmbaaGreat
