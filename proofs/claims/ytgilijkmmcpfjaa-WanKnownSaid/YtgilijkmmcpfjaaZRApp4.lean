/-
  Of the document: what puts items behind bytes.
-/
import Derived.Test.YtgilijkmmcpfjaaZRApp3
import Derived.Test.YtgilijkmmcpfjaaZEnRow
set_option linter.unusedVariables false
set_option linter.unusedSimpArgs false
set_option maxRecDepth 100000
namespace Go.Proofs.Ytgilijkmmcpfjaa
open Go.RowKit
theorem effTy : RowTy Try.prog 43 11 := ⟨⟨_, Try.underlying43⟩, by kernel_rfl⟩
theorem nodeTy : RowTy Try.prog 41 9 := ⟨⟨_, Try.underlying41⟩, by kernel_rfl⟩
/-- The bytes that are handed on, in a world. -/
structure Cur (B : Nat) (w : World) (u : Value) (L : List UInt8) : Prop where
  own : Own w B 5 u (bytes L)
  base : B ≤ w.heap.size
theorem Cur.lt {B : Nat} {w : World} {u : Value} {L : List UInt8} (h : Cur B w u L) : ∀ k, u.ownBlock = some k → k < w.heap.size := fun k hk => (World.ownsRow.lt h.own k hk).2
theorem Cur.ge {B : Nat} {w : World} {u : Value} {L : List UInt8} (h : Cur B w u L) : ∀ k, u.ownBlock = some k → B ≤ k := h.own.ownBlock_ge
theorem Cur.gr {B : Nat} {w w' : World} {u : Value} {L : List UInt8} (h : Cur B w u L) (g : Gr w w') : Cur B w' u L := ⟨h.own.gr g, Nat.le_trans h.base g.size⟩
theorem App.cur {w w' : World} {B : Nat} {v v' : Value} {L : List UInt8} (h : App w B v L v' w') (hB : B ≤ w.heap.size) : Cur B w' v' L := ⟨h.own, Nat.le_trans hB h.grown.size⟩
theorem App.cells {w w' : World} {B : Nat} {v v' : Value} {L : List UInt8} (h : App w B v L v' w') {b : Nat} {cs : List Value} {t : TypeId} (k : CellsAt w b cs t) (hn : v.ownBlock ≠ some b) : CellsAt w' b cs t ∧ v'.ownBlock ≠ some b :=
  ⟨(h.grown.block b k.lt (fun e => hn e.symm)).trans k, fun e => by
    rcases h.blk b e with h1 | h1
    · exact hn h1
    · have := k.lt; omega⟩
theorem CellsAt.rho {w W : World} {v : Value} {b : Nat} {cs : List Value} {t : TypeId} (h : CellsAt w b cs t) (hn : v.ownBlock ≠ some b) (g : Ch (rhoOf v) w.drew W) : CellsAt W b cs t := ((h.gr (Gr.refl w).drew).ch g hn)
theorem flatEff_le (es : List EffD) (k : Nat) (hk : k < es.length) : ((es.take k).flatMap effB).length + (effB es[k]).length ≤ (es.flatMap effB).length := effsFlat_le es k hk
theorem flatEff_next (es : List EffD) (k : Nat) (hk : k < es.length) : (es.take (k + 1)).flatMap effB = (es.take k).flatMap effB ++ effB es[k] := by
  rw [List.take_add_one, List.getElem?_eq_getElem hk, List.flatMap_append]; simp
theorem flatEff_ge (es : List EffD) : es.length ≤ (es.flatMap effB).length := effsFlat_ge es
set_option maxHeartbeats 4000000 in
theorem ditem_any (w : World) (B : Nat) (v sv ev : Value) (l : List UInt8) (x : ItemD) (ok : ItemOk x) (hf : ItemFit x) (hp : ItemP (fun k => k < B) w x sv ev) (ho : Own w B 5 v (bytes l)) (hB : B ≤ w.heap.size) (hl : l.length ≤ 500000000) :
    Calls Try.prog 26 #[v, .agg (itemCells x sv ev).toArray] w (RetApp w B v (l ++ itemB x)) := by
  obtain ⟨hf1, hf2⟩ := hf
  rw [itemB_length] at hf1
  have hge := flatEff_ge x.effs
  obtain ⟨ori, seq, reg, epo, st, es, clo⟩ := x
  obtain ⟨o1, o2, o3, o4, o5, o6, o7⟩ := ok
  dsimp only at o1 o2 o3 o4 o5 o6 o7 hf1 hf2 hge
  obtain ⟨hst, hes⟩ := hp
  replace hst : SlP (fun k => k < B) w sv (nums st) := hst
  replace hes : EffsP (fun k => k < B) w ev es := hes
  have EE : Hid (l ++ itemB ⟨ori, seq, reg, epo, st, es, clo⟩ = l ++ be 1 (byteOf ori) ++ be 8 seq ++ be 8 (u64 reg) ++ be 8 epo ++ stampB st ++ be 8 es.length ++ es.flatMap effB ++ be 8 clo) := Lib.hid (by unfold itemB; simp only [List.append_assoc])
  obtain ⟨ast, cst, hv, _, _⟩ := Sl.numsAt' hst.1
  subst hv
  obtain ⟨aes, ces, rfl⟩ := hes.shape
  show Calls Try.prog 26 #[v, .agg #[.int .i64 ori, .int .u64 (seq : Int), .int .i64 reg, .int .u64 (epo : Int), .slice ast st.length cst, .slice aes es.length ces, .int .u32 (clo : Int)]] w (RetApp w B v (l ++ itemB ⟨ori, seq, reg, epo, st, es, clo⟩))
  obtain ⟨w1, hbox⟩ : ∃ w1, w1 = w.alloc (.cells #[.int .i64 ori, .int .u64 (seq : Int), .int .i64 reg, .int .u64 (epo : Int), .slice ast st.length cst, .slice aes es.length ces, .int .u32 (clo : Int)] 46) := ⟨_, rfl⟩
  have g1 : Gr w w1 := by rw [hbox]; exact (Gr.refl w).alloc _
  have k1 : CellsAt w1 w.heap.size [.int .i64 ori, .int .u64 (seq : Int), .int .i64 reg, .int .u64 (epo : Int), .slice ast st.length cst, .slice aes es.length ces, .int .u32 (clo : Int)] 46 := by rw [hbox]; exact CellsAt.new _ _ _
  have CUR : Hid (Cur B w1 v l) := Lib.hid (Cur.gr ⟨ho, hB⟩ g1)
  have N1 : Hid (v.ownBlock ≠ some w.heap.size) := Lib.hid fun e => by have := (World.ownsRow.lt ho _ e).2; omega
  have HVV : Hid (∀ k, v.ownBlock = some k → B ≤ k) := Lib.hid ho.ownBlock_ge
  have HB1 : Hid (B ≤ w1.heap.size) := Lib.hid CUR.out.base
  have K1 := Lib.hid k1
  have KB := Lib.hid fun W (hW : Ch (rhoOf v) w1.drew W) => k1.rho N1.out hW
  have HO := Lib.hid CUR.out.own
  have HBx := Lib.hid CUR.out.base
  have HV0 : Hid (∀ k, v.ownBlock = some k → k < w1.drew.heap.size) := Lib.hid CUR.out.lt
  have HV1 := Lib.hid CUR.out.ge
  have HST : Hid (SlP (fun k => k < B) w1 (.slice ast st.length cst) (nums st)) := Lib.hid (hst.gr g1)
  have HES : Hid (EffsP (fun k => k < B) w1 (.slice aes es.length ces) es) := Lib.hid (hes.gr g1)
  have HW := Lib.hid hbox
  have G1 := Lib.hid g1
  have OS := Lib.hid o2
  have OE := Lib.hid o4
  have OT := Lib.hid o5
  have OF := Lib.hid o6
  have HF2 := Lib.hid hf2
  have w8 : IntKind.u8.wrap ori = ((byteOf ori : Nat) : Int) := by rw [byteOf_cast]; simp [IntKind.wrap, IntKind.bits, IntKind.signed]
  have wr8 : IntKind.u64.wrap reg = ((u64 reg : Nat) : Int) := by rw [u64_cast]; simp [IntKind.wrap, IntKind.bits, IntKind.signed]
  have wn8 := wrap_nat64 es.length (by omega)
  have wc8 := wrap_nat64 clo (by omega)
  clear hbox g1 k1 ho hB hst hes o1 o2 o3 o4 o5 o6 hf2
  go_enter Try.func26, Try.ntmps26
  go_wp2_with fail
  rw [← HW.out]
  apply wp_region_draw_turnU (rhoOf v) (StU B v (fun k => ([l, l ++ be 1 (byteOf ori), l ++ be 1 (byteOf ori) ++ be 8 seq, l ++ be 1 (byteOf ori) ++ be 8 seq] : List (List UInt8)).getD k [])) (.eq _ :: .eq _ :: .eq _ :: .eq _ :: .ok (SlU v (be 1 (byteOf ori))) :: .use TU :: .eq _ :: .eq _ :: .use TU :: .use TU :: []) (by kernel_rfl) (by kernel_rfl) (by kernel_rfl) ⟨SlU.mono _ _, TU.mono _, TU.mono _, TU.mono _, trivial⟩ StU.gr ⟨(HO.out.gr (Gr.refl _).drew), fun k hk => .inl hk⟩
  iterate 4
   apply wpU_eq
   · intro U W hW hU hs
     have KX := KB.out W hW
     have c0 : W.cell? ⟨w.heap.size, 0, none⟩ = some (.int .i64 ori) := KX.cell 0
     have c1 : W.cell? ⟨w.heap.size, 1, none⟩ = some (.int .u64 (seq : Int)) := KX.cell 1
     have c2 : W.cell? ⟨w.heap.size, 2, none⟩ = some (.int .i64 reg) := KX.cell 2
     have c3 : W.cell? ⟨w.heap.size, 3, none⟩ = some (.int .u64 (epo : Int)) := KX.cell 3
     have c4 : W.cell? ⟨w.heap.size, 4, none⟩ = some (.slice ast st.length cst) := KX.cell 4
     have c5 : W.cell? ⟨w.heap.size, 5, none⟩ = some (.slice aes es.length ces) := KX.cell 5
     have c6 : W.cell? ⟨w.heap.size, 6, none⟩ = some (.int .u32 (clo : Int)) := KX.cell 6
     clear KX
     unfold opT
     go_simp
     first | exact resT_eq_mk _ _ _ | exact ⟨Gr.refl _, rfl⟩
   simp only [Act.put, pt1, pt2, pt3]
  apply wpU_ok
  · intro U W hW hU hs
    have KX := KB.out W hW
    have c0 : W.cell? ⟨w.heap.size, 0, none⟩ = some (.int .i64 ori) := KX.cell 0
    have c1 : W.cell? ⟨w.heap.size, 1, none⟩ = some (.int .u64 (seq : Int)) := KX.cell 1
    have c2 : W.cell? ⟨w.heap.size, 2, none⟩ = some (.int .i64 reg) := KX.cell 2
    have c3 : W.cell? ⟨w.heap.size, 3, none⟩ = some (.int .u64 (epo : Int)) := KX.cell 3
    have c4 : W.cell? ⟨w.heap.size, 4, none⟩ = some (.slice ast st.length cst) := KX.cell 4
    have c5 : W.cell? ⟨w.heap.size, 5, none⟩ = some (.slice aes es.length ces) := KX.cell 5
    have c6 : W.cell? ⟨w.heap.size, 6, none⟩ = some (.int .u32 (clo : Int)) := KX.cell 6
    clear KX
    unfold opT
    go_simp
    exact resT_mk ((Gr.refl _).alloc _) (SlU.byte (byteOf ori) (byteOf_lt ori) HV0.out hW.size hU)
  intro v4
  simp only [Act.put, pt1, pt2, pt3]
  apply wpU_use
  · intro U W hW hU hS hs
    have KX := KB.out W hW
    have c0 : W.cell? ⟨w.heap.size, 0, none⟩ = some (.int .i64 ori) := KX.cell 0
    have c1 : W.cell? ⟨w.heap.size, 1, none⟩ = some (.int .u64 (seq : Int)) := KX.cell 1
    have c2 : W.cell? ⟨w.heap.size, 2, none⟩ = some (.int .i64 reg) := KX.cell 2
    have c3 : W.cell? ⟨w.heap.size, 3, none⟩ = some (.int .u64 (epo : Int)) := KX.cell 3
    have c4 : W.cell? ⟨w.heap.size, 4, none⟩ = some (.slice ast st.length cst) := KX.cell 4
    have c5 : W.cell? ⟨w.heap.size, 5, none⟩ = some (.slice aes es.length ces) := KX.cell 5
    have c6 : W.cell? ⟨w.heap.size, 6, none⟩ = some (.int .u32 (clo : Int)) := KX.cell 6
    clear KX
    have hu : Own W B 5 v (bytes (l)) := hS.1
    have hBW : B ≤ W.heap.size := Nat.le_trans HBx.out hW.size
    have hlen : (l).length ≤ 900000000 := (by (try simp only [List.length_append, be_length, textB_length, flagB_length, sessB_length, stampB_length]); omega)
    obtain ⟨s8, _⟩ := hs _ (.head _) (by rfl)
    obtain ⟨vr, wr9, hr, ha⟩ := run_append_c W B v _ (l) (be 1 (byteOf ori)) hu s8 (by have h1 := hlen; have h2 : (be 1 (byteOf ori)).length ≤ 900000000 := (by (try simp only [List.length_append, be_length, textB_length, flagB_length, sessB_length, stampB_length]); omega); omega) hBW
    obtain ⟨c1, c2⟩ := StU.user hS (v' := vr) (W' := wr9) (by first | exact ha | simpa only [List.append_assoc] using ha)
    exact opT_append hr rfl _ _ rfl rfl rfl ⟨c1, c2, trivial⟩
  intro a1
  simp only [Act.put, pt1, pt2, pt3]
  iterate 2
   apply wpU_eq
   · intro U W hW hU hs
     have KX := KB.out W hW
     have c0 : W.cell? ⟨w.heap.size, 0, none⟩ = some (.int .i64 ori) := KX.cell 0
     have c1 : W.cell? ⟨w.heap.size, 1, none⟩ = some (.int .u64 (seq : Int)) := KX.cell 1
     have c2 : W.cell? ⟨w.heap.size, 2, none⟩ = some (.int .i64 reg) := KX.cell 2
     have c3 : W.cell? ⟨w.heap.size, 3, none⟩ = some (.int .u64 (epo : Int)) := KX.cell 3
     have c4 : W.cell? ⟨w.heap.size, 4, none⟩ = some (.slice ast st.length cst) := KX.cell 4
     have c5 : W.cell? ⟨w.heap.size, 5, none⟩ = some (.slice aes es.length ces) := KX.cell 5
     have c6 : W.cell? ⟨w.heap.size, 6, none⟩ = some (.int .u32 (clo : Int)) := KX.cell 6
     clear KX
     unfold opT
     go_simp
     first | exact resT_eq_mk _ _ _ | exact ⟨Gr.refl _, rfl⟩
   simp only [Act.put, pt1, pt2, pt3]
  apply wpU_use
  · intro U W hW hU hS hs
    have KX := KB.out W hW
    have c0 : W.cell? ⟨w.heap.size, 0, none⟩ = some (.int .i64 ori) := KX.cell 0
    have c1 : W.cell? ⟨w.heap.size, 1, none⟩ = some (.int .u64 (seq : Int)) := KX.cell 1
    have c2 : W.cell? ⟨w.heap.size, 2, none⟩ = some (.int .i64 reg) := KX.cell 2
    have c3 : W.cell? ⟨w.heap.size, 3, none⟩ = some (.int .u64 (epo : Int)) := KX.cell 3
    have c4 : W.cell? ⟨w.heap.size, 4, none⟩ = some (.slice ast st.length cst) := KX.cell 4
    have c5 : W.cell? ⟨w.heap.size, 5, none⟩ = some (.slice aes es.length ces) := KX.cell 5
    have c6 : W.cell? ⟨w.heap.size, 6, none⟩ = some (.int .u32 (clo : Int)) := KX.cell 6
    clear KX
    have hu : Own W B 5 a1 (bytes (l ++ be 1 (byteOf ori))) := hS.1
    have hBW : B ≤ W.heap.size := Nat.le_trans HBx.out hW.size
    have hlen : (l ++ be 1 (byteOf ori)).length ≤ 900000000 := (by (try simp only [List.length_append, be_length, textB_length, flagB_length, sessB_length, stampB_length]); omega)
    refine opT_hide fun VV hVV => ?_
    have HVV := Lib.hid hVV
    have HS := Lib.hid hS
    clear hVV hS
    unfold opT
    go_simp
    refine resT_call ((dnum_any W B a1 _ seq OS.out hu hBW (by have := hlen; omega)).mono ?_)
    rintro e W2 ⟨v2, rfl, ha⟩
    obtain ⟨c1, c2⟩ := StU.user HS.out (v' := v2) (W' := W2) (by first | exact ha | simpa only [List.append_assoc] using ha)
    exact ⟨_, rfl, c1, HVV.out _ _ ⟨c2, trivial⟩⟩
  intro a2
  simp only [Act.put, pt1, pt2, pt3]
  apply wpU_use
  · intro U W hW hU hS hs
    have KX := KB.out W hW
    have c0 : W.cell? ⟨w.heap.size, 0, none⟩ = some (.int .i64 ori) := KX.cell 0
    have c1 : W.cell? ⟨w.heap.size, 1, none⟩ = some (.int .u64 (seq : Int)) := KX.cell 1
    have c2 : W.cell? ⟨w.heap.size, 2, none⟩ = some (.int .i64 reg) := KX.cell 2
    have c3 : W.cell? ⟨w.heap.size, 3, none⟩ = some (.int .u64 (epo : Int)) := KX.cell 3
    have c4 : W.cell? ⟨w.heap.size, 4, none⟩ = some (.slice ast st.length cst) := KX.cell 4
    have c5 : W.cell? ⟨w.heap.size, 5, none⟩ = some (.slice aes es.length ces) := KX.cell 5
    have c6 : W.cell? ⟨w.heap.size, 6, none⟩ = some (.int .u32 (clo : Int)) := KX.cell 6
    clear KX
    have hu : Own W B 5 a2 (bytes (l ++ be 1 (byteOf ori) ++ be 8 seq)) := hS.1
    have hBW : B ≤ W.heap.size := Nat.le_trans HBx.out hW.size
    have hlen : (l ++ be 1 (byteOf ori) ++ be 8 seq).length ≤ 900000000 := (by (try simp only [List.length_append, be_length, textB_length, flagB_length, sessB_length, stampB_length]); omega)
    have ha := App.refl hu
    obtain ⟨c1, c2⟩ := StU.user hS (v' := a2) (W' := W) ha
    refine opT_hide fun VV hVV => ?_
    have HVV := Lib.hid (hVV _ _ ⟨c2, trivial⟩)
    clear hVV c2
    unfold opT
    go_simp
    exact ⟨c1, HVV.out⟩
  intro a3
  simp only [Act.put, pt1, pt2, pt3]
  apply wpU_nil
  intro U W9 hW9 hU9 hS9 hs9
  have hA : App w1 B v (l ++ be 1 (byteOf ori) ++ be 8 seq) a3 W9 := App.grL ((Gr.refl _).drew) (StU.fin hS9 hW9 hU9)
  have KP : Keep (fun k => k < B) w1 W9 := hA.keep HV1.out
  have AP := Lib.hid hA
  obtain ⟨kb, nb⟩ := hA.cells K1.out N1.out
  have K2 := Lib.hid kb
  have N2 := Lib.hid nb
  have CUR2 := Lib.hid (hA.cur HBx.out)
  clear hS9 hW9 hU9 hs9 hA KP KB HO HBx HV0 HV1 CUR kb nb
  have CUR := CUR2
  have HO := Lib.hid CUR.out.own
  have HBx := Lib.hid CUR.out.base
  have HV0 : Hid (∀ k, a3.ownBlock = some k → k < W9.drew.heap.size) := Lib.hid CUR.out.lt
  have HV1 := Lib.hid CUR.out.ge
  have KB := Lib.hid fun W (hW : Ch (rhoOf a3) W9.drew W) => K2.out.rho N2.out hW
  have SS := Lib.hid fun W (hW : Ch (rhoOf a3) W9.drew W) => ((HST.out.keep (AP.out.keep HVV.out)).gr (Gr.refl W9).drew).keep (keep_rho hW HV1.out)
  go_wp2_with fail
  apply wp_region_draw_turnU (rhoOf a3) (StU B a3 (fun k => ([l ++ be 1 (byteOf ori) ++ be 8 seq, l ++ be 1 (byteOf ori) ++ be 8 seq ++ be 8 (u64 reg), l ++ be 1 (byteOf ori) ++ be 8 seq ++ be 8 (u64 reg) ++ be 8 epo, l ++ be 1 (byteOf ori) ++ be 8 seq ++ be 8 (u64 reg) ++ be 8 epo ++ stampB st, l ++ be 1 (byteOf ori) ++ be 8 seq ++ be 8 (u64 reg) ++ be 8 epo ++ stampB st] : List (List UInt8)).getD k [])) (.eq _ :: .eq _ :: .eq _ :: .eq _ :: .use TU :: .eq _ :: .eq _ :: .use TU :: .eq _ :: .eq _ :: .use TU :: .use TU :: []) (by kernel_rfl) (by kernel_rfl) (by kernel_rfl) ⟨TU.mono _, TU.mono _, TU.mono _, TU.mono _, trivial⟩ StU.gr ⟨(HO.out.gr (Gr.refl _).drew), fun k hk => .inl hk⟩
  iterate 4
   apply wpU_eq
   · intro U W hW hU hs
     have KX := KB.out W hW
     have c0 : W.cell? ⟨w.heap.size, 0, none⟩ = some (.int .i64 ori) := KX.cell 0
     have c1 : W.cell? ⟨w.heap.size, 1, none⟩ = some (.int .u64 (seq : Int)) := KX.cell 1
     have c2 : W.cell? ⟨w.heap.size, 2, none⟩ = some (.int .i64 reg) := KX.cell 2
     have c3 : W.cell? ⟨w.heap.size, 3, none⟩ = some (.int .u64 (epo : Int)) := KX.cell 3
     have c4 : W.cell? ⟨w.heap.size, 4, none⟩ = some (.slice ast st.length cst) := KX.cell 4
     have c5 : W.cell? ⟨w.heap.size, 5, none⟩ = some (.slice aes es.length ces) := KX.cell 5
     have c6 : W.cell? ⟨w.heap.size, 6, none⟩ = some (.int .u32 (clo : Int)) := KX.cell 6
     clear KX
     unfold opT
     go_simp
     first | exact resT_eq_mk _ _ _ | exact ⟨Gr.refl _, rfl⟩
   simp only [Act.put, pt1, pt2, pt3]
  apply wpU_use
  · intro U W hW hU hS hs
    have KX := KB.out W hW
    have c0 : W.cell? ⟨w.heap.size, 0, none⟩ = some (.int .i64 ori) := KX.cell 0
    have c1 : W.cell? ⟨w.heap.size, 1, none⟩ = some (.int .u64 (seq : Int)) := KX.cell 1
    have c2 : W.cell? ⟨w.heap.size, 2, none⟩ = some (.int .i64 reg) := KX.cell 2
    have c3 : W.cell? ⟨w.heap.size, 3, none⟩ = some (.int .u64 (epo : Int)) := KX.cell 3
    have c4 : W.cell? ⟨w.heap.size, 4, none⟩ = some (.slice ast st.length cst) := KX.cell 4
    have c5 : W.cell? ⟨w.heap.size, 5, none⟩ = some (.slice aes es.length ces) := KX.cell 5
    have c6 : W.cell? ⟨w.heap.size, 6, none⟩ = some (.int .u32 (clo : Int)) := KX.cell 6
    clear KX
    have hu : Own W B 5 a3 (bytes (l ++ be 1 (byteOf ori) ++ be 8 seq)) := hS.1
    have hBW : B ≤ W.heap.size := Nat.le_trans HBx.out hW.size
    have hlen : (l ++ be 1 (byteOf ori) ++ be 8 seq).length ≤ 900000000 := (by (try simp only [List.length_append, be_length, textB_length, flagB_length, sessB_length, stampB_length]); omega)
    refine opT_hide fun VV hVV => ?_
    have HVV := Lib.hid hVV
    have HS := Lib.hid hS
    clear hVV hS
    unfold opT
    go_simp
    refine resT_call ((dnum_any W B a3 _ (u64 reg) (u64_lt _) hu hBW (by have := hlen; omega)).mono ?_)
    rintro e W2 ⟨v2, rfl, ha⟩
    obtain ⟨c1, c2⟩ := StU.user HS.out (v' := v2) (W' := W2) (by first | exact ha | simpa only [List.append_assoc] using ha)
    exact ⟨_, rfl, c1, HVV.out _ _ ⟨c2, trivial⟩⟩
  intro b1
  simp only [Act.put, pt1, pt2, pt3]
  iterate 2
   apply wpU_eq
   · intro U W hW hU hs
     have KX := KB.out W hW
     have c0 : W.cell? ⟨w.heap.size, 0, none⟩ = some (.int .i64 ori) := KX.cell 0
     have c1 : W.cell? ⟨w.heap.size, 1, none⟩ = some (.int .u64 (seq : Int)) := KX.cell 1
     have c2 : W.cell? ⟨w.heap.size, 2, none⟩ = some (.int .i64 reg) := KX.cell 2
     have c3 : W.cell? ⟨w.heap.size, 3, none⟩ = some (.int .u64 (epo : Int)) := KX.cell 3
     have c4 : W.cell? ⟨w.heap.size, 4, none⟩ = some (.slice ast st.length cst) := KX.cell 4
     have c5 : W.cell? ⟨w.heap.size, 5, none⟩ = some (.slice aes es.length ces) := KX.cell 5
     have c6 : W.cell? ⟨w.heap.size, 6, none⟩ = some (.int .u32 (clo : Int)) := KX.cell 6
     clear KX
     unfold opT
     go_simp
     first | exact resT_eq_mk _ _ _ | exact ⟨Gr.refl _, rfl⟩
   simp only [Act.put, pt1, pt2, pt3]
  apply wpU_use
  · intro U W hW hU hS hs
    have KX := KB.out W hW
    have c0 : W.cell? ⟨w.heap.size, 0, none⟩ = some (.int .i64 ori) := KX.cell 0
    have c1 : W.cell? ⟨w.heap.size, 1, none⟩ = some (.int .u64 (seq : Int)) := KX.cell 1
    have c2 : W.cell? ⟨w.heap.size, 2, none⟩ = some (.int .i64 reg) := KX.cell 2
    have c3 : W.cell? ⟨w.heap.size, 3, none⟩ = some (.int .u64 (epo : Int)) := KX.cell 3
    have c4 : W.cell? ⟨w.heap.size, 4, none⟩ = some (.slice ast st.length cst) := KX.cell 4
    have c5 : W.cell? ⟨w.heap.size, 5, none⟩ = some (.slice aes es.length ces) := KX.cell 5
    have c6 : W.cell? ⟨w.heap.size, 6, none⟩ = some (.int .u32 (clo : Int)) := KX.cell 6
    clear KX
    have hu : Own W B 5 b1 (bytes (l ++ be 1 (byteOf ori) ++ be 8 seq ++ be 8 (u64 reg))) := hS.1
    have hBW : B ≤ W.heap.size := Nat.le_trans HBx.out hW.size
    have hlen : (l ++ be 1 (byteOf ori) ++ be 8 seq ++ be 8 (u64 reg)).length ≤ 900000000 := (by (try simp only [List.length_append, be_length, textB_length, flagB_length, sessB_length, stampB_length]); omega)
    refine opT_hide fun VV hVV => ?_
    have HVV := Lib.hid hVV
    have HS := Lib.hid hS
    clear hVV hS
    unfold opT
    go_simp
    refine resT_call ((dnum_any W B b1 _ epo OE.out hu hBW (by have := hlen; omega)).mono ?_)
    rintro e W2 ⟨v2, rfl, ha⟩
    obtain ⟨c1, c2⟩ := StU.user HS.out (v' := v2) (W' := W2) (by first | exact ha | simpa only [List.append_assoc] using ha)
    exact ⟨_, rfl, c1, HVV.out _ _ ⟨c2, trivial⟩⟩
  intro b2
  simp only [Act.put, pt1, pt2, pt3]
  iterate 2
   apply wpU_eq
   · intro U W hW hU hs
     have KX := KB.out W hW
     have c0 : W.cell? ⟨w.heap.size, 0, none⟩ = some (.int .i64 ori) := KX.cell 0
     have c1 : W.cell? ⟨w.heap.size, 1, none⟩ = some (.int .u64 (seq : Int)) := KX.cell 1
     have c2 : W.cell? ⟨w.heap.size, 2, none⟩ = some (.int .i64 reg) := KX.cell 2
     have c3 : W.cell? ⟨w.heap.size, 3, none⟩ = some (.int .u64 (epo : Int)) := KX.cell 3
     have c4 : W.cell? ⟨w.heap.size, 4, none⟩ = some (.slice ast st.length cst) := KX.cell 4
     have c5 : W.cell? ⟨w.heap.size, 5, none⟩ = some (.slice aes es.length ces) := KX.cell 5
     have c6 : W.cell? ⟨w.heap.size, 6, none⟩ = some (.int .u32 (clo : Int)) := KX.cell 6
     clear KX
     unfold opT
     go_simp
     first | exact resT_eq_mk _ _ _ | exact ⟨Gr.refl _, rfl⟩
   simp only [Act.put, pt1, pt2, pt3]
  apply wpU_use
  · intro U W hW hU hS hs
    have KX := KB.out W hW
    have c0 : W.cell? ⟨w.heap.size, 0, none⟩ = some (.int .i64 ori) := KX.cell 0
    have c1 : W.cell? ⟨w.heap.size, 1, none⟩ = some (.int .u64 (seq : Int)) := KX.cell 1
    have c2 : W.cell? ⟨w.heap.size, 2, none⟩ = some (.int .i64 reg) := KX.cell 2
    have c3 : W.cell? ⟨w.heap.size, 3, none⟩ = some (.int .u64 (epo : Int)) := KX.cell 3
    have c4 : W.cell? ⟨w.heap.size, 4, none⟩ = some (.slice ast st.length cst) := KX.cell 4
    have c5 : W.cell? ⟨w.heap.size, 5, none⟩ = some (.slice aes es.length ces) := KX.cell 5
    have c6 : W.cell? ⟨w.heap.size, 6, none⟩ = some (.int .u32 (clo : Int)) := KX.cell 6
    clear KX
    have hu : Own W B 5 b2 (bytes (l ++ be 1 (byteOf ori) ++ be 8 seq ++ be 8 (u64 reg) ++ be 8 epo)) := hS.1
    have hBW : B ≤ W.heap.size := Nat.le_trans HBx.out hW.size
    have hlen : (l ++ be 1 (byteOf ori) ++ be 8 seq ++ be 8 (u64 reg) ++ be 8 epo).length ≤ 900000000 := (by (try simp only [List.length_append, be_length, textB_length, flagB_length, sessB_length, stampB_length]); omega)
    refine opT_hide fun VV hVV => ?_
    have HVV := Lib.hid hVV
    have HS := Lib.hid hS
    clear hVV hS
    unfold opT
    go_simp
    refine resT_call ((dstamp_any W B b2 _ _ st (SS.out W hW) OT.out hu hBW (by (try simp only [List.length_append, be_length, textB_length, flagB_length, sessB_length, stampB_length]); omega)).mono ?_)
    rintro e W2 ⟨v2, rfl, ha⟩
    obtain ⟨c1, c2⟩ := StU.user HS.out (v' := v2) (W' := W2) (by first | exact ha | simpa only [List.append_assoc] using ha)
    exact ⟨_, rfl, c1, HVV.out _ _ ⟨c2, trivial⟩⟩
  intro b3
  simp only [Act.put, pt1, pt2, pt3]
  apply wpU_use
  · intro U W hW hU hS hs
    have KX := KB.out W hW
    have c0 : W.cell? ⟨w.heap.size, 0, none⟩ = some (.int .i64 ori) := KX.cell 0
    have c1 : W.cell? ⟨w.heap.size, 1, none⟩ = some (.int .u64 (seq : Int)) := KX.cell 1
    have c2 : W.cell? ⟨w.heap.size, 2, none⟩ = some (.int .i64 reg) := KX.cell 2
    have c3 : W.cell? ⟨w.heap.size, 3, none⟩ = some (.int .u64 (epo : Int)) := KX.cell 3
    have c4 : W.cell? ⟨w.heap.size, 4, none⟩ = some (.slice ast st.length cst) := KX.cell 4
    have c5 : W.cell? ⟨w.heap.size, 5, none⟩ = some (.slice aes es.length ces) := KX.cell 5
    have c6 : W.cell? ⟨w.heap.size, 6, none⟩ = some (.int .u32 (clo : Int)) := KX.cell 6
    clear KX
    have hu : Own W B 5 b3 (bytes (l ++ be 1 (byteOf ori) ++ be 8 seq ++ be 8 (u64 reg) ++ be 8 epo ++ stampB st)) := hS.1
    have hBW : B ≤ W.heap.size := Nat.le_trans HBx.out hW.size
    have hlen : (l ++ be 1 (byteOf ori) ++ be 8 seq ++ be 8 (u64 reg) ++ be 8 epo ++ stampB st).length ≤ 900000000 := (by (try simp only [List.length_append, be_length, textB_length, flagB_length, sessB_length, stampB_length]); omega)
    have ha := App.refl hu
    obtain ⟨c1, c2⟩ := StU.user hS (v' := b3) (W' := W) ha
    refine opT_hide fun VV hVV => ?_
    have HVV := Lib.hid (hVV _ _ ⟨c2, trivial⟩)
    clear hVV c2
    unfold opT
    go_simp
    exact ⟨c1, HVV.out⟩
  intro b4
  simp only [Act.put, pt1, pt2, pt3]
  apply wpU_nil
  intro U W8 hW9 hU9 hS9 hs9
  have hA : App W9 B a3 (l ++ be 1 (byteOf ori) ++ be 8 seq ++ be 8 (u64 reg) ++ be 8 epo ++ stampB st) b4 W8 := App.grL ((Gr.refl _).drew) (StU.fin hS9 hW9 hU9)
  have KP : Keep (fun k => k < B) W9 W8 := hA.keep HV1.out
  have AP2 := Lib.hid (AP.out.trans hA)
  obtain ⟨kb, nb⟩ := hA.cells K2.out N2.out
  have K3 := Lib.hid kb
  have N3 := Lib.hid nb
  have CUR2 := Lib.hid (hA.cur HBx.out)
  have c5 : W8.cell? ⟨w.heap.size, 5, none⟩ = some (.slice aes es.length ces) := kb.cell 5
  clear hS9 hW9 hU9 hs9 hA KP KB HO HBx HV0 HV1 CUR kb nb SS K2 N2 AP
  have C := Lib.hid (dnum_any W8 B b4 _ es.length (by omega) CUR2.out.own CUR2.out.base (by (try simp only [List.length_append, be_length, textB_length, flagB_length, sessB_length, stampB_length]); omega))
  go_wp2_with fail
  refine C.out.mono ?_
  rintro e w3 ⟨v3, rfl, ha3⟩
  have AP3 := Lib.hid (AP2.out.trans ha3)
  obtain ⟨kb, nb⟩ := ha3.cells K3.out N3.out
  have K4 := Lib.hid kb
  clear ha3 kb nb C CUR2 AP2 K3 N3 c5
  go_wp2_with fail
  go_loopw [0, 5] (fun z i wr => ∃ k : Nat, k ≤ es.length ∧ i = .int .i64 k ∧ App w1 B v (l ++ be 1 (byteOf ori) ++ be 8 seq ++ be 8 (u64 reg) ++ be 8 epo ++ stampB st ++ be 8 es.length ++ (es.take k).flatMap effB) z wr) (fun _ i _ => es.length - (intOf i).toNat)
  case atStart => exact ⟨0, Nat.zero_le _, rfl, by simpa using AP3.out⟩
  case round =>
    clear AP3 K4
    obtain ⟨k, hk, rfl, hap⟩ := hrel
    obtain ⟨kb, nb⟩ := hap.cells K1.out N1.out
    have c5 : wr.cell? ⟨w.heap.size, 5, none⟩ = some (.slice aes es.length ces) := kb.cell 5
    have c6 : wr.cell? ⟨w.heap.size, 6, none⟩ = some (.int .u32 (clo : Int)) := kb.cell 6
    clear kb nb
    by_cases hlt : k < es.length
    · obtain ⟨Bx, o, c, dv, e0, hBx, hsd, hcell⟩ := (HES.out.keep (hap.keep HVV.out)).at k hlt
      injection e0 with e1 _ e3
      subst e1 e3
      have hmm := flatEff_le es k hlt
      have hok : EffOk es[k] := OF.out _ (List.getElem_mem hlt)
      have hwk : effW es[k] ≤ 100000000 := HF2.out _ (List.getElem_mem hlt)
      have e9 : l ++ be 1 (byteOf ori) ++ be 8 seq ++ be 8 (Go.Proofs.Ytgilijkmmcpfjaa.u64 reg) ++ be 8 epo ++ stampB st ++ be 8 es.length ++ (es.take k).flatMap effB ++ textB es[k].path ++ flagB es[k].gone ++ (if es[k].gone then [] else nodeB es[k].node) = l ++ be 1 (byteOf ori) ++ be 8 seq ++ be 8 (Go.Proofs.Ytgilijkmmcpfjaa.u64 reg) ++ be 8 epo ++ stampB st ++ be 8 es.length ++ (es.take (k + 1)).flatMap effB := by
        rw [flatEff_next es k hlt]; unfold effB; simp only [List.append_assoc]
      have hlk : (l ++ be 1 (byteOf ori) ++ be 8 seq ++ be 8 (Go.Proofs.Ytgilijkmmcpfjaa.u64 reg) ++ be 8 epo ++ stampB st ++ be 8 es.length ++ (es.take k).flatMap effB).length ≤ 600000100 := by simp only [List.length_append, be_length, textB_length, flagB_length, sessB_length, stampB_length]; omega
      obtain ⟨LK, hLK⟩ : ∃ LK, LK = l ++ be 1 (byteOf ori) ++ be 8 seq ++ be 8 (Go.Proofs.Ytgilijkmmcpfjaa.u64 reg) ++ be 8 epo ++ stampB st ++ be 8 es.length ++ (es.take k).flatMap effB := ⟨_, rfl⟩
      rw [← hLK] at hap e9 hlk
      obtain ⟨Lnext, hLn⟩ : ∃ Ln, Ln = l ++ be 1 (byteOf ori) ++ be 8 seq ++ be 8 (Go.Proofs.Ytgilijkmmcpfjaa.u64 reg) ++ be 8 epo ++ stampB st ++ be 8 es.length ++ (es.take (k + 1)).flatMap effB := ⟨_, rfl⟩
      rw [← hLn] at e9
      have HLn := Lib.hid hLn
      obtain ⟨x, hx⟩ : ∃ x, x = es[k] := ⟨_, rfl⟩
      rw [← hx] at hok hwk e9 hsd hcell
      clear hmm hLK hx hLn
      obtain ⟨pa, gn, ⟨da, ve, ki, ne, si, nn, ma, ch, tu⟩⟩ := x
      obtain ⟨p1, p2, p3, p4, p5, p6, p7, p8⟩ := hok
      unfold effW at hwk
      dsimp only at hwk e9 hsd p1 p2 p3 p4 p5 p6 p7 p8
      obtain ⟨ad, cd, hv⟩ := hsd.1.oneCells
      rw [bytes_length] at hv
      subst hv
      have d0 := hcell 0 _ (by decide) rfl
      have d1 := hcell 1 _ (by decide) rfl
      have d2 := hcell 2 _ (by decide) rfl
      have d3 := hcell 3 _ (by decide) rfl
      have d4 := hcell 4 _ (by decide) rfl
      have d5 := hcell 5 _ (by decide) rfl
      have d6 := hcell 6 _ (by decide) rfl
      have d7 := hcell 7 _ (by decide) rfl
      have d8 := hcell 8 _ (by decide) rfl
      have d9 := hcell 9 _ (by decide) rfl
      have d10 := hcell 10 _ (by decide) rfl
      simp only [effCells, nodeCells, Nat.add_zero] at d0 d1 d2 d3 d4 d5 d6 d7 d8 d9 d10
      have OM := Lib.hid p6
      have OC := Lib.hid p7
      have OU := Lib.hid p8
      have E9 := Lib.hid e9
      have EN : Hid (nodeB ⟨da, ve, ki, ne, si, nn, ma, ch, tu⟩ = textB da ++ be 8 ve ++ be 8 ki ++ be 8 ne ++ sessB si nn ++ be 8 ma ++ be 8 ch ++ be 8 tu) := Lib.hid rfl
      have HSD := Lib.hid hsd
      have hq1 := wrap_nat64 ve (by omega)
      have hq2 := wrap_nat64 ki (by omega)
      have hq3 := wrap_nat64 ne (by omega)
      obtain ⟨uc, huc, hap⟩ : ∃ uc, uc = _ ∧ App w1 B v LK uc wr := ⟨_, rfl, hap⟩
      subst huc
      have HAP := Lib.hid hap
      have CUR1 := Lib.hid (hap.cur HB1.out)
      clear e9 hap hsd hcell p6 p7 p8 p4
      have i1 : (0 : Int) ≤ (k : Int) := by omega
      have i2 : (k : Int) < (es.length : Int) := by omega
      go_wp2_with (first | (refine wpList_storeE effTy _ _ rfl rfl rfl rfl (CellsAt.new _ _ _) rfl rfl rfl ?_) | fail)
      intro W7 K7' C7
      have g7 : Gr wr W7 := Below.trans ((Gr.refl wr).alloc _) (C7.below ((Gr.refl wr).alloc _).size (fun k hk => by have : k = wr.heap.size := hk; omega))
      have G7 := Lib.hid g7
      have K7 := Lib.hid K7'
      have N7 : Hid (uc.ownBlock ≠ some wr.heap.size) := Lib.hid fun e => by have := CUR1.out.lt _ e; omega
      obtain ⟨b6, hb6⟩ : ∃ b6, b6 = wr.heap.size := ⟨_, rfl⟩
      rw [← hb6] at K7 N7 ⊢
      have CUR := Lib.hid (CUR1.out.gr g7)
      clear K7' C7 g7 CUR1 hb6 d0 d1 d2 d3 d4 d5 d6 d7 d8 d9 d10 c5 c6
      have HO := Lib.hid CUR.out.own
      have HBx := Lib.hid CUR.out.base
      have HV0 : Hid (∀ k, uc.ownBlock = some k → k < W7.drew.heap.size) := Lib.hid CUR.out.lt
      have HV1 := Lib.hid CUR.out.ge
      have KB := Lib.hid fun W (hW : Ch (rhoOf uc) W7.drew W) => K7.out.rho N7.out hW
      go_wp2_with fail
      apply wp_region_draw_turnU (rhoOf uc) (StU B uc (fun k => ([LK, LK ++ textB pa, LK ++ textB pa ++ flagB gn, LK ++ textB pa ++ flagB gn] : List (List UInt8)).getD k [])) (.eq _ :: .eq _ :: .eq _ :: .ok (SlU uc pa) :: .use TU :: .eq _ :: .eq _ :: .use TU :: .use TU :: []) (by kernel_rfl) (by kernel_rfl) (by kernel_rfl) ⟨SlU.mono _ _, TU.mono _, TU.mono _, TU.mono _, trivial⟩ StU.gr ⟨(HO.out.gr (Gr.refl _).drew), fun k hk => .inl hk⟩
      iterate 3
       apply wpU_eq
       · intro U W hW hU hs
         have KX := KB.out W hW
         have x0 : W.cell? ⟨b6, 0, none⟩ = some (.string ⟨pa.toArray⟩) := KX.cell 0
         have x1 : W.cell? ⟨b6, 1, none⟩ = some (.bool gn) := KX.cell 1
         clear KX
         unfold opT
         go_simp
         first | exact resT_eq_mk _ _ _ | exact ⟨Gr.refl _, rfl⟩
       simp only [Act.put, pt1, pt2, pt3]
      apply wpU_ok
      · intro U W hW hU hs
        have KX := KB.out W hW
        have x0 : W.cell? ⟨b6, 0, none⟩ = some (.string ⟨pa.toArray⟩) := KX.cell 0
        have x1 : W.cell? ⟨b6, 1, none⟩ = some (.bool gn) := KX.cell 1
        clear KX
        obtain ⟨vb, wb, hrb, sb, gb, qb⟩ := run_bytes_new (P := Try.prog) W 9 28 5 pa Try.underlying9 Try.underlying28 Try.underlying5
        unfold opT
        go_simp
        exact resT_mk gb (SlU.new sb qb HV0.out hW.size hU)
      intro v3
      simp only [Act.put, pt1, pt2, pt3]
      apply wpU_use
      · intro U W hW hU hS hs
        have KX := KB.out W hW
        have x0 : W.cell? ⟨b6, 0, none⟩ = some (.string ⟨pa.toArray⟩) := KX.cell 0
        have x1 : W.cell? ⟨b6, 1, none⟩ = some (.bool gn) := KX.cell 1
        clear KX
        have hu : Own W B 5 uc (bytes (LK)) := hS.1
        have hBW : B ≤ W.heap.size := Nat.le_trans HBx.out hW.size
        have hlen : (LK).length ≤ 900000000 := (by (try simp only [List.length_append, be_length, textB_length, flagB_length, sessB_length, stampB_length]); omega)
        obtain ⟨s9, _⟩ := hs _ (.head _) (by rfl)
        refine opT_hide fun VV hVV => ?_
        have HVV := Lib.hid hVV
        have HS := Lib.hid hS
        clear hVV hS
        unfold opT
        go_simp
        refine resT_call ((dtext_any W B uc _ _ pa s9 (by omega) hu hBW (by have := hlen; omega)).mono ?_)
        rintro e W2 ⟨v2, rfl, ha⟩
        obtain ⟨c1, c2⟩ := StU.user HS.out (v' := v2) (W' := W2) (by first | exact ha | simpa only [List.append_assoc] using ha)
        exact ⟨_, rfl, c1, HVV.out _ _ ⟨c2, trivial⟩⟩
      intro f1
      simp only [Act.put, pt1, pt2, pt3]
      iterate 2
       apply wpU_eq
       · intro U W hW hU hs
         have KX := KB.out W hW
         have x0 : W.cell? ⟨b6, 0, none⟩ = some (.string ⟨pa.toArray⟩) := KX.cell 0
         have x1 : W.cell? ⟨b6, 1, none⟩ = some (.bool gn) := KX.cell 1
         clear KX
         unfold opT
         go_simp
         first | exact resT_eq_mk _ _ _ | exact ⟨Gr.refl _, rfl⟩
       simp only [Act.put, pt1, pt2, pt3]
      apply wpU_use
      · intro U W hW hU hS hs
        have KX := KB.out W hW
        have x0 : W.cell? ⟨b6, 0, none⟩ = some (.string ⟨pa.toArray⟩) := KX.cell 0
        have x1 : W.cell? ⟨b6, 1, none⟩ = some (.bool gn) := KX.cell 1
        clear KX
        have hu : Own W B 5 f1 (bytes (LK ++ textB pa)) := hS.1
        have hBW : B ≤ W.heap.size := Nat.le_trans HBx.out hW.size
        have hlen : (LK ++ textB pa).length ≤ 900000000 := (by (try simp only [List.length_append, be_length, textB_length, flagB_length, sessB_length, stampB_length]); omega)
        refine opT_hide fun VV hVV => ?_
        have HVV := Lib.hid hVV
        have HS := Lib.hid hS
        clear hVV hS
        unfold opT
        go_simp
        refine resT_call ((dflag_any W B f1 _ gn hu hBW (by have := hlen; omega)).mono ?_)
        rintro e W2 ⟨v2, rfl, ha⟩
        obtain ⟨c1, c2⟩ := StU.user HS.out (v' := v2) (W' := W2) (by first | exact ha | simpa only [List.append_assoc] using ha)
        exact ⟨_, rfl, c1, HVV.out _ _ ⟨c2, trivial⟩⟩
      intro f2
      simp only [Act.put, pt1, pt2, pt3]
      apply wpU_use
      · intro U W hW hU hS hs
        have KX := KB.out W hW
        have x0 : W.cell? ⟨b6, 0, none⟩ = some (.string ⟨pa.toArray⟩) := KX.cell 0
        have x1 : W.cell? ⟨b6, 1, none⟩ = some (.bool gn) := KX.cell 1
        clear KX
        have hu : Own W B 5 f2 (bytes (LK ++ textB pa ++ flagB gn)) := hS.1
        have hBW : B ≤ W.heap.size := Nat.le_trans HBx.out hW.size
        have hlen : (LK ++ textB pa ++ flagB gn).length ≤ 900000000 := (by (try simp only [List.length_append, be_length, textB_length, flagB_length, sessB_length, stampB_length]); omega)
        have ha := App.refl hu
        obtain ⟨c1, c2⟩ := StU.user hS (v' := f2) (W' := W) ha
        refine opT_hide fun VV hVV => ?_
        have HVV := Lib.hid (hVV _ _ ⟨c2, trivial⟩)
        clear hVV c2
        unfold opT
        go_simp
        exact ⟨c1, HVV.out⟩
      intro f3
      simp only [Act.put, pt1, pt2, pt3]
      apply wpU_nil
      intro U W10 hW9 hU9 hS9 hs9
      have hA : App W7 B uc (LK ++ textB pa ++ flagB gn) f3 W10 := App.grL ((Gr.refl _).drew) (StU.fin hS9 hW9 hU9)
      have KP : Keep (fun k => k < B) W7 W10 := hA.keep HV1.out
      have AX0 := Lib.hid ((HAP.out.grR G7.out).trans hA)
      obtain ⟨kb, nb⟩ := hA.cells K7.out N7.out
      have K10 := Lib.hid kb
      have CUR2 := Lib.hid (hA.cur HBx.out)
      have SD10 := Lib.hid ((HSD.out.gr G7.out).keep KP)
      clear hS9 hW9 hU9 hs9 hA KP KB HO HBx HV0 HV1 CUR kb nb
      have CUR0 := CUR2
      have x1 : W10.cell? ⟨b6, 1, none⟩ = some (.bool gn) := K10.out.cell 1
      cases gn with
      | true =>
        rw [if_pos rfl, List.append_nil] at E9
        go_wp2
        go_roundw
        case rel => exact ⟨k + 1, by omega, by go_num, by rw [← HLn.out, ← E9.out]; exact AX0.out⟩
        case measure => simp [intOf]; omega
      | false =>
        rw [if_neg (by decide)] at E9
        have y2 : W10.cell? ⟨b6, 2, none⟩ = some (.slice ad da.length cd) := K10.out.cell 2
        have y3 : W10.cell? ⟨b6, 3, none⟩ = some (.int .u32 (ve : Int)) := K10.out.cell 3
        have y4 : W10.cell? ⟨b6, 4, none⟩ = some (.int .u32 (ki : Int)) := K10.out.cell 4
        have y5 : W10.cell? ⟨b6, 5, none⟩ = some (.int .u32 (ne : Int)) := K10.out.cell 5
        have y6 : W10.cell? ⟨b6, 6, none⟩ = some (.int .i64 si) := K10.out.cell 6
        have y7 : W10.cell? ⟨b6, 7, none⟩ = some (.int .u32 (nn : Int)) := K10.out.cell 7
        have y8 : W10.cell? ⟨b6, 8, none⟩ = some (.int .u64 (ma : Int)) := K10.out.cell 8
        have y9 : W10.cell? ⟨b6, 9, none⟩ = some (.int .u64 (ch : Int)) := K10.out.cell 9
        have y10 : W10.cell? ⟨b6, 10, none⟩ = some (.int .u64 (tu : Int)) := K10.out.cell 10
        go_wp2_with (first | (refine wpList_storeE nodeTy _ _ rfl rfl rfl rfl (CellsAt.new _ _ _) rfl rfl rfl ?_) | fail)
        intro W11 K11' C11
        have g11 : Gr W10 W11 := Below.trans ((Gr.refl W10).alloc _) (C11.below ((Gr.refl W10).alloc _).size (fun k hk => by have : k = W10.heap.size := hk; omega))
        have G11 := Lib.hid g11
        have N11 : Hid (f3.ownBlock ≠ some W10.heap.size) := Lib.hid fun e => by have := CUR0.out.lt _ e; omega
        have K11 := Lib.hid K11'
        obtain ⟨b9, hb9⟩ : ∃ b9, b9 = W10.heap.size := ⟨_, rfl⟩
        rw [← hb9] at K11 N11 ⊢
        have AX := Lib.hid (AX0.out.grR g11)
        have CUR := Lib.hid (CUR0.out.gr g11)
        have SDN : Hid (∀ W, Ch (rhoOf f3) W11.drew W → SlP (fun k => k < B) W (.slice ad da.length cd) (bytes da)) := Lib.hid fun W hW => ((SD10.out.gr g11).gr (Gr.refl W11).drew).keep (keep_rho hW CUR.out.ge)
        clear K11' C11 g11 AX0 hb9 y2 y3 y4 y5 y6 y7 y8 y9 y10
        have HO := Lib.hid CUR.out.own
        have HBx := Lib.hid CUR.out.base
        have HV0 : Hid (∀ k, f3.ownBlock = some k → k < W11.drew.heap.size) := Lib.hid CUR.out.lt
        have HV1 := Lib.hid CUR.out.ge
        have KB := Lib.hid fun W (hW : Ch (rhoOf f3) W11.drew W) => K11.out.rho N11.out hW
        go_wp2_with fail
        apply wp_region_draw_turnU (rhoOf f3) (StU B f3 (fun k => ([LK ++ textB pa ++ flagB false, LK ++ textB pa ++ flagB false ++ textB da, LK ++ textB pa ++ flagB false ++ textB da ++ be 8 ve, LK ++ textB pa ++ flagB false ++ textB da ++ be 8 ve ++ be 8 ki, LK ++ textB pa ++ flagB false ++ textB da ++ be 8 ve ++ be 8 ki ++ be 8 ne, LK ++ textB pa ++ flagB false ++ textB da ++ be 8 ve ++ be 8 ki ++ be 8 ne ++ sessB si nn, LK ++ textB pa ++ flagB false ++ textB da ++ be 8 ve ++ be 8 ki ++ be 8 ne ++ sessB si nn] : List (List UInt8)).getD k [])) (.eq _ :: .eq _ :: .eq _ :: .use TU :: .eq _ :: .eq _ :: .eq _ :: .use TU :: .eq _ :: .eq _ :: .eq _ :: .use TU :: .eq _ :: .eq _ :: .eq _ :: .use TU :: .eq _ :: .eq _ :: .use TU :: .use TU :: []) (by kernel_rfl) (by kernel_rfl) (by kernel_rfl) ⟨TU.mono _, TU.mono _, TU.mono _, TU.mono _, TU.mono _, TU.mono _, trivial⟩ StU.gr ⟨(HO.out.gr (Gr.refl _).drew), fun k hk => .inl hk⟩
        iterate 3
         apply wpU_eq
         · intro U W hW hU hs
           have KX := KB.out W hW
           have x0 : W.cell? ⟨b9, 0, none⟩ = some (.slice ad da.length cd) := KX.cell 0
           have x1 : W.cell? ⟨b9, 1, none⟩ = some (.int .u32 (ve : Int)) := KX.cell 1
           have x2 : W.cell? ⟨b9, 2, none⟩ = some (.int .u32 (ki : Int)) := KX.cell 2
           have x3 : W.cell? ⟨b9, 3, none⟩ = some (.int .u32 (ne : Int)) := KX.cell 3
           have x4 : W.cell? ⟨b9, 4, none⟩ = some (.int .i64 si) := KX.cell 4
           have x5 : W.cell? ⟨b9, 5, none⟩ = some (.int .u32 (nn : Int)) := KX.cell 5
           have x6 : W.cell? ⟨b9, 6, none⟩ = some (.int .u64 (ma : Int)) := KX.cell 6
           have x7 : W.cell? ⟨b9, 7, none⟩ = some (.int .u64 (ch : Int)) := KX.cell 7
           have x8 : W.cell? ⟨b9, 8, none⟩ = some (.int .u64 (tu : Int)) := KX.cell 8
           clear KX
           unfold opT
           go_simp
           first | exact resT_eq_mk _ _ _ | exact ⟨Gr.refl _, rfl⟩
         simp only [Act.put, pt1, pt2, pt3]
        apply wpU_use
        · intro U W hW hU hS hs
          have KX := KB.out W hW
          have x0 : W.cell? ⟨b9, 0, none⟩ = some (.slice ad da.length cd) := KX.cell 0
          have x1 : W.cell? ⟨b9, 1, none⟩ = some (.int .u32 (ve : Int)) := KX.cell 1
          have x2 : W.cell? ⟨b9, 2, none⟩ = some (.int .u32 (ki : Int)) := KX.cell 2
          have x3 : W.cell? ⟨b9, 3, none⟩ = some (.int .u32 (ne : Int)) := KX.cell 3
          have x4 : W.cell? ⟨b9, 4, none⟩ = some (.int .i64 si) := KX.cell 4
          have x5 : W.cell? ⟨b9, 5, none⟩ = some (.int .u32 (nn : Int)) := KX.cell 5
          have x6 : W.cell? ⟨b9, 6, none⟩ = some (.int .u64 (ma : Int)) := KX.cell 6
          have x7 : W.cell? ⟨b9, 7, none⟩ = some (.int .u64 (ch : Int)) := KX.cell 7
          have x8 : W.cell? ⟨b9, 8, none⟩ = some (.int .u64 (tu : Int)) := KX.cell 8
          clear KX
          have hu : Own W B 5 f3 (bytes (LK ++ textB pa ++ flagB false)) := hS.1
          have hBW : B ≤ W.heap.size := Nat.le_trans HBx.out hW.size
          have hlen : (LK ++ textB pa ++ flagB false).length ≤ 900000000 := (by (try simp only [List.length_append, be_length, textB_length, flagB_length, sessB_length, stampB_length]); omega)
          refine opT_hide fun VV hVV => ?_
          have HVV := Lib.hid hVV
          have HS := Lib.hid hS
          clear hVV hS
          unfold opT
          go_simp
          refine resT_call ((dtext_any W B f3 _ _ da (SDN.out W hW).1 (by omega) hu hBW (by have := hlen; omega)).mono ?_)
          rintro e W2 ⟨v2, rfl, ha⟩
          obtain ⟨c1, c2⟩ := StU.user HS.out (v' := v2) (W' := W2) (by first | exact ha | simpa only [List.append_assoc] using ha)
          exact ⟨_, rfl, c1, HVV.out _ _ ⟨c2, trivial⟩⟩
        intro g1
        simp only [Act.put, pt1, pt2, pt3]
        iterate 3
         apply wpU_eq
         · intro U W hW hU hs
           have KX := KB.out W hW
           have x0 : W.cell? ⟨b9, 0, none⟩ = some (.slice ad da.length cd) := KX.cell 0
           have x1 : W.cell? ⟨b9, 1, none⟩ = some (.int .u32 (ve : Int)) := KX.cell 1
           have x2 : W.cell? ⟨b9, 2, none⟩ = some (.int .u32 (ki : Int)) := KX.cell 2
           have x3 : W.cell? ⟨b9, 3, none⟩ = some (.int .u32 (ne : Int)) := KX.cell 3
           have x4 : W.cell? ⟨b9, 4, none⟩ = some (.int .i64 si) := KX.cell 4
           have x5 : W.cell? ⟨b9, 5, none⟩ = some (.int .u32 (nn : Int)) := KX.cell 5
           have x6 : W.cell? ⟨b9, 6, none⟩ = some (.int .u64 (ma : Int)) := KX.cell 6
           have x7 : W.cell? ⟨b9, 7, none⟩ = some (.int .u64 (ch : Int)) := KX.cell 7
           have x8 : W.cell? ⟨b9, 8, none⟩ = some (.int .u64 (tu : Int)) := KX.cell 8
           clear KX
           unfold opT
           go_simp
           first | exact resT_eq_mk _ _ _ | exact ⟨Gr.refl _, rfl⟩
         simp only [Act.put, pt1, pt2, pt3]
        apply wpU_use
        · intro U W hW hU hS hs
          have KX := KB.out W hW
          have x0 : W.cell? ⟨b9, 0, none⟩ = some (.slice ad da.length cd) := KX.cell 0
          have x1 : W.cell? ⟨b9, 1, none⟩ = some (.int .u32 (ve : Int)) := KX.cell 1
          have x2 : W.cell? ⟨b9, 2, none⟩ = some (.int .u32 (ki : Int)) := KX.cell 2
          have x3 : W.cell? ⟨b9, 3, none⟩ = some (.int .u32 (ne : Int)) := KX.cell 3
          have x4 : W.cell? ⟨b9, 4, none⟩ = some (.int .i64 si) := KX.cell 4
          have x5 : W.cell? ⟨b9, 5, none⟩ = some (.int .u32 (nn : Int)) := KX.cell 5
          have x6 : W.cell? ⟨b9, 6, none⟩ = some (.int .u64 (ma : Int)) := KX.cell 6
          have x7 : W.cell? ⟨b9, 7, none⟩ = some (.int .u64 (ch : Int)) := KX.cell 7
          have x8 : W.cell? ⟨b9, 8, none⟩ = some (.int .u64 (tu : Int)) := KX.cell 8
          clear KX
          have hu : Own W B 5 g1 (bytes (LK ++ textB pa ++ flagB false ++ textB da)) := hS.1
          have hBW : B ≤ W.heap.size := Nat.le_trans HBx.out hW.size
          have hlen : (LK ++ textB pa ++ flagB false ++ textB da).length ≤ 900000000 := (by (try simp only [List.length_append, be_length, textB_length, flagB_length, sessB_length, stampB_length]); omega)
          refine opT_hide fun VV hVV => ?_
          have HVV := Lib.hid hVV
          have HS := Lib.hid hS
          clear hVV hS
          unfold opT
          go_simp
          refine resT_call ((dnum_any W B g1 _ ve (by omega) hu hBW (by have := hlen; omega)).mono ?_)
          rintro e W2 ⟨v2, rfl, ha⟩
          obtain ⟨c1, c2⟩ := StU.user HS.out (v' := v2) (W' := W2) (by first | exact ha | simpa only [List.append_assoc] using ha)
          exact ⟨_, rfl, c1, HVV.out _ _ ⟨c2, trivial⟩⟩
        intro g2
        simp only [Act.put, pt1, pt2, pt3]
        iterate 3
         apply wpU_eq
         · intro U W hW hU hs
           have KX := KB.out W hW
           have x0 : W.cell? ⟨b9, 0, none⟩ = some (.slice ad da.length cd) := KX.cell 0
           have x1 : W.cell? ⟨b9, 1, none⟩ = some (.int .u32 (ve : Int)) := KX.cell 1
           have x2 : W.cell? ⟨b9, 2, none⟩ = some (.int .u32 (ki : Int)) := KX.cell 2
           have x3 : W.cell? ⟨b9, 3, none⟩ = some (.int .u32 (ne : Int)) := KX.cell 3
           have x4 : W.cell? ⟨b9, 4, none⟩ = some (.int .i64 si) := KX.cell 4
           have x5 : W.cell? ⟨b9, 5, none⟩ = some (.int .u32 (nn : Int)) := KX.cell 5
           have x6 : W.cell? ⟨b9, 6, none⟩ = some (.int .u64 (ma : Int)) := KX.cell 6
           have x7 : W.cell? ⟨b9, 7, none⟩ = some (.int .u64 (ch : Int)) := KX.cell 7
           have x8 : W.cell? ⟨b9, 8, none⟩ = some (.int .u64 (tu : Int)) := KX.cell 8
           clear KX
           unfold opT
           go_simp
           first | exact resT_eq_mk _ _ _ | exact ⟨Gr.refl _, rfl⟩
         simp only [Act.put, pt1, pt2, pt3]
        apply wpU_use
        · intro U W hW hU hS hs
          have KX := KB.out W hW
          have x0 : W.cell? ⟨b9, 0, none⟩ = some (.slice ad da.length cd) := KX.cell 0
          have x1 : W.cell? ⟨b9, 1, none⟩ = some (.int .u32 (ve : Int)) := KX.cell 1
          have x2 : W.cell? ⟨b9, 2, none⟩ = some (.int .u32 (ki : Int)) := KX.cell 2
          have x3 : W.cell? ⟨b9, 3, none⟩ = some (.int .u32 (ne : Int)) := KX.cell 3
          have x4 : W.cell? ⟨b9, 4, none⟩ = some (.int .i64 si) := KX.cell 4
          have x5 : W.cell? ⟨b9, 5, none⟩ = some (.int .u32 (nn : Int)) := KX.cell 5
          have x6 : W.cell? ⟨b9, 6, none⟩ = some (.int .u64 (ma : Int)) := KX.cell 6
          have x7 : W.cell? ⟨b9, 7, none⟩ = some (.int .u64 (ch : Int)) := KX.cell 7
          have x8 : W.cell? ⟨b9, 8, none⟩ = some (.int .u64 (tu : Int)) := KX.cell 8
          clear KX
          have hu : Own W B 5 g2 (bytes (LK ++ textB pa ++ flagB false ++ textB da ++ be 8 ve)) := hS.1
          have hBW : B ≤ W.heap.size := Nat.le_trans HBx.out hW.size
          have hlen : (LK ++ textB pa ++ flagB false ++ textB da ++ be 8 ve).length ≤ 900000000 := (by (try simp only [List.length_append, be_length, textB_length, flagB_length, sessB_length, stampB_length]); omega)
          refine opT_hide fun VV hVV => ?_
          have HVV := Lib.hid hVV
          have HS := Lib.hid hS
          clear hVV hS
          unfold opT
          go_simp
          refine resT_call ((dnum_any W B g2 _ ki (by omega) hu hBW (by have := hlen; omega)).mono ?_)
          rintro e W2 ⟨v2, rfl, ha⟩
          obtain ⟨c1, c2⟩ := StU.user HS.out (v' := v2) (W' := W2) (by first | exact ha | simpa only [List.append_assoc] using ha)
          exact ⟨_, rfl, c1, HVV.out _ _ ⟨c2, trivial⟩⟩
        intro g3
        simp only [Act.put, pt1, pt2, pt3]
        iterate 3
         apply wpU_eq
         · intro U W hW hU hs
           have KX := KB.out W hW
           have x0 : W.cell? ⟨b9, 0, none⟩ = some (.slice ad da.length cd) := KX.cell 0
           have x1 : W.cell? ⟨b9, 1, none⟩ = some (.int .u32 (ve : Int)) := KX.cell 1
           have x2 : W.cell? ⟨b9, 2, none⟩ = some (.int .u32 (ki : Int)) := KX.cell 2
           have x3 : W.cell? ⟨b9, 3, none⟩ = some (.int .u32 (ne : Int)) := KX.cell 3
           have x4 : W.cell? ⟨b9, 4, none⟩ = some (.int .i64 si) := KX.cell 4
           have x5 : W.cell? ⟨b9, 5, none⟩ = some (.int .u32 (nn : Int)) := KX.cell 5
           have x6 : W.cell? ⟨b9, 6, none⟩ = some (.int .u64 (ma : Int)) := KX.cell 6
           have x7 : W.cell? ⟨b9, 7, none⟩ = some (.int .u64 (ch : Int)) := KX.cell 7
           have x8 : W.cell? ⟨b9, 8, none⟩ = some (.int .u64 (tu : Int)) := KX.cell 8
           clear KX
           unfold opT
           go_simp
           first | exact resT_eq_mk _ _ _ | exact ⟨Gr.refl _, rfl⟩
         simp only [Act.put, pt1, pt2, pt3]
        apply wpU_use
        · intro U W hW hU hS hs
          have KX := KB.out W hW
          have x0 : W.cell? ⟨b9, 0, none⟩ = some (.slice ad da.length cd) := KX.cell 0
          have x1 : W.cell? ⟨b9, 1, none⟩ = some (.int .u32 (ve : Int)) := KX.cell 1
          have x2 : W.cell? ⟨b9, 2, none⟩ = some (.int .u32 (ki : Int)) := KX.cell 2
          have x3 : W.cell? ⟨b9, 3, none⟩ = some (.int .u32 (ne : Int)) := KX.cell 3
          have x4 : W.cell? ⟨b9, 4, none⟩ = some (.int .i64 si) := KX.cell 4
          have x5 : W.cell? ⟨b9, 5, none⟩ = some (.int .u32 (nn : Int)) := KX.cell 5
          have x6 : W.cell? ⟨b9, 6, none⟩ = some (.int .u64 (ma : Int)) := KX.cell 6
          have x7 : W.cell? ⟨b9, 7, none⟩ = some (.int .u64 (ch : Int)) := KX.cell 7
          have x8 : W.cell? ⟨b9, 8, none⟩ = some (.int .u64 (tu : Int)) := KX.cell 8
          clear KX
          have hu : Own W B 5 g3 (bytes (LK ++ textB pa ++ flagB false ++ textB da ++ be 8 ve ++ be 8 ki)) := hS.1
          have hBW : B ≤ W.heap.size := Nat.le_trans HBx.out hW.size
          have hlen : (LK ++ textB pa ++ flagB false ++ textB da ++ be 8 ve ++ be 8 ki).length ≤ 900000000 := (by (try simp only [List.length_append, be_length, textB_length, flagB_length, sessB_length, stampB_length]); omega)
          refine opT_hide fun VV hVV => ?_
          have HVV := Lib.hid hVV
          have HS := Lib.hid hS
          clear hVV hS
          unfold opT
          go_simp
          refine resT_call ((dnum_any W B g3 _ ne (by omega) hu hBW (by have := hlen; omega)).mono ?_)
          rintro e W2 ⟨v2, rfl, ha⟩
          obtain ⟨c1, c2⟩ := StU.user HS.out (v' := v2) (W' := W2) (by first | exact ha | simpa only [List.append_assoc] using ha)
          exact ⟨_, rfl, c1, HVV.out _ _ ⟨c2, trivial⟩⟩
        intro g4
        simp only [Act.put, pt1, pt2, pt3]
        iterate 2
         apply wpU_eq
         · intro U W hW hU hs
           have KX := KB.out W hW
           have x0 : W.cell? ⟨b9, 0, none⟩ = some (.slice ad da.length cd) := KX.cell 0
           have x1 : W.cell? ⟨b9, 1, none⟩ = some (.int .u32 (ve : Int)) := KX.cell 1
           have x2 : W.cell? ⟨b9, 2, none⟩ = some (.int .u32 (ki : Int)) := KX.cell 2
           have x3 : W.cell? ⟨b9, 3, none⟩ = some (.int .u32 (ne : Int)) := KX.cell 3
           have x4 : W.cell? ⟨b9, 4, none⟩ = some (.int .i64 si) := KX.cell 4
           have x5 : W.cell? ⟨b9, 5, none⟩ = some (.int .u32 (nn : Int)) := KX.cell 5
           have x6 : W.cell? ⟨b9, 6, none⟩ = some (.int .u64 (ma : Int)) := KX.cell 6
           have x7 : W.cell? ⟨b9, 7, none⟩ = some (.int .u64 (ch : Int)) := KX.cell 7
           have x8 : W.cell? ⟨b9, 8, none⟩ = some (.int .u64 (tu : Int)) := KX.cell 8
           clear KX
           unfold opT
           go_simp
           first | exact resT_eq_mk _ _ _ | exact ⟨Gr.refl _, rfl⟩
         simp only [Act.put, pt1, pt2, pt3]
        apply wpU_use
        · intro U W hW hU hS hs
          have KX := KB.out W hW
          have x0 : W.cell? ⟨b9, 0, none⟩ = some (.slice ad da.length cd) := KX.cell 0
          have x1 : W.cell? ⟨b9, 1, none⟩ = some (.int .u32 (ve : Int)) := KX.cell 1
          have x2 : W.cell? ⟨b9, 2, none⟩ = some (.int .u32 (ki : Int)) := KX.cell 2
          have x3 : W.cell? ⟨b9, 3, none⟩ = some (.int .u32 (ne : Int)) := KX.cell 3
          have x4 : W.cell? ⟨b9, 4, none⟩ = some (.int .i64 si) := KX.cell 4
          have x5 : W.cell? ⟨b9, 5, none⟩ = some (.int .u32 (nn : Int)) := KX.cell 5
          have x6 : W.cell? ⟨b9, 6, none⟩ = some (.int .u64 (ma : Int)) := KX.cell 6
          have x7 : W.cell? ⟨b9, 7, none⟩ = some (.int .u64 (ch : Int)) := KX.cell 7
          have x8 : W.cell? ⟨b9, 8, none⟩ = some (.int .u64 (tu : Int)) := KX.cell 8
          clear KX
          have hu : Own W B 5 g4 (bytes (LK ++ textB pa ++ flagB false ++ textB da ++ be 8 ve ++ be 8 ki ++ be 8 ne)) := hS.1
          have hBW : B ≤ W.heap.size := Nat.le_trans HBx.out hW.size
          have hlen : (LK ++ textB pa ++ flagB false ++ textB da ++ be 8 ve ++ be 8 ki ++ be 8 ne).length ≤ 900000000 := (by (try simp only [List.length_append, be_length, textB_length, flagB_length, sessB_length, stampB_length]); omega)
          refine opT_hide fun VV hVV => ?_
          have HVV := Lib.hid hVV
          have HS := Lib.hid hS
          clear hVV hS
          unfold opT
          go_simp
          refine resT_call ((dsess_any W B g4 _ si nn (by omega) hu hBW (by (try simp only [List.length_append, be_length, textB_length, flagB_length, sessB_length, stampB_length]); omega)).mono ?_)
          rintro e W2 ⟨v2, rfl, ha⟩
          obtain ⟨c1, c2⟩ := StU.user HS.out (v' := v2) (W' := W2) (by first | exact ha | simpa only [List.append_assoc] using ha)
          exact ⟨_, rfl, c1, HVV.out _ _ ⟨c2, trivial⟩⟩
        intro g5
        simp only [Act.put, pt1, pt2, pt3]
        apply wpU_use
        · intro U W hW hU hS hs
          have KX := KB.out W hW
          have x0 : W.cell? ⟨b9, 0, none⟩ = some (.slice ad da.length cd) := KX.cell 0
          have x1 : W.cell? ⟨b9, 1, none⟩ = some (.int .u32 (ve : Int)) := KX.cell 1
          have x2 : W.cell? ⟨b9, 2, none⟩ = some (.int .u32 (ki : Int)) := KX.cell 2
          have x3 : W.cell? ⟨b9, 3, none⟩ = some (.int .u32 (ne : Int)) := KX.cell 3
          have x4 : W.cell? ⟨b9, 4, none⟩ = some (.int .i64 si) := KX.cell 4
          have x5 : W.cell? ⟨b9, 5, none⟩ = some (.int .u32 (nn : Int)) := KX.cell 5
          have x6 : W.cell? ⟨b9, 6, none⟩ = some (.int .u64 (ma : Int)) := KX.cell 6
          have x7 : W.cell? ⟨b9, 7, none⟩ = some (.int .u64 (ch : Int)) := KX.cell 7
          have x8 : W.cell? ⟨b9, 8, none⟩ = some (.int .u64 (tu : Int)) := KX.cell 8
          clear KX
          have hu : Own W B 5 g5 (bytes (LK ++ textB pa ++ flagB false ++ textB da ++ be 8 ve ++ be 8 ki ++ be 8 ne ++ sessB si nn)) := hS.1
          have hBW : B ≤ W.heap.size := Nat.le_trans HBx.out hW.size
          have hlen : (LK ++ textB pa ++ flagB false ++ textB da ++ be 8 ve ++ be 8 ki ++ be 8 ne ++ sessB si nn).length ≤ 900000000 := (by (try simp only [List.length_append, be_length, textB_length, flagB_length, sessB_length, stampB_length]); omega)
          have ha := App.refl hu
          obtain ⟨c1, c2⟩ := StU.user hS (v' := g5) (W' := W) ha
          refine opT_hide fun VV hVV => ?_
          have HVV := Lib.hid (hVV _ _ ⟨c2, trivial⟩)
          clear hVV c2
          unfold opT
          go_simp
          exact ⟨c1, HVV.out⟩
        intro g6
        simp only [Act.put, pt1, pt2, pt3]
        apply wpU_nil
        intro U W12 hW9 hU9 hS9 hs9
        have hA : App W11 B f3 (LK ++ textB pa ++ flagB false ++ textB da ++ be 8 ve ++ be 8 ki ++ be 8 ne ++ sessB si nn) g6 W12 := App.grL ((Gr.refl _).drew) (StU.fin hS9 hW9 hU9)
        have KP : Keep (fun k => k < B) W11 W12 := hA.keep HV1.out
        have AY := Lib.hid (AX.out.trans hA)
        obtain ⟨kb, nb⟩ := hA.cells K11.out N11.out
        have K12 := Lib.hid kb
        have N12 := Lib.hid nb
        have CUR2 := Lib.hid (hA.cur HBx.out)
        clear hS9 hW9 hU9 hs9 hA KP KB HO HBx HV0 HV1 CUR kb nb SDN
        have CUR := CUR2
        have HO := Lib.hid CUR.out.own
        have HBx := Lib.hid CUR.out.base
        have HV0 : Hid (∀ k, g6.ownBlock = some k → k < W12.drew.heap.size) := Lib.hid CUR.out.lt
        have HV1 := Lib.hid CUR.out.ge
        have KB := Lib.hid fun W (hW : Ch (rhoOf g6) W12.drew W) => K12.out.rho N12.out hW
        go_wp2_with fail
        apply wp_region_draw_turnU (rhoOf g6) (StU B g6 (fun k => ([LK ++ textB pa ++ flagB false ++ textB da ++ be 8 ve ++ be 8 ki ++ be 8 ne ++ sessB si nn, LK ++ textB pa ++ flagB false ++ textB da ++ be 8 ve ++ be 8 ki ++ be 8 ne ++ sessB si nn ++ be 8 ma, LK ++ textB pa ++ flagB false ++ textB da ++ be 8 ve ++ be 8 ki ++ be 8 ne ++ sessB si nn ++ be 8 ma ++ be 8 ch, LK ++ textB pa ++ flagB false ++ textB da ++ be 8 ve ++ be 8 ki ++ be 8 ne ++ sessB si nn ++ be 8 ma ++ be 8 ch ++ be 8 tu, LK ++ textB pa ++ flagB false ++ textB da ++ be 8 ve ++ be 8 ki ++ be 8 ne ++ sessB si nn ++ be 8 ma ++ be 8 ch ++ be 8 tu] : List (List UInt8)).getD k [])) (.eq _ :: .eq _ :: .eq _ :: .use TU :: .eq _ :: .eq _ :: .use TU :: .eq _ :: .eq _ :: .use TU :: .use TU :: []) (by kernel_rfl) (by kernel_rfl) (by kernel_rfl) ⟨TU.mono _, TU.mono _, TU.mono _, TU.mono _, trivial⟩ StU.gr ⟨(HO.out.gr (Gr.refl _).drew), fun k hk => .inl hk⟩
        iterate 3
         apply wpU_eq
         · intro U W hW hU hs
           have KX := KB.out W hW
           have x0 : W.cell? ⟨b9, 0, none⟩ = some (.slice ad da.length cd) := KX.cell 0
           have x1 : W.cell? ⟨b9, 1, none⟩ = some (.int .u32 (ve : Int)) := KX.cell 1
           have x2 : W.cell? ⟨b9, 2, none⟩ = some (.int .u32 (ki : Int)) := KX.cell 2
           have x3 : W.cell? ⟨b9, 3, none⟩ = some (.int .u32 (ne : Int)) := KX.cell 3
           have x4 : W.cell? ⟨b9, 4, none⟩ = some (.int .i64 si) := KX.cell 4
           have x5 : W.cell? ⟨b9, 5, none⟩ = some (.int .u32 (nn : Int)) := KX.cell 5
           have x6 : W.cell? ⟨b9, 6, none⟩ = some (.int .u64 (ma : Int)) := KX.cell 6
           have x7 : W.cell? ⟨b9, 7, none⟩ = some (.int .u64 (ch : Int)) := KX.cell 7
           have x8 : W.cell? ⟨b9, 8, none⟩ = some (.int .u64 (tu : Int)) := KX.cell 8
           clear KX
           unfold opT
           go_simp
           first | exact resT_eq_mk _ _ _ | exact ⟨Gr.refl _, rfl⟩
         simp only [Act.put, pt1, pt2, pt3]
        apply wpU_use
        · intro U W hW hU hS hs
          have KX := KB.out W hW
          have x0 : W.cell? ⟨b9, 0, none⟩ = some (.slice ad da.length cd) := KX.cell 0
          have x1 : W.cell? ⟨b9, 1, none⟩ = some (.int .u32 (ve : Int)) := KX.cell 1
          have x2 : W.cell? ⟨b9, 2, none⟩ = some (.int .u32 (ki : Int)) := KX.cell 2
          have x3 : W.cell? ⟨b9, 3, none⟩ = some (.int .u32 (ne : Int)) := KX.cell 3
          have x4 : W.cell? ⟨b9, 4, none⟩ = some (.int .i64 si) := KX.cell 4
          have x5 : W.cell? ⟨b9, 5, none⟩ = some (.int .u32 (nn : Int)) := KX.cell 5
          have x6 : W.cell? ⟨b9, 6, none⟩ = some (.int .u64 (ma : Int)) := KX.cell 6
          have x7 : W.cell? ⟨b9, 7, none⟩ = some (.int .u64 (ch : Int)) := KX.cell 7
          have x8 : W.cell? ⟨b9, 8, none⟩ = some (.int .u64 (tu : Int)) := KX.cell 8
          clear KX
          have hu : Own W B 5 g6 (bytes (LK ++ textB pa ++ flagB false ++ textB da ++ be 8 ve ++ be 8 ki ++ be 8 ne ++ sessB si nn)) := hS.1
          have hBW : B ≤ W.heap.size := Nat.le_trans HBx.out hW.size
          have hlen : (LK ++ textB pa ++ flagB false ++ textB da ++ be 8 ve ++ be 8 ki ++ be 8 ne ++ sessB si nn).length ≤ 900000000 := (by (try simp only [List.length_append, be_length, textB_length, flagB_length, sessB_length, stampB_length]); omega)
          refine opT_hide fun VV hVV => ?_
          have HVV := Lib.hid hVV
          have HS := Lib.hid hS
          clear hVV hS
          unfold opT
          go_simp
          refine resT_call ((dnum_any W B g6 _ ma OM.out hu hBW (by have := hlen; omega)).mono ?_)
          rintro e W2 ⟨v2, rfl, ha⟩
          obtain ⟨c1, c2⟩ := StU.user HS.out (v' := v2) (W' := W2) (by first | exact ha | simpa only [List.append_assoc] using ha)
          exact ⟨_, rfl, c1, HVV.out _ _ ⟨c2, trivial⟩⟩
        intro q1
        simp only [Act.put, pt1, pt2, pt3]
        iterate 2
         apply wpU_eq
         · intro U W hW hU hs
           have KX := KB.out W hW
           have x0 : W.cell? ⟨b9, 0, none⟩ = some (.slice ad da.length cd) := KX.cell 0
           have x1 : W.cell? ⟨b9, 1, none⟩ = some (.int .u32 (ve : Int)) := KX.cell 1
           have x2 : W.cell? ⟨b9, 2, none⟩ = some (.int .u32 (ki : Int)) := KX.cell 2
           have x3 : W.cell? ⟨b9, 3, none⟩ = some (.int .u32 (ne : Int)) := KX.cell 3
           have x4 : W.cell? ⟨b9, 4, none⟩ = some (.int .i64 si) := KX.cell 4
           have x5 : W.cell? ⟨b9, 5, none⟩ = some (.int .u32 (nn : Int)) := KX.cell 5
           have x6 : W.cell? ⟨b9, 6, none⟩ = some (.int .u64 (ma : Int)) := KX.cell 6
           have x7 : W.cell? ⟨b9, 7, none⟩ = some (.int .u64 (ch : Int)) := KX.cell 7
           have x8 : W.cell? ⟨b9, 8, none⟩ = some (.int .u64 (tu : Int)) := KX.cell 8
           clear KX
           unfold opT
           go_simp
           first | exact resT_eq_mk _ _ _ | exact ⟨Gr.refl _, rfl⟩
         simp only [Act.put, pt1, pt2, pt3]
        apply wpU_use
        · intro U W hW hU hS hs
          have KX := KB.out W hW
          have x0 : W.cell? ⟨b9, 0, none⟩ = some (.slice ad da.length cd) := KX.cell 0
          have x1 : W.cell? ⟨b9, 1, none⟩ = some (.int .u32 (ve : Int)) := KX.cell 1
          have x2 : W.cell? ⟨b9, 2, none⟩ = some (.int .u32 (ki : Int)) := KX.cell 2
          have x3 : W.cell? ⟨b9, 3, none⟩ = some (.int .u32 (ne : Int)) := KX.cell 3
          have x4 : W.cell? ⟨b9, 4, none⟩ = some (.int .i64 si) := KX.cell 4
          have x5 : W.cell? ⟨b9, 5, none⟩ = some (.int .u32 (nn : Int)) := KX.cell 5
          have x6 : W.cell? ⟨b9, 6, none⟩ = some (.int .u64 (ma : Int)) := KX.cell 6
          have x7 : W.cell? ⟨b9, 7, none⟩ = some (.int .u64 (ch : Int)) := KX.cell 7
          have x8 : W.cell? ⟨b9, 8, none⟩ = some (.int .u64 (tu : Int)) := KX.cell 8
          clear KX
          have hu : Own W B 5 q1 (bytes (LK ++ textB pa ++ flagB false ++ textB da ++ be 8 ve ++ be 8 ki ++ be 8 ne ++ sessB si nn ++ be 8 ma)) := hS.1
          have hBW : B ≤ W.heap.size := Nat.le_trans HBx.out hW.size
          have hlen : (LK ++ textB pa ++ flagB false ++ textB da ++ be 8 ve ++ be 8 ki ++ be 8 ne ++ sessB si nn ++ be 8 ma).length ≤ 900000000 := (by (try simp only [List.length_append, be_length, textB_length, flagB_length, sessB_length, stampB_length]); omega)
          refine opT_hide fun VV hVV => ?_
          have HVV := Lib.hid hVV
          have HS := Lib.hid hS
          clear hVV hS
          unfold opT
          go_simp
          refine resT_call ((dnum_any W B q1 _ ch OC.out hu hBW (by have := hlen; omega)).mono ?_)
          rintro e W2 ⟨v2, rfl, ha⟩
          obtain ⟨c1, c2⟩ := StU.user HS.out (v' := v2) (W' := W2) (by first | exact ha | simpa only [List.append_assoc] using ha)
          exact ⟨_, rfl, c1, HVV.out _ _ ⟨c2, trivial⟩⟩
        intro q2
        simp only [Act.put, pt1, pt2, pt3]
        iterate 2
         apply wpU_eq
         · intro U W hW hU hs
           have KX := KB.out W hW
           have x0 : W.cell? ⟨b9, 0, none⟩ = some (.slice ad da.length cd) := KX.cell 0
           have x1 : W.cell? ⟨b9, 1, none⟩ = some (.int .u32 (ve : Int)) := KX.cell 1
           have x2 : W.cell? ⟨b9, 2, none⟩ = some (.int .u32 (ki : Int)) := KX.cell 2
           have x3 : W.cell? ⟨b9, 3, none⟩ = some (.int .u32 (ne : Int)) := KX.cell 3
           have x4 : W.cell? ⟨b9, 4, none⟩ = some (.int .i64 si) := KX.cell 4
           have x5 : W.cell? ⟨b9, 5, none⟩ = some (.int .u32 (nn : Int)) := KX.cell 5
           have x6 : W.cell? ⟨b9, 6, none⟩ = some (.int .u64 (ma : Int)) := KX.cell 6
           have x7 : W.cell? ⟨b9, 7, none⟩ = some (.int .u64 (ch : Int)) := KX.cell 7
           have x8 : W.cell? ⟨b9, 8, none⟩ = some (.int .u64 (tu : Int)) := KX.cell 8
           clear KX
           unfold opT
           go_simp
           first | exact resT_eq_mk _ _ _ | exact ⟨Gr.refl _, rfl⟩
         simp only [Act.put, pt1, pt2, pt3]
        apply wpU_use
        · intro U W hW hU hS hs
          have KX := KB.out W hW
          have x0 : W.cell? ⟨b9, 0, none⟩ = some (.slice ad da.length cd) := KX.cell 0
          have x1 : W.cell? ⟨b9, 1, none⟩ = some (.int .u32 (ve : Int)) := KX.cell 1
          have x2 : W.cell? ⟨b9, 2, none⟩ = some (.int .u32 (ki : Int)) := KX.cell 2
          have x3 : W.cell? ⟨b9, 3, none⟩ = some (.int .u32 (ne : Int)) := KX.cell 3
          have x4 : W.cell? ⟨b9, 4, none⟩ = some (.int .i64 si) := KX.cell 4
          have x5 : W.cell? ⟨b9, 5, none⟩ = some (.int .u32 (nn : Int)) := KX.cell 5
          have x6 : W.cell? ⟨b9, 6, none⟩ = some (.int .u64 (ma : Int)) := KX.cell 6
          have x7 : W.cell? ⟨b9, 7, none⟩ = some (.int .u64 (ch : Int)) := KX.cell 7
          have x8 : W.cell? ⟨b9, 8, none⟩ = some (.int .u64 (tu : Int)) := KX.cell 8
          clear KX
          have hu : Own W B 5 q2 (bytes (LK ++ textB pa ++ flagB false ++ textB da ++ be 8 ve ++ be 8 ki ++ be 8 ne ++ sessB si nn ++ be 8 ma ++ be 8 ch)) := hS.1
          have hBW : B ≤ W.heap.size := Nat.le_trans HBx.out hW.size
          have hlen : (LK ++ textB pa ++ flagB false ++ textB da ++ be 8 ve ++ be 8 ki ++ be 8 ne ++ sessB si nn ++ be 8 ma ++ be 8 ch).length ≤ 900000000 := (by (try simp only [List.length_append, be_length, textB_length, flagB_length, sessB_length, stampB_length]); omega)
          refine opT_hide fun VV hVV => ?_
          have HVV := Lib.hid hVV
          have HS := Lib.hid hS
          clear hVV hS
          unfold opT
          go_simp
          refine resT_call ((dnum_any W B q2 _ tu OU.out hu hBW (by have := hlen; omega)).mono ?_)
          rintro e W2 ⟨v2, rfl, ha⟩
          obtain ⟨c1, c2⟩ := StU.user HS.out (v' := v2) (W' := W2) (by first | exact ha | simpa only [List.append_assoc] using ha)
          exact ⟨_, rfl, c1, HVV.out _ _ ⟨c2, trivial⟩⟩
        intro q3
        simp only [Act.put, pt1, pt2, pt3]
        apply wpU_use
        · intro U W hW hU hS hs
          have KX := KB.out W hW
          have x0 : W.cell? ⟨b9, 0, none⟩ = some (.slice ad da.length cd) := KX.cell 0
          have x1 : W.cell? ⟨b9, 1, none⟩ = some (.int .u32 (ve : Int)) := KX.cell 1
          have x2 : W.cell? ⟨b9, 2, none⟩ = some (.int .u32 (ki : Int)) := KX.cell 2
          have x3 : W.cell? ⟨b9, 3, none⟩ = some (.int .u32 (ne : Int)) := KX.cell 3
          have x4 : W.cell? ⟨b9, 4, none⟩ = some (.int .i64 si) := KX.cell 4
          have x5 : W.cell? ⟨b9, 5, none⟩ = some (.int .u32 (nn : Int)) := KX.cell 5
          have x6 : W.cell? ⟨b9, 6, none⟩ = some (.int .u64 (ma : Int)) := KX.cell 6
          have x7 : W.cell? ⟨b9, 7, none⟩ = some (.int .u64 (ch : Int)) := KX.cell 7
          have x8 : W.cell? ⟨b9, 8, none⟩ = some (.int .u64 (tu : Int)) := KX.cell 8
          clear KX
          have hu : Own W B 5 q3 (bytes (LK ++ textB pa ++ flagB false ++ textB da ++ be 8 ve ++ be 8 ki ++ be 8 ne ++ sessB si nn ++ be 8 ma ++ be 8 ch ++ be 8 tu)) := hS.1
          have hBW : B ≤ W.heap.size := Nat.le_trans HBx.out hW.size
          have hlen : (LK ++ textB pa ++ flagB false ++ textB da ++ be 8 ve ++ be 8 ki ++ be 8 ne ++ sessB si nn ++ be 8 ma ++ be 8 ch ++ be 8 tu).length ≤ 900000000 := (by (try simp only [List.length_append, be_length, textB_length, flagB_length, sessB_length, stampB_length]); omega)
          have ha := App.refl hu
          obtain ⟨c1, c2⟩ := StU.user hS (v' := q3) (W' := W) ha
          refine opT_hide fun VV hVV => ?_
          have HVV := Lib.hid (hVV _ _ ⟨c2, trivial⟩)
          clear hVV c2
          unfold opT
          go_simp
          exact ⟨c1, HVV.out⟩
        intro q4
        simp only [Act.put, pt1, pt2, pt3]
        apply wpU_nil
        intro U W13 hW9 hU9 hS9 hs9
        have hA : App W12 B g6 (LK ++ textB pa ++ flagB false ++ textB da ++ be 8 ve ++ be 8 ki ++ be 8 ne ++ sessB si nn ++ be 8 ma ++ be 8 ch ++ be 8 tu) q4 W13 := App.grL ((Gr.refl _).drew) (StU.fin hS9 hW9 hU9)
        have KP : Keep (fun k => k < B) W12 W13 := hA.keep HV1.out
        have AZ := Lib.hid (AY.out.trans hA)
        clear hS9 hW9 hU9 hs9 hA KP
        go_wp2
        go_roundw
        case rel => exact ⟨k + 1, by omega, by go_num, by rw [← HLn.out, ← E9.out, EN.out]; simpa only [List.append_assoc] using AZ.out⟩
        case measure => simp [intOf]; omega
    · obtain rfl : k = es.length := by omega
      rw [List.take_length] at hap
      have C := Lib.hid (dnum_any wr B _ _ clo (by omega) hap.own (Nat.le_trans HB1.out hap.grown.size) (by (try simp only [List.length_append, be_length, textB_length, flagB_length, sessB_length, stampB_length]); omega))
      have HAP := Lib.hid hap
      clear hap
      go_wp2_with fail
      refine C.out.mono ?_
      rintro e w9 ⟨v9, rfl, ha9⟩
      have AA := Lib.hid (App.grL G1.out (HAP.out.trans ha9))
      clear ha9
      go_wp2
      go_ret
      exact ⟨_, rfl, by rw [EE.out]; exact AA.out⟩
end Go.Proofs.Ytgilijkmmcpfjaa
