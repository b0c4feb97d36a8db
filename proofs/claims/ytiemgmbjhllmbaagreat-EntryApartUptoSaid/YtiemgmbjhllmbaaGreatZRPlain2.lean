/-
  Of the document: plain, of writes, ends of sessions, items.
-/
import Derived.Test.YtiemgmbjhllmbaaGreatZRPlain
set_option linter.unusedVariables false
set_option linter.unusedSimpArgs false
set_option maxRecDepth 100000
namespace Go.Proofs.YtiemgmbjhllmbaaGreat
open Go.RowKit
def stP (a b : List Value) : Nat → List Value
  | 0 => a
  | _ => b
set_option maxHeartbeats 4000000 in
theorem dplain_3 (w : World) (x : EntD) (q : EntV) (hk : x.kind = 3) (hp : EntP Any w x q) (ok : EntOk x) (big : EntShort x) : Calls Tryz.prog 35 #[.agg (entCells x q).toArray] w (RetPlain w x) := by
  have hp0 := hp
  obtain ⟨da, dc, pa, pc, sa, sc, ea, ec, fa, fc, rfl⟩ := hp.shapes
  obtain ⟨E, hE⟩ : ∃ E, E = entCells x ⟨.slice da (bytes x.op.h.data).length dc, .slice pa x.op.parts.length pc, .slice sa (nums x.item.stamp).length sc, .slice ea x.item.effs.length ec, .slice fa (nums x.frontier).length fc⟩ := ⟨_, rfl⟩
  have CE : Hid (∀ W b, CellsAt W b E 35 → W.cell? ⟨b, 0, none⟩ = some (.int .u8 3) ∧ W.cell? ⟨b, 1, none⟩ = some (.int .u32 (x.client : Int)) ∧ W.cell? ⟨b, 2, none⟩ = some (.int .u32 (x.req : Int)) ∧ W.cell? ⟨b, 3, none⟩ = some (.int .i64 x.osite) ∧ W.cell? ⟨b, 4, none⟩ = some (.int .u32 (x.on : Int))) := Lib.hid fun W b h => by
    have h0 : W.cell? ⟨b, 0, none⟩ = some (.int .u8 (x.kind : Int)) := by subst hE; exact h.cell 0
    rw [hk] at h0
    exact ⟨h0, by subst hE; exact h.cell 1, by subst hE; exact h.cell 2, by subst hE; exact h.cell 3, by subst hE; exact h.cell 4⟩
  have PX : plainX x = ⟨3, x.client, x.req, x.osite, x.on, zeroO, zeroI, 0, 0, 0, []⟩ := by unfold plainX; rw [hk]; rfl
  obtain ⟨R, hR⟩ : ∃ R : List Value, R = [.int .u8 3, .int .u32 (x.client : Int), .int .u32 (x.req : Int), .int .i64 x.osite, .int .u32 (x.on : Int), .int .u8 0, .string ⟨#[]⟩, .slice none 0 0, .int .i64 0, .bool false, .bool false, .slice none 0 0, .int .i64 0, .int .u64 0, .int .i64 0, .int .u64 0, .slice none 0 0, .slice none 0 0, .int .u32 0, .int .i64 0, .int .i64 0, .int .u64 0, .slice none 0 0] := ⟨_, rfl⟩
  have RE : R = entCells ⟨3, x.client, x.req, x.osite, x.on, zeroO, zeroI, 0, 0, 0, []⟩ ⟨.slice none 0 0, .slice none 0 0, .slice none 0 0, .slice none 0 0, .slice none 0 0⟩ := by rw [hR]; rfl
  have RF : refPlain x = (⟨3, x.client, x.req, x.osite, x.on, zeroO, zeroI, 0, 0, 0, []⟩, condX x) := by unfold refPlain; rw [hk, if_pos (show kindK 3 = true from rfl), PX]
  have CX : condX x = maySess x.osite := by simp only [condX, hk]
  rw [CX] at RF
  have RET : Hid (∀ W, Gr w W → RetPlain w x (.returned (.tuple #[.agg R.toArray, .bool (maySess x.osite)])) W) := Lib.hid fun W g => retPlain_mk _ _ _ R RF RE (by have hp := hp.gr g; exact ⟨OpP.zero _ _, ItemP.zero _ _, SlP.nil _ _ _ _⟩) g
  have RN : Hid (R.length = 23) := Lib.hid (by rw [hR]; rfl)
  have R1 : Hid (oneAll R) := Lib.hid (by rw [hR]; rfl)
  rw [← hE]
  have HX := Lib.hid hp0
  clear hE CX PX RE RF hp hp0
  go_enter Tryz.func35, Tryz.ntmps35
  go_wp2_with (first | (refine wpList_boxE _ rfl rfl rfl ?_) | fail)
  intro w1 K1 G1 n1
  obtain ⟨b, hb⟩ : ∃ b, b = w.heap.size := ⟨_, rfl⟩
  rw [← hb]
  rw [← hb] at K1
  obtain ⟨w2, hw2⟩ : ∃ w2, w2 = w1.alloc (.cells zeroL.toArray 35) := ⟨_, rfl⟩
  have g2 : Gr w1 w2 := by rw [hw2]; exact (Gr.refl w1).alloc _
  have k2 : CellsAt w2 w1.heap.size zeroL 35 := by rw [hw2]; exact CellsAt.new _ _ _
  have HW : w1.alloc (.cells #[.int .u8 0, .int .u32 0, .int .u32 0, .int .i64 0, .int .u32 0, .int .u8 0, .string ⟨#[]⟩, .slice none 0 0, .int .i64 0, .bool false, .bool false, .slice none 0 0, .int .i64 0, .int .u64 0, .int .i64 0, .int .u64 0, .slice none 0 0, .slice none 0 0, .int .u32 0, .int .i64 0, .int .i64 0, .int .u64 0, .slice none 0 0] 35) = w2 := hw2.symm
  have KB := Lib.hid (K1.gr g2)
  have K2 := Lib.hid k2
  have GW := Lib.hid (G1.trans g2)
  have BN : Hid (b ≠ w1.heap.size) := Lib.hid (fun e => by have := K1.lt; omega)
  have BG : Hid (w.heap.size ≤ w1.heap.size) := Lib.hid G1.size
  obtain ⟨x0, x1, x2, x3, x4⟩ := CE.out w2 b KB.out
  clear K1 G1 n1 g2 k2 hb hw2
  have BU : Hid (Tryz.prog.built 35 [(0, .int .u8 3), (1, .int .u32 (x.client : Int)), (2, .int .u32 (x.req : Int)), (3, .agg #[.int .i64 x.osite, .int .u32 (x.on : Int)])] = some R.toArray) := Lib.hid (by rw [hR]; exact built_3 _ _ _ _)
  clear hR
  have PX : Hid (∀ W, Ch (fun k => k = w1.heap.size) w2.drew W → EntP Any W x _) := Lib.hid fun W hW => (((((HX.out.monoLt (Q := fun k => k < w.heap.size) (fun k _ hk => hk)).gr GW.out).gr (Gr.refl w2).drew).keep (Keep.of_ch hW (fun k h1 h2 => by have h3 : k < w.heap.size := h1; have h4 : k = w1.heap.size := h2; have := BG.out; omega))).mono (fun _ _ => trivial))
  go_wp2_with fail
  apply wp_region_draw_turn (fun k => k = w1.heap.size) (fun k W => CellsAt W w1.heap.size (stP zeroL R k) 35) (.eq _ :: .eq _ :: .eq _ :: .eq _ :: .eq _ :: .eq _ :: .eq _ :: .eq _ :: .eq _ :: .eq _ :: .eq _ :: .eq _ :: .useEq _ :: .eq _ :: []) (by kernel_rfl) (by kernel_rfl) (by kernel_rfl) trivial (fun k W W' hg h => CellsAt.gr h hg) (K2.out.gr (Gr.refl w2).drew)
  iterate 8
   apply wpT_eq
   · intro W hW hs
     have KX := (KB.out.gr (Gr.refl w2).drew).ch hW BN.out
     obtain ⟨d0, d1, d2, d3, d4⟩ := CE.out W b KX
     clear KX
     unfold opT
     go_simp
     first | exact resT_eq_mk _ _ _ | exact ⟨Gr.refl _, rfl⟩
   simp only [Act.put, pt1, pt2, pt3]
  apply wpT_eq
  · intro W hW hs
    exact opT_build _ _ rfl rfl (by simp only [List.map_toArray, List.map_cons, List.map_nil]; exact BU.out) ⟨Gr.refl _, rfl⟩
  simp only [Act.put, pt1, pt2, pt3]
  iterate 2
   apply wpT_eq
   · intro W hW hs
     have KX := (KB.out.gr (Gr.refl w2).drew).ch hW BN.out
     obtain ⟨d0, d1, d2, d3, d4⟩ := CE.out W b KX
     clear KX
     unfold opT
     go_simp
     first | exact resT_eq_mk _ _ _ | exact ⟨Gr.refl _, rfl⟩
   simp only [Act.put, pt1, pt2, pt3]
  apply wpT_eq
  · intro W hW hs
    have KX := (KB.out.gr (Gr.refl w2).drew).ch hW BN.out
    obtain ⟨d0, d1, d2, d3, d4⟩ := CE.out W b KX
    clear KX
    unfold opT
    go_simp
    refine resT_call ((dmaysess_any W x.osite x.on).mono ?_)
    rintro e W2 ⟨rfl, g2⟩
    exact ⟨_, rfl, g2, rfl⟩
  simp only [Act.put, pt1, pt2, pt3]
  apply wpT_useEq
  · intro W hW hS hs
    exact opT_store entTy _ _ rfl rfl rfl rfl hS RN.out zeroL_len R1.out fun f1 f2 => ⟨⟨f2, f1⟩, rfl⟩
  simp only [Act.put]
  apply wpT_eq
  · intro W hW hs
    have KX := (KB.out.gr (Gr.refl w2).drew).ch hW BN.out
    obtain ⟨d0, d1, d2, d3, d4⟩ := CE.out W b KX
    clear KX
    unfold opT
    go_simp
    first | exact resT_eq_mk _ _ _ | exact ⟨Gr.refl _, rfl⟩
  simp only [Act.put, pt1, pt2, pt3]
  apply wpT_nil
  intro w3 c3 k3 hsA
  have RR := Lib.hid (RET.out w3 (Below.trans (GW.out.trans (Gr.refl w2).drew) (c3.below (GW.out.trans (Gr.refl w2).drew).size (fun k hk => by have : k = w1.heap.size := hk; have := BG.out; omega))))
  have K3 : Hid (CellsAt w3 w1.heap.size R 35) := Lib.hid k3
  clear k3 c3 hsA
  go_wp2
  exact bodyPost_ret (v := .tuple #[.agg R.toArray, .bool (maySess x.osite)]) (results_row2 (fn := Tryz.f35) entTy rfl _ _ rfl K3.out RN.out) rfl RR.out
set_option maxHeartbeats 4000000 in
theorem dplain_4 (w : World) (x : EntD) (q : EntV) (hk : x.kind = 4) (hp : EntP Any w x q) (ok : EntOk x) (big : EntShort x) : Calls Tryz.prog 35 #[.agg (entCells x q).toArray] w (RetPlain w x) := by
  have hp0 := hp
  obtain ⟨da, dc, pa, pc, sa, sc, ea, ec, fa, fc, rfl⟩ := hp.shapes
  obtain ⟨E, hE⟩ : ∃ E, E = entCells x ⟨.slice da (bytes x.op.h.data).length dc, .slice pa x.op.parts.length pc, .slice sa (nums x.item.stamp).length sc, .slice ea x.item.effs.length ec, .slice fa (nums x.frontier).length fc⟩ := ⟨_, rfl⟩
  have CE : Hid (∀ W b, CellsAt W b E 35 → W.cell? ⟨b, 0, none⟩ = some (.int .u8 4) ∧ W.cell? ⟨b, 12, none⟩ = some (.int .i64 x.item.origin) ∧ W.cell? ⟨b, 13, none⟩ = some (.int .u64 (x.item.seq : Int)) ∧ W.cell? ⟨b, 14, none⟩ = some (.int .i64 x.item.region) ∧ W.cell? ⟨b, 15, none⟩ = some (.int .u64 (x.item.epoch : Int)) ∧ W.cell? ⟨b, 16, none⟩ = some (.slice sa (nums x.item.stamp).length sc) ∧ W.cell? ⟨b, 17, none⟩ = some (.slice ea x.item.effs.length ec) ∧ W.cell? ⟨b, 18, none⟩ = some (.int .u32 (x.item.closed : Int))) := Lib.hid fun W b h => by
    have h0 : W.cell? ⟨b, 0, none⟩ = some (.int .u8 (x.kind : Int)) := by subst hE; exact h.cell 0
    rw [hk] at h0
    exact ⟨h0, by subst hE; exact h.cell 12, by subst hE; exact h.cell 13, by subst hE; exact h.cell 14, by subst hE; exact h.cell 15, by subst hE; exact h.cell 16, by subst hE; exact h.cell 17, by subst hE; exact h.cell 18⟩
  have PX : plainX x = ⟨4, 0, 0, 0, 0, zeroO, x.item, 0, 0, 0, []⟩ := by unfold plainX; rw [hk]; rfl
  obtain ⟨R, hR⟩ : ∃ R : List Value, R = [.int .u8 4, .int .u32 0, .int .u32 0, .int .i64 0, .int .u32 0, .int .u8 0, .string ⟨#[]⟩, .slice none 0 0, .int .i64 0, .bool false, .bool false, .slice none 0 0, .int .i64 x.item.origin, .int .u64 (x.item.seq : Int), .int .i64 x.item.region, .int .u64 (x.item.epoch : Int), .slice sa (nums x.item.stamp).length sc, .slice ea x.item.effs.length ec, .int .u32 (x.item.closed : Int), .int .i64 0, .int .i64 0, .int .u64 0, .slice none 0 0] := ⟨_, rfl⟩
  have RE : R = entCells ⟨4, 0, 0, 0, 0, zeroO, x.item, 0, 0, 0, []⟩ ⟨.slice none 0 0, .slice none 0 0, .slice sa (nums x.item.stamp).length sc, .slice ea x.item.effs.length ec, .slice none 0 0⟩ := by rw [hR]; rfl
  have RF : refPlain x = (⟨4, 0, 0, 0, 0, zeroO, x.item, 0, 0, 0, []⟩, condX x) := by unfold refPlain; rw [hk, if_pos (show kindK 4 = true from rfl), PX]
  have CX : condX x = mayItem x.item := by simp only [condX, hk]
  rw [CX] at RF
  have RET : Hid (∀ W, Gr w W → RetPlain w x (.returned (.tuple #[.agg R.toArray, .bool (mayItem x.item)])) W) := Lib.hid fun W g => retPlain_mk _ _ _ R RF RE (by have hp := hp.gr g; exact ⟨OpP.zero _ _, hp.2.1, SlP.nil _ _ _ _⟩) g
  have RN : Hid (R.length = 23) := Lib.hid (by rw [hR]; rfl)
  have R1 : Hid (oneAll R) := Lib.hid (by rw [hR]; rfl)
  rw [← hE]
  have HX := Lib.hid hp0
  clear hE CX PX RE RF hp hp0
  go_enter Tryz.func35, Tryz.ntmps35
  go_wp2_with (first | (refine wpList_boxE _ rfl rfl rfl ?_) | fail)
  intro w1 K1 G1 n1
  obtain ⟨b, hb⟩ : ∃ b, b = w.heap.size := ⟨_, rfl⟩
  rw [← hb]
  rw [← hb] at K1
  obtain ⟨w2, hw2⟩ : ∃ w2, w2 = w1.alloc (.cells zeroL.toArray 35) := ⟨_, rfl⟩
  have g2 : Gr w1 w2 := by rw [hw2]; exact (Gr.refl w1).alloc _
  have k2 : CellsAt w2 w1.heap.size zeroL 35 := by rw [hw2]; exact CellsAt.new _ _ _
  have HW : w1.alloc (.cells #[.int .u8 0, .int .u32 0, .int .u32 0, .int .i64 0, .int .u32 0, .int .u8 0, .string ⟨#[]⟩, .slice none 0 0, .int .i64 0, .bool false, .bool false, .slice none 0 0, .int .i64 0, .int .u64 0, .int .i64 0, .int .u64 0, .slice none 0 0, .slice none 0 0, .int .u32 0, .int .i64 0, .int .i64 0, .int .u64 0, .slice none 0 0] 35) = w2 := hw2.symm
  have KB := Lib.hid (K1.gr g2)
  have K2 := Lib.hid k2
  have GW := Lib.hid (G1.trans g2)
  have BN : Hid (b ≠ w1.heap.size) := Lib.hid (fun e => by have := K1.lt; omega)
  have BG : Hid (w.heap.size ≤ w1.heap.size) := Lib.hid G1.size
  obtain ⟨x0, x12, x13, x14, x15, x16, x17, x18⟩ := CE.out w2 b KB.out
  clear K1 G1 n1 g2 k2 hb hw2
  have BU : Hid (Tryz.prog.built 35 [(0, .int .u8 4), (5, .agg #[.int .i64 x.item.origin, .int .u64 (x.item.seq : Int), .int .i64 x.item.region, .int .u64 (x.item.epoch : Int), .slice sa (nums x.item.stamp).length sc, .slice ea x.item.effs.length ec, .int .u32 (x.item.closed : Int)])] = some R.toArray) := Lib.hid (by rw [hR]; exact built_4 _ _ _ _ _ _ _ _ _ _ _)
  clear hR
  have PX : Hid (∀ W, Ch (fun k => k = w1.heap.size) w2.drew W → EntP Any W x _) := Lib.hid fun W hW => (((((HX.out.monoLt (Q := fun k => k < w.heap.size) (fun k _ hk => hk)).gr GW.out).gr (Gr.refl w2).drew).keep (Keep.of_ch hW (fun k h1 h2 => by have h3 : k < w.heap.size := h1; have h4 : k = w1.heap.size := h2; have := BG.out; omega))).mono (fun _ _ => trivial))
  go_wp2_with fail
  apply wp_region_draw_turn (fun k => k = w1.heap.size) (fun k W => CellsAt W w1.heap.size (stP zeroL R k) 35) (.eq _ :: .eq _ :: .eq _ :: .eq _ :: .eq _ :: .eq _ :: .eq _ :: .eq _ :: .useEq _ :: .eq _ :: []) (by kernel_rfl) (by kernel_rfl) (by kernel_rfl) trivial (fun k W W' hg h => CellsAt.gr h hg) (K2.out.gr (Gr.refl w2).drew)
  iterate 4
   apply wpT_eq
   · intro W hW hs
     have KX := (KB.out.gr (Gr.refl w2).drew).ch hW BN.out
     obtain ⟨d0, d12, d13, d14, d15, d16, d17, d18⟩ := CE.out W b KX
     clear KX
     unfold opT
     go_simp
     first | exact resT_eq_mk _ _ _ | exact ⟨Gr.refl _, rfl⟩
   simp only [Act.put, pt1, pt2, pt3]
  apply wpT_eq
  · intro W hW hs
    exact opT_build _ _ rfl rfl (by simp only [List.map_toArray, List.map_cons, List.map_nil]; exact BU.out) ⟨Gr.refl _, rfl⟩
  simp only [Act.put, pt1, pt2, pt3]
  iterate 2
   apply wpT_eq
   · intro W hW hs
     have KX := (KB.out.gr (Gr.refl w2).drew).ch hW BN.out
     obtain ⟨d0, d12, d13, d14, d15, d16, d17, d18⟩ := CE.out W b KX
     clear KX
     unfold opT
     go_simp
     first | exact resT_eq_mk _ _ _ | exact ⟨Gr.refl _, rfl⟩
   simp only [Act.put, pt1, pt2, pt3]
  apply wpT_eq
  · intro W hW hs
    have KX := (KB.out.gr (Gr.refl w2).drew).ch hW BN.out
    obtain ⟨d0, d12, d13, d14, d15, d16, d17, d18⟩ := CE.out W b KX
    clear KX
    unfold opT
    go_simp
    refine resT_call ((dmayitem_any W x.item _ _ (PX.out W hW).2.1 big.effs).mono ?_)
    rintro e W2 ⟨rfl, g2⟩
    exact ⟨_, rfl, g2, rfl⟩
  simp only [Act.put, pt1, pt2, pt3]
  apply wpT_useEq
  · intro W hW hS hs
    exact opT_store entTy _ _ rfl rfl rfl rfl hS RN.out zeroL_len R1.out fun f1 f2 => ⟨⟨f2, f1⟩, rfl⟩
  simp only [Act.put]
  apply wpT_eq
  · intro W hW hs
    have KX := (KB.out.gr (Gr.refl w2).drew).ch hW BN.out
    obtain ⟨d0, d12, d13, d14, d15, d16, d17, d18⟩ := CE.out W b KX
    clear KX
    unfold opT
    go_simp
    first | exact resT_eq_mk _ _ _ | exact ⟨Gr.refl _, rfl⟩
  simp only [Act.put, pt1, pt2, pt3]
  apply wpT_nil
  intro w3 c3 k3 hsA
  have RR := Lib.hid (RET.out w3 (Below.trans (GW.out.trans (Gr.refl w2).drew) (c3.below (GW.out.trans (Gr.refl w2).drew).size (fun k hk => by have : k = w1.heap.size := hk; have := BG.out; omega))))
  have K3 : Hid (CellsAt w3 w1.heap.size R 35) := Lib.hid k3
  clear k3 c3 hsA
  go_wp2
  exact bodyPost_ret (v := .tuple #[.agg R.toArray, .bool (mayItem x.item)]) (results_row2 (fn := Tryz.f35) entTy rfl _ _ rfl K3.out RN.out) rfl RR.out
set_option maxHeartbeats 4000000 in
theorem dplain_1 (w : World) (x : EntD) (q : EntV) (hk : x.kind = 1) (hp : EntP Any w x q) (ok : EntOk x) (big : EntShort x) : Calls Tryz.prog 35 #[.agg (entCells x q).toArray] w (RetPlain w x) := by
  have hp0 := hp
  obtain ⟨da, dc, pa, pc, sa, sc, ea, ec, fa, fc, rfl⟩ := hp.shapes
  obtain ⟨E, hE⟩ : ∃ E, E = entCells x ⟨.slice da (bytes x.op.h.data).length dc, .slice pa x.op.parts.length pc, .slice sa (nums x.item.stamp).length sc, .slice ea x.item.effs.length ec, .slice fa (nums x.frontier).length fc⟩ := ⟨_, rfl⟩
  have CE : Hid (∀ W b, CellsAt W b E 35 → W.cell? ⟨b, 0, none⟩ = some (.int .u8 1) ∧ W.cell? ⟨b, 1, none⟩ = some (.int .u32 (x.client : Int)) ∧ W.cell? ⟨b, 2, none⟩ = some (.int .u32 (x.req : Int)) ∧ W.cell? ⟨b, 3, none⟩ = some (.int .i64 x.osite) ∧ W.cell? ⟨b, 4, none⟩ = some (.int .u32 (x.on : Int)) ∧ W.cell? ⟨b, 5, none⟩ = some (.int .u8 (x.op.h.kind : Int)) ∧ W.cell? ⟨b, 6, none⟩ = some (.string ⟨x.op.h.path.toArray⟩) ∧ W.cell? ⟨b, 7, none⟩ = some (.slice da (bytes x.op.h.data).length dc) ∧ W.cell? ⟨b, 8, none⟩ = some (.int .i64 x.op.h.version) ∧ W.cell? ⟨b, 9, none⟩ = some (.bool x.op.h.seq) ∧ W.cell? ⟨b, 10, none⟩ = some (.bool x.op.h.eph) ∧ W.cell? ⟨b, 11, none⟩ = some (.slice pa x.op.parts.length pc)) := Lib.hid fun W b h => by
    have h0 : W.cell? ⟨b, 0, none⟩ = some (.int .u8 (x.kind : Int)) := by subst hE; exact h.cell 0
    rw [hk] at h0
    exact ⟨h0, by subst hE; exact h.cell 1, by subst hE; exact h.cell 2, by subst hE; exact h.cell 3, by subst hE; exact h.cell 4, by subst hE; exact h.cell 5, by subst hE; exact h.cell 6, by subst hE; exact h.cell 7, by subst hE; exact h.cell 8, by subst hE; exact h.cell 9, by subst hE; exact h.cell 10, by subst hE; exact h.cell 11⟩
  have PX : plainX x = ⟨1, x.client, x.req, x.osite, x.on, x.op, zeroI, 0, 0, 0, []⟩ := by unfold plainX; rw [hk]; rfl
  obtain ⟨R, hR⟩ : ∃ R : List Value, R = [.int .u8 1, .int .u32 (x.client : Int), .int .u32 (x.req : Int), .int .i64 x.osite, .int .u32 (x.on : Int), .int .u8 (x.op.h.kind : Int), .string ⟨x.op.h.path.toArray⟩, .slice da (bytes x.op.h.data).length dc, .int .i64 x.op.h.version, .bool x.op.h.seq, .bool x.op.h.eph, .slice pa x.op.parts.length pc, .int .i64 0, .int .u64 0, .int .i64 0, .int .u64 0, .slice none 0 0, .slice none 0 0, .int .u32 0, .int .i64 0, .int .i64 0, .int .u64 0, .slice none 0 0] := ⟨_, rfl⟩
  have RE : R = entCells ⟨1, x.client, x.req, x.osite, x.on, x.op, zeroI, 0, 0, 0, []⟩ ⟨.slice da (bytes x.op.h.data).length dc, .slice pa x.op.parts.length pc, .slice none 0 0, .slice none 0 0, .slice none 0 0⟩ := by rw [hR]; rfl
  have RF : refPlain x = (⟨1, x.client, x.req, x.osite, x.on, x.op, zeroI, 0, 0, 0, []⟩, condX x) := by unfold refPlain; rw [hk, if_pos (show kindK 1 = true from rfl), PX]
  have CX : condX x = (maySess x.osite && mayOp x.op) := by simp only [condX, hk]
  rw [CX] at RF
  have RET : Hid (∀ W, Gr w W → RetPlain w x (.returned (.tuple #[.agg R.toArray, .bool (maySess x.osite && mayOp x.op)])) W) := Lib.hid fun W g => retPlain_mk _ _ _ R RF RE (by have hp := hp.gr g; exact ⟨hp.1, ItemP.zero _ _, SlP.nil _ _ _ _⟩) g
  have RN : Hid (R.length = 23) := Lib.hid (by rw [hR]; rfl)
  have R1 : Hid (oneAll R) := Lib.hid (by rw [hR]; rfl)
  rw [← hE]
  have HX := Lib.hid hp0
  clear hE CX PX RE RF hp hp0
  go_enter Tryz.func35, Tryz.ntmps35
  go_wp2_with (first | (refine wpList_boxE _ rfl rfl rfl ?_) | fail)
  intro w1 K1 G1 n1
  obtain ⟨b, hb⟩ : ∃ b, b = w.heap.size := ⟨_, rfl⟩
  rw [← hb]
  rw [← hb] at K1
  obtain ⟨w2, hw2⟩ : ∃ w2, w2 = w1.alloc (.cells zeroL.toArray 35) := ⟨_, rfl⟩
  have g2 : Gr w1 w2 := by rw [hw2]; exact (Gr.refl w1).alloc _
  have k2 : CellsAt w2 w1.heap.size zeroL 35 := by rw [hw2]; exact CellsAt.new _ _ _
  have HW : w1.alloc (.cells #[.int .u8 0, .int .u32 0, .int .u32 0, .int .i64 0, .int .u32 0, .int .u8 0, .string ⟨#[]⟩, .slice none 0 0, .int .i64 0, .bool false, .bool false, .slice none 0 0, .int .i64 0, .int .u64 0, .int .i64 0, .int .u64 0, .slice none 0 0, .slice none 0 0, .int .u32 0, .int .i64 0, .int .i64 0, .int .u64 0, .slice none 0 0] 35) = w2 := hw2.symm
  have KB := Lib.hid (K1.gr g2)
  have K2 := Lib.hid k2
  have GW := Lib.hid (G1.trans g2)
  have BN : Hid (b ≠ w1.heap.size) := Lib.hid (fun e => by have := K1.lt; omega)
  have BG : Hid (w.heap.size ≤ w1.heap.size) := Lib.hid G1.size
  obtain ⟨x0, x1, x2, x3, x4, x5, x6, x7, x8, x9, x10, x11⟩ := CE.out w2 b KB.out
  clear K1 G1 n1 g2 k2 hb hw2
  have BU : Hid (Tryz.prog.built 35 [(0, .int .u8 1), (1, .int .u32 (x.client : Int)), (2, .int .u32 (x.req : Int)), (3, .agg #[.int .i64 x.osite, .int .u32 (x.on : Int)]), (4, .agg #[.int .u8 (x.op.h.kind : Int), .string ⟨x.op.h.path.toArray⟩, .slice da (bytes x.op.h.data).length dc, .int .i64 x.op.h.version, .bool x.op.h.seq, .bool x.op.h.eph, .slice pa x.op.parts.length pc])] = some R.toArray) := Lib.hid (by rw [hR]; exact built_1 _ _ _ _ _ _ _ _ _ _ _ _ _ _ _)
  clear hR
  have PX : Hid (∀ W, Ch (fun k => k = w1.heap.size) w2.drew W → EntP Any W x _) := Lib.hid fun W hW => (((((HX.out.monoLt (Q := fun k => k < w.heap.size) (fun k _ hk => hk)).gr GW.out).gr (Gr.refl w2).drew).keep (Keep.of_ch hW (fun k h1 h2 => by have h3 : k < w.heap.size := h1; have h4 : k = w1.heap.size := h2; have := BG.out; omega))).mono (fun _ _ => trivial))
  go_wp2_with fail
  cases hms : maySess x.osite with
  | false =>
    have HM := Lib.hid hms
    rw [hms] at RET
    clear hms
    apply wp_region_draw_turn (fun k => k = w1.heap.size) (fun k W => CellsAt W w1.heap.size (stP zeroL R k) 35) (.eq _ :: .eq _ :: .eq _ :: .eq _ :: .eq _ :: .eq _ :: .eq _ :: .eq _ :: .eq _ :: .eq _ :: .eq _ :: .eq _ :: .eq _ :: .eq _ :: .eq _ :: .eq _ :: .eq _ :: .eq _ :: .eq _ :: .useEq _ :: .eq _ :: []) (by kernel_rfl) (by kernel_rfl) (by kernel_rfl) trivial (fun k W W' hg h => CellsAt.gr h hg) (K2.out.gr (Gr.refl w2).drew)
    iterate 10
     apply wpT_eq
     · intro W hW hs
       have KX := (KB.out.gr (Gr.refl w2).drew).ch hW BN.out
       obtain ⟨d0, d1, d2, d3, d4, d5, d6, d7, d8, d9, d10, d11⟩ := CE.out W b KX
       clear KX
       unfold opT
       go_simp
       first | exact resT_eq_mk _ _ _ | exact ⟨Gr.refl _, rfl⟩
     simp only [Act.put, pt1, pt2, pt3]
    apply wpT_eq
    · intro W hW hs
      exact opT_build _ _ rfl rfl (by simp only [List.map_toArray, List.map_cons, List.map_nil]; exact BU.out) ⟨Gr.refl _, rfl⟩
    simp only [Act.put, pt1, pt2, pt3]
    iterate 2
     apply wpT_eq
     · intro W hW hs
       have KX := (KB.out.gr (Gr.refl w2).drew).ch hW BN.out
       obtain ⟨d0, d1, d2, d3, d4, d5, d6, d7, d8, d9, d10, d11⟩ := CE.out W b KX
       clear KX
       unfold opT
       go_simp
       first | exact resT_eq_mk _ _ _ | exact ⟨Gr.refl _, rfl⟩
     simp only [Act.put, pt1, pt2, pt3]
    apply wpT_eq
    · intro W hW hs
      have KX := (KB.out.gr (Gr.refl w2).drew).ch hW BN.out
      obtain ⟨d0, d1, d2, d3, d4, d5, d6, d7, d8, d9, d10, d11⟩ := CE.out W b KX
      clear KX
      unfold opT
      go_simp
      refine resT_call (((show Calls _ _ _ _ (RetBool W false) from HM.out ▸ dmaysess_any W x.osite x.on)).mono ?_)
      rintro e W2 ⟨rfl, g2⟩
      exact ⟨_, rfl, g2, rfl⟩
    simp only [Act.put, pt1, pt2, pt3]
    iterate 5
     apply wpT_eq
     · intro W hW hs
       have KX := (KB.out.gr (Gr.refl w2).drew).ch hW BN.out
       obtain ⟨d0, d1, d2, d3, d4, d5, d6, d7, d8, d9, d10, d11⟩ := CE.out W b KX
       clear KX
       unfold opT
       go_simp
       first | exact resT_eq_mk _ _ _ | exact ⟨Gr.refl _, rfl⟩
     simp only [Act.put, pt1, pt2, pt3]
    apply wpT_useEq
    · intro W hW hS hs
      exact opT_store entTy _ _ rfl rfl rfl rfl hS RN.out zeroL_len R1.out fun f1 f2 => ⟨⟨f2, f1⟩, rfl⟩
    simp only [Act.put]
    apply wpT_eq
    · intro W hW hs
      have KX := (KB.out.gr (Gr.refl w2).drew).ch hW BN.out
      obtain ⟨d0, d1, d2, d3, d4, d5, d6, d7, d8, d9, d10, d11⟩ := CE.out W b KX
      clear KX
      unfold opT
      go_simp
      first | exact resT_eq_mk _ _ _ | exact ⟨Gr.refl _, rfl⟩
    simp only [Act.put, pt1, pt2, pt3]
    apply wpT_nil
    intro w3 c3 k3 hsA
    have RR := Lib.hid (RET.out w3 (Below.trans (GW.out.trans (Gr.refl w2).drew) (c3.below (GW.out.trans (Gr.refl w2).drew).size (fun k hk => by have : k = w1.heap.size := hk; have := BG.out; omega))))
    have K3 : Hid (CellsAt w3 w1.heap.size R 35) := Lib.hid k3
    clear k3 c3 hsA
    go_wp2
    exact bodyPost_ret (v := .tuple #[.agg R.toArray, .bool (false)]) (results_row2 (fn := Tryz.f35) entTy rfl _ _ rfl K3.out RN.out) rfl RR.out
  | true =>
    have HM := Lib.hid hms
    rw [hms] at RET
    clear hms
    apply wp_region_draw_turn (fun k => k = w1.heap.size) (fun k W => CellsAt W w1.heap.size (stP zeroL R k) 35) (.eq _ :: .eq _ :: .eq _ :: .eq _ :: .eq _ :: .eq _ :: .eq _ :: .eq _ :: .eq _ :: .eq _ :: .eq _ :: .eq _ :: .eq _ :: .eq _ :: .eq _ :: .eq _ :: .eq _ :: .eq _ :: .eq _ :: .useEq _ :: .eq _ :: []) (by kernel_rfl) (by kernel_rfl) (by kernel_rfl) trivial (fun k W W' hg h => CellsAt.gr h hg) (K2.out.gr (Gr.refl w2).drew)
    iterate 10
     apply wpT_eq
     · intro W hW hs
       have KX := (KB.out.gr (Gr.refl w2).drew).ch hW BN.out
       obtain ⟨d0, d1, d2, d3, d4, d5, d6, d7, d8, d9, d10, d11⟩ := CE.out W b KX
       clear KX
       unfold opT
       go_simp
       first | exact resT_eq_mk _ _ _ | exact ⟨Gr.refl _, rfl⟩
     simp only [Act.put, pt1, pt2, pt3]
    apply wpT_eq
    · intro W hW hs
      exact opT_build _ _ rfl rfl (by simp only [List.map_toArray, List.map_cons, List.map_nil]; exact BU.out) ⟨Gr.refl _, rfl⟩
    simp only [Act.put, pt1, pt2, pt3]
    iterate 2
     apply wpT_eq
     · intro W hW hs
       have KX := (KB.out.gr (Gr.refl w2).drew).ch hW BN.out
       obtain ⟨d0, d1, d2, d3, d4, d5, d6, d7, d8, d9, d10, d11⟩ := CE.out W b KX
       clear KX
       unfold opT
       go_simp
       first | exact resT_eq_mk _ _ _ | exact ⟨Gr.refl _, rfl⟩
     simp only [Act.put, pt1, pt2, pt3]
    apply wpT_eq
    · intro W hW hs
      have KX := (KB.out.gr (Gr.refl w2).drew).ch hW BN.out
      obtain ⟨d0, d1, d2, d3, d4, d5, d6, d7, d8, d9, d10, d11⟩ := CE.out W b KX
      clear KX
      unfold opT
      go_simp
      refine resT_call (((show Calls _ _ _ _ (RetBool W true) from HM.out ▸ dmaysess_any W x.osite x.on)).mono ?_)
      rintro e W2 ⟨rfl, g2⟩
      exact ⟨_, rfl, g2, rfl⟩
    simp only [Act.put, pt1, pt2, pt3]
    iterate 3
     apply wpT_eq
     · intro W hW hs
       have KX := (KB.out.gr (Gr.refl w2).drew).ch hW BN.out
       obtain ⟨d0, d1, d2, d3, d4, d5, d6, d7, d8, d9, d10, d11⟩ := CE.out W b KX
       clear KX
       unfold opT
       go_simp
       first | exact resT_eq_mk _ _ _ | exact ⟨Gr.refl _, rfl⟩
     simp only [Act.put, pt1, pt2, pt3]
    apply wpT_eq
    · intro W hW hs
      have KX := (KB.out.gr (Gr.refl w2).drew).ch hW BN.out
      obtain ⟨d0, d1, d2, d3, d4, d5, d6, d7, d8, d9, d10, d11⟩ := CE.out W b KX
      clear KX
      unfold opT
      go_simp
      refine resT_call ((dmayop_any W x.op _ _ (PX.out W hW).1 big.parts).mono ?_)
      rintro e W2 ⟨rfl, g2⟩
      exact ⟨_, rfl, g2, rfl⟩
    simp only [Act.put, pt1, pt2, pt3]
    apply wpT_eq
    · intro W hW hs
      have KX := (KB.out.gr (Gr.refl w2).drew).ch hW BN.out
      obtain ⟨d0, d1, d2, d3, d4, d5, d6, d7, d8, d9, d10, d11⟩ := CE.out W b KX
      clear KX
      unfold opT
      go_simp
      first | exact resT_eq_mk _ _ _ | exact ⟨Gr.refl _, rfl⟩
    simp only [Act.put, pt1, pt2, pt3]
    apply wpT_useEq
    · intro W hW hS hs
      exact opT_store entTy _ _ rfl rfl rfl rfl hS RN.out zeroL_len R1.out fun f1 f2 => ⟨⟨f2, f1⟩, rfl⟩
    simp only [Act.put]
    apply wpT_eq
    · intro W hW hs
      have KX := (KB.out.gr (Gr.refl w2).drew).ch hW BN.out
      obtain ⟨d0, d1, d2, d3, d4, d5, d6, d7, d8, d9, d10, d11⟩ := CE.out W b KX
      clear KX
      unfold opT
      go_simp
      first | exact resT_eq_mk _ _ _ | exact ⟨Gr.refl _, rfl⟩
    simp only [Act.put, pt1, pt2, pt3]
    apply wpT_nil
    intro w3 c3 k3 hsA
    have RR := Lib.hid (RET.out w3 (Below.trans (GW.out.trans (Gr.refl w2).drew) (c3.below (GW.out.trans (Gr.refl w2).drew).size (fun k hk => by have : k = w1.heap.size := hk; have := BG.out; omega))))
    have K3 : Hid (CellsAt w3 w1.heap.size R 35) := Lib.hid k3
    clear k3 c3 hsA
    go_wp2
    exact bodyPost_ret (v := .tuple #[.agg R.toArray, .bool (mayOp x.op)]) (results_row2 (fn := Tryz.f35) entTy rfl _ _ rfl K3.out RN.out) rfl RR.out
/-- Of the document: plain. -/
theorem dplain_any (w : World) (x : EntD) (q : EntV) (hp : EntP Any w x q) (ok : EntOk x) (big : EntShort x) : Calls Tryz.prog 35 #[.agg (entCells x q).toArray] w (RetPlain w x) := by
  cases hk : kindK x.kind with
  | false => exact dplain_none w x q hk hp ok big
  | true =>
    unfold kindK at hk
    simp only [Bool.and_eq_true, decide_eq_true_eq] at hk
    rcases (by omega : x.kind = 1 ∨ x.kind = 2 ∨ x.kind = 3 ∨ x.kind = 4 ∨ x.kind = 5 ∨ x.kind = 6 ∨ x.kind = 7 ∨ x.kind = 8 ∨ x.kind = 9) with h | h | h | h | h | h | h | h | h
    · exact dplain_1 w x q h hp ok big
    · exact dplain_2 w x q h hp ok big
    · exact dplain_3 w x q h hp ok big
    · exact dplain_4 w x q h hp ok big
    · exact dplain_5 w x q h hp ok big
    · exact dplain_6 w x q h hp ok big
    · exact dplain_7 w x q h hp ok big
    · exact dplain_8 w x q h hp ok big
    · exact dplain_9 w x q h hp ok big
end Go.Proofs.YtiemgmbjhllmbaaGreat
