/-
  The document's plain of messages of package wan.
-/
import Derived.Test.YtgilijkmmcpfjaaZWHeavy
set_option linter.unusedVariables false
set_option linter.unusedSimpArgs false
set_option maxRecDepth 100000
namespace Go.Proofs.Ytgilijkmmcpfjaa
open Go.RowKit
def plainW (x : WanD) : WanD :=
  if x.kind = 1 then ⟨x.kind, x.site, x.vector, [], 0, 0, []⟩ else if x.kind = 2 then ⟨x.kind, x.site, [], x.items, 0, 0, []⟩ else if x.kind = 3 ∨ x.kind = 6 then ⟨x.kind, x.site, [], [], x.region, x.epoch, x.frontier⟩ else if x.kind = 4 then ⟨x.kind, x.site, [], [], x.region, x.epoch, []⟩ else if x.kind = 5 then ⟨x.kind, x.site, [], [], x.region, 0, []⟩ else zeroW
def RetPlainW (w : World) (x : WanD) (e : Ending) (w' : World) : Prop := ∃ vv iv fv, e = .returned (.tuple #[.agg (wanCells (plainW x) vv iv fv).toArray, .bool (kindW x.kind)]) ∧ WanP Any w' (plainW x) vv iv fv ∧ Gr w w'
theorem retPlainW_mk {w W : World} {x y : WanD} (a b c : Value) (R : List Value) (z : Bool) (h1 : plainW x = y) (h2 : kindW x.kind = z) (hR : R = wanCells y a b c) (hp : WanP Any W y a b c) (g : Gr w W) : RetPlainW w x (.returned (.tuple #[.agg R.toArray, .bool z])) W :=
  ⟨a, b, c, by rw [h1, h2, hR], by rw [h1]; exact hp, g⟩
theorem bw012 (k s r e : Int) (va ia fa : Option Addr) (nv vc n ic nf fc : Nat) : Try.prog.built 26 [(0, .int .u8 k), (1, .int .i64 s), (2, .slice va nv vc)] = some #[.int .u8 k, .int .i64 s, .slice va nv vc, .slice none 0 0, .int .i64 0, .int .u64 0, .slice none 0 0] := by kernel_rfl
theorem bw013 (k s r e : Int) (va ia fa : Option Addr) (nv vc n ic nf fc : Nat) : Try.prog.built 26 [(0, .int .u8 k), (1, .int .i64 s), (3, .slice ia n ic)] = some #[.int .u8 k, .int .i64 s, .slice none 0 0, .slice ia n ic, .int .i64 0, .int .u64 0, .slice none 0 0] := by kernel_rfl
theorem bw01456 (k s r e : Int) (va ia fa : Option Addr) (nv vc n ic nf fc : Nat) : Try.prog.built 26 [(0, .int .u8 k), (1, .int .i64 s), (4, .int .i64 r), (5, .int .u64 e), (6, .slice fa nf fc)] = some #[.int .u8 k, .int .i64 s, .slice none 0 0, .slice none 0 0, .int .i64 r, .int .u64 e, .slice fa nf fc] := by kernel_rfl
theorem bw0145 (k s r e : Int) (va ia fa : Option Addr) (nv vc n ic nf fc : Nat) : Try.prog.built 26 [(0, .int .u8 k), (1, .int .i64 s), (4, .int .i64 r), (5, .int .u64 e)] = some #[.int .u8 k, .int .i64 s, .slice none 0 0, .slice none 0 0, .int .i64 r, .int .u64 e, .slice none 0 0] := by kernel_rfl
theorem bw014 (k s r e : Int) (va ia fa : Option Addr) (nv vc n ic nf fc : Nat) : Try.prog.built 26 [(0, .int .u8 k), (1, .int .i64 s), (4, .int .i64 r)] = some #[.int .u8 k, .int .i64 s, .slice none 0 0, .slice none 0 0, .int .i64 r, .int .u64 0, .slice none 0 0] := by kernel_rfl
set_option maxHeartbeats 2000000 in
theorem plain_1 (w : World) (x : WanD) (vv iv fv : Value) (hk : x.kind = 1) (hp : WanP Any w x vv iv fv) : Calls Try.prog 44 #[.agg (wanCells x vv iv fv).toArray] w (RetPlainW w x) := by
  have hp0 := hp
  obtain ⟨p1, p2, p3⟩ := hp
  obtain ⟨va, nv, vc, rfl⟩ : ∃ a n c, vv = .slice a n c := by obtain ⟨a, c, e, _⟩ := Sl.numsAt' p1.1; exact ⟨a, _, c, e⟩
  obtain ⟨fa, nf, fc, rfl⟩ : ∃ a n c, fv = .slice a n c := by obtain ⟨a, c, e, _⟩ := Sl.numsAt' p3.1; exact ⟨a, _, c, e⟩
  obtain ⟨ia, n, ic, rfl⟩ : ∃ a n c, iv = .slice a n c := by obtain ⟨a, c, e⟩ := p2.shape; exact ⟨a, _, c, e⟩
  obtain ⟨E, hE⟩ : ∃ E, E = wanCells x (.slice va nv vc) (.slice ia n ic) (.slice fa nf fc) := ⟨_, rfl⟩
  have CE : Hid (∀ W b, CellsAt W b E 26 → W.cell? ⟨b, 0, none⟩ = some (.int .u8 1) ∧ W.cell? ⟨b, 1, none⟩ = some (.int .i64 x.site) ∧ W.cell? ⟨b, 2, none⟩ = some (.slice va nv vc)) := Lib.hid fun W b h => by
    have h0 : W.cell? ⟨b, 0, none⟩ = some (.int .u8 (x.kind : Int)) := by subst hE; exact h.cell 0
    rw [hk] at h0
    exact ⟨h0, by subst hE; exact h.cell 1, by subst hE; exact h.cell 2⟩
  obtain ⟨R, hR⟩ : ∃ R : List Value, R = [.int .u8 1, .int .i64 x.site, .slice va nv vc, .slice none 0 0, .int .i64 0, .int .u64 0, .slice none 0 0] := ⟨_, rfl⟩
  have PX : plainW x = ⟨1, x.site, x.vector, [], 0, 0, []⟩ := by unfold plainW; rw [hk]; rfl
  have RET : Hid (∀ W, Gr w W → RetPlainW w x (.returned (.tuple #[.agg R.toArray, .bool true])) W) := Lib.hid fun W g => retPlainW_mk (.slice va nv vc) (.slice none 0 0) (.slice none 0 0) R true PX (by rw [hk]; rfl) (by rw [hR]; rfl) (by have hp0 := hp0.gr g; exact ⟨hp0.1, ItemsP.nil _ _ _ _, SlP.nil _ _ _ _⟩) g
  have RN : Hid (R.length = 7) := Lib.hid (by rw [hR]; rfl)
  have R1 : Hid (oneAll R) := Lib.hid (by rw [hR]; rfl)
  rw [← hE]
  have BU : Hid (Try.prog.built 26 [(0, .int .u8 1), (1, .int .i64 x.site), (2, .slice va nv vc)] = some R.toArray) := Lib.hid (by rw [hR]; exact bw012 1 x.site x.region (x.epoch : Int) va ia fa nv vc n ic nf fc)
  clear hE PX hR hp0 p1 p2 p3 hk
  go_enter Try.func44, Try.ntmps44
  go_wp2_with (first | (refine wpList_boxE _ rfl rfl rfl ?_) | fail)
  intro w1 K1 G1 n1
  obtain ⟨b, hb⟩ : ∃ b, b = w.heap.size := ⟨_, rfl⟩
  rw [← hb]
  rw [← hb] at K1
  obtain ⟨w2, hw2⟩ : ∃ w2, w2 = w1.alloc (.cells #[.int .u8 0, .int .i64 0, .slice none 0 0, .slice none 0 0, .int .i64 0, .int .u64 0, .slice none 0 0] 26) := ⟨_, rfl⟩
  have g2 : Gr w1 w2 := by rw [hw2]; exact (Gr.refl w1).alloc _
  have k2 : CellsAt w2 w1.heap.size zeroWL 26 := by rw [hw2]; exact CellsAt.new _ _ _
  have HW : w1.alloc (.cells #[.int .u8 0, .int .i64 0, .slice none 0 0, .slice none 0 0, .int .i64 0, .int .u64 0, .slice none 0 0] 26) = w2 := hw2.symm
  have KB := Lib.hid (K1.gr g2)
  have K2 := Lib.hid k2
  have GW := Lib.hid (G1.trans g2)
  have BG : Hid (w.heap.size ≤ w1.heap.size) := Lib.hid G1.size
  obtain ⟨x0, x1, x2⟩ := CE.out w2 b KB.out
  clear K1 G1 n1 g2 k2 hb hw2
  go_wp2_with (first | (refine wpList_buildTo rfl 26 _ rfl (some 14) rfl R.toArray (by simp only [List.map_toArray, List.map_cons, List.map_nil]; exact BU.out) ?_) | (refine wpList_storeE wanTy _ _ rfl rfl rfl rfl K2.out RN.out rfl R1.out ?_) | fail)
  intro w3 k3 c3
  have RR := Lib.hid (RET.out w3 (Below.trans GW.out (c3.below GW.out.size (fun k hk => by have : k = w1.heap.size := hk; have := BG.out; omega))))
  have K3 := Lib.hid k3
  clear k3 c3
  go_wp2
  exact bodyPost_ret (v := .tuple #[.agg R.toArray, .bool true]) (results_row2 (fn := Try.f44) wanTy rfl _ _ rfl K3.out RN.out) rfl RR.out
set_option maxHeartbeats 2000000 in
theorem plain_2 (w : World) (x : WanD) (vv iv fv : Value) (hk : x.kind = 2) (hp : WanP Any w x vv iv fv) : Calls Try.prog 44 #[.agg (wanCells x vv iv fv).toArray] w (RetPlainW w x) := by
  have hp0 := hp
  obtain ⟨p1, p2, p3⟩ := hp
  obtain ⟨va, nv, vc, rfl⟩ : ∃ a n c, vv = .slice a n c := by obtain ⟨a, c, e, _⟩ := Sl.numsAt' p1.1; exact ⟨a, _, c, e⟩
  obtain ⟨fa, nf, fc, rfl⟩ : ∃ a n c, fv = .slice a n c := by obtain ⟨a, c, e, _⟩ := Sl.numsAt' p3.1; exact ⟨a, _, c, e⟩
  obtain ⟨ia, n, ic, rfl⟩ : ∃ a n c, iv = .slice a n c := by obtain ⟨a, c, e⟩ := p2.shape; exact ⟨a, _, c, e⟩
  obtain ⟨E, hE⟩ : ∃ E, E = wanCells x (.slice va nv vc) (.slice ia n ic) (.slice fa nf fc) := ⟨_, rfl⟩
  have CE : Hid (∀ W b, CellsAt W b E 26 → W.cell? ⟨b, 0, none⟩ = some (.int .u8 2) ∧ W.cell? ⟨b, 1, none⟩ = some (.int .i64 x.site) ∧ W.cell? ⟨b, 3, none⟩ = some (.slice ia n ic)) := Lib.hid fun W b h => by
    have h0 : W.cell? ⟨b, 0, none⟩ = some (.int .u8 (x.kind : Int)) := by subst hE; exact h.cell 0
    rw [hk] at h0
    exact ⟨h0, by subst hE; exact h.cell 1, by subst hE; exact h.cell 3⟩
  obtain ⟨R, hR⟩ : ∃ R : List Value, R = [.int .u8 2, .int .i64 x.site, .slice none 0 0, .slice ia n ic, .int .i64 0, .int .u64 0, .slice none 0 0] := ⟨_, rfl⟩
  have PX : plainW x = ⟨2, x.site, [], x.items, 0, 0, []⟩ := by unfold plainW; rw [hk]; rfl
  have RET : Hid (∀ W, Gr w W → RetPlainW w x (.returned (.tuple #[.agg R.toArray, .bool true])) W) := Lib.hid fun W g => retPlainW_mk (.slice none 0 0) (.slice ia n ic) (.slice none 0 0) R true PX (by rw [hk]; rfl) (by rw [hR]; rfl) (by have hp0 := hp0.gr g; exact ⟨SlP.nil _ _ _ _, hp0.2.1, SlP.nil _ _ _ _⟩) g
  have RN : Hid (R.length = 7) := Lib.hid (by rw [hR]; rfl)
  have R1 : Hid (oneAll R) := Lib.hid (by rw [hR]; rfl)
  rw [← hE]
  have BU : Hid (Try.prog.built 26 [(0, .int .u8 2), (1, .int .i64 x.site), (3, .slice ia n ic)] = some R.toArray) := Lib.hid (by rw [hR]; exact bw013 2 x.site x.region (x.epoch : Int) va ia fa nv vc n ic nf fc)
  clear hE PX hR hp0 p1 p2 p3 hk
  go_enter Try.func44, Try.ntmps44
  go_wp2_with (first | (refine wpList_boxE _ rfl rfl rfl ?_) | fail)
  intro w1 K1 G1 n1
  obtain ⟨b, hb⟩ : ∃ b, b = w.heap.size := ⟨_, rfl⟩
  rw [← hb]
  rw [← hb] at K1
  obtain ⟨w2, hw2⟩ : ∃ w2, w2 = w1.alloc (.cells #[.int .u8 0, .int .i64 0, .slice none 0 0, .slice none 0 0, .int .i64 0, .int .u64 0, .slice none 0 0] 26) := ⟨_, rfl⟩
  have g2 : Gr w1 w2 := by rw [hw2]; exact (Gr.refl w1).alloc _
  have k2 : CellsAt w2 w1.heap.size zeroWL 26 := by rw [hw2]; exact CellsAt.new _ _ _
  have HW : w1.alloc (.cells #[.int .u8 0, .int .i64 0, .slice none 0 0, .slice none 0 0, .int .i64 0, .int .u64 0, .slice none 0 0] 26) = w2 := hw2.symm
  have KB := Lib.hid (K1.gr g2)
  have K2 := Lib.hid k2
  have GW := Lib.hid (G1.trans g2)
  have BG : Hid (w.heap.size ≤ w1.heap.size) := Lib.hid G1.size
  obtain ⟨x0, x1, x3⟩ := CE.out w2 b KB.out
  clear K1 G1 n1 g2 k2 hb hw2
  go_wp2_with (first | (refine wpList_buildTo rfl 26 _ rfl (some 23) rfl R.toArray (by simp only [List.map_toArray, List.map_cons, List.map_nil]; exact BU.out) ?_) | (refine wpList_storeE wanTy _ _ rfl rfl rfl rfl K2.out RN.out rfl R1.out ?_) | fail)
  intro w3 k3 c3
  have RR := Lib.hid (RET.out w3 (Below.trans GW.out (c3.below GW.out.size (fun k hk => by have : k = w1.heap.size := hk; have := BG.out; omega))))
  have K3 := Lib.hid k3
  clear k3 c3
  go_wp2
  exact bodyPost_ret (v := .tuple #[.agg R.toArray, .bool true]) (results_row2 (fn := Try.f44) wanTy rfl _ _ rfl K3.out RN.out) rfl RR.out
set_option maxHeartbeats 2000000 in
theorem plain_3 (w : World) (x : WanD) (vv iv fv : Value) (hk : x.kind = 3) (hp : WanP Any w x vv iv fv) : Calls Try.prog 44 #[.agg (wanCells x vv iv fv).toArray] w (RetPlainW w x) := by
  have hp0 := hp
  obtain ⟨p1, p2, p3⟩ := hp
  obtain ⟨va, nv, vc, rfl⟩ : ∃ a n c, vv = .slice a n c := by obtain ⟨a, c, e, _⟩ := Sl.numsAt' p1.1; exact ⟨a, _, c, e⟩
  obtain ⟨fa, nf, fc, rfl⟩ : ∃ a n c, fv = .slice a n c := by obtain ⟨a, c, e, _⟩ := Sl.numsAt' p3.1; exact ⟨a, _, c, e⟩
  obtain ⟨ia, n, ic, rfl⟩ : ∃ a n c, iv = .slice a n c := by obtain ⟨a, c, e⟩ := p2.shape; exact ⟨a, _, c, e⟩
  obtain ⟨E, hE⟩ : ∃ E, E = wanCells x (.slice va nv vc) (.slice ia n ic) (.slice fa nf fc) := ⟨_, rfl⟩
  have CE : Hid (∀ W b, CellsAt W b E 26 → W.cell? ⟨b, 0, none⟩ = some (.int .u8 3) ∧ W.cell? ⟨b, 1, none⟩ = some (.int .i64 x.site) ∧ W.cell? ⟨b, 4, none⟩ = some (.int .i64 x.region) ∧ W.cell? ⟨b, 5, none⟩ = some (.int .u64 (x.epoch : Int)) ∧ W.cell? ⟨b, 6, none⟩ = some (.slice fa nf fc)) := Lib.hid fun W b h => by
    have h0 : W.cell? ⟨b, 0, none⟩ = some (.int .u8 (x.kind : Int)) := by subst hE; exact h.cell 0
    rw [hk] at h0
    exact ⟨h0, by subst hE; exact h.cell 1, by subst hE; exact h.cell 4, by subst hE; exact h.cell 5, by subst hE; exact h.cell 6⟩
  obtain ⟨R, hR⟩ : ∃ R : List Value, R = [.int .u8 3, .int .i64 x.site, .slice none 0 0, .slice none 0 0, .int .i64 x.region, .int .u64 (x.epoch : Int), .slice fa nf fc] := ⟨_, rfl⟩
  have PX : plainW x = ⟨3, x.site, [], [], x.region, x.epoch, x.frontier⟩ := by unfold plainW; rw [hk]; rfl
  have RET : Hid (∀ W, Gr w W → RetPlainW w x (.returned (.tuple #[.agg R.toArray, .bool true])) W) := Lib.hid fun W g => retPlainW_mk (.slice none 0 0) (.slice none 0 0) (.slice fa nf fc) R true PX (by rw [hk]; rfl) (by rw [hR]; rfl) (by have hp0 := hp0.gr g; exact ⟨SlP.nil _ _ _ _, ItemsP.nil _ _ _ _, hp0.2.2⟩) g
  have RN : Hid (R.length = 7) := Lib.hid (by rw [hR]; rfl)
  have R1 : Hid (oneAll R) := Lib.hid (by rw [hR]; rfl)
  rw [← hE]
  have BU : Hid (Try.prog.built 26 [(0, .int .u8 3), (1, .int .i64 x.site), (4, .int .i64 x.region), (5, .int .u64 (x.epoch : Int)), (6, .slice fa nf fc)] = some R.toArray) := Lib.hid (by rw [hR]; exact bw01456 3 x.site x.region (x.epoch : Int) va ia fa nv vc n ic nf fc)
  clear hE PX hR hp0 p1 p2 p3 hk
  go_enter Try.func44, Try.ntmps44
  go_wp2_with (first | (refine wpList_boxE _ rfl rfl rfl ?_) | fail)
  intro w1 K1 G1 n1
  obtain ⟨b, hb⟩ : ∃ b, b = w.heap.size := ⟨_, rfl⟩
  rw [← hb]
  rw [← hb] at K1
  obtain ⟨w2, hw2⟩ : ∃ w2, w2 = w1.alloc (.cells #[.int .u8 0, .int .i64 0, .slice none 0 0, .slice none 0 0, .int .i64 0, .int .u64 0, .slice none 0 0] 26) := ⟨_, rfl⟩
  have g2 : Gr w1 w2 := by rw [hw2]; exact (Gr.refl w1).alloc _
  have k2 : CellsAt w2 w1.heap.size zeroWL 26 := by rw [hw2]; exact CellsAt.new _ _ _
  have HW : w1.alloc (.cells #[.int .u8 0, .int .i64 0, .slice none 0 0, .slice none 0 0, .int .i64 0, .int .u64 0, .slice none 0 0] 26) = w2 := hw2.symm
  have KB := Lib.hid (K1.gr g2)
  have K2 := Lib.hid k2
  have GW := Lib.hid (G1.trans g2)
  have BG : Hid (w.heap.size ≤ w1.heap.size) := Lib.hid G1.size
  obtain ⟨x0, x1, x4, x5, x6⟩ := CE.out w2 b KB.out
  clear K1 G1 n1 g2 k2 hb hw2
  go_wp2_with (first | (refine wpList_buildTo rfl 26 _ rfl (some 37) rfl R.toArray (by simp only [List.map_toArray, List.map_cons, List.map_nil]; exact BU.out) ?_) | (refine wpList_storeE wanTy _ _ rfl rfl rfl rfl K2.out RN.out rfl R1.out ?_) | fail)
  intro w3 k3 c3
  have RR := Lib.hid (RET.out w3 (Below.trans GW.out (c3.below GW.out.size (fun k hk => by have : k = w1.heap.size := hk; have := BG.out; omega))))
  have K3 := Lib.hid k3
  clear k3 c3
  go_wp2
  exact bodyPost_ret (v := .tuple #[.agg R.toArray, .bool true]) (results_row2 (fn := Try.f44) wanTy rfl _ _ rfl K3.out RN.out) rfl RR.out
set_option maxHeartbeats 2000000 in
theorem plain_6 (w : World) (x : WanD) (vv iv fv : Value) (hk : x.kind = 6) (hp : WanP Any w x vv iv fv) : Calls Try.prog 44 #[.agg (wanCells x vv iv fv).toArray] w (RetPlainW w x) := by
  have hp0 := hp
  obtain ⟨p1, p2, p3⟩ := hp
  obtain ⟨va, nv, vc, rfl⟩ : ∃ a n c, vv = .slice a n c := by obtain ⟨a, c, e, _⟩ := Sl.numsAt' p1.1; exact ⟨a, _, c, e⟩
  obtain ⟨fa, nf, fc, rfl⟩ : ∃ a n c, fv = .slice a n c := by obtain ⟨a, c, e, _⟩ := Sl.numsAt' p3.1; exact ⟨a, _, c, e⟩
  obtain ⟨ia, n, ic, rfl⟩ : ∃ a n c, iv = .slice a n c := by obtain ⟨a, c, e⟩ := p2.shape; exact ⟨a, _, c, e⟩
  obtain ⟨E, hE⟩ : ∃ E, E = wanCells x (.slice va nv vc) (.slice ia n ic) (.slice fa nf fc) := ⟨_, rfl⟩
  have CE : Hid (∀ W b, CellsAt W b E 26 → W.cell? ⟨b, 0, none⟩ = some (.int .u8 6) ∧ W.cell? ⟨b, 1, none⟩ = some (.int .i64 x.site) ∧ W.cell? ⟨b, 4, none⟩ = some (.int .i64 x.region) ∧ W.cell? ⟨b, 5, none⟩ = some (.int .u64 (x.epoch : Int)) ∧ W.cell? ⟨b, 6, none⟩ = some (.slice fa nf fc)) := Lib.hid fun W b h => by
    have h0 : W.cell? ⟨b, 0, none⟩ = some (.int .u8 (x.kind : Int)) := by subst hE; exact h.cell 0
    rw [hk] at h0
    exact ⟨h0, by subst hE; exact h.cell 1, by subst hE; exact h.cell 4, by subst hE; exact h.cell 5, by subst hE; exact h.cell 6⟩
  obtain ⟨R, hR⟩ : ∃ R : List Value, R = [.int .u8 6, .int .i64 x.site, .slice none 0 0, .slice none 0 0, .int .i64 x.region, .int .u64 (x.epoch : Int), .slice fa nf fc] := ⟨_, rfl⟩
  have PX : plainW x = ⟨6, x.site, [], [], x.region, x.epoch, x.frontier⟩ := by unfold plainW; rw [hk]; rfl
  have RET : Hid (∀ W, Gr w W → RetPlainW w x (.returned (.tuple #[.agg R.toArray, .bool true])) W) := Lib.hid fun W g => retPlainW_mk (.slice none 0 0) (.slice none 0 0) (.slice fa nf fc) R true PX (by rw [hk]; rfl) (by rw [hR]; rfl) (by have hp0 := hp0.gr g; exact ⟨SlP.nil _ _ _ _, ItemsP.nil _ _ _ _, hp0.2.2⟩) g
  have RN : Hid (R.length = 7) := Lib.hid (by rw [hR]; rfl)
  have R1 : Hid (oneAll R) := Lib.hid (by rw [hR]; rfl)
  rw [← hE]
  have BU : Hid (Try.prog.built 26 [(0, .int .u8 6), (1, .int .i64 x.site), (4, .int .i64 x.region), (5, .int .u64 (x.epoch : Int)), (6, .slice fa nf fc)] = some R.toArray) := Lib.hid (by rw [hR]; exact bw01456 6 x.site x.region (x.epoch : Int) va ia fa nv vc n ic nf fc)
  clear hE PX hR hp0 p1 p2 p3 hk
  go_enter Try.func44, Try.ntmps44
  go_wp2_with (first | (refine wpList_boxE _ rfl rfl rfl ?_) | fail)
  intro w1 K1 G1 n1
  obtain ⟨b, hb⟩ : ∃ b, b = w.heap.size := ⟨_, rfl⟩
  rw [← hb]
  rw [← hb] at K1
  obtain ⟨w2, hw2⟩ : ∃ w2, w2 = w1.alloc (.cells #[.int .u8 0, .int .i64 0, .slice none 0 0, .slice none 0 0, .int .i64 0, .int .u64 0, .slice none 0 0] 26) := ⟨_, rfl⟩
  have g2 : Gr w1 w2 := by rw [hw2]; exact (Gr.refl w1).alloc _
  have k2 : CellsAt w2 w1.heap.size zeroWL 26 := by rw [hw2]; exact CellsAt.new _ _ _
  have HW : w1.alloc (.cells #[.int .u8 0, .int .i64 0, .slice none 0 0, .slice none 0 0, .int .i64 0, .int .u64 0, .slice none 0 0] 26) = w2 := hw2.symm
  have KB := Lib.hid (K1.gr g2)
  have K2 := Lib.hid k2
  have GW := Lib.hid (G1.trans g2)
  have BG : Hid (w.heap.size ≤ w1.heap.size) := Lib.hid G1.size
  obtain ⟨x0, x1, x4, x5, x6⟩ := CE.out w2 b KB.out
  clear K1 G1 n1 g2 k2 hb hw2
  go_wp2_with (first | (refine wpList_buildTo rfl 26 _ rfl (some 37) rfl R.toArray (by simp only [List.map_toArray, List.map_cons, List.map_nil]; exact BU.out) ?_) | (refine wpList_storeE wanTy _ _ rfl rfl rfl rfl K2.out RN.out rfl R1.out ?_) | fail)
  intro w3 k3 c3
  have RR := Lib.hid (RET.out w3 (Below.trans GW.out (c3.below GW.out.size (fun k hk => by have : k = w1.heap.size := hk; have := BG.out; omega))))
  have K3 := Lib.hid k3
  clear k3 c3
  go_wp2
  exact bodyPost_ret (v := .tuple #[.agg R.toArray, .bool true]) (results_row2 (fn := Try.f44) wanTy rfl _ _ rfl K3.out RN.out) rfl RR.out
set_option maxHeartbeats 2000000 in
theorem plain_4 (w : World) (x : WanD) (vv iv fv : Value) (hk : x.kind = 4) (hp : WanP Any w x vv iv fv) : Calls Try.prog 44 #[.agg (wanCells x vv iv fv).toArray] w (RetPlainW w x) := by
  have hp0 := hp
  obtain ⟨p1, p2, p3⟩ := hp
  obtain ⟨va, nv, vc, rfl⟩ : ∃ a n c, vv = .slice a n c := by obtain ⟨a, c, e, _⟩ := Sl.numsAt' p1.1; exact ⟨a, _, c, e⟩
  obtain ⟨fa, nf, fc, rfl⟩ : ∃ a n c, fv = .slice a n c := by obtain ⟨a, c, e, _⟩ := Sl.numsAt' p3.1; exact ⟨a, _, c, e⟩
  obtain ⟨ia, n, ic, rfl⟩ : ∃ a n c, iv = .slice a n c := by obtain ⟨a, c, e⟩ := p2.shape; exact ⟨a, _, c, e⟩
  obtain ⟨E, hE⟩ : ∃ E, E = wanCells x (.slice va nv vc) (.slice ia n ic) (.slice fa nf fc) := ⟨_, rfl⟩
  have CE : Hid (∀ W b, CellsAt W b E 26 → W.cell? ⟨b, 0, none⟩ = some (.int .u8 4) ∧ W.cell? ⟨b, 1, none⟩ = some (.int .i64 x.site) ∧ W.cell? ⟨b, 4, none⟩ = some (.int .i64 x.region) ∧ W.cell? ⟨b, 5, none⟩ = some (.int .u64 (x.epoch : Int))) := Lib.hid fun W b h => by
    have h0 : W.cell? ⟨b, 0, none⟩ = some (.int .u8 (x.kind : Int)) := by subst hE; exact h.cell 0
    rw [hk] at h0
    exact ⟨h0, by subst hE; exact h.cell 1, by subst hE; exact h.cell 4, by subst hE; exact h.cell 5⟩
  obtain ⟨R, hR⟩ : ∃ R : List Value, R = [.int .u8 4, .int .i64 x.site, .slice none 0 0, .slice none 0 0, .int .i64 x.region, .int .u64 (x.epoch : Int), .slice none 0 0] := ⟨_, rfl⟩
  have PX : plainW x = ⟨4, x.site, [], [], x.region, x.epoch, []⟩ := by unfold plainW; rw [hk]; rfl
  have RET : Hid (∀ W, Gr w W → RetPlainW w x (.returned (.tuple #[.agg R.toArray, .bool true])) W) := Lib.hid fun W g => retPlainW_mk (.slice none 0 0) (.slice none 0 0) (.slice none 0 0) R true PX (by rw [hk]; rfl) (by rw [hR]; rfl) (by have hp0 := hp0.gr g; exact ⟨SlP.nil _ _ _ _, ItemsP.nil _ _ _ _, SlP.nil _ _ _ _⟩) g
  have RN : Hid (R.length = 7) := Lib.hid (by rw [hR]; rfl)
  have R1 : Hid (oneAll R) := Lib.hid (by rw [hR]; rfl)
  rw [← hE]
  have BU : Hid (Try.prog.built 26 [(0, .int .u8 4), (1, .int .i64 x.site), (4, .int .i64 x.region), (5, .int .u64 (x.epoch : Int))] = some R.toArray) := Lib.hid (by rw [hR]; exact bw0145 4 x.site x.region (x.epoch : Int) va ia fa nv vc n ic nf fc)
  clear hE PX hR hp0 p1 p2 p3 hk
  go_enter Try.func44, Try.ntmps44
  go_wp2_with (first | (refine wpList_boxE _ rfl rfl rfl ?_) | fail)
  intro w1 K1 G1 n1
  obtain ⟨b, hb⟩ : ∃ b, b = w.heap.size := ⟨_, rfl⟩
  rw [← hb]
  rw [← hb] at K1
  obtain ⟨w2, hw2⟩ : ∃ w2, w2 = w1.alloc (.cells #[.int .u8 0, .int .i64 0, .slice none 0 0, .slice none 0 0, .int .i64 0, .int .u64 0, .slice none 0 0] 26) := ⟨_, rfl⟩
  have g2 : Gr w1 w2 := by rw [hw2]; exact (Gr.refl w1).alloc _
  have k2 : CellsAt w2 w1.heap.size zeroWL 26 := by rw [hw2]; exact CellsAt.new _ _ _
  have HW : w1.alloc (.cells #[.int .u8 0, .int .i64 0, .slice none 0 0, .slice none 0 0, .int .i64 0, .int .u64 0, .slice none 0 0] 26) = w2 := hw2.symm
  have KB := Lib.hid (K1.gr g2)
  have K2 := Lib.hid k2
  have GW := Lib.hid (G1.trans g2)
  have BG : Hid (w.heap.size ≤ w1.heap.size) := Lib.hid G1.size
  obtain ⟨x0, x1, x4, x5⟩ := CE.out w2 b KB.out
  clear K1 G1 n1 g2 k2 hb hw2
  go_wp2_with (first | (refine wpList_buildTo rfl 26 _ rfl (some 48) rfl R.toArray (by simp only [List.map_toArray, List.map_cons, List.map_nil]; exact BU.out) ?_) | (refine wpList_storeE wanTy _ _ rfl rfl rfl rfl K2.out RN.out rfl R1.out ?_) | fail)
  intro w3 k3 c3
  have RR := Lib.hid (RET.out w3 (Below.trans GW.out (c3.below GW.out.size (fun k hk => by have : k = w1.heap.size := hk; have := BG.out; omega))))
  have K3 := Lib.hid k3
  clear k3 c3
  go_wp2
  exact bodyPost_ret (v := .tuple #[.agg R.toArray, .bool true]) (results_row2 (fn := Try.f44) wanTy rfl _ _ rfl K3.out RN.out) rfl RR.out
set_option maxHeartbeats 2000000 in
theorem plain_5 (w : World) (x : WanD) (vv iv fv : Value) (hk : x.kind = 5) (hp : WanP Any w x vv iv fv) : Calls Try.prog 44 #[.agg (wanCells x vv iv fv).toArray] w (RetPlainW w x) := by
  have hp0 := hp
  obtain ⟨p1, p2, p3⟩ := hp
  obtain ⟨va, nv, vc, rfl⟩ : ∃ a n c, vv = .slice a n c := by obtain ⟨a, c, e, _⟩ := Sl.numsAt' p1.1; exact ⟨a, _, c, e⟩
  obtain ⟨fa, nf, fc, rfl⟩ : ∃ a n c, fv = .slice a n c := by obtain ⟨a, c, e, _⟩ := Sl.numsAt' p3.1; exact ⟨a, _, c, e⟩
  obtain ⟨ia, n, ic, rfl⟩ : ∃ a n c, iv = .slice a n c := by obtain ⟨a, c, e⟩ := p2.shape; exact ⟨a, _, c, e⟩
  obtain ⟨E, hE⟩ : ∃ E, E = wanCells x (.slice va nv vc) (.slice ia n ic) (.slice fa nf fc) := ⟨_, rfl⟩
  have CE : Hid (∀ W b, CellsAt W b E 26 → W.cell? ⟨b, 0, none⟩ = some (.int .u8 5) ∧ W.cell? ⟨b, 1, none⟩ = some (.int .i64 x.site) ∧ W.cell? ⟨b, 4, none⟩ = some (.int .i64 x.region)) := Lib.hid fun W b h => by
    have h0 : W.cell? ⟨b, 0, none⟩ = some (.int .u8 (x.kind : Int)) := by subst hE; exact h.cell 0
    rw [hk] at h0
    exact ⟨h0, by subst hE; exact h.cell 1, by subst hE; exact h.cell 4⟩
  obtain ⟨R, hR⟩ : ∃ R : List Value, R = [.int .u8 5, .int .i64 x.site, .slice none 0 0, .slice none 0 0, .int .i64 x.region, .int .u64 0, .slice none 0 0] := ⟨_, rfl⟩
  have PX : plainW x = ⟨5, x.site, [], [], x.region, 0, []⟩ := by unfold plainW; rw [hk]; rfl
  have RET : Hid (∀ W, Gr w W → RetPlainW w x (.returned (.tuple #[.agg R.toArray, .bool true])) W) := Lib.hid fun W g => retPlainW_mk (.slice none 0 0) (.slice none 0 0) (.slice none 0 0) R true PX (by rw [hk]; rfl) (by rw [hR]; rfl) (by have hp0 := hp0.gr g; exact ⟨SlP.nil _ _ _ _, ItemsP.nil _ _ _ _, SlP.nil _ _ _ _⟩) g
  have RN : Hid (R.length = 7) := Lib.hid (by rw [hR]; rfl)
  have R1 : Hid (oneAll R) := Lib.hid (by rw [hR]; rfl)
  rw [← hE]
  have BU : Hid (Try.prog.built 26 [(0, .int .u8 5), (1, .int .i64 x.site), (4, .int .i64 x.region)] = some R.toArray) := Lib.hid (by rw [hR]; exact bw014 5 x.site x.region (x.epoch : Int) va ia fa nv vc n ic nf fc)
  clear hE PX hR hp0 p1 p2 p3 hk
  go_enter Try.func44, Try.ntmps44
  go_wp2_with (first | (refine wpList_boxE _ rfl rfl rfl ?_) | fail)
  intro w1 K1 G1 n1
  obtain ⟨b, hb⟩ : ∃ b, b = w.heap.size := ⟨_, rfl⟩
  rw [← hb]
  rw [← hb] at K1
  obtain ⟨w2, hw2⟩ : ∃ w2, w2 = w1.alloc (.cells #[.int .u8 0, .int .i64 0, .slice none 0 0, .slice none 0 0, .int .i64 0, .int .u64 0, .slice none 0 0] 26) := ⟨_, rfl⟩
  have g2 : Gr w1 w2 := by rw [hw2]; exact (Gr.refl w1).alloc _
  have k2 : CellsAt w2 w1.heap.size zeroWL 26 := by rw [hw2]; exact CellsAt.new _ _ _
  have HW : w1.alloc (.cells #[.int .u8 0, .int .i64 0, .slice none 0 0, .slice none 0 0, .int .i64 0, .int .u64 0, .slice none 0 0] 26) = w2 := hw2.symm
  have KB := Lib.hid (K1.gr g2)
  have K2 := Lib.hid k2
  have GW := Lib.hid (G1.trans g2)
  have BG : Hid (w.heap.size ≤ w1.heap.size) := Lib.hid G1.size
  obtain ⟨x0, x1, x4⟩ := CE.out w2 b KB.out
  clear K1 G1 n1 g2 k2 hb hw2
  go_wp2_with (first | (refine wpList_buildTo rfl 26 _ rfl (some 57) rfl R.toArray (by simp only [List.map_toArray, List.map_cons, List.map_nil]; exact BU.out) ?_) | (refine wpList_storeE wanTy _ _ rfl rfl rfl rfl K2.out RN.out rfl R1.out ?_) | fail)
  intro w3 k3 c3
  have RR := Lib.hid (RET.out w3 (Below.trans GW.out (c3.below GW.out.size (fun k hk => by have : k = w1.heap.size := hk; have := BG.out; omega))))
  have K3 := Lib.hid k3
  clear k3 c3
  go_wp2
  exact bodyPost_ret (v := .tuple #[.agg R.toArray, .bool true]) (results_row2 (fn := Try.f44) wanTy rfl _ _ rfl K3.out RN.out) rfl RR.out
set_option maxHeartbeats 2000000 in
theorem plain_none (w : World) (x : WanD) (vv iv fv : Value) (hk : kindW x.kind = false) (hp : WanP Any w x vv iv fv) : Calls Try.prog 44 #[.agg (wanCells x vv iv fv).toArray] w (RetPlainW w x) := by
  have hk2 : ∀ n : Nat, 1 ≤ n → n ≤ 6 → ¬ (x.kind : Int) = (n : Int) := fun n h1 h2 e => by
    have e' : x.kind = n := by omega
    rw [(kindW_iff _).2 (by omega)] at hk
    cases hk
  have m1 : ¬ (x.kind : Int) = 1 := hk2 1 (by decide) (by decide)
  have m2 : ¬ (x.kind : Int) = 2 := hk2 2 (by decide) (by decide)
  have m3 : ¬ (x.kind : Int) = 3 := hk2 3 (by decide) (by decide)
  have m4 : ¬ (x.kind : Int) = 4 := hk2 4 (by decide) (by decide)
  have m5 : ¬ (x.kind : Int) = 5 := hk2 5 (by decide) (by decide)
  have m6 : ¬ (x.kind : Int) = 6 := hk2 6 (by decide) (by decide)
  have PX : plainW x = zeroW := by unfold plainW; rw [if_neg (by omega), if_neg (by omega), if_neg (by omega), if_neg (by omega), if_neg (by omega)]
  clear hk2
  have hp0 := hp
  obtain ⟨p1, p2, p3⟩ := hp
  obtain ⟨va, nv, vc, rfl⟩ : ∃ a n c, vv = .slice a n c := by obtain ⟨a, c, e, _⟩ := Sl.numsAt' p1.1; exact ⟨a, _, c, e⟩
  obtain ⟨fa, nf, fc, rfl⟩ : ∃ a n c, fv = .slice a n c := by obtain ⟨a, c, e, _⟩ := Sl.numsAt' p3.1; exact ⟨a, _, c, e⟩
  obtain ⟨ia, n, ic, rfl⟩ : ∃ a n c, iv = .slice a n c := by obtain ⟨a, c, e⟩ := p2.shape; exact ⟨a, _, c, e⟩
  obtain ⟨E, hE⟩ : ∃ E, E = wanCells x (.slice va nv vc) (.slice ia n ic) (.slice fa nf fc) := ⟨_, rfl⟩
  have CE : Hid (∀ W b, CellsAt W b E 26 → W.cell? ⟨b, 0, none⟩ = some (.int .u8 (x.kind : Int))) := Lib.hid fun W b h => by
    have h0 : W.cell? ⟨b, 0, none⟩ = some (.int .u8 (x.kind : Int)) := by subst hE; exact h.cell 0
    exact h0
  obtain ⟨R, hR⟩ : ∃ R : List Value, R = [.int .u8 0, .int .i64 0, .slice none 0 0, .slice none 0 0, .int .i64 0, .int .u64 0, .slice none 0 0] := ⟨_, rfl⟩
  have RET : Hid (∀ W, Gr w W → RetPlainW w x (.returned (.tuple #[.agg R.toArray, .bool false])) W) := Lib.hid fun W g => retPlainW_mk (.slice none 0 0) (.slice none 0 0) (.slice none 0 0) R false PX hk (by rw [hR]; rfl) ⟨SlP.nil _ _ _ _, ItemsP.nil _ _ _ _, SlP.nil _ _ _ _⟩ g
  have RN : Hid (R.length = 7) := Lib.hid (by rw [hR]; rfl)
  have R1 : Hid (oneAll R) := Lib.hid (by rw [hR]; rfl)
  rw [← hE]
  have BU : Hid (Try.prog.built 26 [] = some R.toArray) := Lib.hid (by rw [hR]; exact built_wan0)
  clear hE PX hR hp0 p1 p2 p3 hk
  go_enter Try.func44, Try.ntmps44
  go_wp2_with (first | (refine wpList_boxE _ rfl rfl rfl ?_) | fail)
  intro w1 K1 G1 n1
  obtain ⟨b, hb⟩ : ∃ b, b = w.heap.size := ⟨_, rfl⟩
  rw [← hb]
  rw [← hb] at K1
  obtain ⟨w2, hw2⟩ : ∃ w2, w2 = w1.alloc (.cells #[.int .u8 0, .int .i64 0, .slice none 0 0, .slice none 0 0, .int .i64 0, .int .u64 0, .slice none 0 0] 26) := ⟨_, rfl⟩
  have g2 : Gr w1 w2 := by rw [hw2]; exact (Gr.refl w1).alloc _
  have k2 : CellsAt w2 w1.heap.size zeroWL 26 := by rw [hw2]; exact CellsAt.new _ _ _
  have HW : w1.alloc (.cells #[.int .u8 0, .int .i64 0, .slice none 0 0, .slice none 0 0, .int .i64 0, .int .u64 0, .slice none 0 0] 26) = w2 := hw2.symm
  have KB := Lib.hid (K1.gr g2)
  have K2 := Lib.hid k2
  have GW := Lib.hid (G1.trans g2)
  have BG : Hid (w.heap.size ≤ w1.heap.size) := Lib.hid G1.size
  have cc := CE.out w2 b KB.out
  have x0 := cc
  clear cc K1 G1 n1 g2 k2 hb hw2
  go_wp2_with (first | (refine wpList_buildTo rfl 26 _ rfl (some 58) rfl R.toArray (by simp only [List.map_toArray, List.map_cons, List.map_nil]; exact BU.out) ?_) | (refine wpList_storeE wanTy _ _ rfl rfl rfl rfl K2.out RN.out rfl R1.out ?_) | fail)
  intro w3 k3 c3
  have RR := Lib.hid (RET.out w3 (Below.trans GW.out (c3.below GW.out.size (fun k hk => by have : k = w1.heap.size := hk; have := BG.out; omega))))
  have K3 := Lib.hid k3
  clear k3 c3
  go_wp2
  exact bodyPost_ret (v := .tuple #[.agg R.toArray, .bool false]) (results_row2 (fn := Try.f44) wanTy rfl _ _ rfl K3.out RN.out) rfl RR.out
theorem plain_any (w : World) (x : WanD) (vv iv fv : Value) (hp : WanP Any w x vv iv fv) : Calls Try.prog 44 #[.agg (wanCells x vv iv fv).toArray] w (RetPlainW w x) := by
  cases hk : kindW x.kind with
  | false => exact plain_none w x vv iv fv hk hp
  | true =>
    have h2 := (kindW_iff _).1 hk
    rcases (by omega : x.kind = 1 ∨ x.kind = 2 ∨ x.kind = 3 ∨ x.kind = 4 ∨ x.kind = 5 ∨ x.kind = 6) with h | h | h | h | h | h
    · exact plain_1 w x vv iv fv h hp
    · exact plain_2 w x vv iv fv h hp
    · exact plain_3 w x vv iv fv h hp
    · exact plain_4 w x vv iv fv h hp
    · exact plain_5 w x vv iv fv h hp
    · exact plain_6 w x vv iv fv h hp
end Go.Proofs.Ytgilijkmmcpfjaa
