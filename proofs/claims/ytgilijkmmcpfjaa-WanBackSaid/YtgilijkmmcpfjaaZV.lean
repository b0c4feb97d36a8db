/-
  The document's plain of messages of package wan.
  The document's May of messages of package wan.
-/
import Derived.Test.YtgilijkmmcpfjaaZU
import Derived.Test.YtgilijkmmcpfjaaZRMay
section
set_option linter.unusedVariables false
set_option linter.unusedSimpArgs false
set_option maxRecDepth 100000
namespace Go.Proofs.Ytgilijkmmcpfjaa
open Go.RowKit
def plainW (x : WanD) : WanD :=
  if x.kind = 1 then ⟨x.kind, x.site, x.vector, [], 0, 0, []⟩ else if x.kind = 2 then ⟨x.kind, x.site, [], x.items, 0, 0, []⟩ else if x.kind = 3 ∨ x.kind = 6 then ⟨x.kind, x.site, [], [], x.region, x.epoch, x.frontier⟩ else if x.kind = 4 then ⟨x.kind, x.site, [], [], x.region, x.epoch, []⟩ else if x.kind = 5 then ⟨x.kind, x.site, [], [], x.region, 0, []⟩ else zeroW
def RetPlainW (w : World) (x : WanD) (e : Ending) (w' : World) : Prop := ∃ vv iv fv, e = .returned (.tuple #[.agg (wanCells (plainW x) vv iv fv).toArray, .bool (kindW x.kind)]) ∧ WanP Any w' (plainW x) vv iv fv ∧ Gr w w'
theorem retPlainW_mk {w W : World} {x y : WanD} (a b c : Value) (R : List Value) (z : Bool) (h1 : plainW x = y) (h2 : kindW x.kind = z) (hR : R = wanCells y a b c) (hp : WanP Any W y a b c) (g : Gr w W) : RetPlainW w x (.returned (.tuple #[.agg R.toArray, .bool z])) W :=
  ⟨a, b, c, by rw [h1, h2, hR], by rw [h1]; exact hp, g⟩
theorem bw012 (k s r e : Int) (va ia fa : Option Addr) (nv vc n ic nf fc : Nat) : Try.prog.built 26 [(0, .int .u8 k), (1, .int .i64 s), (2, .slice va nv vc)] = some #[.int .u8 k, .int .i64 s, .slice va nv vc, .slice none 0 0, .int .i64 0, .int .u64 0, .slice none 0 0] := by kernel_rfl
theorem bw013 (k s r e : Int) (va ia fa : Option Addr) (nv vc n ic nf fc : Nat) : Try.prog.built 26 [(0, .int .u8 k), (1, .int .i64 s), (3, .slice ia n ic)] = some #[.int .u8 k, .int .i64 s, .slice none 0 0, .slice ia n ic, .int .i64 0, .int .u64 0, .slice none 0 0] := by kernel_rfl
theorem bw01456 (k s r e : Int) (va ia fa : Option Addr) (nv vc n ic nf fc : Nat) : Try.prog.built 26 [(0, .int .u8 k), (1, .int .i64 s), (4, .int .i64 r), (5, .int .u64 e), (6, .slice fa nf fc)] = some #[.int .u8 k, .int .i64 s, .slice none 0 0, .slice none 0 0, .int .i64 r, .int .u64 e, .slice fa nf fc] := by kernel_rfl
theorem bw0145 (k s r e : Int) (va ia fa : Option Addr) (nv vc n ic nf fc : Nat) : Try.prog.built 26 [(0, .int .u8 k), (1, .int .i64 s), (4, .int .i64 r), (5, .int .u64 e)] = some #[.int .u8 k, .int .i64 s, .slice none 0 0, .slice none 0 0, .int .i64 r, .int .u64 e, .slice none 0 0] := by kernel_rfl
theorem bw014 (k s r e : Int) (va ia fa : Option Addr) (nv vc n ic nf fc : Nat) : Try.prog.built 26 [(0, .int .u8 k), (1, .int .i64 s), (4, .int .i64 r)] = some #[.int .u8 k, .int .i64 s, .slice none 0 0, .slice none 0 0, .int .i64 r, .int .u64 0, .slice none 0 0] := by kernel_rfl
set_option maxHeartbeats 2000000 in
theorem plain_1 (w : World) (x : WanD) (vv iv fv : Value) (hk : x.kind = 1) (hp : WanP Any w x vv iv fv) : Calls Try.prog 44 #[.agg (wanCells x vv iv fv).toArray] w (RetPlainW w x) := by
  have hp0 := hp
  obtain ⟨p1, p2, p3⟩ := hp
  obtain ⟨va, nv, vc, rfl⟩ : ∃ a n c, vv = .slice a n c := by obtain ⟨a, c, e, _⟩ := Sl.numsAt' p1.1; exact ⟨a, _, c, e⟩
  obtain ⟨fa, nf, fc, rfl⟩ : ∃ a n c, fv = .slice a n c := by obtain ⟨a, c, e, _⟩ := Sl.numsAt' p3.1; exact ⟨a, _, c, e⟩
  obtain ⟨ia, n, ic, rfl⟩ : ∃ a n c, iv = .slice a n c := by obtain ⟨a, c, e⟩ := p2.shape; exact ⟨a, _, c, e⟩
  obtain ⟨E, hE⟩ : ∃ E, E = wanCells x (.slice va nv vc) (.slice ia n ic) (.slice fa nf fc) := ⟨_, rfl⟩
  have CE : Hid (∀ W b, CellsAt W b E 26 → W.cell? ⟨b, 0, none⟩ = some (.int .u8 1) ∧ W.cell? ⟨b, 1, none⟩ = some (.int .i64 x.site) ∧ W.cell? ⟨b, 2, none⟩ = some (.slice va nv vc)) := Lib.hid fun W b h => by
    have h0 : W.cell? ⟨b, 0, none⟩ = some (.int .u8 (x.kind : Int)) := by subst hE; exact h.cell 0
    rw [hk] at h0
    exact ⟨h0, by subst hE; exact h.cell 1, by subst hE; exact h.cell 2⟩
  obtain ⟨R, hR⟩ : ∃ R : List Value, R = [.int .u8 1, .int .i64 x.site, .slice va nv vc, .slice none 0 0, .int .i64 0, .int .u64 0, .slice none 0 0] := ⟨_, rfl⟩
  have PX : plainW x = ⟨1, x.site, x.vector, [], 0, 0, []⟩ := by unfold plainW; rw [hk]; rfl
  have RET : Hid (∀ W, Gr w W → RetPlainW w x (.returned (.tuple #[.agg R.toArray, .bool true])) W) := Lib.hid fun W g => retPlainW_mk (.slice va nv vc) (.slice none 0 0) (.slice none 0 0) R true PX (by rw [hk]; rfl) (by rw [hR]; rfl) (by have hp0 := hp0.gr g; exact ⟨hp0.1, ItemsP.nil _ _ _ _, SlP.nil _ _ _ _⟩) g
  have RN : Hid (R.length = 7) := Lib.hid (by rw [hR]; rfl)
  have R1 : Hid (oneAll R) := Lib.hid (by rw [hR]; rfl)
  rw [← hE]
  have BU : Hid (Try.prog.built 26 [(0, .int .u8 1), (1, .int .i64 x.site), (2, .slice va nv vc)] = some R.toArray) := Lib.hid (by rw [hR]; exact bw012 1 x.site x.region (x.epoch : Int) va ia fa nv vc n ic nf fc)
  clear hE PX hR hp0 p1 p2 p3 hk
  go_enter Try.func44, Try.ntmps44
  go_wp2_with (first | (refine wpList_boxE _ rfl rfl rfl ?_) | fail)
  intro w1 K1 G1 n1
  obtain ⟨b, hb⟩ : ∃ b, b = w.heap.size := ⟨_, rfl⟩
  rw [← hb]
  rw [← hb] at K1
  obtain ⟨w2, hw2⟩ : ∃ w2, w2 = w1.alloc (.cells #[.int .u8 0, .int .i64 0, .slice none 0 0, .slice none 0 0, .int .i64 0, .int .u64 0, .slice none 0 0] 26) := ⟨_, rfl⟩
  have g2 : Gr w1 w2 := by rw [hw2]; exact (Gr.refl w1).alloc _
  have k2 : CellsAt w2 w1.heap.size zeroWL 26 := by rw [hw2]; exact CellsAt.new _ _ _
  have HW : w1.alloc (.cells #[.int .u8 0, .int .i64 0, .slice none 0 0, .slice none 0 0, .int .i64 0, .int .u64 0, .slice none 0 0] 26) = w2 := hw2.symm
  have KB := Lib.hid (K1.gr g2)
  have K2 := Lib.hid k2
  have GW := Lib.hid (G1.trans g2)
  have BG : Hid (w.heap.size ≤ w1.heap.size) := Lib.hid G1.size
  obtain ⟨x0, x1, x2⟩ := CE.out w2 b KB.out
  clear K1 G1 n1 g2 k2 hb hw2
  go_wp2_with (first | (refine wpList_buildTo rfl 26 _ rfl (some 14) rfl R.toArray (by simp only [List.map_toArray, List.map_cons, List.map_nil]; exact BU.out) ?_) | (refine wpList_storeE wanTy _ _ rfl rfl rfl rfl K2.out RN.out rfl R1.out ?_) | fail)
  intro w3 k3 c3
  have RR := Lib.hid (RET.out w3 (Below.trans GW.out (c3.below GW.out.size (fun k hk => by have : k = w1.heap.size := hk; have := BG.out; omega))))
  have K3 := Lib.hid k3
  clear k3 c3
  go_wp2
  exact bodyPost_ret (v := .tuple #[.agg R.toArray, .bool true]) (results_row2 (fn := Try.f44) wanTy rfl _ _ rfl K3.out RN.out) rfl RR.out
set_option maxHeartbeats 2000000 in
theorem plain_2 (w : World) (x : WanD) (vv iv fv : Value) (hk : x.kind = 2) (hp : WanP Any w x vv iv fv) : Calls Try.prog 44 #[.agg (wanCells x vv iv fv).toArray] w (RetPlainW w x) := by
  have hp0 := hp
  obtain ⟨p1, p2, p3⟩ := hp
  obtain ⟨va, nv, vc, rfl⟩ : ∃ a n c, vv = .slice a n c := by obtain ⟨a, c, e, _⟩ := Sl.numsAt' p1.1; exact ⟨a, _, c, e⟩
  obtain ⟨fa, nf, fc, rfl⟩ : ∃ a n c, fv = .slice a n c := by obtain ⟨a, c, e, _⟩ := Sl.numsAt' p3.1; exact ⟨a, _, c, e⟩
  obtain ⟨ia, n, ic, rfl⟩ : ∃ a n c, iv = .slice a n c := by obtain ⟨a, c, e⟩ := p2.shape; exact ⟨a, _, c, e⟩
  obtain ⟨E, hE⟩ : ∃ E, E = wanCells x (.slice va nv vc) (.slice ia n ic) (.slice fa nf fc) := ⟨_, rfl⟩
  have CE : Hid (∀ W b, CellsAt W b E 26 → W.cell? ⟨b, 0, none⟩ = some (.int .u8 2) ∧ W.cell? ⟨b, 1, none⟩ = some (.int .i64 x.site) ∧ W.cell? ⟨b, 3, none⟩ = some (.slice ia n ic)) := Lib.hid fun W b h => by
    have h0 : W.cell? ⟨b, 0, none⟩ = some (.int .u8 (x.kind : Int)) := by subst hE; exact h.cell 0
    rw [hk] at h0
    exact ⟨h0, by subst hE; exact h.cell 1, by subst hE; exact h.cell 3⟩
  obtain ⟨R, hR⟩ : ∃ R : List Value, R = [.int .u8 2, .int .i64 x.site, .slice none 0 0, .slice ia n ic, .int .i64 0, .int .u64 0, .slice none 0 0] := ⟨_, rfl⟩
  have PX : plainW x = ⟨2, x.site, [], x.items, 0, 0, []⟩ := by unfold plainW; rw [hk]; rfl
  have RET : Hid (∀ W, Gr w W → RetPlainW w x (.returned (.tuple #[.agg R.toArray, .bool true])) W) := Lib.hid fun W g => retPlainW_mk (.slice none 0 0) (.slice ia n ic) (.slice none 0 0) R true PX (by rw [hk]; rfl) (by rw [hR]; rfl) (by have hp0 := hp0.gr g; exact ⟨SlP.nil _ _ _ _, hp0.2.1, SlP.nil _ _ _ _⟩) g
  have RN : Hid (R.length = 7) := Lib.hid (by rw [hR]; rfl)
  have R1 : Hid (oneAll R) := Lib.hid (by rw [hR]; rfl)
  rw [← hE]
  have BU : Hid (Try.prog.built 26 [(0, .int .u8 2), (1, .int .i64 x.site), (3, .slice ia n ic)] = some R.toArray) := Lib.hid (by rw [hR]; exact bw013 2 x.site x.region (x.epoch : Int) va ia fa nv vc n ic nf fc)
  clear hE PX hR hp0 p1 p2 p3 hk
  go_enter Try.func44, Try.ntmps44
  go_wp2_with (first | (refine wpList_boxE _ rfl rfl rfl ?_) | fail)
  intro w1 K1 G1 n1
  obtain ⟨b, hb⟩ : ∃ b, b = w.heap.size := ⟨_, rfl⟩
  rw [← hb]
  rw [← hb] at K1
  obtain ⟨w2, hw2⟩ : ∃ w2, w2 = w1.alloc (.cells #[.int .u8 0, .int .i64 0, .slice none 0 0, .slice none 0 0, .int .i64 0, .int .u64 0, .slice none 0 0] 26) := ⟨_, rfl⟩
  have g2 : Gr w1 w2 := by rw [hw2]; exact (Gr.refl w1).alloc _
  have k2 : CellsAt w2 w1.heap.size zeroWL 26 := by rw [hw2]; exact CellsAt.new _ _ _
  have HW : w1.alloc (.cells #[.int .u8 0, .int .i64 0, .slice none 0 0, .slice none 0 0, .int .i64 0, .int .u64 0, .slice none 0 0] 26) = w2 := hw2.symm
  have KB := Lib.hid (K1.gr g2)
  have K2 := Lib.hid k2
  have GW := Lib.hid (G1.trans g2)
  have BG : Hid (w.heap.size ≤ w1.heap.size) := Lib.hid G1.size
  obtain ⟨x0, x1, x3⟩ := CE.out w2 b KB.out
  clear K1 G1 n1 g2 k2 hb hw2
  go_wp2_with (first | (refine wpList_buildTo rfl 26 _ rfl (some 23) rfl R.toArray (by simp only [List.map_toArray, List.map_cons, List.map_nil]; exact BU.out) ?_) | (refine wpList_storeE wanTy _ _ rfl rfl rfl rfl K2.out RN.out rfl R1.out ?_) | fail)
  intro w3 k3 c3
  have RR := Lib.hid (RET.out w3 (Below.trans GW.out (c3.below GW.out.size (fun k hk => by have : k = w1.heap.size := hk; have := BG.out; omega))))
  have K3 := Lib.hid k3
  clear k3 c3
  go_wp2
  exact bodyPost_ret (v := .tuple #[.agg R.toArray, .bool true]) (results_row2 (fn := Try.f44) wanTy rfl _ _ rfl K3.out RN.out) rfl RR.out
set_option maxHeartbeats 2000000 in
theorem plain_3 (w : World) (x : WanD) (vv iv fv : Value) (hk : x.kind = 3) (hp : WanP Any w x vv iv fv) : Calls Try.prog 44 #[.agg (wanCells x vv iv fv).toArray] w (RetPlainW w x) := by
  have hp0 := hp
  obtain ⟨p1, p2, p3⟩ := hp
  obtain ⟨va, nv, vc, rfl⟩ : ∃ a n c, vv = .slice a n c := by obtain ⟨a, c, e, _⟩ := Sl.numsAt' p1.1; exact ⟨a, _, c, e⟩
  obtain ⟨fa, nf, fc, rfl⟩ : ∃ a n c, fv = .slice a n c := by obtain ⟨a, c, e, _⟩ := Sl.numsAt' p3.1; exact ⟨a, _, c, e⟩
  obtain ⟨ia, n, ic, rfl⟩ : ∃ a n c, iv = .slice a n c := by obtain ⟨a, c, e⟩ := p2.shape; exact ⟨a, _, c, e⟩
  obtain ⟨E, hE⟩ : ∃ E, E = wanCells x (.slice va nv vc) (.slice ia n ic) (.slice fa nf fc) := ⟨_, rfl⟩
  have CE : Hid (∀ W b, CellsAt W b E 26 → W.cell? ⟨b, 0, none⟩ = some (.int .u8 3) ∧ W.cell? ⟨b, 1, none⟩ = some (.int .i64 x.site) ∧ W.cell? ⟨b, 4, none⟩ = some (.int .i64 x.region) ∧ W.cell? ⟨b, 5, none⟩ = some (.int .u64 (x.epoch : Int)) ∧ W.cell? ⟨b, 6, none⟩ = some (.slice fa nf fc)) := Lib.hid fun W b h => by
    have h0 : W.cell? ⟨b, 0, none⟩ = some (.int .u8 (x.kind : Int)) := by subst hE; exact h.cell 0
    rw [hk] at h0
    exact ⟨h0, by subst hE; exact h.cell 1, by subst hE; exact h.cell 4, by subst hE; exact h.cell 5, by subst hE; exact h.cell 6⟩
  obtain ⟨R, hR⟩ : ∃ R : List Value, R = [.int .u8 3, .int .i64 x.site, .slice none 0 0, .slice none 0 0, .int .i64 x.region, .int .u64 (x.epoch : Int), .slice fa nf fc] := ⟨_, rfl⟩
  have PX : plainW x = ⟨3, x.site, [], [], x.region, x.epoch, x.frontier⟩ := by unfold plainW; rw [hk]; rfl
  have RET : Hid (∀ W, Gr w W → RetPlainW w x (.returned (.tuple #[.agg R.toArray, .bool true])) W) := Lib.hid fun W g => retPlainW_mk (.slice none 0 0) (.slice none 0 0) (.slice fa nf fc) R true PX (by rw [hk]; rfl) (by rw [hR]; rfl) (by have hp0 := hp0.gr g; exact ⟨SlP.nil _ _ _ _, ItemsP.nil _ _ _ _, hp0.2.2⟩) g
  have RN : Hid (R.length = 7) := Lib.hid (by rw [hR]; rfl)
  have R1 : Hid (oneAll R) := Lib.hid (by rw [hR]; rfl)
  rw [← hE]
  have BU : Hid (Try.prog.built 26 [(0, .int .u8 3), (1, .int .i64 x.site), (4, .int .i64 x.region), (5, .int .u64 (x.epoch : Int)), (6, .slice fa nf fc)] = some R.toArray) := Lib.hid (by rw [hR]; exact bw01456 3 x.site x.region (x.epoch : Int) va ia fa nv vc n ic nf fc)
  clear hE PX hR hp0 p1 p2 p3 hk
  go_enter Try.func44, Try.ntmps44
  go_wp2_with (first | (refine wpList_boxE _ rfl rfl rfl ?_) | fail)
  intro w1 K1 G1 n1
  obtain ⟨b, hb⟩ : ∃ b, b = w.heap.size := ⟨_, rfl⟩
  rw [← hb]
  rw [← hb] at K1
  obtain ⟨w2, hw2⟩ : ∃ w2, w2 = w1.alloc (.cells #[.int .u8 0, .int .i64 0, .slice none 0 0, .slice none 0 0, .int .i64 0, .int .u64 0, .slice none 0 0] 26) := ⟨_, rfl⟩
  have g2 : Gr w1 w2 := by rw [hw2]; exact (Gr.refl w1).alloc _
  have k2 : CellsAt w2 w1.heap.size zeroWL 26 := by rw [hw2]; exact CellsAt.new _ _ _
  have HW : w1.alloc (.cells #[.int .u8 0, .int .i64 0, .slice none 0 0, .slice none 0 0, .int .i64 0, .int .u64 0, .slice none 0 0] 26) = w2 := hw2.symm
  have KB := Lib.hid (K1.gr g2)
  have K2 := Lib.hid k2
  have GW := Lib.hid (G1.trans g2)
  have BG : Hid (w.heap.size ≤ w1.heap.size) := Lib.hid G1.size
  obtain ⟨x0, x1, x4, x5, x6⟩ := CE.out w2 b KB.out
  clear K1 G1 n1 g2 k2 hb hw2
  go_wp2_with (first | (refine wpList_buildTo rfl 26 _ rfl (some 37) rfl R.toArray (by simp only [List.map_toArray, List.map_cons, List.map_nil]; exact BU.out) ?_) | (refine wpList_storeE wanTy _ _ rfl rfl rfl rfl K2.out RN.out rfl R1.out ?_) | fail)
  intro w3 k3 c3
  have RR := Lib.hid (RET.out w3 (Below.trans GW.out (c3.below GW.out.size (fun k hk => by have : k = w1.heap.size := hk; have := BG.out; omega))))
  have K3 := Lib.hid k3
  clear k3 c3
  go_wp2
  exact bodyPost_ret (v := .tuple #[.agg R.toArray, .bool true]) (results_row2 (fn := Try.f44) wanTy rfl _ _ rfl K3.out RN.out) rfl RR.out
set_option maxHeartbeats 2000000 in
theorem plain_6 (w : World) (x : WanD) (vv iv fv : Value) (hk : x.kind = 6) (hp : WanP Any w x vv iv fv) : Calls Try.prog 44 #[.agg (wanCells x vv iv fv).toArray] w (RetPlainW w x) := by
  have hp0 := hp
  obtain ⟨p1, p2, p3⟩ := hp
  obtain ⟨va, nv, vc, rfl⟩ : ∃ a n c, vv = .slice a n c := by obtain ⟨a, c, e, _⟩ := Sl.numsAt' p1.1; exact ⟨a, _, c, e⟩
  obtain ⟨fa, nf, fc, rfl⟩ : ∃ a n c, fv = .slice a n c := by obtain ⟨a, c, e, _⟩ := Sl.numsAt' p3.1; exact ⟨a, _, c, e⟩
  obtain ⟨ia, n, ic, rfl⟩ : ∃ a n c, iv = .slice a n c := by obtain ⟨a, c, e⟩ := p2.shape; exact ⟨a, _, c, e⟩
  obtain ⟨E, hE⟩ : ∃ E, E = wanCells x (.slice va nv vc) (.slice ia n ic) (.slice fa nf fc) := ⟨_, rfl⟩
  have CE : Hid (∀ W b, CellsAt W b E 26 → W.cell? ⟨b, 0, none⟩ = some (.int .u8 6) ∧ W.cell? ⟨b, 1, none⟩ = some (.int .i64 x.site) ∧ W.cell? ⟨b, 4, none⟩ = some (.int .i64 x.region) ∧ W.cell? ⟨b, 5, none⟩ = some (.int .u64 (x.epoch : Int)) ∧ W.cell? ⟨b, 6, none⟩ = some (.slice fa nf fc)) := Lib.hid fun W b h => by
    have h0 : W.cell? ⟨b, 0, none⟩ = some (.int .u8 (x.kind : Int)) := by subst hE; exact h.cell 0
    rw [hk] at h0
    exact ⟨h0, by subst hE; exact h.cell 1, by subst hE; exact h.cell 4, by subst hE; exact h.cell 5, by subst hE; exact h.cell 6⟩
  obtain ⟨R, hR⟩ : ∃ R : List Value, R = [.int .u8 6, .int .i64 x.site, .slice none 0 0, .slice none 0 0, .int .i64 x.region, .int .u64 (x.epoch : Int), .slice fa nf fc] := ⟨_, rfl⟩
  have PX : plainW x = ⟨6, x.site, [], [], x.region, x.epoch, x.frontier⟩ := by unfold plainW; rw [hk]; rfl
  have RET : Hid (∀ W, Gr w W → RetPlainW w x (.returned (.tuple #[.agg R.toArray, .bool true])) W) := Lib.hid fun W g => retPlainW_mk (.slice none 0 0) (.slice none 0 0) (.slice fa nf fc) R true PX (by rw [hk]; rfl) (by rw [hR]; rfl) (by have hp0 := hp0.gr g; exact ⟨SlP.nil _ _ _ _, ItemsP.nil _ _ _ _, hp0.2.2⟩) g
  have RN : Hid (R.length = 7) := Lib.hid (by rw [hR]; rfl)
  have R1 : Hid (oneAll R) := Lib.hid (by rw [hR]; rfl)
  rw [← hE]
  have BU : Hid (Try.prog.built 26 [(0, .int .u8 6), (1, .int .i64 x.site), (4, .int .i64 x.region), (5, .int .u64 (x.epoch : Int)), (6, .slice fa nf fc)] = some R.toArray) := Lib.hid (by rw [hR]; exact bw01456 6 x.site x.region (x.epoch : Int) va ia fa nv vc n ic nf fc)
  clear hE PX hR hp0 p1 p2 p3 hk
  go_enter Try.func44, Try.ntmps44
  go_wp2_with (first | (refine wpList_boxE _ rfl rfl rfl ?_) | fail)
  intro w1 K1 G1 n1
  obtain ⟨b, hb⟩ : ∃ b, b = w.heap.size := ⟨_, rfl⟩
  rw [← hb]
  rw [← hb] at K1
  obtain ⟨w2, hw2⟩ : ∃ w2, w2 = w1.alloc (.cells #[.int .u8 0, .int .i64 0, .slice none 0 0, .slice none 0 0, .int .i64 0, .int .u64 0, .slice none 0 0] 26) := ⟨_, rfl⟩
  have g2 : Gr w1 w2 := by rw [hw2]; exact (Gr.refl w1).alloc _
  have k2 : CellsAt w2 w1.heap.size zeroWL 26 := by rw [hw2]; exact CellsAt.new _ _ _
  have HW : w1.alloc (.cells #[.int .u8 0, .int .i64 0, .slice none 0 0, .slice none 0 0, .int .i64 0, .int .u64 0, .slice none 0 0] 26) = w2 := hw2.symm
  have KB := Lib.hid (K1.gr g2)
  have K2 := Lib.hid k2
  have GW := Lib.hid (G1.trans g2)
  have BG : Hid (w.heap.size ≤ w1.heap.size) := Lib.hid G1.size
  obtain ⟨x0, x1, x4, x5, x6⟩ := CE.out w2 b KB.out
  clear K1 G1 n1 g2 k2 hb hw2
  go_wp2_with (first | (refine wpList_buildTo rfl 26 _ rfl (some 37) rfl R.toArray (by simp only [List.map_toArray, List.map_cons, List.map_nil]; exact BU.out) ?_) | (refine wpList_storeE wanTy _ _ rfl rfl rfl rfl K2.out RN.out rfl R1.out ?_) | fail)
  intro w3 k3 c3
  have RR := Lib.hid (RET.out w3 (Below.trans GW.out (c3.below GW.out.size (fun k hk => by have : k = w1.heap.size := hk; have := BG.out; omega))))
  have K3 := Lib.hid k3
  clear k3 c3
  go_wp2
  exact bodyPost_ret (v := .tuple #[.agg R.toArray, .bool true]) (results_row2 (fn := Try.f44) wanTy rfl _ _ rfl K3.out RN.out) rfl RR.out
set_option maxHeartbeats 2000000 in
theorem plain_4 (w : World) (x : WanD) (vv iv fv : Value) (hk : x.kind = 4) (hp : WanP Any w x vv iv fv) : Calls Try.prog 44 #[.agg (wanCells x vv iv fv).toArray] w (RetPlainW w x) := by
  have hp0 := hp
  obtain ⟨p1, p2, p3⟩ := hp
  obtain ⟨va, nv, vc, rfl⟩ : ∃ a n c, vv = .slice a n c := by obtain ⟨a, c, e, _⟩ := Sl.numsAt' p1.1; exact ⟨a, _, c, e⟩
  obtain ⟨fa, nf, fc, rfl⟩ : ∃ a n c, fv = .slice a n c := by obtain ⟨a, c, e, _⟩ := Sl.numsAt' p3.1; exact ⟨a, _, c, e⟩
  obtain ⟨ia, n, ic, rfl⟩ : ∃ a n c, iv = .slice a n c := by obtain ⟨a, c, e⟩ := p2.shape; exact ⟨a, _, c, e⟩
  obtain ⟨E, hE⟩ : ∃ E, E = wanCells x (.slice va nv vc) (.slice ia n ic) (.slice fa nf fc) := ⟨_, rfl⟩
  have CE : Hid (∀ W b, CellsAt W b E 26 → W.cell? ⟨b, 0, none⟩ = some (.int .u8 4) ∧ W.cell? ⟨b, 1, none⟩ = some (.int .i64 x.site) ∧ W.cell? ⟨b, 4, none⟩ = some (.int .i64 x.region) ∧ W.cell? ⟨b, 5, none⟩ = some (.int .u64 (x.epoch : Int))) := Lib.hid fun W b h => by
    have h0 : W.cell? ⟨b, 0, none⟩ = some (.int .u8 (x.kind : Int)) := by subst hE; exact h.cell 0
    rw [hk] at h0
    exact ⟨h0, by subst hE; exact h.cell 1, by subst hE; exact h.cell 4, by subst hE; exact h.cell 5⟩
  obtain ⟨R, hR⟩ : ∃ R : List Value, R = [.int .u8 4, .int .i64 x.site, .slice none 0 0, .slice none 0 0, .int .i64 x.region, .int .u64 (x.epoch : Int), .slice none 0 0] := ⟨_, rfl⟩
  have PX : plainW x = ⟨4, x.site, [], [], x.region, x.epoch, []⟩ := by unfold plainW; rw [hk]; rfl
  have RET : Hid (∀ W, Gr w W → RetPlainW w x (.returned (.tuple #[.agg R.toArray, .bool true])) W) := Lib.hid fun W g => retPlainW_mk (.slice none 0 0) (.slice none 0 0) (.slice none 0 0) R true PX (by rw [hk]; rfl) (by rw [hR]; rfl) (by have hp0 := hp0.gr g; exact ⟨SlP.nil _ _ _ _, ItemsP.nil _ _ _ _, SlP.nil _ _ _ _⟩) g
  have RN : Hid (R.length = 7) := Lib.hid (by rw [hR]; rfl)
  have R1 : Hid (oneAll R) := Lib.hid (by rw [hR]; rfl)
  rw [← hE]
  have BU : Hid (Try.prog.built 26 [(0, .int .u8 4), (1, .int .i64 x.site), (4, .int .i64 x.region), (5, .int .u64 (x.epoch : Int))] = some R.toArray) := Lib.hid (by rw [hR]; exact bw0145 4 x.site x.region (x.epoch : Int) va ia fa nv vc n ic nf fc)
  clear hE PX hR hp0 p1 p2 p3 hk
  go_enter Try.func44, Try.ntmps44
  go_wp2_with (first | (refine wpList_boxE _ rfl rfl rfl ?_) | fail)
  intro w1 K1 G1 n1
  obtain ⟨b, hb⟩ : ∃ b, b = w.heap.size := ⟨_, rfl⟩
  rw [← hb]
  rw [← hb] at K1
  obtain ⟨w2, hw2⟩ : ∃ w2, w2 = w1.alloc (.cells #[.int .u8 0, .int .i64 0, .slice none 0 0, .slice none 0 0, .int .i64 0, .int .u64 0, .slice none 0 0] 26) := ⟨_, rfl⟩
  have g2 : Gr w1 w2 := by rw [hw2]; exact (Gr.refl w1).alloc _
  have k2 : CellsAt w2 w1.heap.size zeroWL 26 := by rw [hw2]; exact CellsAt.new _ _ _
  have HW : w1.alloc (.cells #[.int .u8 0, .int .i64 0, .slice none 0 0, .slice none 0 0, .int .i64 0, .int .u64 0, .slice none 0 0] 26) = w2 := hw2.symm
  have KB := Lib.hid (K1.gr g2)
  have K2 := Lib.hid k2
  have GW := Lib.hid (G1.trans g2)
  have BG : Hid (w.heap.size ≤ w1.heap.size) := Lib.hid G1.size
  obtain ⟨x0, x1, x4, x5⟩ := CE.out w2 b KB.out
  clear K1 G1 n1 g2 k2 hb hw2
  go_wp2_with (first | (refine wpList_buildTo rfl 26 _ rfl (some 48) rfl R.toArray (by simp only [List.map_toArray, List.map_cons, List.map_nil]; exact BU.out) ?_) | (refine wpList_storeE wanTy _ _ rfl rfl rfl rfl K2.out RN.out rfl R1.out ?_) | fail)
  intro w3 k3 c3
  have RR := Lib.hid (RET.out w3 (Below.trans GW.out (c3.below GW.out.size (fun k hk => by have : k = w1.heap.size := hk; have := BG.out; omega))))
  have K3 := Lib.hid k3
  clear k3 c3
  go_wp2
  exact bodyPost_ret (v := .tuple #[.agg R.toArray, .bool true]) (results_row2 (fn := Try.f44) wanTy rfl _ _ rfl K3.out RN.out) rfl RR.out
set_option maxHeartbeats 2000000 in
theorem plain_5 (w : World) (x : WanD) (vv iv fv : Value) (hk : x.kind = 5) (hp : WanP Any w x vv iv fv) : Calls Try.prog 44 #[.agg (wanCells x vv iv fv).toArray] w (RetPlainW w x) := by
  have hp0 := hp
  obtain ⟨p1, p2, p3⟩ := hp
  obtain ⟨va, nv, vc, rfl⟩ : ∃ a n c, vv = .slice a n c := by obtain ⟨a, c, e, _⟩ := Sl.numsAt' p1.1; exact ⟨a, _, c, e⟩
  obtain ⟨fa, nf, fc, rfl⟩ : ∃ a n c, fv = .slice a n c := by obtain ⟨a, c, e, _⟩ := Sl.numsAt' p3.1; exact ⟨a, _, c, e⟩
  obtain ⟨ia, n, ic, rfl⟩ : ∃ a n c, iv = .slice a n c := by obtain ⟨a, c, e⟩ := p2.shape; exact ⟨a, _, c, e⟩
  obtain ⟨E, hE⟩ : ∃ E, E = wanCells x (.slice va nv vc) (.slice ia n ic) (.slice fa nf fc) := ⟨_, rfl⟩
  have CE : Hid (∀ W b, CellsAt W b E 26 → W.cell? ⟨b, 0, none⟩ = some (.int .u8 5) ∧ W.cell? ⟨b, 1, none⟩ = some (.int .i64 x.site) ∧ W.cell? ⟨b, 4, none⟩ = some (.int .i64 x.region)) := Lib.hid fun W b h => by
    have h0 : W.cell? ⟨b, 0, none⟩ = some (.int .u8 (x.kind : Int)) := by subst hE; exact h.cell 0
    rw [hk] at h0
    exact ⟨h0, by subst hE; exact h.cell 1, by subst hE; exact h.cell 4⟩
  obtain ⟨R, hR⟩ : ∃ R : List Value, R = [.int .u8 5, .int .i64 x.site, .slice none 0 0, .slice none 0 0, .int .i64 x.region, .int .u64 0, .slice none 0 0] := ⟨_, rfl⟩
  have PX : plainW x = ⟨5, x.site, [], [], x.region, 0, []⟩ := by unfold plainW; rw [hk]; rfl
  have RET : Hid (∀ W, Gr w W → RetPlainW w x (.returned (.tuple #[.agg R.toArray, .bool true])) W) := Lib.hid fun W g => retPlainW_mk (.slice none 0 0) (.slice none 0 0) (.slice none 0 0) R true PX (by rw [hk]; rfl) (by rw [hR]; rfl) (by have hp0 := hp0.gr g; exact ⟨SlP.nil _ _ _ _, ItemsP.nil _ _ _ _, SlP.nil _ _ _ _⟩) g
  have RN : Hid (R.length = 7) := Lib.hid (by rw [hR]; rfl)
  have R1 : Hid (oneAll R) := Lib.hid (by rw [hR]; rfl)
  rw [← hE]
  have BU : Hid (Try.prog.built 26 [(0, .int .u8 5), (1, .int .i64 x.site), (4, .int .i64 x.region)] = some R.toArray) := Lib.hid (by rw [hR]; exact bw014 5 x.site x.region (x.epoch : Int) va ia fa nv vc n ic nf fc)
  clear hE PX hR hp0 p1 p2 p3 hk
  go_enter Try.func44, Try.ntmps44
  go_wp2_with (first | (refine wpList_boxE _ rfl rfl rfl ?_) | fail)
  intro w1 K1 G1 n1
  obtain ⟨b, hb⟩ : ∃ b, b = w.heap.size := ⟨_, rfl⟩
  rw [← hb]
  rw [← hb] at K1
  obtain ⟨w2, hw2⟩ : ∃ w2, w2 = w1.alloc (.cells #[.int .u8 0, .int .i64 0, .slice none 0 0, .slice none 0 0, .int .i64 0, .int .u64 0, .slice none 0 0] 26) := ⟨_, rfl⟩
  have g2 : Gr w1 w2 := by rw [hw2]; exact (Gr.refl w1).alloc _
  have k2 : CellsAt w2 w1.heap.size zeroWL 26 := by rw [hw2]; exact CellsAt.new _ _ _
  have HW : w1.alloc (.cells #[.int .u8 0, .int .i64 0, .slice none 0 0, .slice none 0 0, .int .i64 0, .int .u64 0, .slice none 0 0] 26) = w2 := hw2.symm
  have KB := Lib.hid (K1.gr g2)
  have K2 := Lib.hid k2
  have GW := Lib.hid (G1.trans g2)
  have BG : Hid (w.heap.size ≤ w1.heap.size) := Lib.hid G1.size
  obtain ⟨x0, x1, x4⟩ := CE.out w2 b KB.out
  clear K1 G1 n1 g2 k2 hb hw2
  go_wp2_with (first | (refine wpList_buildTo rfl 26 _ rfl (some 57) rfl R.toArray (by simp only [List.map_toArray, List.map_cons, List.map_nil]; exact BU.out) ?_) | (refine wpList_storeE wanTy _ _ rfl rfl rfl rfl K2.out RN.out rfl R1.out ?_) | fail)
  intro w3 k3 c3
  have RR := Lib.hid (RET.out w3 (Below.trans GW.out (c3.below GW.out.size (fun k hk => by have : k = w1.heap.size := hk; have := BG.out; omega))))
  have K3 := Lib.hid k3
  clear k3 c3
  go_wp2
  exact bodyPost_ret (v := .tuple #[.agg R.toArray, .bool true]) (results_row2 (fn := Try.f44) wanTy rfl _ _ rfl K3.out RN.out) rfl RR.out
set_option maxHeartbeats 2000000 in
theorem plain_none (w : World) (x : WanD) (vv iv fv : Value) (hk : kindW x.kind = false) (hp : WanP Any w x vv iv fv) : Calls Try.prog 44 #[.agg (wanCells x vv iv fv).toArray] w (RetPlainW w x) := by
  have hk2 : ∀ n : Nat, 1 ≤ n → n ≤ 6 → ¬ (x.kind : Int) = (n : Int) := fun n h1 h2 e => by
    have e' : x.kind = n := by omega
    rw [(kindW_iff _).2 (by omega)] at hk
    cases hk
  have m1 : ¬ (x.kind : Int) = 1 := hk2 1 (by decide) (by decide)
  have m2 : ¬ (x.kind : Int) = 2 := hk2 2 (by decide) (by decide)
  have m3 : ¬ (x.kind : Int) = 3 := hk2 3 (by decide) (by decide)
  have m4 : ¬ (x.kind : Int) = 4 := hk2 4 (by decide) (by decide)
  have m5 : ¬ (x.kind : Int) = 5 := hk2 5 (by decide) (by decide)
  have m6 : ¬ (x.kind : Int) = 6 := hk2 6 (by decide) (by decide)
  have PX : plainW x = zeroW := by unfold plainW; rw [if_neg (by omega), if_neg (by omega), if_neg (by omega), if_neg (by omega), if_neg (by omega)]
  clear hk2
  have hp0 := hp
  obtain ⟨p1, p2, p3⟩ := hp
  obtain ⟨va, nv, vc, rfl⟩ : ∃ a n c, vv = .slice a n c := by obtain ⟨a, c, e, _⟩ := Sl.numsAt' p1.1; exact ⟨a, _, c, e⟩
  obtain ⟨fa, nf, fc, rfl⟩ : ∃ a n c, fv = .slice a n c := by obtain ⟨a, c, e, _⟩ := Sl.numsAt' p3.1; exact ⟨a, _, c, e⟩
  obtain ⟨ia, n, ic, rfl⟩ : ∃ a n c, iv = .slice a n c := by obtain ⟨a, c, e⟩ := p2.shape; exact ⟨a, _, c, e⟩
  obtain ⟨E, hE⟩ : ∃ E, E = wanCells x (.slice va nv vc) (.slice ia n ic) (.slice fa nf fc) := ⟨_, rfl⟩
  have CE : Hid (∀ W b, CellsAt W b E 26 → W.cell? ⟨b, 0, none⟩ = some (.int .u8 (x.kind : Int))) := Lib.hid fun W b h => by
    have h0 : W.cell? ⟨b, 0, none⟩ = some (.int .u8 (x.kind : Int)) := by subst hE; exact h.cell 0
    exact h0
  obtain ⟨R, hR⟩ : ∃ R : List Value, R = [.int .u8 0, .int .i64 0, .slice none 0 0, .slice none 0 0, .int .i64 0, .int .u64 0, .slice none 0 0] := ⟨_, rfl⟩
  have RET : Hid (∀ W, Gr w W → RetPlainW w x (.returned (.tuple #[.agg R.toArray, .bool false])) W) := Lib.hid fun W g => retPlainW_mk (.slice none 0 0) (.slice none 0 0) (.slice none 0 0) R false PX hk (by rw [hR]; rfl) ⟨SlP.nil _ _ _ _, ItemsP.nil _ _ _ _, SlP.nil _ _ _ _⟩ g
  have RN : Hid (R.length = 7) := Lib.hid (by rw [hR]; rfl)
  have R1 : Hid (oneAll R) := Lib.hid (by rw [hR]; rfl)
  rw [← hE]
  have BU : Hid (Try.prog.built 26 [] = some R.toArray) := Lib.hid (by rw [hR]; exact built_wan0)
  clear hE PX hR hp0 p1 p2 p3 hk
  go_enter Try.func44, Try.ntmps44
  go_wp2_with (first | (refine wpList_boxE _ rfl rfl rfl ?_) | fail)
  intro w1 K1 G1 n1
  obtain ⟨b, hb⟩ : ∃ b, b = w.heap.size := ⟨_, rfl⟩
  rw [← hb]
  rw [← hb] at K1
  obtain ⟨w2, hw2⟩ : ∃ w2, w2 = w1.alloc (.cells #[.int .u8 0, .int .i64 0, .slice none 0 0, .slice none 0 0, .int .i64 0, .int .u64 0, .slice none 0 0] 26) := ⟨_, rfl⟩
  have g2 : Gr w1 w2 := by rw [hw2]; exact (Gr.refl w1).alloc _
  have k2 : CellsAt w2 w1.heap.size zeroWL 26 := by rw [hw2]; exact CellsAt.new _ _ _
  have HW : w1.alloc (.cells #[.int .u8 0, .int .i64 0, .slice none 0 0, .slice none 0 0, .int .i64 0, .int .u64 0, .slice none 0 0] 26) = w2 := hw2.symm
  have KB := Lib.hid (K1.gr g2)
  have K2 := Lib.hid k2
  have GW := Lib.hid (G1.trans g2)
  have BG : Hid (w.heap.size ≤ w1.heap.size) := Lib.hid G1.size
  have cc := CE.out w2 b KB.out
  have x0 := cc
  clear cc K1 G1 n1 g2 k2 hb hw2
  go_wp2_with (first | (refine wpList_buildTo rfl 26 _ rfl (some 58) rfl R.toArray (by simp only [List.map_toArray, List.map_cons, List.map_nil]; exact BU.out) ?_) | (refine wpList_storeE wanTy _ _ rfl rfl rfl rfl K2.out RN.out rfl R1.out ?_) | fail)
  intro w3 k3 c3
  have RR := Lib.hid (RET.out w3 (Below.trans GW.out (c3.below GW.out.size (fun k hk => by have : k = w1.heap.size := hk; have := BG.out; omega))))
  have K3 := Lib.hid k3
  clear k3 c3
  go_wp2
  exact bodyPost_ret (v := .tuple #[.agg R.toArray, .bool false]) (results_row2 (fn := Try.f44) wanTy rfl _ _ rfl K3.out RN.out) rfl RR.out
theorem plain_any (w : World) (x : WanD) (vv iv fv : Value) (hp : WanP Any w x vv iv fv) : Calls Try.prog 44 #[.agg (wanCells x vv iv fv).toArray] w (RetPlainW w x) := by
  cases hk : kindW x.kind with
  | false => exact plain_none w x vv iv fv hk hp
  | true =>
    have h2 := (kindW_iff _).1 hk
    rcases (by omega : x.kind = 1 ∨ x.kind = 2 ∨ x.kind = 3 ∨ x.kind = 4 ∨ x.kind = 5 ∨ x.kind = 6) with h | h | h | h | h | h
    · exact plain_1 w x vv iv fv h hp
    · exact plain_2 w x vv iv fv h hp
    · exact plain_3 w x vv iv fv h hp
    · exact plain_4 w x vv iv fv h hp
    · exact plain_5 w x vv iv fv h hp
    · exact plain_6 w x vv iv fv h hp
end Go.Proofs.Ytgilijkmmcpfjaa
end
section
set_option linter.unusedVariables false
set_option linter.unusedSimpArgs false
set_option maxRecDepth 100000
namespace Go.Proofs.Ytgilijkmmcpfjaa
open Go.RowKit
theorem refMayW_iff (x : WanD) : (kindW x.kind = true ∧ plainW x = x ∧ 0 ≤ x.site ∧ x.site ≤ 2 ∧ 0 ≤ x.region ∧ x.region ≤ 3 ∧ x.vector.length ≤ 3 ∧ x.frontier.length ≤ 3 ∧ x.items.length ≤ 8 ∧ x.items.all mayItem = true) ↔ mayW x = true := by
  rw [mayW_iff]
  constructor
  · rintro ⟨h0, h1, h2, h3, h4, h5, h6, h7, h8, h9⟩
    have hk := (kindW_iff x.kind).1 h0
    have ha := List.all_eq_true.1 h9
    obtain ⟨k, s, v, it, r, e, f⟩ := x
    replace hk : 1 ≤ k ∧ k ≤ 6 := hk
    have hc : k = 1 ∨ k = 2 ∨ k = 3 ∨ k = 4 ∨ k = 5 ∨ k = 6 := by omega
    simp only at h2 h3 h4 h5 h6 h7 h8 ha
    rcases hc with rfl | rfl | rfl | rfl | rfl | rfl <;> simp [plainW] at h1 <;>
      exact ⟨hk, ⟨h2, Int.lt_add_one_of_le h3⟩, (by first | exact .inr ⟨rfl, h6⟩ | exact .inl (by simp_all)), (by first | exact .inr ⟨rfl, h7⟩ | exact .inl (by simp_all)),
        (by first | exact .inl (show r = 0 by omega) | (by_cases hz : r = 0; exact .inl hz; exact .inr ⟨rfl, show 0 < r by omega, show r < 4 by omega⟩)), (by first | exact .inr rfl | exact .inl (show e = 0 by omega)), (by first | exact .inr ⟨rfl, h8⟩ | exact .inl (by simp_all)), ha⟩
  · intro m
    have hk := m.kind
    have hc : x.kind = 1 ∨ x.kind = 2 ∨ x.kind = 3 ∨ x.kind = 4 ∨ x.kind = 5 ∨ x.kind = 6 := by omega
    have hv := m.vector
    have hf := m.frontier
    have hr := m.region
    have he := m.epoch
    have hi := m.items
    refine ⟨(kindW_iff _).2 hk, ?_, m.site.1, by have := m.site.2; omega, by omega, by omega, ?_, ?_, ?_, List.all_eq_true.2 m.all⟩
    · obtain ⟨k, s, v, it, r, e, f⟩ := x
      simp only at hc hv hf hr he hi ⊢
      rcases hc with rfl | rfl | rfl | rfl | rfl | rfl <;> simp_all [plainW, hasV, hasF, hasR, hasE, hasI]
    · rcases hv with h | h
      · rw [h]; exact Nat.zero_le _
      · exact h.2
    · rcases hf with h | h
      · rw [h]; exact Nat.zero_le _
      · exact h.2
    · rcases hi with h | h
      · rw [h]; exact Nat.zero_le _
      · exact h.2
theorem plainW_short {x : WanD} (h : WanShort x) : WanShort (plainW x) := by
  have z : ∀ {α : Type}, ([] : List α).length ≤ 1000000 := fun {α} => Nat.zero_le _
  have zi : ∀ y ∈ ([] : List ItemD), ItemShort y := fun y hy => by cases hy
  unfold plainW
  split
  · exact ⟨h.vector, z, z, zi⟩
  split
  · exact ⟨z, h.items, z, h.each⟩
  split
  · exact ⟨z, z, h.frontier, zi⟩
  split
  · exact ⟨z, z, z, zi⟩
  split
  · exact ⟨z, z, z, zi⟩
  · exact ⟨z, z, z, zi⟩
set_option maxHeartbeats 8000000 in
theorem dmayW_any (w : World) (x : WanD) (vv iv fv : Value) (hp : WanP Any w x vv iv fv) (sh : WanShort x) : Calls Try.prog 16 #[.agg (wanCells x vv iv fv).toArray] w (RetBool w (mayW x)) := by
  obtain ⟨va, vc, rfl, _, _⟩ := Sl.numsAt' hp.1.1
  obtain ⟨fa, fc, rfl, _, _⟩ := Sl.numsAt' hp.2.2.1
  obtain ⟨ia, ic, rfl⟩ := hp.2.1.shape
  obtain ⟨nv, hnv⟩ : ∃ n, n = x.vector.length := ⟨_, rfl⟩
  obtain ⟨nf, hnf⟩ : ∃ n, n = x.frontier.length := ⟨_, rfl⟩
  obtain ⟨n, hn⟩ : ∃ n, n = x.items.length := ⟨_, rfl⟩
  obtain ⟨E, hE⟩ : ∃ E, E = wanCells x (.slice va x.vector.length vc) (.slice ia x.items.length ic) (.slice fa x.frontier.length fc) := ⟨_, rfl⟩
  have EN : Hid (E.length = 7) := Lib.hid (by rw [hE]; rfl)
  have CE : Hid (∀ W b, CellsAt W b E 26 → W.cell? ⟨b, 1, none⟩ = some (.int .i64 x.site) ∧ W.cell? ⟨b, 2, none⟩ = some (.slice va nv vc) ∧ W.cell? ⟨b, 3, none⟩ = some (.slice ia n ic) ∧ W.cell? ⟨b, 4, none⟩ = some (.int .i64 x.region) ∧ W.cell? ⟨b, 6, none⟩ = some (.slice fa nf fc)) := Lib.hid fun W B h => by
    subst hE; rw [hn, hnv, hnf]
    exact ⟨h.cell 1, h.cell 2, h.cell 3, h.cell 4, h.cell 6⟩
  have PL : Hid (∀ W, Gr w W → Calls Try.prog 44 #[.agg E.toArray] W (RetPlainW W x)) := Lib.hid fun W hW => by rw [hE]; exact plain_any W x _ _ _ (hp.gr hW)
  have SAME : Hid (∀ W a b c, Gr w W → WanP Any W (plainW x) a b c → Calls Try.prog 15 #[.agg (wanCells (plainW x) a b c).toArray, .agg E.toArray] W (Says (plainW x = x) W)) := Lib.hid fun W a b c hW h => by rw [hE]; exact wan_says W _ _ _ _ _ _ _ _ h (hp.gr hW) (plainW_short sh) sh
  have HIT : Hid (ItemsP Any w (.slice ia x.items.length ic) x.items) := Lib.hid hp.2.1
  have EACH := Lib.hid sh.each
  have IFF := Lib.hid (refMayW_iff x)
  have HNV := Lib.hid hnv
  have HNF := Lib.hid hnf
  have HN := Lib.hid hn
  have N6 : Hid (n ≤ 1000000) := Lib.hid (by rw [hn]; exact sh.items)
  obtain ⟨m, hm⟩ : ∃ m, m = mayW x := ⟨_, rfl⟩
  rw [← hE, ← hm]
  rw [← hm] at IFF
  clear hnv hnf hn hE hp sh hm
  go_enter Try.func16, Try.ntmps16
  go_wp2_with (first | (refine wpList_boxE _ rfl rfl rfl ?_) | fail)
  intro w1 K1 G1 nz1
  obtain ⟨b, hb⟩ : ∃ b, b = w.heap.size := ⟨_, rfl⟩
  rw [← hb]
  rw [← hb] at K1
  have KB := Lib.hid K1
  have G1h := Lib.hid G1
  clear K1 nz1 hb G1
  go_wp2_with (first | (refine wpList_loadE wanTy _ rfl rfl rfl KB.out EN.out ?_) | fail)
  refine (PL.out w1 G1h.out).mono ?_
  rintro e w2 ⟨a2, b2, c2, rfl, hp2, g2⟩
  obtain ⟨y, hy⟩ : ∃ y, y = plainW x := ⟨_, rfl⟩
  obtain ⟨cb, hcb⟩ : ∃ cb, cb = kindW x.kind := ⟨_, rfl⟩
  rw [← hy] at hp2 SAME IFF ⊢
  rw [← hcb] at IFF ⊢
  obtain ⟨F, hF⟩ : ∃ F, F = wanCells y a2 b2 c2 := ⟨_, rfl⟩
  have FN1 : Hid (F.length = 7) := Lib.hid (by rw [hF]; rfl)
  have F1 : Hid (oneAll F) := Lib.hid (by rw [hF]; exact wan_one hp2)
  have HF := Lib.hid hF
  rw [← hF]
  have P2 := Lib.hid hp2
  have G2 := Lib.hid g2
  clear hy hcb hF hp2 g2
  go_wp2_with (first | (refine wpList_storeE wanTy _ _ rfl rfl rfl rfl (CellsAt.new _ _ _) FN1.out rfl F1.out ?_) | fail)
  intro w3 k3 c3
  have g3 : Gr w2 w3 := Below.trans ((Gr.refl w2).alloc _) (c3.below ((Gr.refl w2).alloc _).size (fun k hk => by have : k = w2.heap.size := hk; omega))
  have G3 := Lib.hid (G2.out.trans g3)
  have GG := Lib.hid (G1h.out.trans G3.out)
  have K3 := Lib.hid k3
  have KB3 := Lib.hid (KB.out.gr G3.out)
  have P3 := Lib.hid (P2.out.gr g3)
  clear k3 c3 g3 P2
  cases cb with
  | false =>
    have HN2 : Hid (m = false) := Lib.hid (by cases m with | false => rfl | true => exact absurd (IFF.out.2 rfl).1 (by decide))
    clear IFF
    go_wp2
    go_ret
    exact RetBool.mk (by rw [HN2.out]) GG.out
  | true =>
  go_wp2_with (first | (refine wpList_loadW wanTy _ rfl rfl rfl K3.out FN1.out ?_) | (refine wpList_loadW wanTy _ rfl rfl rfl KB3.out EN.out ?_) | fail)
  rw [HF.out]
  refine (SAME.out w3 a2 b2 c2 GG.out P3.out).mono ?_
  rintro e w4 ⟨z, rfl, hz, g4⟩
  rw [← HF.out]
  have G4 := Lib.hid (GG.out.trans g4)
  have KB4 := Lib.hid (KB3.out.gr g4)
  have HZ := Lib.hid hz
  clear hz g4 SAME P3 K3 KB3
  obtain ⟨x1, x2, x3, x4, x6⟩ := CE.out w4 b KB4.out
  cases z with
  | false =>
    have HN2 : Hid (m = false) := Lib.hid (by cases m with | false => rfl | true => exact absurd (HZ.out.2 (IFF.out.2 rfl).2.1) (by decide))
    clear IFF HZ x1 x2 x3 x4 x6
    go_wp2
    go_ret
    exact RetBool.mk (by rw [HN2.out]) G4.out
  | true =>
  have PE := Lib.hid (HZ.out.1 rfl)
  clear HZ
  by_cases h0 : x.site < 0
  · have hq : x.site < 0 := by omega
    have HN2 : Hid (m = false) := Lib.hid (by
      cases m with
      | false => rfl
      | true =>
        have q := (IFF.out.2 rfl).2.2.1
        have e1 := HNV.out; have e2 := HNF.out; have e3 := HN.out
        exfalso; omega)
    clear IFF PE h0
    go_wp2
    go_ret
    exact RetBool.mk (by rw [HN2.out]) G4.out
  have hq0 : ¬ x.site < 0 := by omega
  by_cases h1 : 2 < x.site
  · have hq : 2 < x.site := by omega
    have HN2 : Hid (m = false) := Lib.hid (by
      cases m with
      | false => rfl
      | true =>
        have q := (IFF.out.2 rfl).2.2.2.1
        have e1 := HNV.out; have e2 := HNF.out; have e3 := HN.out
        exfalso; omega)
    clear IFF PE h1
    go_wp2
    go_ret
    exact RetBool.mk (by rw [HN2.out]) G4.out
  have hq1 : ¬ 2 < x.site := by omega
  by_cases h2 : x.region < 0
  · have hq : x.region < 0 := by omega
    have HN2 : Hid (m = false) := Lib.hid (by
      cases m with
      | false => rfl
      | true =>
        have q := (IFF.out.2 rfl).2.2.2.2.1
        have e1 := HNV.out; have e2 := HNF.out; have e3 := HN.out
        exfalso; omega)
    clear IFF PE h2
    go_wp2
    go_ret
    exact RetBool.mk (by rw [HN2.out]) G4.out
  have hq2 : ¬ x.region < 0 := by omega
  by_cases h3 : 3 < x.region
  · have hq : 3 < x.region := by omega
    have HN2 : Hid (m = false) := Lib.hid (by
      cases m with
      | false => rfl
      | true =>
        have q := (IFF.out.2 rfl).2.2.2.2.2.1
        have e1 := HNV.out; have e2 := HNF.out; have e3 := HN.out
        exfalso; omega)
    clear IFF PE h3
    go_wp2
    go_ret
    exact RetBool.mk (by rw [HN2.out]) G4.out
  have hq3 : ¬ 3 < x.region := by omega
  by_cases h4 : 3 < nv
  · have hq : (3 : Int) < (nv : Int) := by omega
    have HN2 : Hid (m = false) := Lib.hid (by
      cases m with
      | false => rfl
      | true =>
        have q := (IFF.out.2 rfl).2.2.2.2.2.2.1
        have e1 := HNV.out; have e2 := HNF.out; have e3 := HN.out
        exfalso; omega)
    clear IFF PE h4
    go_wp2
    go_ret
    exact RetBool.mk (by rw [HN2.out]) G4.out
  have hq4 : ¬ (3 : Int) < (nv : Int) := by omega
  by_cases h5 : 3 < nf
  · have hq : (3 : Int) < (nf : Int) := by omega
    have HN2 : Hid (m = false) := Lib.hid (by
      cases m with
      | false => rfl
      | true =>
        have q := (IFF.out.2 rfl).2.2.2.2.2.2.2.1
        have e1 := HNV.out; have e2 := HNF.out; have e3 := HN.out
        exfalso; omega)
    clear IFF PE h5
    go_wp2
    go_ret
    exact RetBool.mk (by rw [HN2.out]) G4.out
  have hq5 : ¬ (3 : Int) < (nf : Int) := by omega
  by_cases h6 : 8 < n
  · have hq : (8 : Int) < (n : Int) := by omega
    have HN2 : Hid (m = false) := Lib.hid (by
      cases m with
      | false => rfl
      | true =>
        have q := (IFF.out.2 rfl).2.2.2.2.2.2.2.2.1
        have e1 := HNV.out; have e2 := HNF.out; have e3 := HN.out
        exfalso; omega)
    clear IFF PE h6
    go_wp2
    go_ret
    exact RetBool.mk (by rw [HN2.out]) G4.out
  have hq6 : ¬ (8 : Int) < (n : Int) := by omega
  have ALL : Hid (x.items.all mayItem = m) := Lib.hid (by
    rw [Bool.eq_iff_iff, ← IFF.out]
    have e1 := HNV.out; have e2 := HNF.out; have e3 := HN.out
    exact ⟨fun h => ⟨by trivial, PE.out, by omega, by omega, by omega, by omega, by omega, by omega, by omega, h⟩, fun h => h.2.2.2.2.2.2.2.2.2⟩)
  have CK : Hid (∀ W, Gr w4 W → W.cell? ⟨b, 3, none⟩ = some (.slice ia n ic)) := Lib.hid fun W hW => (CE.out W b (KB4.out.gr hW)).2.2.1
  clear IFF PE h0 h1 h2 h3
  go_wp2_with fail
  go_loopw [5] (fun i wr => ∃ k : Nat, k ≤ n ∧ i = .int .i64 k ∧ Hid ((x.items.take k).all mayItem = true) ∧ Gr w4 wr) (fun i _ => n - (intOf i).toNat)
  case atStart => exact ⟨0, Nat.zero_le _, rfl, Lib.hid rfl, Gr.refl _⟩
  case round =>
    clear x1 x2 x3 x4 x6 hq0 hq1 hq2 hq3 hq4 hq5 hq6
    obtain ⟨k, hk, rfl, HA, hg⟩ := hrel
    have x3 := CK.out wr hg
    by_cases hlt : k < n
    · have hlt2 : k < x.items.length := by rw [← HN.out]; exact hlt
      obtain ⟨B3, o3, _, sv3, ev3, e3, hB3, op3, t3⟩ := (HIT.out.gr (G4.out.trans hg)).at k hlt2
      rw [← HN.out] at e3
      injection e3 with e3 _ q3
      subst e3 q3
      have BAD : Hid (mayItem x.items[k] = false → m = false) := Lib.hid fun h => by rw [← ALL.out]; exact List.all_eq_false.2 ⟨_, List.getElem_mem hlt2, by rw [h]; decide⟩
      have NEXT : Hid (mayItem x.items[k] = true → (x.items.take (k + 1)).all mayItem = true) := Lib.hid fun h => all_next mayItem x.items k hlt2 HA.out h
      have hsh : x.items[k].effs.length ≤ 1000000 := (EACH.out _ (List.getElem_mem hlt2)).2
      obtain ⟨q, hq⟩ : ∃ q, q = x.items[k] := ⟨_, rfl⟩
      rw [← hq] at op3 t3 BAD NEXT hsh
      have MI := Lib.hid fun W (hW : Gr wr W) => dmayitem_any W q sv3 ev3 (op3.gr hW) hsh
      obtain ⟨sa1, ns1, sc1, ea1, ne1, ec1, rfl, rfl⟩ := item_shape op3
      obtain ⟨mi, hmi⟩ : ∃ mi, mi = mayItem q := ⟨_, rfl⟩
      rw [← hmi] at BAD NEXT MI
      have a0 := t3 0 _ (by decide) rfl
      have a1 := t3 1 _ (by decide) rfl
      have a2 := t3 2 _ (by decide) rfl
      have a3 := t3 3 _ (by decide) rfl
      have a4 := t3 4 _ (by decide) rfl
      have a5 := t3 5 _ (by decide) rfl
      have a6 := t3 6 _ (by decide) rfl
      simp only [Nat.add_zero] at a0 a1 a2 a3 a4 a5 a6
      have HG := Lib.hid hg
      clear hq hmi op3 t3 hlt2 hsh HA hg
      have i1 : (0 : Int) ≤ (k : Int) := by omega
      have i2 : (k : Int) < (n : Int) := by omega
      go_wp2_with fail
      refine (MI.out wr (Gr.refl _)).mono ?_
      rintro e w5 ⟨rfl, g5⟩
      have G5 := Lib.hid (HG.out.trans g5)
      clear a0 a1 a2 a3 a4 a5 a6 x3 g5 MI
      cases mi with
      | true =>
        have TK := Lib.hid (NEXT.out rfl)
        clear NEXT BAD
        go_wp2
        go_roundw
        case rel => exact ⟨k + 1, by omega, by go_num, TK, G5.out⟩
        case measure => simp [intOf]; omega
      | false =>
        have HN2 := Lib.hid (BAD.out rfl)
        have GZ := Lib.hid (G4.out.trans G5.out)
        clear NEXT BAD
        go_wp2
        go_ret
        exact RetBool.mk (by rw [HN2.out]) GZ.out
    · obtain rfl : k = n := by omega
      have HM : Hid (m = true) := Lib.hid (by rw [← ALL.out, ← HA.out, List.take_of_length_le (by rw [HN.out]; exact Nat.le_refl _)])
      have GZ := Lib.hid (G4.out.trans hg)
      clear HA hg
      go_wp2
      go_ret
      exact RetBool.mk (by rw [HM.out]) GZ.out
end Go.Proofs.Ytgilijkmmcpfjaa
end
