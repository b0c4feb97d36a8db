/-
  Of the document: plain: of an entry what its kind has.
-/
import Derived.Test.YtiemgmbjhllmbaaGreatZRMay
import Derived.Test.YtiemgmbjhllmbaaGreatZK
import Derived.Test.YtiemgmbjhllmbaaGreatZEnBig
set_option linter.unusedVariables false
set_option linter.unusedSimpArgs false
set_option maxRecDepth 100000
namespace Go.Proofs.YtiemgmbjhllmbaaGreat
open Go.RowKit
section
variable {P : Program} {W w' : World} {o : Oper} {a : Act} {ops : Array Oper}
theorem opT_build {R : World → World → Prop} {V : Sp} (t : TypeId) (parts : Array (Nat × Operand)) (ho : o.op = .build t parts) (hgd : o.guard = none) {cells : Array Value} (hf : P.built t (parts.map fun (i, x) => (i, a.eval x)).toList = some cells) (h : R W W ∧ V (.agg cells) W) : opT P R ops o a W V := by
  unfold opT
  rw [if_pos (by simp [Region.wanted, hgd])]
  unfold execOp
  simp only [ho, Sem.run_bind, run_build W t _ cells hf, Result.andThen_ok]
  exact h
end
/-- What the document asks of an entry's own parts, but place, region, frontier. -/
def condX (x : EntD) : Bool := match x.kind with
  | 1 => maySess x.osite && mayOp x.op
  | 3 => maySess x.osite
  | 4 => mayItem x.item
  | _ => true
def refPlain (x : EntD) : EntD × Bool := if kindK x.kind then (plainX x, condX x) else (zeroX, false)
def RetPlain (w : World) (x : EntD) (e : Ending) (w' : World) : Prop := ∃ q, e = .returned (.tuple #[.agg (entCells (refPlain x).1 q).toArray, .bool (refPlain x).2]) ∧ EntP Any w' (refPlain x).1 q ∧ Gr w w'
theorem retPlain_mk {w w' : World} {x : EntD} (y : EntD) (b : Bool) (q : EntV) (E : List Value) (h : refPlain x = (y, b)) (hE : E = entCells y q) (hp : EntP Any w' y q) (g : Gr w w') : RetPlain w x (.returned (.tuple #[.agg E.toArray, .bool b])) w' := ⟨q, by rw [h, hE], by rw [h]; exact hp, g⟩
theorem OpP.zero (P : Nat → Prop) (w : World) : OpP P w zeroO (.slice none 0 0) (.slice none 0 0) := OpP.of (SlP.nil _ _ _ _) (OpsP.nil _ _ _ _)
theorem built_1 (z1 : Int) (z2 : Int) (z3 : Int) (z4 : Int) (z5 : Int) (s6 : ByteArray) (a7 : Option Addr) (n7 : Nat) (c7 : Nat) (z8 : Int) (b9 : Bool) (b10 : Bool) (a11 : Option Addr) (n11 : Nat) (c11 : Nat) : Tryz.prog.built 35 [(0, .int .u8 1), (1, .int .u32 z1), (2, .int .u32 z2), (3, .agg #[.int .i64 z3, .int .u32 z4]), (4, .agg #[.int .u8 z5, .string s6, .slice a7 n7 c7, .int .i64 z8, .bool b9, .bool b10, .slice a11 n11 c11])] = some #[.int .u8 1, .int .u32 z1, .int .u32 z2, .int .i64 z3, .int .u32 z4, .int .u8 z5, .string s6, .slice a7 n7 c7, .int .i64 z8, .bool b9, .bool b10, .slice a11 n11 c11, .int .i64 0, .int .u64 0, .int .i64 0, .int .u64 0, .slice none 0 0, .slice none 0 0, .int .u32 0, .int .i64 0, .int .i64 0, .int .u64 0, .slice none 0 0] := by kernel_rfl
theorem built_2 (z1 : Int) (z2 : Int) : Tryz.prog.built 35 [(0, .int .u8 2), (1, .int .u32 z1), (2, .int .u32 z2)] = some #[.int .u8 2, .int .u32 z1, .int .u32 z2, .int .i64 0, .int .u32 0, .int .u8 0, .string ⟨#[]⟩, .slice none 0 0, .int .i64 0, .bool false, .bool false, .slice none 0 0, .int .i64 0, .int .u64 0, .int .i64 0, .int .u64 0, .slice none 0 0, .slice none 0 0, .int .u32 0, .int .i64 0, .int .i64 0, .int .u64 0, .slice none 0 0] := by kernel_rfl
theorem built_3 (z1 : Int) (z2 : Int) (z3 : Int) (z4 : Int) : Tryz.prog.built 35 [(0, .int .u8 3), (1, .int .u32 z1), (2, .int .u32 z2), (3, .agg #[.int .i64 z3, .int .u32 z4])] = some #[.int .u8 3, .int .u32 z1, .int .u32 z2, .int .i64 z3, .int .u32 z4, .int .u8 0, .string ⟨#[]⟩, .slice none 0 0, .int .i64 0, .bool false, .bool false, .slice none 0 0, .int .i64 0, .int .u64 0, .int .i64 0, .int .u64 0, .slice none 0 0, .slice none 0 0, .int .u32 0, .int .i64 0, .int .i64 0, .int .u64 0, .slice none 0 0] := by kernel_rfl
theorem built_4 (z12 : Int) (z13 : Int) (z14 : Int) (z15 : Int) (a16 : Option Addr) (n16 : Nat) (c16 : Nat) (a17 : Option Addr) (n17 : Nat) (c17 : Nat) (z18 : Int) : Tryz.prog.built 35 [(0, .int .u8 4), (5, .agg #[.int .i64 z12, .int .u64 z13, .int .i64 z14, .int .u64 z15, .slice a16 n16 c16, .slice a17 n17 c17, .int .u32 z18])] = some #[.int .u8 4, .int .u32 0, .int .u32 0, .int .i64 0, .int .u32 0, .int .u8 0, .string ⟨#[]⟩, .slice none 0 0, .int .i64 0, .bool false, .bool false, .slice none 0 0, .int .i64 z12, .int .u64 z13, .int .i64 z14, .int .u64 z15, .slice a16 n16 c16, .slice a17 n17 c17, .int .u32 z18, .int .i64 0, .int .i64 0, .int .u64 0, .slice none 0 0] := by kernel_rfl
theorem built_5 (z20 : Int) (z21 : Int) (a22 : Option Addr) (n22 : Nat) (c22 : Nat) : Tryz.prog.built 35 [(0, .int .u8 5), (7, .int .i64 z20), (8, .int .u64 z21), (9, .slice a22 n22 c22)] = some #[.int .u8 5, .int .u32 0, .int .u32 0, .int .i64 0, .int .u32 0, .int .u8 0, .string ⟨#[]⟩, .slice none 0 0, .int .i64 0, .bool false, .bool false, .slice none 0 0, .int .i64 0, .int .u64 0, .int .i64 0, .int .u64 0, .slice none 0 0, .slice none 0 0, .int .u32 0, .int .i64 0, .int .i64 z20, .int .u64 z21, .slice a22 n22 c22] := by kernel_rfl
theorem built_6 (z20 : Int) (z21 : Int) : Tryz.prog.built 35 [(0, .int .u8 6), (7, .int .i64 z20), (8, .int .u64 z21)] = some #[.int .u8 6, .int .u32 0, .int .u32 0, .int .i64 0, .int .u32 0, .int .u8 0, .string ⟨#[]⟩, .slice none 0 0, .int .i64 0, .bool false, .bool false, .slice none 0 0, .int .i64 0, .int .u64 0, .int .i64 0, .int .u64 0, .slice none 0 0, .slice none 0 0, .int .u32 0, .int .i64 0, .int .i64 z20, .int .u64 z21, .slice none 0 0] := by kernel_rfl
theorem built_7 (z20 : Int) : Tryz.prog.built 35 [(0, .int .u8 7), (7, .int .i64 z20)] = some #[.int .u8 7, .int .u32 0, .int .u32 0, .int .i64 0, .int .u32 0, .int .u8 0, .string ⟨#[]⟩, .slice none 0 0, .int .i64 0, .bool false, .bool false, .slice none 0 0, .int .i64 0, .int .u64 0, .int .i64 0, .int .u64 0, .slice none 0 0, .slice none 0 0, .int .u32 0, .int .i64 0, .int .i64 z20, .int .u64 0, .slice none 0 0] := by kernel_rfl
theorem built_8 (z19 : Int) (z20 : Int) : Tryz.prog.built 35 [(0, .int .u8 8), (6, .int .i64 z19), (7, .int .i64 z20)] = some #[.int .u8 8, .int .u32 0, .int .u32 0, .int .i64 0, .int .u32 0, .int .u8 0, .string ⟨#[]⟩, .slice none 0 0, .int .i64 0, .bool false, .bool false, .slice none 0 0, .int .i64 0, .int .u64 0, .int .i64 0, .int .u64 0, .slice none 0 0, .slice none 0 0, .int .u32 0, .int .i64 z19, .int .i64 z20, .int .u64 0, .slice none 0 0] := by kernel_rfl
theorem built_9 (z19 : Int) (z20 : Int) (z21 : Int) (a22 : Option Addr) (n22 : Nat) (c22 : Nat) : Tryz.prog.built 35 [(0, .int .u8 9), (6, .int .i64 z19), (7, .int .i64 z20), (8, .int .u64 z21), (9, .slice a22 n22 c22)] = some #[.int .u8 9, .int .u32 0, .int .u32 0, .int .i64 0, .int .u32 0, .int .u8 0, .string ⟨#[]⟩, .slice none 0 0, .int .i64 0, .bool false, .bool false, .slice none 0 0, .int .i64 0, .int .u64 0, .int .i64 0, .int .u64 0, .slice none 0 0, .slice none 0 0, .int .u32 0, .int .i64 z19, .int .i64 z20, .int .u64 z21, .slice a22 n22 c22] := by kernel_rfl
set_option maxHeartbeats 2000000 in
theorem dplain_2 (w : World) (x : EntD) (q : EntV) (hk : x.kind = 2) (hp : EntP Any w x q) (ok : EntOk x) (big : EntShort x) : Calls Tryz.prog 35 #[.agg (entCells x q).toArray] w (RetPlain w x) := by
  have hp0 := hp
  obtain ⟨da, dc, pa, pc, sa, sc, ea, ec, fa, fc, rfl⟩ := hp.shapes
  obtain ⟨E, hE⟩ : ∃ E, E = entCells x ⟨.slice da (bytes x.op.h.data).length dc, .slice pa x.op.parts.length pc, .slice sa (nums x.item.stamp).length sc, .slice ea x.item.effs.length ec, .slice fa (nums x.frontier).length fc⟩ := ⟨_, rfl⟩
  have CE : Hid (∀ W b, CellsAt W b E 35 → W.cell? ⟨b, 0, none⟩ = some (.int .u8 2) ∧ W.cell? ⟨b, 1, none⟩ = some (.int .u32 (x.client : Int)) ∧ W.cell? ⟨b, 2, none⟩ = some (.int .u32 (x.req : Int))) := Lib.hid fun W b h => by
    have h0 : W.cell? ⟨b, 0, none⟩ = some (.int .u8 (x.kind : Int)) := by subst hE; exact h.cell 0
    rw [hk] at h0
    exact ⟨h0, by subst hE; exact h.cell 1, by subst hE; exact h.cell 2⟩
  have PX : plainX x = ⟨2, x.client, x.req, 0, 0, zeroO, zeroI, 0, 0, 0, []⟩ := by unfold plainX; rw [hk]; rfl
  obtain ⟨R, hR⟩ : ∃ R : List Value, R = [.int .u8 2, .int .u32 (x.client : Int), .int .u32 (x.req : Int), .int .i64 0, .int .u32 0, .int .u8 0, .string ⟨#[]⟩, .slice none 0 0, .int .i64 0, .bool false, .bool false, .slice none 0 0, .int .i64 0, .int .u64 0, .int .i64 0, .int .u64 0, .slice none 0 0, .slice none 0 0, .int .u32 0, .int .i64 0, .int .i64 0, .int .u64 0, .slice none 0 0] := ⟨_, rfl⟩
  have RE : R = entCells ⟨2, x.client, x.req, 0, 0, zeroO, zeroI, 0, 0, 0, []⟩ ⟨.slice none 0 0, .slice none 0 0, .slice none 0 0, .slice none 0 0, .slice none 0 0⟩ := by rw [hR]; rfl
  have RF : refPlain x = (⟨2, x.client, x.req, 0, 0, zeroO, zeroI, 0, 0, 0, []⟩, condX x) := by unfold refPlain; rw [hk, if_pos (show kindK 2 = true from rfl), PX]
  have CX : condX x = true := by simp only [condX, hk]
  rw [CX] at RF
  have RET : Hid (∀ W, Gr w W → RetPlain w x (.returned (.tuple #[.agg R.toArray, .bool true])) W) := Lib.hid fun W g => retPlain_mk _ _ _ R RF RE (by have hp := hp.gr g; exact ⟨OpP.zero _ _, ItemP.zero _ _, SlP.nil _ _ _ _⟩) g
  have RN : Hid (R.length = 23) := Lib.hid (by rw [hR]; rfl)
  have R1 : Hid (oneAll R) := Lib.hid (by rw [hR]; rfl)
  rw [← hE]
  have HX := Lib.hid hp0
  clear hE CX PX RE RF hp hp0
  go_enter Tryz.func35, Tryz.ntmps35
  go_wp2_with (first | (refine wpList_boxE _ rfl rfl rfl ?_) | fail)
  intro w1 K1 G1 n1
  obtain ⟨b, hb⟩ : ∃ b, b = w.heap.size := ⟨_, rfl⟩
  rw [← hb]
  rw [← hb] at K1
  obtain ⟨w2, hw2⟩ : ∃ w2, w2 = w1.alloc (.cells zeroL.toArray 35) := ⟨_, rfl⟩
  have g2 : Gr w1 w2 := by rw [hw2]; exact (Gr.refl w1).alloc _
  have k2 : CellsAt w2 w1.heap.size zeroL 35 := by rw [hw2]; exact CellsAt.new _ _ _
  have HW : w1.alloc (.cells #[.int .u8 0, .int .u32 0, .int .u32 0, .int .i64 0, .int .u32 0, .int .u8 0, .string ⟨#[]⟩, .slice none 0 0, .int .i64 0, .bool false, .bool false, .slice none 0 0, .int .i64 0, .int .u64 0, .int .i64 0, .int .u64 0, .slice none 0 0, .slice none 0 0, .int .u32 0, .int .i64 0, .int .i64 0, .int .u64 0, .slice none 0 0] 35) = w2 := hw2.symm
  have KB := Lib.hid (K1.gr g2)
  have K2 := Lib.hid k2
  have GW := Lib.hid (G1.trans g2)
  have BN : Hid (b ≠ w1.heap.size) := Lib.hid (fun e => by have := K1.lt; omega)
  have BG : Hid (w.heap.size ≤ w1.heap.size) := Lib.hid G1.size
  obtain ⟨x0, x1, x2⟩ := CE.out w2 b KB.out
  clear K1 G1 n1 g2 k2 hb hw2
  have BU : Hid (Tryz.prog.built 35 [(0, .int .u8 2), (1, .int .u32 (x.client : Int)), (2, .int .u32 (x.req : Int))] = some R.toArray) := Lib.hid (by rw [hR]; exact built_2 _ _)
  clear hR
  go_wp2_with (first | (refine wpList_buildTo rfl 35 _ rfl (some 35) rfl R.toArray (by simp only [List.map_toArray, List.map_cons, List.map_nil]; exact BU.out) ?_) | (refine wpList_storeE entTy _ _ rfl rfl rfl rfl K2.out RN.out zeroL_len R1.out ?_) | fail)
  intro w3 k3 c3
  have RR := Lib.hid (RET.out w3 (Below.trans GW.out (c3.below GW.out.size (fun k hk => by have : k = w1.heap.size := hk; have := BG.out; omega))))
  have K3 := Lib.hid k3
  clear k3 c3
  go_wp2
  exact bodyPost_ret (v := .tuple #[.agg R.toArray, .bool true]) (results_row2 (fn := Tryz.f35) entTy rfl _ _ rfl K3.out RN.out) rfl RR.out
set_option maxHeartbeats 2000000 in
theorem dplain_5 (w : World) (x : EntD) (q : EntV) (hk : x.kind = 5) (hp : EntP Any w x q) (ok : EntOk x) (big : EntShort x) : Calls Tryz.prog 35 #[.agg (entCells x q).toArray] w (RetPlain w x) := by
  have hp0 := hp
  obtain ⟨da, dc, pa, pc, sa, sc, ea, ec, fa, fc, rfl⟩ := hp.shapes
  obtain ⟨E, hE⟩ : ∃ E, E = entCells x ⟨.slice da (bytes x.op.h.data).length dc, .slice pa x.op.parts.length pc, .slice sa (nums x.item.stamp).length sc, .slice ea x.item.effs.length ec, .slice fa (nums x.frontier).length fc⟩ := ⟨_, rfl⟩
  have CE : Hid (∀ W b, CellsAt W b E 35 → W.cell? ⟨b, 0, none⟩ = some (.int .u8 5) ∧ W.cell? ⟨b, 20, none⟩ = some (.int .i64 x.region) ∧ W.cell? ⟨b, 21, none⟩ = some (.int .u64 (x.epoch : Int)) ∧ W.cell? ⟨b, 22, none⟩ = some (.slice fa (nums x.frontier).length fc)) := Lib.hid fun W b h => by
    have h0 : W.cell? ⟨b, 0, none⟩ = some (.int .u8 (x.kind : Int)) := by subst hE; exact h.cell 0
    rw [hk] at h0
    exact ⟨h0, by subst hE; exact h.cell 20, by subst hE; exact h.cell 21, by subst hE; exact h.cell 22⟩
  have PX : plainX x = ⟨5, 0, 0, 0, 0, zeroO, zeroI, 0, x.region, x.epoch, x.frontier⟩ := by unfold plainX; rw [hk]; rfl
  obtain ⟨R, hR⟩ : ∃ R : List Value, R = [.int .u8 5, .int .u32 0, .int .u32 0, .int .i64 0, .int .u32 0, .int .u8 0, .string ⟨#[]⟩, .slice none 0 0, .int .i64 0, .bool false, .bool false, .slice none 0 0, .int .i64 0, .int .u64 0, .int .i64 0, .int .u64 0, .slice none 0 0, .slice none 0 0, .int .u32 0, .int .i64 0, .int .i64 x.region, .int .u64 (x.epoch : Int), .slice fa (nums x.frontier).length fc] := ⟨_, rfl⟩
  have RE : R = entCells ⟨5, 0, 0, 0, 0, zeroO, zeroI, 0, x.region, x.epoch, x.frontier⟩ ⟨.slice none 0 0, .slice none 0 0, .slice none 0 0, .slice none 0 0, .slice fa (nums x.frontier).length fc⟩ := by rw [hR]; rfl
  have RF : refPlain x = (⟨5, 0, 0, 0, 0, zeroO, zeroI, 0, x.region, x.epoch, x.frontier⟩, condX x) := by unfold refPlain; rw [hk, if_pos (show kindK 5 = true from rfl), PX]
  have CX : condX x = true := by simp only [condX, hk]
  rw [CX] at RF
  have RET : Hid (∀ W, Gr w W → RetPlain w x (.returned (.tuple #[.agg R.toArray, .bool true])) W) := Lib.hid fun W g => retPlain_mk _ _ _ R RF RE (by have hp := hp.gr g; exact ⟨OpP.zero _ _, ItemP.zero _ _, hp.2.2⟩) g
  have RN : Hid (R.length = 23) := Lib.hid (by rw [hR]; rfl)
  have R1 : Hid (oneAll R) := Lib.hid (by rw [hR]; rfl)
  rw [← hE]
  have HX := Lib.hid hp0
  clear hE CX PX RE RF hp hp0
  go_enter Tryz.func35, Tryz.ntmps35
  go_wp2_with (first | (refine wpList_boxE _ rfl rfl rfl ?_) | fail)
  intro w1 K1 G1 n1
  obtain ⟨b, hb⟩ : ∃ b, b = w.heap.size := ⟨_, rfl⟩
  rw [← hb]
  rw [← hb] at K1
  obtain ⟨w2, hw2⟩ : ∃ w2, w2 = w1.alloc (.cells zeroL.toArray 35) := ⟨_, rfl⟩
  have g2 : Gr w1 w2 := by rw [hw2]; exact (Gr.refl w1).alloc _
  have k2 : CellsAt w2 w1.heap.size zeroL 35 := by rw [hw2]; exact CellsAt.new _ _ _
  have HW : w1.alloc (.cells #[.int .u8 0, .int .u32 0, .int .u32 0, .int .i64 0, .int .u32 0, .int .u8 0, .string ⟨#[]⟩, .slice none 0 0, .int .i64 0, .bool false, .bool false, .slice none 0 0, .int .i64 0, .int .u64 0, .int .i64 0, .int .u64 0, .slice none 0 0, .slice none 0 0, .int .u32 0, .int .i64 0, .int .i64 0, .int .u64 0, .slice none 0 0] 35) = w2 := hw2.symm
  have KB := Lib.hid (K1.gr g2)
  have K2 := Lib.hid k2
  have GW := Lib.hid (G1.trans g2)
  have BN : Hid (b ≠ w1.heap.size) := Lib.hid (fun e => by have := K1.lt; omega)
  have BG : Hid (w.heap.size ≤ w1.heap.size) := Lib.hid G1.size
  obtain ⟨x0, x20, x21, x22⟩ := CE.out w2 b KB.out
  clear K1 G1 n1 g2 k2 hb hw2
  have BU : Hid (Tryz.prog.built 35 [(0, .int .u8 5), (7, .int .i64 x.region), (8, .int .u64 (x.epoch : Int)), (9, .slice fa (nums x.frontier).length fc)] = some R.toArray) := Lib.hid (by rw [hR]; exact built_5 _ _ _ _ _)
  clear hR
  go_wp2_with (first | (refine wpList_buildTo rfl 35 _ rfl (some 70) rfl R.toArray (by simp only [List.map_toArray, List.map_cons, List.map_nil]; exact BU.out) ?_) | (refine wpList_storeE entTy _ _ rfl rfl rfl rfl K2.out RN.out zeroL_len R1.out ?_) | fail)
  intro w3 k3 c3
  have RR := Lib.hid (RET.out w3 (Below.trans GW.out (c3.below GW.out.size (fun k hk => by have : k = w1.heap.size := hk; have := BG.out; omega))))
  have K3 := Lib.hid k3
  clear k3 c3
  go_wp2
  exact bodyPost_ret (v := .tuple #[.agg R.toArray, .bool true]) (results_row2 (fn := Tryz.f35) entTy rfl _ _ rfl K3.out RN.out) rfl RR.out
set_option maxHeartbeats 2000000 in
theorem dplain_6 (w : World) (x : EntD) (q : EntV) (hk : x.kind = 6) (hp : EntP Any w x q) (ok : EntOk x) (big : EntShort x) : Calls Tryz.prog 35 #[.agg (entCells x q).toArray] w (RetPlain w x) := by
  have hp0 := hp
  obtain ⟨da, dc, pa, pc, sa, sc, ea, ec, fa, fc, rfl⟩ := hp.shapes
  obtain ⟨E, hE⟩ : ∃ E, E = entCells x ⟨.slice da (bytes x.op.h.data).length dc, .slice pa x.op.parts.length pc, .slice sa (nums x.item.stamp).length sc, .slice ea x.item.effs.length ec, .slice fa (nums x.frontier).length fc⟩ := ⟨_, rfl⟩
  have CE : Hid (∀ W b, CellsAt W b E 35 → W.cell? ⟨b, 0, none⟩ = some (.int .u8 6) ∧ W.cell? ⟨b, 20, none⟩ = some (.int .i64 x.region) ∧ W.cell? ⟨b, 21, none⟩ = some (.int .u64 (x.epoch : Int))) := Lib.hid fun W b h => by
    have h0 : W.cell? ⟨b, 0, none⟩ = some (.int .u8 (x.kind : Int)) := by subst hE; exact h.cell 0
    rw [hk] at h0
    exact ⟨h0, by subst hE; exact h.cell 20, by subst hE; exact h.cell 21⟩
  have PX : plainX x = ⟨6, 0, 0, 0, 0, zeroO, zeroI, 0, x.region, x.epoch, []⟩ := by unfold plainX; rw [hk]; rfl
  obtain ⟨R, hR⟩ : ∃ R : List Value, R = [.int .u8 6, .int .u32 0, .int .u32 0, .int .i64 0, .int .u32 0, .int .u8 0, .string ⟨#[]⟩, .slice none 0 0, .int .i64 0, .bool false, .bool false, .slice none 0 0, .int .i64 0, .int .u64 0, .int .i64 0, .int .u64 0, .slice none 0 0, .slice none 0 0, .int .u32 0, .int .i64 0, .int .i64 x.region, .int .u64 (x.epoch : Int), .slice none 0 0] := ⟨_, rfl⟩
  have RE : R = entCells ⟨6, 0, 0, 0, 0, zeroO, zeroI, 0, x.region, x.epoch, []⟩ ⟨.slice none 0 0, .slice none 0 0, .slice none 0 0, .slice none 0 0, .slice none 0 0⟩ := by rw [hR]; rfl
  have RF : refPlain x = (⟨6, 0, 0, 0, 0, zeroO, zeroI, 0, x.region, x.epoch, []⟩, condX x) := by unfold refPlain; rw [hk, if_pos (show kindK 6 = true from rfl), PX]
  have CX : condX x = true := by simp only [condX, hk]
  rw [CX] at RF
  have RET : Hid (∀ W, Gr w W → RetPlain w x (.returned (.tuple #[.agg R.toArray, .bool true])) W) := Lib.hid fun W g => retPlain_mk _ _ _ R RF RE (by have hp := hp.gr g; exact ⟨OpP.zero _ _, ItemP.zero _ _, SlP.nil _ _ _ _⟩) g
  have RN : Hid (R.length = 23) := Lib.hid (by rw [hR]; rfl)
  have R1 : Hid (oneAll R) := Lib.hid (by rw [hR]; rfl)
  rw [← hE]
  have HX := Lib.hid hp0
  clear hE CX PX RE RF hp hp0
  go_enter Tryz.func35, Tryz.ntmps35
  go_wp2_with (first | (refine wpList_boxE _ rfl rfl rfl ?_) | fail)
  intro w1 K1 G1 n1
  obtain ⟨b, hb⟩ : ∃ b, b = w.heap.size := ⟨_, rfl⟩
  rw [← hb]
  rw [← hb] at K1
  obtain ⟨w2, hw2⟩ : ∃ w2, w2 = w1.alloc (.cells zeroL.toArray 35) := ⟨_, rfl⟩
  have g2 : Gr w1 w2 := by rw [hw2]; exact (Gr.refl w1).alloc _
  have k2 : CellsAt w2 w1.heap.size zeroL 35 := by rw [hw2]; exact CellsAt.new _ _ _
  have HW : w1.alloc (.cells #[.int .u8 0, .int .u32 0, .int .u32 0, .int .i64 0, .int .u32 0, .int .u8 0, .string ⟨#[]⟩, .slice none 0 0, .int .i64 0, .bool false, .bool false, .slice none 0 0, .int .i64 0, .int .u64 0, .int .i64 0, .int .u64 0, .slice none 0 0, .slice none 0 0, .int .u32 0, .int .i64 0, .int .i64 0, .int .u64 0, .slice none 0 0] 35) = w2 := hw2.symm
  have KB := Lib.hid (K1.gr g2)
  have K2 := Lib.hid k2
  have GW := Lib.hid (G1.trans g2)
  have BN : Hid (b ≠ w1.heap.size) := Lib.hid (fun e => by have := K1.lt; omega)
  have BG : Hid (w.heap.size ≤ w1.heap.size) := Lib.hid G1.size
  obtain ⟨x0, x20, x21⟩ := CE.out w2 b KB.out
  clear K1 G1 n1 g2 k2 hb hw2
  have BU : Hid (Tryz.prog.built 35 [(0, .int .u8 6), (7, .int .i64 x.region), (8, .int .u64 (x.epoch : Int))] = some R.toArray) := Lib.hid (by rw [hR]; exact built_6 _ _)
  clear hR
  go_wp2_with (first | (refine wpList_buildTo rfl 35 _ rfl (some 79) rfl R.toArray (by simp only [List.map_toArray, List.map_cons, List.map_nil]; exact BU.out) ?_) | (refine wpList_storeE entTy _ _ rfl rfl rfl rfl K2.out RN.out zeroL_len R1.out ?_) | fail)
  intro w3 k3 c3
  have RR := Lib.hid (RET.out w3 (Below.trans GW.out (c3.below GW.out.size (fun k hk => by have : k = w1.heap.size := hk; have := BG.out; omega))))
  have K3 := Lib.hid k3
  clear k3 c3
  go_wp2
  exact bodyPost_ret (v := .tuple #[.agg R.toArray, .bool true]) (results_row2 (fn := Tryz.f35) entTy rfl _ _ rfl K3.out RN.out) rfl RR.out
set_option maxHeartbeats 2000000 in
theorem dplain_7 (w : World) (x : EntD) (q : EntV) (hk : x.kind = 7) (hp : EntP Any w x q) (ok : EntOk x) (big : EntShort x) : Calls Tryz.prog 35 #[.agg (entCells x q).toArray] w (RetPlain w x) := by
  have hp0 := hp
  obtain ⟨da, dc, pa, pc, sa, sc, ea, ec, fa, fc, rfl⟩ := hp.shapes
  obtain ⟨E, hE⟩ : ∃ E, E = entCells x ⟨.slice da (bytes x.op.h.data).length dc, .slice pa x.op.parts.length pc, .slice sa (nums x.item.stamp).length sc, .slice ea x.item.effs.length ec, .slice fa (nums x.frontier).length fc⟩ := ⟨_, rfl⟩
  have CE : Hid (∀ W b, CellsAt W b E 35 → W.cell? ⟨b, 0, none⟩ = some (.int .u8 7) ∧ W.cell? ⟨b, 20, none⟩ = some (.int .i64 x.region)) := Lib.hid fun W b h => by
    have h0 : W.cell? ⟨b, 0, none⟩ = some (.int .u8 (x.kind : Int)) := by subst hE; exact h.cell 0
    rw [hk] at h0
    exact ⟨h0, by subst hE; exact h.cell 20⟩
  have PX : plainX x = ⟨7, 0, 0, 0, 0, zeroO, zeroI, 0, x.region, 0, []⟩ := by unfold plainX; rw [hk]; rfl
  obtain ⟨R, hR⟩ : ∃ R : List Value, R = [.int .u8 7, .int .u32 0, .int .u32 0, .int .i64 0, .int .u32 0, .int .u8 0, .string ⟨#[]⟩, .slice none 0 0, .int .i64 0, .bool false, .bool false, .slice none 0 0, .int .i64 0, .int .u64 0, .int .i64 0, .int .u64 0, .slice none 0 0, .slice none 0 0, .int .u32 0, .int .i64 0, .int .i64 x.region, .int .u64 0, .slice none 0 0] := ⟨_, rfl⟩
  have RE : R = entCells ⟨7, 0, 0, 0, 0, zeroO, zeroI, 0, x.region, 0, []⟩ ⟨.slice none 0 0, .slice none 0 0, .slice none 0 0, .slice none 0 0, .slice none 0 0⟩ := by rw [hR]; rfl
  have RF : refPlain x = (⟨7, 0, 0, 0, 0, zeroO, zeroI, 0, x.region, 0, []⟩, condX x) := by unfold refPlain; rw [hk, if_pos (show kindK 7 = true from rfl), PX]
  have CX : condX x = true := by simp only [condX, hk]
  rw [CX] at RF
  have RET : Hid (∀ W, Gr w W → RetPlain w x (.returned (.tuple #[.agg R.toArray, .bool true])) W) := Lib.hid fun W g => retPlain_mk _ _ _ R RF RE (by have hp := hp.gr g; exact ⟨OpP.zero _ _, ItemP.zero _ _, SlP.nil _ _ _ _⟩) g
  have RN : Hid (R.length = 23) := Lib.hid (by rw [hR]; rfl)
  have R1 : Hid (oneAll R) := Lib.hid (by rw [hR]; rfl)
  rw [← hE]
  have HX := Lib.hid hp0
  clear hE CX PX RE RF hp hp0
  go_enter Tryz.func35, Tryz.ntmps35
  go_wp2_with (first | (refine wpList_boxE _ rfl rfl rfl ?_) | fail)
  intro w1 K1 G1 n1
  obtain ⟨b, hb⟩ : ∃ b, b = w.heap.size := ⟨_, rfl⟩
  rw [← hb]
  rw [← hb] at K1
  obtain ⟨w2, hw2⟩ : ∃ w2, w2 = w1.alloc (.cells zeroL.toArray 35) := ⟨_, rfl⟩
  have g2 : Gr w1 w2 := by rw [hw2]; exact (Gr.refl w1).alloc _
  have k2 : CellsAt w2 w1.heap.size zeroL 35 := by rw [hw2]; exact CellsAt.new _ _ _
  have HW : w1.alloc (.cells #[.int .u8 0, .int .u32 0, .int .u32 0, .int .i64 0, .int .u32 0, .int .u8 0, .string ⟨#[]⟩, .slice none 0 0, .int .i64 0, .bool false, .bool false, .slice none 0 0, .int .i64 0, .int .u64 0, .int .i64 0, .int .u64 0, .slice none 0 0, .slice none 0 0, .int .u32 0, .int .i64 0, .int .i64 0, .int .u64 0, .slice none 0 0] 35) = w2 := hw2.symm
  have KB := Lib.hid (K1.gr g2)
  have K2 := Lib.hid k2
  have GW := Lib.hid (G1.trans g2)
  have BN : Hid (b ≠ w1.heap.size) := Lib.hid (fun e => by have := K1.lt; omega)
  have BG : Hid (w.heap.size ≤ w1.heap.size) := Lib.hid G1.size
  obtain ⟨x0, x20⟩ := CE.out w2 b KB.out
  clear K1 G1 n1 g2 k2 hb hw2
  have BU : Hid (Tryz.prog.built 35 [(0, .int .u8 7), (7, .int .i64 x.region)] = some R.toArray) := Lib.hid (by rw [hR]; exact built_7 _)
  clear hR
  go_wp2_with (first | (refine wpList_buildTo rfl 35 _ rfl (some 86) rfl R.toArray (by simp only [List.map_toArray, List.map_cons, List.map_nil]; exact BU.out) ?_) | (refine wpList_storeE entTy _ _ rfl rfl rfl rfl K2.out RN.out zeroL_len R1.out ?_) | fail)
  intro w3 k3 c3
  have RR := Lib.hid (RET.out w3 (Below.trans GW.out (c3.below GW.out.size (fun k hk => by have : k = w1.heap.size := hk; have := BG.out; omega))))
  have K3 := Lib.hid k3
  clear k3 c3
  go_wp2
  exact bodyPost_ret (v := .tuple #[.agg R.toArray, .bool true]) (results_row2 (fn := Tryz.f35) entTy rfl _ _ rfl K3.out RN.out) rfl RR.out
set_option maxHeartbeats 2000000 in
theorem dplain_8 (w : World) (x : EntD) (q : EntV) (hk : x.kind = 8) (hp : EntP Any w x q) (ok : EntOk x) (big : EntShort x) : Calls Tryz.prog 35 #[.agg (entCells x q).toArray] w (RetPlain w x) := by
  have hp0 := hp
  obtain ⟨da, dc, pa, pc, sa, sc, ea, ec, fa, fc, rfl⟩ := hp.shapes
  obtain ⟨E, hE⟩ : ∃ E, E = entCells x ⟨.slice da (bytes x.op.h.data).length dc, .slice pa x.op.parts.length pc, .slice sa (nums x.item.stamp).length sc, .slice ea x.item.effs.length ec, .slice fa (nums x.frontier).length fc⟩ := ⟨_, rfl⟩
  have CE : Hid (∀ W b, CellsAt W b E 35 → W.cell? ⟨b, 0, none⟩ = some (.int .u8 8) ∧ W.cell? ⟨b, 19, none⟩ = some (.int .i64 x.site) ∧ W.cell? ⟨b, 20, none⟩ = some (.int .i64 x.region)) := Lib.hid fun W b h => by
    have h0 : W.cell? ⟨b, 0, none⟩ = some (.int .u8 (x.kind : Int)) := by subst hE; exact h.cell 0
    rw [hk] at h0
    exact ⟨h0, by subst hE; exact h.cell 19, by subst hE; exact h.cell 20⟩
  have PX : plainX x = ⟨8, 0, 0, 0, 0, zeroO, zeroI, x.site, x.region, 0, []⟩ := by unfold plainX; rw [hk]; rfl
  obtain ⟨R, hR⟩ : ∃ R : List Value, R = [.int .u8 8, .int .u32 0, .int .u32 0, .int .i64 0, .int .u32 0, .int .u8 0, .string ⟨#[]⟩, .slice none 0 0, .int .i64 0, .bool false, .bool false, .slice none 0 0, .int .i64 0, .int .u64 0, .int .i64 0, .int .u64 0, .slice none 0 0, .slice none 0 0, .int .u32 0, .int .i64 x.site, .int .i64 x.region, .int .u64 0, .slice none 0 0] := ⟨_, rfl⟩
  have RE : R = entCells ⟨8, 0, 0, 0, 0, zeroO, zeroI, x.site, x.region, 0, []⟩ ⟨.slice none 0 0, .slice none 0 0, .slice none 0 0, .slice none 0 0, .slice none 0 0⟩ := by rw [hR]; rfl
  have RF : refPlain x = (⟨8, 0, 0, 0, 0, zeroO, zeroI, x.site, x.region, 0, []⟩, condX x) := by unfold refPlain; rw [hk, if_pos (show kindK 8 = true from rfl), PX]
  have CX : condX x = true := by simp only [condX, hk]
  rw [CX] at RF
  have RET : Hid (∀ W, Gr w W → RetPlain w x (.returned (.tuple #[.agg R.toArray, .bool true])) W) := Lib.hid fun W g => retPlain_mk _ _ _ R RF RE (by have hp := hp.gr g; exact ⟨OpP.zero _ _, ItemP.zero _ _, SlP.nil _ _ _ _⟩) g
  have RN : Hid (R.length = 23) := Lib.hid (by rw [hR]; rfl)
  have R1 : Hid (oneAll R) := Lib.hid (by rw [hR]; rfl)
  rw [← hE]
  have HX := Lib.hid hp0
  clear hE CX PX RE RF hp hp0
  go_enter Tryz.func35, Tryz.ntmps35
  go_wp2_with (first | (refine wpList_boxE _ rfl rfl rfl ?_) | fail)
  intro w1 K1 G1 n1
  obtain ⟨b, hb⟩ : ∃ b, b = w.heap.size := ⟨_, rfl⟩
  rw [← hb]
  rw [← hb] at K1
  obtain ⟨w2, hw2⟩ : ∃ w2, w2 = w1.alloc (.cells zeroL.toArray 35) := ⟨_, rfl⟩
  have g2 : Gr w1 w2 := by rw [hw2]; exact (Gr.refl w1).alloc _
  have k2 : CellsAt w2 w1.heap.size zeroL 35 := by rw [hw2]; exact CellsAt.new _ _ _
  have HW : w1.alloc (.cells #[.int .u8 0, .int .u32 0, .int .u32 0, .int .i64 0, .int .u32 0, .int .u8 0, .string ⟨#[]⟩, .slice none 0 0, .int .i64 0, .bool false, .bool false, .slice none 0 0, .int .i64 0, .int .u64 0, .int .i64 0, .int .u64 0, .slice none 0 0, .slice none 0 0, .int .u32 0, .int .i64 0, .int .i64 0, .int .u64 0, .slice none 0 0] 35) = w2 := hw2.symm
  have KB := Lib.hid (K1.gr g2)
  have K2 := Lib.hid k2
  have GW := Lib.hid (G1.trans g2)
  have BN : Hid (b ≠ w1.heap.size) := Lib.hid (fun e => by have := K1.lt; omega)
  have BG : Hid (w.heap.size ≤ w1.heap.size) := Lib.hid G1.size
  obtain ⟨x0, x19, x20⟩ := CE.out w2 b KB.out
  clear K1 G1 n1 g2 k2 hb hw2
  have BU : Hid (Tryz.prog.built 35 [(0, .int .u8 8), (6, .int .i64 x.site), (7, .int .i64 x.region)] = some R.toArray) := Lib.hid (by rw [hR]; exact built_8 _ _)
  clear hR
  go_wp2_with (first | (refine wpList_buildTo rfl 35 _ rfl (some 95) rfl R.toArray (by simp only [List.map_toArray, List.map_cons, List.map_nil]; exact BU.out) ?_) | (refine wpList_storeE entTy _ _ rfl rfl rfl rfl K2.out RN.out zeroL_len R1.out ?_) | fail)
  intro w3 k3 c3
  have RR := Lib.hid (RET.out w3 (Below.trans GW.out (c3.below GW.out.size (fun k hk => by have : k = w1.heap.size := hk; have := BG.out; omega))))
  have K3 := Lib.hid k3
  clear k3 c3
  go_wp2
  exact bodyPost_ret (v := .tuple #[.agg R.toArray, .bool true]) (results_row2 (fn := Tryz.f35) entTy rfl _ _ rfl K3.out RN.out) rfl RR.out
set_option maxHeartbeats 2000000 in
theorem dplain_9 (w : World) (x : EntD) (q : EntV) (hk : x.kind = 9) (hp : EntP Any w x q) (ok : EntOk x) (big : EntShort x) : Calls Tryz.prog 35 #[.agg (entCells x q).toArray] w (RetPlain w x) := by
  have hp0 := hp
  obtain ⟨da, dc, pa, pc, sa, sc, ea, ec, fa, fc, rfl⟩ := hp.shapes
  obtain ⟨E, hE⟩ : ∃ E, E = entCells x ⟨.slice da (bytes x.op.h.data).length dc, .slice pa x.op.parts.length pc, .slice sa (nums x.item.stamp).length sc, .slice ea x.item.effs.length ec, .slice fa (nums x.frontier).length fc⟩ := ⟨_, rfl⟩
  have CE : Hid (∀ W b, CellsAt W b E 35 → W.cell? ⟨b, 0, none⟩ = some (.int .u8 9) ∧ W.cell? ⟨b, 19, none⟩ = some (.int .i64 x.site) ∧ W.cell? ⟨b, 20, none⟩ = some (.int .i64 x.region) ∧ W.cell? ⟨b, 21, none⟩ = some (.int .u64 (x.epoch : Int)) ∧ W.cell? ⟨b, 22, none⟩ = some (.slice fa (nums x.frontier).length fc)) := Lib.hid fun W b h => by
    have h0 : W.cell? ⟨b, 0, none⟩ = some (.int .u8 (x.kind : Int)) := by subst hE; exact h.cell 0
    rw [hk] at h0
    exact ⟨h0, by subst hE; exact h.cell 19, by subst hE; exact h.cell 20, by subst hE; exact h.cell 21, by subst hE; exact h.cell 22⟩
  have PX : plainX x = ⟨9, 0, 0, 0, 0, zeroO, zeroI, x.site, x.region, x.epoch, x.frontier⟩ := by unfold plainX; rw [hk]; rfl
  obtain ⟨R, hR⟩ : ∃ R : List Value, R = [.int .u8 9, .int .u32 0, .int .u32 0, .int .i64 0, .int .u32 0, .int .u8 0, .string ⟨#[]⟩, .slice none 0 0, .int .i64 0, .bool false, .bool false, .slice none 0 0, .int .i64 0, .int .u64 0, .int .i64 0, .int .u64 0, .slice none 0 0, .slice none 0 0, .int .u32 0, .int .i64 x.site, .int .i64 x.region, .int .u64 (x.epoch : Int), .slice fa (nums x.frontier).length fc] := ⟨_, rfl⟩
  have RE : R = entCells ⟨9, 0, 0, 0, 0, zeroO, zeroI, x.site, x.region, x.epoch, x.frontier⟩ ⟨.slice none 0 0, .slice none 0 0, .slice none 0 0, .slice none 0 0, .slice fa (nums x.frontier).length fc⟩ := by rw [hR]; rfl
  have RF : refPlain x = (⟨9, 0, 0, 0, 0, zeroO, zeroI, x.site, x.region, x.epoch, x.frontier⟩, condX x) := by unfold refPlain; rw [hk, if_pos (show kindK 9 = true from rfl), PX]
  have CX : condX x = true := by simp only [condX, hk]
  rw [CX] at RF
  have RET : Hid (∀ W, Gr w W → RetPlain w x (.returned (.tuple #[.agg R.toArray, .bool true])) W) := Lib.hid fun W g => retPlain_mk _ _ _ R RF RE (by have hp := hp.gr g; exact ⟨OpP.zero _ _, ItemP.zero _ _, hp.2.2⟩) g
  have RN : Hid (R.length = 23) := Lib.hid (by rw [hR]; rfl)
  have R1 : Hid (oneAll R) := Lib.hid (by rw [hR]; rfl)
  rw [← hE]
  have HX := Lib.hid hp0
  clear hE CX PX RE RF hp hp0
  go_enter Tryz.func35, Tryz.ntmps35
  go_wp2_with (first | (refine wpList_boxE _ rfl rfl rfl ?_) | fail)
  intro w1 K1 G1 n1
  obtain ⟨b, hb⟩ : ∃ b, b = w.heap.size := ⟨_, rfl⟩
  rw [← hb]
  rw [← hb] at K1
  obtain ⟨w2, hw2⟩ : ∃ w2, w2 = w1.alloc (.cells zeroL.toArray 35) := ⟨_, rfl⟩
  have g2 : Gr w1 w2 := by rw [hw2]; exact (Gr.refl w1).alloc _
  have k2 : CellsAt w2 w1.heap.size zeroL 35 := by rw [hw2]; exact CellsAt.new _ _ _
  have HW : w1.alloc (.cells #[.int .u8 0, .int .u32 0, .int .u32 0, .int .i64 0, .int .u32 0, .int .u8 0, .string ⟨#[]⟩, .slice none 0 0, .int .i64 0, .bool false, .bool false, .slice none 0 0, .int .i64 0, .int .u64 0, .int .i64 0, .int .u64 0, .slice none 0 0, .slice none 0 0, .int .u32 0, .int .i64 0, .int .i64 0, .int .u64 0, .slice none 0 0] 35) = w2 := hw2.symm
  have KB := Lib.hid (K1.gr g2)
  have K2 := Lib.hid k2
  have GW := Lib.hid (G1.trans g2)
  have BN : Hid (b ≠ w1.heap.size) := Lib.hid (fun e => by have := K1.lt; omega)
  have BG : Hid (w.heap.size ≤ w1.heap.size) := Lib.hid G1.size
  obtain ⟨x0, x19, x20, x21, x22⟩ := CE.out w2 b KB.out
  clear K1 G1 n1 g2 k2 hb hw2
  have BU : Hid (Tryz.prog.built 35 [(0, .int .u8 9), (6, .int .i64 x.site), (7, .int .i64 x.region), (8, .int .u64 (x.epoch : Int)), (9, .slice fa (nums x.frontier).length fc)] = some R.toArray) := Lib.hid (by rw [hR]; exact built_9 _ _ _ _ _ _)
  clear hR
  go_wp2_with (first | (refine wpList_buildTo rfl 35 _ rfl (some 108) rfl R.toArray (by simp only [List.map_toArray, List.map_cons, List.map_nil]; exact BU.out) ?_) | (refine wpList_storeE entTy _ _ rfl rfl rfl rfl K2.out RN.out zeroL_len R1.out ?_) | fail)
  intro w3 k3 c3
  have RR := Lib.hid (RET.out w3 (Below.trans GW.out (c3.below GW.out.size (fun k hk => by have : k = w1.heap.size := hk; have := BG.out; omega))))
  have K3 := Lib.hid k3
  clear k3 c3
  go_wp2
  exact bodyPost_ret (v := .tuple #[.agg R.toArray, .bool true]) (results_row2 (fn := Tryz.f35) entTy rfl _ _ rfl K3.out RN.out) rfl RR.out
set_option maxHeartbeats 2000000 in
theorem dplain_none (w : World) (x : EntD) (q : EntV) (hk : kindK x.kind = false) (hp : EntP Any w x q) (ok : EntOk x) (big : EntShort x) : Calls Tryz.prog 35 #[.agg (entCells x q).toArray] w (RetPlain w x) := by
  have hk2 : ∀ n : Nat, 1 ≤ n → n ≤ 9 → ¬ (x.kind : Int) = (n : Int) := fun n h1 h2 e => by
    have e' : x.kind = n := by omega
    unfold kindK at hk
    rw [e', decide_eq_true h1, decide_eq_true h2] at hk
    cases hk
  have m1 : ¬ (x.kind : Int) = 1 := hk2 1 (by decide) (by decide)
  have m2 : ¬ (x.kind : Int) = 2 := hk2 2 (by decide) (by decide)
  have m3 : ¬ (x.kind : Int) = 3 := hk2 3 (by decide) (by decide)
  have m4 : ¬ (x.kind : Int) = 4 := hk2 4 (by decide) (by decide)
  have m5 : ¬ (x.kind : Int) = 5 := hk2 5 (by decide) (by decide)
  have m6 : ¬ (x.kind : Int) = 6 := hk2 6 (by decide) (by decide)
  have m7 : ¬ (x.kind : Int) = 7 := hk2 7 (by decide) (by decide)
  have m8 : ¬ (x.kind : Int) = 8 := hk2 8 (by decide) (by decide)
  have m9 : ¬ (x.kind : Int) = 9 := hk2 9 (by decide) (by decide)
  clear hk2
  have hp0 := hp
  obtain ⟨da, dc, pa, pc, sa, sc, ea, ec, fa, fc, rfl⟩ := hp.shapes
  obtain ⟨E, hE⟩ : ∃ E, E = entCells x ⟨.slice da (bytes x.op.h.data).length dc, .slice pa x.op.parts.length pc, .slice sa (nums x.item.stamp).length sc, .slice ea x.item.effs.length ec, .slice fa (nums x.frontier).length fc⟩ := ⟨_, rfl⟩
  have CE : Hid (∀ W b, CellsAt W b E 35 → W.cell? ⟨b, 0, none⟩ = some (.int .u8 (x.kind : Int))) := Lib.hid fun W b h => by
    have h0 : W.cell? ⟨b, 0, none⟩ = some (.int .u8 (x.kind : Int)) := by subst hE; exact h.cell 0
    exact h0
  have RF : refPlain x = (zeroX, false) := by unfold refPlain; rw [hk, if_neg (by decide)]
  have RET : Hid (∀ W, Gr w W → RetPlain w x (.returned (.tuple #[.agg zeroL.toArray, .bool false])) W) := Lib.hid fun W g => retPlain_mk _ _ zeroQ zeroL RF rfl (EntP.zero _ _ 0) g
  rw [← hE]
  have HX := Lib.hid hp0
  clear hE RF hp hp0
  go_enter Tryz.func35, Tryz.ntmps35
  go_wp2_with (first | (refine wpList_boxE _ rfl rfl rfl ?_) | fail)
  intro w1 K1 G1 n1
  obtain ⟨b, hb⟩ : ∃ b, b = w.heap.size := ⟨_, rfl⟩
  rw [← hb]
  rw [← hb] at K1
  obtain ⟨w2, hw2⟩ : ∃ w2, w2 = w1.alloc (.cells zeroL.toArray 35) := ⟨_, rfl⟩
  have g2 : Gr w1 w2 := by rw [hw2]; exact (Gr.refl w1).alloc _
  have k2 : CellsAt w2 w1.heap.size zeroL 35 := by rw [hw2]; exact CellsAt.new _ _ _
  have HW : w1.alloc (.cells #[.int .u8 0, .int .u32 0, .int .u32 0, .int .i64 0, .int .u32 0, .int .u8 0, .string ⟨#[]⟩, .slice none 0 0, .int .i64 0, .bool false, .bool false, .slice none 0 0, .int .i64 0, .int .u64 0, .int .i64 0, .int .u64 0, .slice none 0 0, .slice none 0 0, .int .u32 0, .int .i64 0, .int .i64 0, .int .u64 0, .slice none 0 0] 35) = w2 := hw2.symm
  have KB := Lib.hid (K1.gr g2)
  have K2 := Lib.hid k2
  have GW := Lib.hid (G1.trans g2)
  have BN : Hid (b ≠ w1.heap.size) := Lib.hid (fun e => by have := K1.lt; omega)
  have BG : Hid (w.heap.size ≤ w1.heap.size) := Lib.hid G1.size
  have cc := CE.out w2 b KB.out
  have x0 := cc
  clear cc K1 G1 n1 g2 k2 hb hw2
  go_wp2_with (first | (refine wpList_buildTo rfl 35 _ rfl (some 109) rfl _ built_ent0 ?_) | (refine wpList_storeE entTy _ _ rfl rfl rfl rfl K2.out zeroL_len zeroL_len zeroL_one ?_) | fail)
  intro w3 k3 c3
  have RR := Lib.hid (RET.out w3 (Below.trans GW.out (c3.below GW.out.size (fun k hk => by have : k = w1.heap.size := hk; have := BG.out; omega))))
  have K3 := Lib.hid k3
  clear k3 c3
  go_wp2
  exact bodyPost_ret (v := .tuple #[.agg zeroL.toArray, .bool false]) (results_row2 (fn := Tryz.f35) entTy rfl _ _ rfl K3.out zeroL_len) rfl RR.out
end Go.Proofs.YtiemgmbjhllmbaaGreat
