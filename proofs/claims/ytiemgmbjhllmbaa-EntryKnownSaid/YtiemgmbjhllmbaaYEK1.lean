/-
  The entries of EntryKnown, plain.
-/
import Derived.Test.YtiemgmbjhllmbaaYEnPutX
import Derived.Test.YtiemgmbjhllmbaaYK
set_option linter.unusedVariables false
set_option linter.unusedSimpArgs false
set_option maxRecDepth 100000
namespace Go.Proofs.Ytiemgmbjhllmbaa
open Go.RowKit
def kNode : NodeD := ⟨List.replicate 64 0, 4294967295, 2, 3, 2, 9, 18446744073709551615, 5, 6⟩
def kEffA : EffD := ⟨[47, 97], false, kNode⟩
def kEffB : EffD := ⟨[47, 98], true, zeroN⟩
def kEffO : EffD := ⟨[47, 97], true, kNode⟩
def kItem : ItemD := ⟨2, 4, 3, 7, [1, 2, 3], [kEffA, kEffB], 0⟩
def kMany : ItemD := { kItem with effs := List.replicate 17 zeroE }
def kOdd : ItemD := { kItem with effs := [kEffO] }
def kOp1 : OpD := .mk ⟨1, [47, 97], [120], -5, true, true⟩ []
def kOp2 : OpD := .mk ⟨5, [47, 98], [], 0, false, false⟩ []
def kOps : OpD := .mk ⟨7, [], [], -1, false, false⟩ [kOp1, kOp2]
def kLong : List UInt8 := List.replicate 65 0
def kOpL : OpD := .mk ⟨0, kLong, [], 0, false, false⟩ []
def kOpD : OpD := .mk ⟨0, [], kLong, 0, false, false⟩ []
def kOpP : OpD := .mk ⟨0, [], [], 0, false, false⟩ (List.replicate 7 zeroO)
def kOp0 : OpD := .mk ⟨0, [], [], 0, false, false⟩ [zeroO]
def kOpN : OpD := .mk ⟨0, [], [], 0, false, false⟩ [kOp0]
def gX0 : EntD := { zeroX with kind := 1, client := 4294967295, req := 2, osite := 1, on := 3, op := kOps }
def gX1 : EntD := { zeroX with kind := 2, client := 1, req := 2 }
def gX2 : EntD := { zeroX with kind := 3, client := 1, req := 2, on := 3 }
def gX3 : EntD := { zeroX with kind := 4, item := kItem }
def gX4 : EntD := { zeroX with kind := 4, item := { zeroI with region := -1, closed := 5 } }
def gX5 : EntD := { zeroX with kind := 5, region := 3, epoch := 9223372036854775808, frontier := [1, 0] }
def gX6 : EntD := { zeroX with kind := 6, epoch := 2 }
def gX7 : EntD := { zeroX with kind := 7 }
def gX8 : EntD := { zeroX with kind := 8, site := 2, region := 1 }
def gX9 : EntD := { zeroX with kind := 9, site := 1, epoch := 4, frontier := [5] }
def bX0 : EntD := zeroX
def bX1 : EntD := { zeroX with kind := 10 }
def bX2 : EntD := { zeroX with kind := 8, site := 3 }
def bX3 : EntD := { zeroX with kind := 8, site := -1 }
def bX4 : EntD := { zeroX with kind := 7, region := 4 }
def bX5 : EntD := { zeroX with kind := 7, region := -1 }
def bX6 : EntD := { zeroX with kind := 6, epoch := 1, frontier := [1] }
def bX7 : EntD := { zeroX with kind := 2, on := 1 }
def bX8 : EntD := { zeroX with kind := 3, osite := 3, on := 1 }
def bX9 : EntD := { zeroX with kind := 5, frontier := [0, 0, 0, 0] }
def bX10 : EntD := { zeroX with kind := 1, op := kOpL }
def bX11 : EntD := { zeroX with kind := 1, op := kOpD }
def bX12 : EntD := { zeroX with kind := 1, op := kOpP }
def bX13 : EntD := { zeroX with kind := 1, op := kOpN }
def bX14 : EntD := { zeroX with kind := 1, site := 1 }
def bX15 : EntD := { zeroX with kind := 4, item := kMany }
def bX16 : EntD := { zeroX with kind := 4, item := kOdd }
def bX17 : EntD := { zeroX with kind := 4, item := { zeroI with origin := 3 } }
def bX18 : EntD := { zeroX with kind := 4, item := { zeroI with origin := 256 } }
def bX19 : EntD := { zeroX with kind := 2, item := { zeroI with origin := 256 } }
def bX20 : EntD := { zeroX with kind := 4, item := { zeroI with region := -2 } }
def goodE : List EntD := [gX0, gX1, gX2, gX3, gX4, gX5, gX6, gX7, gX8, gX9]
def badE : List EntD := [bX0, bX1, bX2, bX3, bX4, bX5, bX6, bX7, bX8, bX9, bX10, bX11, bX12, bX13, bX14, bX15, bX16, bX17, bX18, bX19, bX20]
theorem i64_lit (z : Int) (h : (decide (-9223372036854775808 ≤ z) && decide (z ≤ 9223372036854775807)) = true) : I64 z := by
  simp only [Bool.and_eq_true, decide_eq_true_eq] at h; exact h
theorem kNode_ok : NodeOk kNode := ⟨by decide, by decide, by decide, i64_lit _ (by decide), by decide, by decide, by decide, by decide⟩
theorem zeroN_ok' : NodeOk zeroN := ⟨by decide, by decide, by decide, i64_lit _ (by decide), by decide, by decide, by decide, by decide⟩
theorem kItem_ok : ItemOk kItem := ⟨i64_lit _ (by decide), by decide, i64_lit _ (by decide), by decide, by decide, fun e he => by
  rcases List.mem_cons.1 he with rfl | he
  · exact kNode_ok
  · rw [List.mem_singleton.1 he]; exact zeroN_ok', by decide⟩
theorem kMany_ok : ItemOk kMany := { kItem_ok with effs := fun e he => by rw [List.eq_of_mem_replicate he]; exact zeroN_ok' }
theorem kOdd_ok : ItemOk kOdd := { kItem_ok with effs := fun e he => by rw [List.mem_singleton.1 he]; exact kNode_ok }
theorem zeroI_lit (o r : Int) (c : Nat) (ho : I64 o) (hr : I64 r) (hc : c < 2 ^ 32) : ItemOk { zeroI with origin := o, region := r, closed := c } := ⟨ho, by show (0 : Nat) < 2 ^ 64; decide, hr, by show (0 : Nat) < 2 ^ 64; decide, fun k hk => (by cases hk), fun e he => (by cases he), hc⟩
theorem opLit (k : Nat) (p d : List UInt8) (v : Int) (s e : Bool) (ps : List OpD) (hk : k < 256) (hv : I64 v) (hp : ∀ o ∈ ps, OpOk o) : OpOk (.mk ⟨k, p, d, v, s, e⟩ ps) := by
  simp only [OpOk]
  exact ⟨⟨hk, hv⟩, OpsOk.of hp⟩
theorem noOps : ∀ o ∈ ([] : List OpD), OpOk o := fun o ho => (by cases ho)
theorem kOps_ok : OpOk kOps := opLit _ _ _ _ _ _ _ (by decide) (i64_lit _ (by decide)) fun o ho => by
  rcases List.mem_cons.1 ho with rfl | ho
  · exact opLit _ _ _ _ _ _ _ (by decide) (i64_lit _ (by decide)) noOps
  · rw [List.mem_singleton.1 ho]; exact opLit _ _ _ _ _ _ _ (by decide) (i64_lit _ (by decide)) noOps
theorem kOpL_ok : OpOk kOpL := opLit _ _ _ _ _ _ _ (by decide) (i64_lit _ (by decide)) noOps
theorem kOpD_ok : OpOk kOpD := opLit _ _ _ _ _ _ _ (by decide) (i64_lit _ (by decide)) noOps
theorem kOpP_ok : OpOk kOpP := opLit _ _ _ _ _ _ _ (by decide) (i64_lit _ (by decide)) fun o ho => by rw [List.eq_of_mem_replicate ho]; exact zeroO_ok
theorem kOp0_ok : OpOk kOp0 := opLit _ _ _ _ _ _ _ (by decide) (i64_lit _ (by decide)) fun o ho => by rw [List.mem_singleton.1 ho]; exact zeroO_ok
theorem kOpN_ok : OpOk kOpN := opLit _ _ _ _ _ _ _ (by decide) (i64_lit _ (by decide)) fun o ho => by rw [List.mem_singleton.1 ho]; exact kOp0_ok
theorem entLit {x : EntD} (h1 : (decide (x.kind < 256) && decide (x.client < 2 ^ 32) && decide (x.req < 2 ^ 32) && decide (x.on < 2 ^ 32) && decide (x.epoch < 2 ^ 64) && x.frontier.all (fun k => decide (k < 2 ^ 64))) = true) (h2 : I64 x.osite) (h3 : I64 x.site) (h4 : I64 x.region) (h5 : OpOk x.op) (h6 : ItemOk x.item) : EntOk x := by
  simp only [Bool.and_eq_true, decide_eq_true_eq, List.all_eq_true] at h1
  exact ⟨h1.1.1.1.1.1, h1.1.1.1.1.2, h1.1.1.1.2, h2, h1.1.1.2, h5, h6, h3, h4, h1.1.2, h1.2⟩
theorem itemFit_lit {x : ItemD} (h : (decide ((itemB x).length ≤ 100000000) && x.effs.all fun e => decide (effW e ≤ 100000000)) = true) : ItemFit x := by
  simp only [Bool.and_eq_true, decide_eq_true_eq, List.all_eq_true] at h
  exact h
theorem bigLit {x : EntD} (h1 : (decide ((opB x.op).length ≤ 100000000) && decide (x.frontier.length ≤ 10000000)) = true) (h2 : (decide ((itemB x.item).length ≤ 100000000) && x.item.effs.all fun e => decide (effW e ≤ 100000000)) = true) : EntBig x := by
  simp only [Bool.and_eq_true, decide_eq_true_eq] at h1
  exact ⟨h1.1, itemFit_lit h2, h1.2⟩
/-- What is asked of a row. -/
def RowE (x : EntD) : Prop := EntOk x ∧ EntBig x ∧ EntShort x
theorem shortLit {x : EntD} (h : (decide (x.op.parts.length ≤ 100) && decide (x.item.stamp.length ≤ 100) && decide (x.item.effs.length ≤ 100) && decide (x.frontier.length ≤ 100)) = true) : EntShort x := by
  simp only [Bool.and_eq_true, decide_eq_true_eq] at h
  exact ⟨by omega, by omega, by omega, by omega⟩
theorem gX0_row : RowE gX0 := ⟨entLit (by decide) (i64_lit _ (by decide)) (i64_lit _ (by decide)) (i64_lit _ (by decide)) kOps_ok (zeroI_ok), bigLit (by decide +kernel) (by decide +kernel), shortLit (by decide +kernel)⟩
theorem gX1_row : RowE gX1 := ⟨entLit (by decide) (i64_lit _ (by decide)) (i64_lit _ (by decide)) (i64_lit _ (by decide)) zeroO_ok (zeroI_ok), bigLit (by decide +kernel) (by decide +kernel), shortLit (by decide +kernel)⟩
theorem gX2_row : RowE gX2 := ⟨entLit (by decide) (i64_lit _ (by decide)) (i64_lit _ (by decide)) (i64_lit _ (by decide)) zeroO_ok (zeroI_ok), bigLit (by decide +kernel) (by decide +kernel), shortLit (by decide +kernel)⟩
theorem gX3_row : RowE gX3 := ⟨entLit (by decide) (i64_lit _ (by decide)) (i64_lit _ (by decide)) (i64_lit _ (by decide)) zeroO_ok (kItem_ok), bigLit (by decide +kernel) (by decide +kernel), shortLit (by decide +kernel)⟩
theorem gX4_row : RowE gX4 := ⟨entLit (by decide) (i64_lit _ (by decide)) (i64_lit _ (by decide)) (i64_lit _ (by decide)) zeroO_ok (zeroI_lit _ _ _ (i64_lit _ (by decide)) (i64_lit _ (by decide)) (by decide)), bigLit (by decide +kernel) (by decide +kernel), shortLit (by decide +kernel)⟩
theorem gX5_row : RowE gX5 := ⟨entLit (by decide) (i64_lit _ (by decide)) (i64_lit _ (by decide)) (i64_lit _ (by decide)) zeroO_ok (zeroI_ok), bigLit (by decide +kernel) (by decide +kernel), shortLit (by decide +kernel)⟩
theorem gX6_row : RowE gX6 := ⟨entLit (by decide) (i64_lit _ (by decide)) (i64_lit _ (by decide)) (i64_lit _ (by decide)) zeroO_ok (zeroI_ok), bigLit (by decide +kernel) (by decide +kernel), shortLit (by decide +kernel)⟩
theorem gX7_row : RowE gX7 := ⟨entLit (by decide) (i64_lit _ (by decide)) (i64_lit _ (by decide)) (i64_lit _ (by decide)) zeroO_ok (zeroI_ok), bigLit (by decide +kernel) (by decide +kernel), shortLit (by decide +kernel)⟩
theorem gX8_row : RowE gX8 := ⟨entLit (by decide) (i64_lit _ (by decide)) (i64_lit _ (by decide)) (i64_lit _ (by decide)) zeroO_ok (zeroI_ok), bigLit (by decide +kernel) (by decide +kernel), shortLit (by decide +kernel)⟩
theorem gX9_row : RowE gX9 := ⟨entLit (by decide) (i64_lit _ (by decide)) (i64_lit _ (by decide)) (i64_lit _ (by decide)) zeroO_ok (zeroI_ok), bigLit (by decide +kernel) (by decide +kernel), shortLit (by decide +kernel)⟩
theorem bX0_row : RowE bX0 := ⟨entLit (by decide) (i64_lit _ (by decide)) (i64_lit _ (by decide)) (i64_lit _ (by decide)) zeroO_ok (zeroI_ok), bigLit (by decide +kernel) (by decide +kernel), shortLit (by decide +kernel)⟩
theorem bX1_row : RowE bX1 := ⟨entLit (by decide) (i64_lit _ (by decide)) (i64_lit _ (by decide)) (i64_lit _ (by decide)) zeroO_ok (zeroI_ok), bigLit (by decide +kernel) (by decide +kernel), shortLit (by decide +kernel)⟩
theorem bX2_row : RowE bX2 := ⟨entLit (by decide) (i64_lit _ (by decide)) (i64_lit _ (by decide)) (i64_lit _ (by decide)) zeroO_ok (zeroI_ok), bigLit (by decide +kernel) (by decide +kernel), shortLit (by decide +kernel)⟩
theorem bX3_row : RowE bX3 := ⟨entLit (by decide) (i64_lit _ (by decide)) (i64_lit _ (by decide)) (i64_lit _ (by decide)) zeroO_ok (zeroI_ok), bigLit (by decide +kernel) (by decide +kernel), shortLit (by decide +kernel)⟩
theorem bX4_row : RowE bX4 := ⟨entLit (by decide) (i64_lit _ (by decide)) (i64_lit _ (by decide)) (i64_lit _ (by decide)) zeroO_ok (zeroI_ok), bigLit (by decide +kernel) (by decide +kernel), shortLit (by decide +kernel)⟩
theorem bX5_row : RowE bX5 := ⟨entLit (by decide) (i64_lit _ (by decide)) (i64_lit _ (by decide)) (i64_lit _ (by decide)) zeroO_ok (zeroI_ok), bigLit (by decide +kernel) (by decide +kernel), shortLit (by decide +kernel)⟩
theorem bX6_row : RowE bX6 := ⟨entLit (by decide) (i64_lit _ (by decide)) (i64_lit _ (by decide)) (i64_lit _ (by decide)) zeroO_ok (zeroI_ok), bigLit (by decide +kernel) (by decide +kernel), shortLit (by decide +kernel)⟩
theorem bX7_row : RowE bX7 := ⟨entLit (by decide) (i64_lit _ (by decide)) (i64_lit _ (by decide)) (i64_lit _ (by decide)) zeroO_ok (zeroI_ok), bigLit (by decide +kernel) (by decide +kernel), shortLit (by decide +kernel)⟩
theorem bX8_row : RowE bX8 := ⟨entLit (by decide) (i64_lit _ (by decide)) (i64_lit _ (by decide)) (i64_lit _ (by decide)) zeroO_ok (zeroI_ok), bigLit (by decide +kernel) (by decide +kernel), shortLit (by decide +kernel)⟩
theorem bX9_row : RowE bX9 := ⟨entLit (by decide) (i64_lit _ (by decide)) (i64_lit _ (by decide)) (i64_lit _ (by decide)) zeroO_ok (zeroI_ok), bigLit (by decide +kernel) (by decide +kernel), shortLit (by decide +kernel)⟩
theorem bX10_row : RowE bX10 := ⟨entLit (by decide) (i64_lit _ (by decide)) (i64_lit _ (by decide)) (i64_lit _ (by decide)) kOpL_ok (zeroI_ok), bigLit (by decide +kernel) (by decide +kernel), shortLit (by decide +kernel)⟩
theorem bX11_row : RowE bX11 := ⟨entLit (by decide) (i64_lit _ (by decide)) (i64_lit _ (by decide)) (i64_lit _ (by decide)) kOpD_ok (zeroI_ok), bigLit (by decide +kernel) (by decide +kernel), shortLit (by decide +kernel)⟩
theorem bX12_row : RowE bX12 := ⟨entLit (by decide) (i64_lit _ (by decide)) (i64_lit _ (by decide)) (i64_lit _ (by decide)) kOpP_ok (zeroI_ok), bigLit (by decide +kernel) (by decide +kernel), shortLit (by decide +kernel)⟩
theorem bX13_row : RowE bX13 := ⟨entLit (by decide) (i64_lit _ (by decide)) (i64_lit _ (by decide)) (i64_lit _ (by decide)) kOpN_ok (zeroI_ok), bigLit (by decide +kernel) (by decide +kernel), shortLit (by decide +kernel)⟩
theorem bX14_row : RowE bX14 := ⟨entLit (by decide) (i64_lit _ (by decide)) (i64_lit _ (by decide)) (i64_lit _ (by decide)) zeroO_ok (zeroI_ok), bigLit (by decide +kernel) (by decide +kernel), shortLit (by decide +kernel)⟩
theorem bX15_row : RowE bX15 := ⟨entLit (by decide) (i64_lit _ (by decide)) (i64_lit _ (by decide)) (i64_lit _ (by decide)) zeroO_ok (kMany_ok), bigLit (by decide +kernel) (by decide +kernel), shortLit (by decide +kernel)⟩
theorem bX16_row : RowE bX16 := ⟨entLit (by decide) (i64_lit _ (by decide)) (i64_lit _ (by decide)) (i64_lit _ (by decide)) zeroO_ok (kOdd_ok), bigLit (by decide +kernel) (by decide +kernel), shortLit (by decide +kernel)⟩
theorem bX17_row : RowE bX17 := ⟨entLit (by decide) (i64_lit _ (by decide)) (i64_lit _ (by decide)) (i64_lit _ (by decide)) zeroO_ok (zeroI_lit _ _ _ (i64_lit _ (by decide)) (i64_lit _ (by decide)) (by decide)), bigLit (by decide +kernel) (by decide +kernel), shortLit (by decide +kernel)⟩
theorem bX18_row : RowE bX18 := ⟨entLit (by decide) (i64_lit _ (by decide)) (i64_lit _ (by decide)) (i64_lit _ (by decide)) zeroO_ok (zeroI_lit _ _ _ (i64_lit _ (by decide)) (i64_lit _ (by decide)) (by decide)), bigLit (by decide +kernel) (by decide +kernel), shortLit (by decide +kernel)⟩
theorem bX19_row : RowE bX19 := ⟨entLit (by decide) (i64_lit _ (by decide)) (i64_lit _ (by decide)) (i64_lit _ (by decide)) zeroO_ok (zeroI_lit _ _ _ (i64_lit _ (by decide)) (i64_lit _ (by decide)) (by decide)), bigLit (by decide +kernel) (by decide +kernel), shortLit (by decide +kernel)⟩
theorem bX20_row : RowE bX20 := ⟨entLit (by decide) (i64_lit _ (by decide)) (i64_lit _ (by decide)) (i64_lit _ (by decide)) zeroO_ok (zeroI_lit _ _ _ (i64_lit _ (by decide)) (i64_lit _ (by decide)) (by decide)), bigLit (by decide +kernel) (by decide +kernel), shortLit (by decide +kernel)⟩
theorem gX0_may : mayX gX0 := ⟨by decide +kernel, by decide +kernel, by kernel_rfl⟩
theorem gX0_len : (tellB gX0).length ≤ 4096 := by decide +kernel
theorem gX0_flat : Flat gX0.op := by intro p hp; simp [gX0, zeroX, zeroO, kOps, OpD.parts, kOp1, kOp2] at hp; rcases hp with rfl | rfl <;> rfl
theorem gX1_may : mayX gX1 := ⟨by decide +kernel, by decide +kernel, by kernel_rfl⟩
theorem gX1_len : (tellB gX1).length ≤ 4096 := by decide +kernel
theorem gX1_flat : Flat gX1.op := by intro p hp; cases hp
theorem gX2_may : mayX gX2 := ⟨by decide +kernel, by decide +kernel, by kernel_rfl⟩
theorem gX2_len : (tellB gX2).length ≤ 4096 := by decide +kernel
theorem gX2_flat : Flat gX2.op := by intro p hp; cases hp
theorem gX3_may : mayX gX3 := ⟨by decide +kernel, by decide +kernel, by kernel_rfl⟩
theorem gX3_len : (tellB gX3).length ≤ 4096 := by decide +kernel
theorem gX3_flat : Flat gX3.op := by intro p hp; cases hp
theorem gX4_may : mayX gX4 := ⟨by decide +kernel, by decide +kernel, by kernel_rfl⟩
theorem gX4_len : (tellB gX4).length ≤ 4096 := by decide +kernel
theorem gX4_flat : Flat gX4.op := by intro p hp; cases hp
theorem gX5_may : mayX gX5 := ⟨by decide +kernel, by decide +kernel, by kernel_rfl⟩
theorem gX5_len : (tellB gX5).length ≤ 4096 := by decide +kernel
theorem gX5_flat : Flat gX5.op := by intro p hp; cases hp
theorem gX6_may : mayX gX6 := ⟨by decide +kernel, by decide +kernel, by kernel_rfl⟩
theorem gX6_len : (tellB gX6).length ≤ 4096 := by decide +kernel
theorem gX6_flat : Flat gX6.op := by intro p hp; cases hp
theorem gX7_may : mayX gX7 := ⟨by decide +kernel, by decide +kernel, by kernel_rfl⟩
theorem gX7_len : (tellB gX7).length ≤ 4096 := by decide +kernel
theorem gX7_flat : Flat gX7.op := by intro p hp; cases hp
theorem gX8_may : mayX gX8 := ⟨by decide +kernel, by decide +kernel, by kernel_rfl⟩
theorem gX8_len : (tellB gX8).length ≤ 4096 := by decide +kernel
theorem gX8_flat : Flat gX8.op := by intro p hp; cases hp
theorem gX9_may : mayX gX9 := ⟨by decide +kernel, by decide +kernel, by kernel_rfl⟩
theorem gX9_len : (tellB gX9).length ≤ 4096 := by decide +kernel
theorem gX9_flat : Flat gX9.op := by intro p hp; cases hp
theorem bX0_put : (putV bX0).1 = [] ∧ (putV bX0).2 = 1 := by decide +kernel
theorem bX1_put : (putV bX1).1 = [] ∧ (putV bX1).2 = 1 := by decide +kernel
theorem bX2_put : (putV bX2).1 = [] ∧ (putV bX2).2 = 1 := by decide +kernel
theorem bX3_put : (putV bX3).1 = [] ∧ (putV bX3).2 = 1 := by decide +kernel
theorem bX4_put : (putV bX4).1 = [] ∧ (putV bX4).2 = 1 := by decide +kernel
theorem bX5_put : (putV bX5).1 = [] ∧ (putV bX5).2 = 1 := by decide +kernel
theorem bX6_put : (putV bX6).1 = [] ∧ (putV bX6).2 = 1 := by decide +kernel
theorem bX7_put : (putV bX7).1 = [] ∧ (putV bX7).2 = 1 := by decide +kernel
theorem bX8_put : (putV bX8).1 = [] ∧ (putV bX8).2 = 1 := by decide +kernel
theorem bX9_put : (putV bX9).1 = [] ∧ (putV bX9).2 = 1 := by decide +kernel
theorem bX10_put : (putV bX10).1 = [] ∧ (putV bX10).2 = 1 := by decide +kernel
theorem bX11_put : (putV bX11).1 = [] ∧ (putV bX11).2 = 1 := by decide +kernel
theorem bX12_put : (putV bX12).1 = [] ∧ (putV bX12).2 = 1 := by decide +kernel
theorem bX13_put : (putV bX13).1 = [] ∧ (putV bX13).2 = 1 := by decide +kernel
theorem bX14_put : (putV bX14).1 = [] ∧ (putV bX14).2 = 1 := by decide +kernel
theorem bX15_put : (putV bX15).1 = [] ∧ (putV bX15).2 = 1 := by decide +kernel
theorem bX16_put : (putV bX16).1 = [] ∧ (putV bX16).2 = 1 := by decide +kernel
theorem bX17_put : (putV bX17).1 = [] ∧ (putV bX17).2 = 1 := by decide +kernel
theorem bX18_put : (putV bX18).1 = [] ∧ (putV bX18).2 = 1 := by decide +kernel
theorem bX19_put : (putV bX19).1 = [] ∧ (putV bX19).2 = 1 := by decide +kernel
theorem bX20_put : (putV bX20).1 = [] ∧ (putV bX20).2 = 1 := by decide +kernel
theorem get_k1 : (getV [7, 0, 0, 0, 0, 0, 0, 0, 4]).2 = 2 := by decide +kernel
theorem get_k2 : (getV [0]).2 = 2 := by decide +kernel
theorem get_k3 : (getV (List.replicate 5000 0)).2 = 2 := by
  rw [getV_ok, if_pos (.inr (by simp))]
theorem goodE_row : ∀ x ∈ goodE, RowE x := by
  intro x hx
  simp only [goodE, List.mem_cons, List.not_mem_nil, or_false] at hx
  rcases hx with rfl | rfl | rfl | rfl | rfl | rfl | rfl | rfl | rfl | rfl
  · exact gX0_row
  · exact gX1_row
  · exact gX2_row
  · exact gX3_row
  · exact gX4_row
  · exact gX5_row
  · exact gX6_row
  · exact gX7_row
  · exact gX8_row
  · exact gX9_row
theorem badE_row : ∀ x ∈ badE, RowE x := by
  intro x hx
  simp only [badE, List.mem_cons, List.not_mem_nil, or_false] at hx
  rcases hx with rfl | rfl | rfl | rfl | rfl | rfl | rfl | rfl | rfl | rfl | rfl | rfl | rfl | rfl | rfl | rfl | rfl | rfl | rfl | rfl | rfl
  · exact bX0_row
  · exact bX1_row
  · exact bX2_row
  · exact bX3_row
  · exact bX4_row
  · exact bX5_row
  · exact bX6_row
  · exact bX7_row
  · exact bX8_row
  · exact bX9_row
  · exact bX10_row
  · exact bX11_row
  · exact bX12_row
  · exact bX13_row
  · exact bX14_row
  · exact bX15_row
  · exact bX16_row
  · exact bX17_row
  · exact bX18_row
  · exact bX19_row
  · exact bX20_row
theorem goodE_may : ∀ x ∈ goodE, mayX x ∧ (tellB x).length ≤ 4096 ∧ Flat x.op := by
  intro x hx
  simp only [goodE, List.mem_cons, List.not_mem_nil, or_false] at hx
  rcases hx with rfl | rfl | rfl | rfl | rfl | rfl | rfl | rfl | rfl | rfl
  · exact ⟨gX0_may, gX0_len, gX0_flat⟩
  · exact ⟨gX1_may, gX1_len, gX1_flat⟩
  · exact ⟨gX2_may, gX2_len, gX2_flat⟩
  · exact ⟨gX3_may, gX3_len, gX3_flat⟩
  · exact ⟨gX4_may, gX4_len, gX4_flat⟩
  · exact ⟨gX5_may, gX5_len, gX5_flat⟩
  · exact ⟨gX6_may, gX6_len, gX6_flat⟩
  · exact ⟨gX7_may, gX7_len, gX7_flat⟩
  · exact ⟨gX8_may, gX8_len, gX8_flat⟩
  · exact ⟨gX9_may, gX9_len, gX9_flat⟩
theorem badE_put : ∀ x ∈ badE, (putV x).1 = [] ∧ (putV x).2 = 1 := by
  intro x hx
  simp only [badE, List.mem_cons, List.not_mem_nil, or_false] at hx
  rcases hx with rfl | rfl | rfl | rfl | rfl | rfl | rfl | rfl | rfl | rfl | rfl | rfl | rfl | rfl | rfl | rfl | rfl | rfl | rfl | rfl | rfl
  · exact bX0_put
  · exact bX1_put
  · exact bX2_put
  · exact bX3_put
  · exact bX4_put
  · exact bX5_put
  · exact bX6_put
  · exact bX7_put
  · exact bX8_put
  · exact bX9_put
  · exact bX10_put
  · exact bX11_put
  · exact bX12_put
  · exact bX13_put
  · exact bX14_put
  · exact bX15_put
  · exact bX16_put
  · exact bX17_put
  · exact bX18_put
  · exact bX19_put
  · exact bX20_put
end Go.Proofs.Ytiemgmbjhllmbaa
