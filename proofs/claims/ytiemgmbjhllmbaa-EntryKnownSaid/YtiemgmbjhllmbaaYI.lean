/-
  Package entry: what may be told.
  Package entry: what items may be told.
-/
import Derived.Test.YtiemgmbjhllmbaaYEnPutI
import Derived.Laws.StructEq
section
set_option linter.unusedVariables false
set_option maxRecDepth 100000
namespace Go.Proofs.Ytiemgmbjhllmbaa
open Go.RowKit
def RetBool (w : World) (b : Bool) (e : Ending) (w' : World) : Prop := e = .returned (.bool b) ∧ Gr w w'
theorem and_no {n m : Nat} (h : m < n) (c : Bool) : (decide (n ≤ m) && c) = false := by rw [decide_eq_false (by omega)]; rfl
theorem and_yes {n m : Nat} (h : n ≤ m) (c : Bool) : (decide (n ≤ m) && c) = c := by rw [decide_eq_true h]; rfl
theorem RetBool.mk {w w' : World} {b c : Bool} (h : c = b) (g : Gr w w') : RetBool w b (.returned (.bool c)) w' := ⟨by rw [h], g⟩
theorem maySess_any (s : Int) (n : Nat) (w : World) : Calls Try.prog 26 #[.agg #[.int .i64 s, .int .u32 (n : Int)]] w (RetBool w (maySess s)) := by
  have KEY := Lib.hid (fun (b : Bool) (w' : World) (h : b = maySess s) (g : Gr w w') => RetBool.mk h g)
  have GA := Lib.hid ((Gr.refl w).alloc (.cells #[.int .i64 s, .int .u32 (n : Int)] 25))
  by_cases h0 : s < 0
  · go_enter Try.func26, Try.ntmps26
    go_wp2
    go_ret
    exact KEY.out _ _ (by simp [maySess]; omega) GA.out
  by_cases h1 : 3 ≤ s
  · go_enter Try.func26, Try.ntmps26
    go_wp2
    go_ret
    exact KEY.out _ _ (by simp [maySess]; omega) GA.out
  · have h2 : 0 ≤ s := by omega
    have h3 : s < 3 := by omega
    go_enter Try.func26, Try.ntmps26
    go_wp2
    go_ret
    exact KEY.out _ _ (by simp [maySess]; omega) GA.out
/-! ### Operations -/
theorem idxO_nil (w : World) (a : Option Addr) (c : Nat) (f : Value) : Calls Try.prog 100 #[.slice a 0 c, f] w fun e w' => e = .returned (.int .i64 (-1)) ∧ w = w' := by
  go_enter Try.func100, Try.ntmps100
  go_wp2
  go_loop [8] (fun i => i = .int .i64 0) (fun _ => 0)
  case atStart => rfl
  case round =>
    obtain rfl := hrel
    go_wp2
    go_ret
    exact ⟨rfl, rfl⟩
theorem contO_nil (w : World) (a : Option Addr) (c : Nat) (f : Value) : Calls Try.prog 91 #[.slice a 0 c, f] w fun e w' => e = .returned (.bool false) ∧ w = w' := by
  go_enter Try.func91, Try.ntmps91
  go_wp2_with fail
  refine (idxO_nil _ a c f).mono ?_
  rintro e w1 ⟨rfl, rfl⟩
  go_wp2
  go_ret
  exact ⟨rfl, rfl⟩
theorem allO_zero (w : World) (a : Option Addr) (n c : Nat) (f : FuncId) : Calls Try.prog 75 #[.slice a n c, .int .i64 0, .func (.func f) #[] #[]] w (RetBool w (decide (n ≤ 0))) := by
  have KEY := Lib.hid (fun (b : Bool) (w' : World) (h : b = decide (n ≤ 0)) (g : Gr w w') => RetBool.mk h g)
  by_cases h0 : n = 0
  · subst h0
    go_enter Try.func75, Try.ntmps75
    go_wp2_with fail
    refine (contO_nil _ a c _).mono ?_
    rintro e w1 ⟨rfl, rfl⟩
    go_wp2
    go_ret
    exact KEY.out _ _ (by simp) ((Gr.refl w).alloc _)
  · have h1 : (0 : Int) < (n : Int) := by omega
    have h2 : decide ((n : Int) ≤ 0) = false := by simp; omega
    go_enter Try.func75, Try.ntmps75
    go_wp2
    go_ret
    exact KEY.out _ _ (by simp; omega) ((Gr.refl w).alloc _)
/-- The cells of an operation. -/
def RowOfO (w : World) (x : OpD) (r : List Value) : Prop := ∃ dv pv, r = opCells x.h dv pv ∧ OpP Any w x dv pv
theorem RowOfO.form {w : World} {x : OpD} {r : List Value} (h : RowOfO w x r) : ∃ (ki : Nat) (pa : ByteArray) (da : Option Addr) (dn dc : Nat) (ve : Int) (sq ep : Bool) (qa : Option Addr) (qn qc : Nat), r = [.int .u8 (ki : Int), .string pa, .slice da dn dc, .int .i64 ve, .bool sq, .bool ep, .slice qa qn qc] := by
  obtain ⟨dv, pv, rfl, hp⟩ := h
  obtain ⟨a, c, rfl⟩ := hp.parts.1.1.oneCells
  obtain ⟨b, d, rfl⟩ := hp.parts.2.shape
  exact ⟨_, _, _, _, _, _, _, _, _, _, _, rfl⟩
theorem OpsP.row {w : World} {v : Value} {ps : List OpD} (h : OpsP Any w v ps) (k : Nat) (hk : k < ps.length) :
    ∃ B o c r, v = .slice (some ⟨B, o, none⟩) ps.length c ∧ B < w.heap.size ∧ RowOfO w ps[k] r ∧ ∀ j u, j < 7 → r[j]? = some u → w.cell? ⟨B, o + k * 7 + j, none⟩ = some u := by
  obtain ⟨B, o, c, dv, pv, h1, h2, h3, h4⟩ := h.at k hk
  exact ⟨B, o, c, _, h1, h2, ⟨dv, pv, rfl, h3⟩, h4⟩
/-- A row of them, each looked at by a call. -/
theorem idxO_any (w0 w : World) (lv : Value) (ls : List OpD) (hp : OpsP Any w0 lv ls) (hg0 : Gr w0 w) (hn : ls.length ≤ maxLen) (bx : Nat)
    (hf : ∀ (W : World) (k : Nat) (hk : k < ls.length) (r : List Value), Gr w W → RowOfO w0 ls[k] r → Calls Try.prog 92 #[.agg r.toArray, .pointer (some ⟨bx, 0, none⟩)] W (RetBool W (!mayOp0 ls[k]))) :
    Calls Try.prog 100 #[lv, .func (.func 92) #[] #[.pointer (some ⟨bx, 0, none⟩)]] w fun e w' => (∃ z : Int, e = .returned (.int .i64 z) ∧ decide (0 ≤ z) = !ls.all mayOp0) ∧ Gr w w' := by
  obtain ⟨a, cap, rfl⟩ := hp.shape
  have hmx : ls.length ≤ 9223372036854775807 := Nat.le_trans hn (by decide)
  have HP := Lib.hid hp
  have HF := Lib.hid hf
  have H0 := Lib.hid hg0
  have key : Hid ((∀ x ∈ ls, mayOp0 x = true) → ls.all mayOp0 = true) := Lib.hid fun h => List.all_eq_true.2 h
  have key2 : Hid (∀ k (hk : k < ls.length), mayOp0 ls[k] = false → ls.all mayOp0 = false) := Lib.hid fun k hk h => by
    rw [Bool.eq_false_iff]
    intro ha
    have := List.all_eq_true.1 ha _ (List.getElem_mem hk)
    rw [h] at this
    cases this
  clear hp hf hg0
  go_enter Try.func100, Try.ntmps100
  go_wp2
  go_loopw [5, 8] (fun _ i wr => ∃ k : Nat, k ≤ ls.length ∧ i = .int .i64 k ∧ Gr w wr ∧ Hid (∀ j (hj : j < ls.length), j < k → mayOp0 ls[j] = true)) (fun _ i _ => ls.length - (intOf i).toNat)
  case atStart => exact ⟨0, Nat.zero_le _, rfl, Gr.refl _, Lib.hid fun j _ hj => absurd hj (Nat.not_lt_zero _)⟩
  case round =>
    obtain ⟨k, hk, rfl, hg, HJ⟩ := hrel
    obtain ⟨wo, rfl⟩ : ∃ wo : World, wo = wr := ⟨_, rfl⟩
    by_cases hlt : k < ls.length
    · obtain ⟨B, o, c, r, e0, hB, hr, hcell⟩ := OpsP.row HP.out k hlt
      injection e0 with e1 _ e3
      subst e1 e3
      have hgg := H0.out.trans hg
      have CALL := HF.out wo k hlt r hg hr
      obtain ⟨ki, pa, da, dn, dc, ve, sq, ep, qa, qn, qc, rfl⟩ := hr.form
      have c0 := (hgg.cell (p := ⟨B, o + k * 7 + 0, none⟩) hB).trans (hcell 0 _ (by decide) rfl)
      have c1 := (hgg.cell (p := ⟨B, o + k * 7 + 1, none⟩) hB).trans (hcell 1 _ (by decide) rfl)
      have c2 := (hgg.cell (p := ⟨B, o + k * 7 + 2, none⟩) hB).trans (hcell 2 _ (by decide) rfl)
      have c3 := (hgg.cell (p := ⟨B, o + k * 7 + 3, none⟩) hB).trans (hcell 3 _ (by decide) rfl)
      have c4 := (hgg.cell (p := ⟨B, o + k * 7 + 4, none⟩) hB).trans (hcell 4 _ (by decide) rfl)
      have c5 := (hgg.cell (p := ⟨B, o + k * 7 + 5, none⟩) hB).trans (hcell 5 _ (by decide) rfl)
      have c6 := (hgg.cell (p := ⟨B, o + k * 7 + 6, none⟩) hB).trans (hcell 6 _ (by decide) rfl)
      simp only [Nat.add_zero] at c0
      clear hcell
      have i1 : (0 : Int) ≤ (k : Int) := by omega
      have i2 : (k : Int) < (ls.length : Int) := by omega
      have CA := Lib.hid CALL
      clear CALL hr
      go_wp2_with fail
      cases hm : mayOp0 ls[k] with
      | true =>
        have HM := Lib.hid hm
        clear hm
        refine CA.out.mono ?_
        rw [HM.out]
        rintro e w2 ⟨rfl, g2⟩
        have G2 := Lib.hid (hg.trans g2)
        clear g2
        go_wp2
        go_roundw
        case rel => exact ⟨k + 1, by omega, by go_num, G2.out, Lib.hid fun j hj hjk => by
          rcases Nat.lt_or_ge j k with h | h
          · exact HJ.out j hj h
          · obtain rfl : j = k := by omega
            exact HM.out⟩
        case measure => simp [intOf]; omega
      | false =>
        have HM := Lib.hid hm
        clear hm
        refine CA.out.mono ?_
        rw [HM.out]
        rintro e w2 ⟨rfl, g2⟩
        have G2 := Lib.hid (hg.trans g2)
        clear g2
        go_wp2
        go_ret
        exact ⟨⟨_, rfl, by rw [key2.out k hlt HM.out]; simp⟩, G2.out⟩
    · obtain rfl : k = ls.length := by omega
      go_wp2
      go_ret
      exact ⟨⟨_, rfl, by rw [key.out fun x hx => by obtain ⟨j, hj, rfl⟩ := List.getElem_of_mem hx; exact HJ.out j hj hj]; rfl⟩, hg⟩
theorem mayOp_gen (x : OpD) (da : Option Addr) (dc : Nat) (qa : Option Addr) (qn qc : Nat) (m : Int) (b : Bool) (w : World)
    (hall : ∀ W, Gr w W → Calls Try.prog 75 #[.slice qa qn qc, .int .i64 m, .func (.func 76) #[] #[]] W (RetBool W b)) :
    Calls Try.prog 32 #[.agg (opCells x.h (.slice da x.h.data.length dc) (.slice qa qn qc)).toArray, .int .i64 m] w (RetBool w (mayHead x.h && b)) := by
  obtain ⟨⟨ki, pa, dt, ve, sq, ep⟩, ps⟩ := x
  have KEY := Lib.hid (fun (c : Bool) (w' : World) (h : c = (mayHead ⟨ki, pa, dt, ve, sq, ep⟩ && b)) (g : Gr w w') => RetBool.mk h g)
  have HA := Lib.hid hall
  clear hall
  show Calls Try.prog 32 #[.agg #[.int .u8 (ki : Int), .string ⟨pa.toArray⟩, .slice da dt.length dc, .int .i64 ve, .bool sq, .bool ep, .slice qa qn qc], .int .i64 m] w (RetBool w (mayHead ⟨ki, pa, dt, ve, sq, ep⟩ && b))
  obtain ⟨pb, hpb⟩ : ∃ pb : ByteArray, pb = ⟨pa.toArray⟩ := ⟨_, rfl⟩
  have hsz : pb.size = pa.length := by rw [hpb]; rfl
  rw [← hpb]
  obtain ⟨n1, hn1⟩ : ∃ n1, n1 = pa.length := ⟨_, rfl⟩
  obtain ⟨n2, hn2⟩ : ∃ n2, n2 = dt.length := ⟨_, rfl⟩
  have hm : Hid (mayHead ⟨ki, pa, dt, ve, sq, ep⟩ = (decide (n1 ≤ 64) && decide (n2 ≤ 64))) := Lib.hid (by rw [hn1, hn2]; rfl)
  rw [← hn2]
  rw [← hn1] at hsz
  clear hn1 hn2 hpb
  have GA := Lib.hid ((Gr.refl w).alloc (.cells #[.int .u8 (ki : Int), .string pb, .slice da n2 dc, .int .i64 ve, .bool sq, .bool ep, .slice qa qn qc] 37))
  by_cases h1 : 64 < n1
  · have h2 : decide ((n1 : Int) ≤ 64) = false := by simp; omega
    go_enter Try.func32, Try.ntmps32
    go_wp2
    go_ret
    exact KEY.out _ _ (by rw [hm.out, decide_eq_false (show ¬ n1 ≤ 64 by omega)]; rfl) GA.out
  by_cases h2 : 64 < n2
  · have h3 : decide ((n1 : Int) ≤ 64) = true := by simp; omega
    have h4 : decide ((n2 : Int) ≤ 64) = false := by simp; omega
    go_enter Try.func32, Try.ntmps32
    go_wp2
    go_ret
    exact KEY.out _ _ (by rw [hm.out, decide_eq_false (show ¬ n2 ≤ 64 by omega)]; simp) GA.out
  · have h3 : decide ((n1 : Int) ≤ 64) = true := by simp; omega
    have h4 : decide ((n2 : Int) ≤ 64) = true := by simp; omega
    have h5 : Hid (b = (mayHead ⟨ki, pa, dt, ve, sq, ep⟩ && b)) := Lib.hid (by
      have e1 : n1 ≤ 64 := by omega
      have e2 : n2 ≤ 64 := by omega
      rw [hm.out]; simp [e1, e2])
    go_enter Try.func32, Try.ntmps32
    go_wp2_with fail
    refine (HA.out _ GA.out).mono ?_
    rintro e w1 ⟨rfl, g1⟩
    have G1 := Lib.hid (GA.out.trans g1)
    clear g1
    go_wp2
    go_ret
    exact KEY.out _ _ h5.out G1.out
theorem mayOpZ_any (w0 w : World) (x : OpD) (r : List Value) (hr : RowOfO w0 x r) (hg : Gr w0 w) : Calls Try.prog 32 #[.agg r.toArray, .int .i64 0] w (RetBool w (mayOp0 x)) := by
  obtain ⟨dv, pv, rfl, hp⟩ := hr
  obtain ⟨da, dc, rfl⟩ := hp.parts.1.1.oneCells
  obtain ⟨qa, qc, rfl⟩ := hp.parts.2.shape
  rw [bytes_length]
  exact mayOp_gen x da dc qa x.parts.length qc 0 (decide (x.parts.length ≤ 0)) w (fun W _ => allO_zero W qa _ qc _)
theorem f107_any (w0 w : World) (x : OpD) (r : List Value) (hr : RowOfO w0 x r) (hg : Gr w0 w) : Calls Try.prog 76 #[.agg r.toArray] w (RetBool w (mayOp0 x)) := by
  have M := fun W (hW : Gr w W) => mayOpZ_any w0 W x r hr (hg.trans hW)
  obtain ⟨ki, pa, da, dn, dc, ve, sq, ep, qa, qn, qc, rfl⟩ := hr.form
  have MM := Lib.hid M
  clear M hr
  go_enter Try.func76, Try.ntmps76
  go_wp2_with fail
  refine (MM.out _ ((Gr.refl w).alloc _)).mono ?_
  rintro e w1 ⟨rfl, g1⟩
  have G1 := Lib.hid (((Gr.refl w).alloc _).trans g1)
  clear g1
  go_wp2
  go_ret
  exact ⟨rfl, G1.out⟩
theorem f128_any (w0 w : World) (x : OpD) (r : List Value) (bx : Nat) (hbx : bx < w.heap.size) (hc : w.cell? ⟨bx, 0, none⟩ = some (.func (.func 76) #[] #[])) (hr : RowOfO w0 x r) (hg : Gr w0 w) :
    Calls Try.prog 92 #[.agg r.toArray, .pointer (some ⟨bx, 0, none⟩)] w (RetBool w (!mayOp0 x)) := by
  have M := fun W (hW : Gr w W) => f107_any w0 W x r hr (hg.trans hW)
  obtain ⟨ki, pa, da, dn, dc, ve, sq, ep, qa, qn, qc, rfl⟩ := hr.form
  have MM := Lib.hid M
  have hc2 := (((Gr.refl w).alloc (.cells #[.int .u8 (ki : Int), .string pa, .slice da dn dc, .int .i64 ve, .bool sq, .bool ep, .slice qa qn qc] 37)).cell (p := ⟨bx, 0, none⟩) hbx).trans hc
  clear M hr hc
  go_enter Try.func92, Try.ntmps92
  go_wp2_with fail
  refine (MM.out _ ((Gr.refl w).alloc _)).mono ?_
  rintro e w1 ⟨rfl, g1⟩
  have G1 := Lib.hid (((Gr.refl w).alloc _).trans g1)
  clear g1
  go_wp2
  go_ret
  exact ⟨rfl, G1.out⟩
theorem allO_any (w0 w : World) (pv : Value) (ps : List OpD) (m : Nat) (hp : OpsP Any w0 pv ps) (hg0 : Gr w0 w) (hn : ps.length ≤ maxLen) (hm : m ≤ 1000) :
    Calls Try.prog 75 #[pv, .int .i64 (m : Int), .func (.func 76) #[] #[]] w (RetBool w (decide (ps.length ≤ m) && ps.all mayOp0)) := by
  have KEY := Lib.hid (fun (b : Bool) (w' : World) (h : b = (decide (ps.length ≤ m) && ps.all mayOp0)) (g : Gr w w') => RetBool.mk h g)
  have IDX := fun W (hW : Gr w W) (hc : W.cell? ⟨w.heap.size, 0, none⟩ = some (.func (.func 76) #[] #[])) (hbx : w.heap.size < W.heap.size) =>
    idxO_any w0 W pv ps hp (hg0.trans hW) hn w.heap.size (fun V k hk r hV hr => f128_any w0 V ps[k] r w.heap.size (Nat.lt_of_lt_of_le hbx hV.size) ((hV.cell (p := ⟨w.heap.size, 0, none⟩) hbx).trans hc) hr ((hg0.trans hW).trans hV))
  obtain ⟨a, cap, rfl⟩ := hp.shape
  have II := Lib.hid IDX
  obtain ⟨n, hn2⟩ : ∃ n, n = ps.length := ⟨_, rfl⟩
  rw [← hn2] at II KEY ⊢
  clear IDX hp hn hn2
  by_cases h0 : m < n
  · have h2 : decide ((n : Int) ≤ (m : Int)) = false := by simp; omega
    have h3 : Hid (false = (decide (n ≤ m) && ps.all mayOp0)) := Lib.hid (and_no h0 _).symm
    go_enter Try.func75, Try.ntmps75
    go_wp2
    go_ret
    exact KEY.out _ _ h3.out ((Gr.refl w).alloc _)
  · have h2 : decide ((n : Int) ≤ (m : Int)) = true := by simp; omega
    have h3 : Hid (∀ c : Bool, c = (decide (n ≤ m) && c)) := Lib.hid (fun c => (and_yes (by omega) c).symm)
    have CONT : ∀ W, Gr w W → W.cell? ⟨w.heap.size, 0, none⟩ = some (.func (.func 76) #[] #[]) → w.heap.size < W.heap.size →
        Calls Try.prog 91 #[.slice a n cap, .func (.func 92) #[] #[.pointer (some ⟨w.heap.size, 0, none⟩)]] W (RetBool W (!ps.all mayOp0)) := by
      intro W hW hc hbx
      have I := Lib.hid (II.out W hW hc hbx)
      clear II hc
      go_enter Try.func91, Try.ntmps91
      go_wp2_with fail
      refine I.out.mono ?_
      rintro e w1 ⟨⟨z, rfl, hz⟩, g1⟩
      have HZ := Lib.hid hz
      clear hz
      go_wp2
      go_ret
      exact RetBool.mk HZ.out g1
    have CC := Lib.hid CONT
    clear CONT II
    have hnew : (w.alloc (.cells #[.func (.func 76) #[] #[]] 101)).cell? ⟨w.heap.size, 0, none⟩ = some (.func (.func 76) #[] #[]) := by
      rw [cell_of_block (heap_alloc_new w _)]; rfl
    have HN := Lib.hid hnew
    clear hnew
    go_enter Try.func75, Try.ntmps75
    go_wp2_with fail
    refine (CC.out _ ((Gr.refl w).alloc _) HN.out (by simp)).mono ?_
    rintro e w1 ⟨rfl, g1⟩
    have G1 := Lib.hid (((Gr.refl w).alloc _).trans g1)
    clear g1
    go_wp2
    go_ret
    exact KEY.out _ _ (by rw [← h3.out]) G1.out
theorem mayOp_any (w : World) (x : OpD) (dv pv : Value) (hp : OpP Any w x dv pv) (hn : x.parts.length ≤ maxLen) : Calls Try.prog 32 #[.agg (opCells x.h dv pv).toArray, .int .i64 6] w (RetBool w (mayOp x)) := by
  have H2 := hp.parts.2
  obtain ⟨da, dc, rfl⟩ := hp.parts.1.1.oneCells
  obtain ⟨qa, qc, rfl⟩ := hp.parts.2.shape
  rw [bytes_length]
  exact mayOp_gen x da dc qa x.parts.length qc 6 _ w (fun W hW => allO_any w W _ x.parts 6 H2 hW hn (by decide))
/-! ### Effects -/
theorem zeroNode_no (x : NodeD) (h : x ≠ zeroN) : zeroNode x = false := by rw [Bool.eq_false_iff]; intro e; exact h ((zeroNode_iff x).1 e)
set_option maxHeartbeats 4000000 in
theorem zero_any (x : NodeD) (da : Option Addr) (dc : Nat) (w : World) : Calls Try.prog 97 #[.agg (nodeCells x (.slice da x.data.length dc)).toArray] w (RetBool w (zeroNode x)) := by
  have KEY := Lib.hid (fun (c : Bool) (w' : World) (h : c = zeroNode x) (g : Gr w w') => RetBool.mk h g)
  have NO := Lib.hid (zeroNode_no x)
  have YES := Lib.hid (zeroNode_iff x).2
  obtain ⟨dt, ve, ki, ne, si, nn, ma, ch, tu⟩ := x
  obtain ⟨n0, hn0⟩ : ∃ n0, n0 = dt.length := ⟨_, rfl⟩
  show Calls Try.prog 97 #[.agg #[.slice da dt.length dc, .int .u32 (ve : Int), .int .u32 (ki : Int), .int .u32 (ne : Int), .int .i64 si, .int .u32 (nn : Int), .int .u64 (ma : Int), .int .u64 (ch : Int), .int .u64 (tu : Int)]] w (RetBool w (zeroNode ⟨dt, ve, ki, ne, si, nn, ma, ch, tu⟩))
  rw [← hn0]
  have HD := Lib.hid hn0
  clear hn0
  have GA := Lib.hid ((Gr.refl w).alloc (.cells #[.slice da n0 dc, .int .u32 (ve : Int), .int .u32 (ki : Int), .int .u32 (ne : Int), .int .i64 si, .int .u32 (nn : Int), .int .u64 (ma : Int), .int .u64 (ch : Int), .int .u64 (tu : Int)] 28))
  by_cases h0 : n0 = 0
  case neg =>
    have b0 : ((n0 : Int) == 0) = false := by simp; omega
    have HZ : Hid (false = zeroNode ⟨dt, ve, ki, ne, si, nn, ma, ch, tu⟩) := Lib.hid (NO.out fun e => h0 (by rw [HD.out]; exact congrArg (fun y => y.data.length) e)).symm
    clear h0
    go_enter Try.func97, Try.ntmps97
    go_wp2
    go_ret
    exact KEY.out _ _ HZ.out GA.out
  have b0 : ((n0 : Int) == 0) = true := by simp; omega
  have H0 := Lib.hid h0
  clear h0
  by_cases h1 : ve = 0
  case neg =>
    have b1 : ((ve : Int) == 0) = false := by simp; omega
    have HZ : Hid (false = zeroNode ⟨dt, ve, ki, ne, si, nn, ma, ch, tu⟩) := Lib.hid (NO.out fun e => h1 (congrArg NodeD.version e)).symm
    clear h1
    go_enter Try.func97, Try.ntmps97
    go_wp2
    go_ret
    exact KEY.out _ _ HZ.out GA.out
  have b1 : ((ve : Int) == 0) = true := by simp; omega
  have H1 := Lib.hid h1
  clear h1
  by_cases h2 : ki = 0
  case neg =>
    have b2 : ((ki : Int) == 0) = false := by simp; omega
    have HZ : Hid (false = zeroNode ⟨dt, ve, ki, ne, si, nn, ma, ch, tu⟩) := Lib.hid (NO.out fun e => h2 (congrArg NodeD.kin e)).symm
    clear h2
    go_enter Try.func97, Try.ntmps97
    go_wp2
    go_ret
    exact KEY.out _ _ HZ.out GA.out
  have b2 : ((ki : Int) == 0) = true := by simp; omega
  have H2 := Lib.hid h2
  clear h2
  by_cases h3 : ne = 0
  case neg =>
    have b3 : ((ne : Int) == 0) = false := by simp; omega
    have HZ : Hid (false = zeroNode ⟨dt, ve, ki, ne, si, nn, ma, ch, tu⟩) := Lib.hid (NO.out fun e => h3 (congrArg NodeD.next e)).symm
    clear h3
    go_enter Try.func97, Try.ntmps97
    go_wp2
    go_ret
    exact KEY.out _ _ HZ.out GA.out
  have b3 : ((ne : Int) == 0) = true := by simp; omega
  have H3 := Lib.hid h3
  clear h3
  by_cases h4 : si = 0
  case neg =>
    have b4 : (si == 0) = false := by simp; omega
    have HZ : Hid (false = zeroNode ⟨dt, ve, ki, ne, si, nn, ma, ch, tu⟩) := Lib.hid (NO.out fun e => h4 (congrArg NodeD.site e)).symm
    clear h4
    go_enter Try.func97, Try.ntmps97
    go_wp2
    go_ret
    exact KEY.out _ _ HZ.out GA.out
  have b4 : (si == 0) = true := by simp; omega
  have H4 := Lib.hid h4
  clear h4
  by_cases h5 : nn = 0
  case neg =>
    have b5 : ((nn : Int) == 0) = false := by simp; omega
    have HZ : Hid (false = zeroNode ⟨dt, ve, ki, ne, si, nn, ma, ch, tu⟩) := Lib.hid (NO.out fun e => h5 (congrArg NodeD.n e)).symm
    clear h5
    go_enter Try.func97, Try.ntmps97
    go_wp2
    go_ret
    exact KEY.out _ _ HZ.out GA.out
  have b5 : ((nn : Int) == 0) = true := by simp; omega
  have H5 := Lib.hid h5
  clear h5
  by_cases h6 : ma = 0
  case neg =>
    have b6 : ((ma : Int) == 0) = false := by simp; omega
    have HZ : Hid (false = zeroNode ⟨dt, ve, ki, ne, si, nn, ma, ch, tu⟩) := Lib.hid (NO.out fun e => h6 (congrArg NodeD.made e)).symm
    clear h6
    go_enter Try.func97, Try.ntmps97
    go_wp2
    go_ret
    exact KEY.out _ _ HZ.out GA.out
  have b6 : ((ma : Int) == 0) = true := by simp; omega
  have H6 := Lib.hid h6
  clear h6
  by_cases h7 : ch = 0
  case neg =>
    have b7 : ((ch : Int) == 0) = false := by simp; omega
    have HZ : Hid (false = zeroNode ⟨dt, ve, ki, ne, si, nn, ma, ch, tu⟩) := Lib.hid (NO.out fun e => h7 (congrArg NodeD.changed e)).symm
    clear h7
    go_enter Try.func97, Try.ntmps97
    go_wp2
    go_ret
    exact KEY.out _ _ HZ.out GA.out
  have b7 : ((ch : Int) == 0) = true := by simp; omega
  have H7 := Lib.hid h7
  clear h7
  by_cases h8 : tu = 0
  case neg =>
    have b8 : ((tu : Int) == 0) = false := by simp; omega
    have HZ : Hid (false = zeroNode ⟨dt, ve, ki, ne, si, nn, ma, ch, tu⟩) := Lib.hid (NO.out fun e => h8 (congrArg NodeD.touched e)).symm
    clear h8
    go_enter Try.func97, Try.ntmps97
    go_wp2
    go_ret
    exact KEY.out _ _ HZ.out GA.out
  have b8 : ((tu : Int) == 0) = true := by simp; omega
  have H8 := Lib.hid h8
  clear h8
  have HZ : Hid (true = zeroNode ⟨dt, ve, ki, ne, si, nn, ma, ch, tu⟩) := Lib.hid (YES.out (by
    have e0 : dt = [] := List.eq_nil_of_length_eq_zero (by rw [← HD.out, H0.out])
    rw [e0, H1.out, H2.out, H3.out, H4.out, H5.out, H6.out, H7.out, H8.out]; rfl)).symm
  go_enter Try.func97, Try.ntmps97
  go_wp2
  go_ret
  exact KEY.out _ _ HZ.out GA.out
end Go.Proofs.Ytiemgmbjhllmbaa
end
section
set_option linter.unusedVariables false
set_option maxRecDepth 100000
namespace Go.Proofs.Ytiemgmbjhllmbaa
open Go.RowKit
/-- The cells of an effect. -/
def RowOfE (w : World) (x : EffD) (r : List Value) : Prop := ∃ dv, r = effCells x dv ∧ SlP Any w dv (bytes x.node.data)
theorem RowOfE.form {w : World} {x : EffD} {r : List Value} (h : RowOfE w x r) : ∃ (pa : ByteArray) (go : Bool) (da : Option Addr) (dn dc ve ki ne : Nat) (si : Int) (nn ma ch tu : Nat), r = [.string pa, .bool go, .slice da dn dc, .int .u32 (ve : Int), .int .u32 (ki : Int), .int .u32 (ne : Int), .int .i64 si, .int .u32 (nn : Int), .int .u64 (ma : Int), .int .u64 (ch : Int), .int .u64 (tu : Int)] := by
  obtain ⟨dv, rfl, hp⟩ := h
  obtain ⟨a, c, rfl⟩ := hp.1.oneCells
  exact ⟨_, _, _, _, _, _, _, _, _, _, _, _, _, rfl⟩
theorem EffsP.row {w : World} {v : Value} {ps : List EffD} (h : EffsP Any w v ps) (k : Nat) (hk : k < ps.length) :
    ∃ B o c r, v = .slice (some ⟨B, o, none⟩) ps.length c ∧ B < w.heap.size ∧ RowOfE w ps[k] r ∧ ∀ j u, j < 11 → r[j]? = some u → w.cell? ⟨B, o + k * 11 + j, none⟩ = some u := by
  obtain ⟨B, o, c, dv, h1, h2, h3, h4⟩ := h.at k hk
  exact ⟨B, o, c, _, h1, h2, ⟨dv, rfl, h3⟩, h4⟩
/-- A row of them, each looked at by a call. -/
theorem idxE_any (w0 w : World) (lv : Value) (ls : List EffD) (hp : EffsP Any w0 lv ls) (hg0 : Gr w0 w) (hn : ls.length ≤ maxLen) (bx : Nat)
    (hf : ∀ (W : World) (k : Nat) (hk : k < ls.length) (r : List Value), Gr w W → RowOfE w0 ls[k] r → Calls Try.prog 96 #[.agg r.toArray, .pointer (some ⟨bx, 0, none⟩)] W (RetBool W (!mayEff ls[k]))) :
    Calls Try.prog 101 #[lv, .func (.func 96) #[] #[.pointer (some ⟨bx, 0, none⟩)]] w fun e w' => (∃ z : Int, e = .returned (.int .i64 z) ∧ decide (0 ≤ z) = !ls.all mayEff) ∧ Gr w w' := by
  obtain ⟨a, cap, rfl⟩ := hp.shape
  have hmx : ls.length ≤ 9223372036854775807 := Nat.le_trans hn (by decide)
  have HP := Lib.hid hp
  have HF := Lib.hid hf
  have H0 := Lib.hid hg0
  have key : Hid ((∀ x ∈ ls, mayEff x = true) → ls.all mayEff = true) := Lib.hid fun h => List.all_eq_true.2 h
  have key2 : Hid (∀ k (hk : k < ls.length), mayEff ls[k] = false → ls.all mayEff = false) := Lib.hid fun k hk h => by
    rw [Bool.eq_false_iff]
    intro ha
    have := List.all_eq_true.1 ha _ (List.getElem_mem hk)
    rw [h] at this
    cases this
  clear hp hf hg0
  go_enter Try.func101, Try.ntmps101
  go_wp2
  go_loopw [5, 8] (fun _ i wr => ∃ k : Nat, k ≤ ls.length ∧ i = .int .i64 k ∧ Gr w wr ∧ Hid (∀ j (hj : j < ls.length), j < k → mayEff ls[j] = true)) (fun _ i _ => ls.length - (intOf i).toNat)
  case atStart => exact ⟨0, Nat.zero_le _, rfl, Gr.refl _, Lib.hid fun j _ hj => absurd hj (Nat.not_lt_zero _)⟩
  case round =>
    obtain ⟨k, hk, rfl, hg, HJ⟩ := hrel
    obtain ⟨wo, rfl⟩ : ∃ wo : World, wo = wr := ⟨_, rfl⟩
    by_cases hlt : k < ls.length
    · obtain ⟨B, o, c, r, e0, hB, hr, hcell⟩ := EffsP.row HP.out k hlt
      injection e0 with e1 _ e3
      subst e1 e3
      have hgg := H0.out.trans hg
      have CALL := HF.out wo k hlt r hg hr
      obtain ⟨pa, go, da, dn, dc, ve, ki, ne, si, nn, ma, ch, tu, rfl⟩ := hr.form
      have c0 := (hgg.cell (p := ⟨B, o + k * 11 + 0, none⟩) hB).trans (hcell 0 _ (by decide) rfl)
      have c1 := (hgg.cell (p := ⟨B, o + k * 11 + 1, none⟩) hB).trans (hcell 1 _ (by decide) rfl)
      have c2 := (hgg.cell (p := ⟨B, o + k * 11 + 2, none⟩) hB).trans (hcell 2 _ (by decide) rfl)
      have c3 := (hgg.cell (p := ⟨B, o + k * 11 + 3, none⟩) hB).trans (hcell 3 _ (by decide) rfl)
      have c4 := (hgg.cell (p := ⟨B, o + k * 11 + 4, none⟩) hB).trans (hcell 4 _ (by decide) rfl)
      have c5 := (hgg.cell (p := ⟨B, o + k * 11 + 5, none⟩) hB).trans (hcell 5 _ (by decide) rfl)
      have c6 := (hgg.cell (p := ⟨B, o + k * 11 + 6, none⟩) hB).trans (hcell 6 _ (by decide) rfl)
      have c7 := (hgg.cell (p := ⟨B, o + k * 11 + 7, none⟩) hB).trans (hcell 7 _ (by decide) rfl)
      have c8 := (hgg.cell (p := ⟨B, o + k * 11 + 8, none⟩) hB).trans (hcell 8 _ (by decide) rfl)
      have c9 := (hgg.cell (p := ⟨B, o + k * 11 + 9, none⟩) hB).trans (hcell 9 _ (by decide) rfl)
      have c10 := (hgg.cell (p := ⟨B, o + k * 11 + 10, none⟩) hB).trans (hcell 10 _ (by decide) rfl)
      simp only [Nat.add_zero] at c0
      clear hcell
      have i1 : (0 : Int) ≤ (k : Int) := by omega
      have i2 : (k : Int) < (ls.length : Int) := by omega
      have CA := Lib.hid CALL
      clear CALL hr
      go_wp2_with fail
      cases hm : mayEff ls[k] with
      | true =>
        have HM := Lib.hid hm
        clear hm
        refine CA.out.mono ?_
        rw [HM.out]
        rintro e w2 ⟨rfl, g2⟩
        have G2 := Lib.hid (hg.trans g2)
        clear g2
        go_wp2
        go_roundw
        case rel => exact ⟨k + 1, by omega, by go_num, G2.out, Lib.hid fun j hj hjk => by
          rcases Nat.lt_or_ge j k with h | h
          · exact HJ.out j hj h
          · obtain rfl : j = k := by omega
            exact HM.out⟩
        case measure => simp [intOf]; omega
      | false =>
        have HM := Lib.hid hm
        clear hm
        refine CA.out.mono ?_
        rw [HM.out]
        rintro e w2 ⟨rfl, g2⟩
        have G2 := Lib.hid (hg.trans g2)
        clear g2
        go_wp2
        go_ret
        exact ⟨⟨_, rfl, by rw [key2.out k hlt HM.out]; simp⟩, G2.out⟩
    · obtain rfl : k = ls.length := by omega
      go_wp2
      go_ret
      exact ⟨⟨_, rfl, by rw [key.out fun x hx => by obtain ⟨j, hj, rfl⟩ := List.getElem_of_mem hx; exact HJ.out j hj hj]; rfl⟩, hg⟩
theorem mayEff_no1 (x : EffD) (h : 64 < x.path.length) : mayEff x = false := by rw [Bool.eq_false_iff]; intro e; have := (mayEff_iff x).1 e; omega
theorem mayEff_no2 (x : EffD) (h : 64 < x.node.data.length) : mayEff x = false := by rw [Bool.eq_false_iff]; intro e; have := (mayEff_iff x).1 e; omega
theorem mayEff_no3 (x : EffD) (h : maySess x.node.site = false) : mayEff x = false := by unfold mayEff; rw [h]; simp
theorem mayEff_yes1 (x : EffD) (h1 : x.path.length ≤ 64) (h2 : x.node.data.length ≤ 64) (h3 : maySess x.node.site = true) (h4 : x.gone = false) : mayEff x = true := by unfold mayEff; simp [h1, h2, h3, h4]
theorem mayEff_yes2 (x : EffD) (h1 : x.path.length ≤ 64) (h2 : x.node.data.length ≤ 64) (h3 : maySess x.node.site = true) (h4 : x.gone = true) : mayEff x = zeroNode x.node := by unfold mayEff; simp [h1, h2, h3, h4]
set_option maxHeartbeats 2000000 in
theorem mayEff_any (w0 w : World) (x : EffD) (r : List Value) (hr : RowOfE w0 x r) (hg : Gr w0 w) : Calls Try.prog 82 #[.agg r.toArray] w (RetBool w (mayEff x)) := by
  obtain ⟨dv, rfl, hp⟩ := hr
  obtain ⟨da, dc, rfl⟩ := hp.1.oneCells
  rw [bytes_length]
  clear hp
  have KEY := Lib.hid (fun (c : Bool) (w' : World) (h : c = mayEff x) (g : Gr w w') => RetBool.mk h g)
  have N1 := Lib.hid (mayEff_no1 x)
  have N2 := Lib.hid (mayEff_no2 x)
  have N3 := Lib.hid (mayEff_no3 x)
  have Y1 := Lib.hid (mayEff_yes1 x)
  have Y2 := Lib.hid (mayEff_yes2 x)
  have ZE := Lib.hid (fun W => zero_any x.node da dc W)
  obtain ⟨pt, go, ⟨dt, ve, ki, ne, si, nn, ma, ch, tu⟩⟩ := x
  obtain ⟨n2, hn2⟩ : ∃ n2, n2 = dt.length := ⟨_, rfl⟩
  obtain ⟨pb, hpb⟩ : ∃ pb : ByteArray, pb = ⟨pt.toArray⟩ := ⟨_, rfl⟩
  obtain ⟨n1, hn1⟩ : ∃ n1, n1 = pt.length := ⟨_, rfl⟩
  have hsz : pb.size = n1 := by rw [hpb, hn1]; rfl
  show Calls Try.prog 82 #[.agg #[.string ⟨pt.toArray⟩, .bool go, .slice da dt.length dc, .int .u32 (ve : Int), .int .u32 (ki : Int), .int .u32 (ne : Int), .int .i64 si, .int .u32 (nn : Int), .int .u64 (ma : Int), .int .u64 (ch : Int), .int .u64 (tu : Int)]] w (RetBool w (mayEff ⟨pt, go, ⟨dt, ve, ki, ne, si, nn, ma, ch, tu⟩⟩))
  rw [← hpb, ← hn2]
  have H1 := Lib.hid hn1
  have H2 := Lib.hid hn2
  clear hn1 hn2 hpb
  have GA := Lib.hid ((Gr.refl w).alloc (.cells #[.string pb, .bool go, .slice da n2 dc, .int .u32 (ve : Int), .int .u32 (ki : Int), .int .u32 (ne : Int), .int .i64 si, .int .u32 (nn : Int), .int .u64 (ma : Int), .int .u64 (ch : Int), .int .u64 (tu : Int)] 31))
  by_cases h1 : 64 < n1
  · have h2 : decide ((n1 : Int) ≤ 64) = false := by simp; omega
    have HZ := Lib.hid (N1.out (by show 64 < pt.length; rw [← H1.out]; exact h1)).symm
    go_enter Try.func82, Try.ntmps82
    go_wp2
    go_ret
    exact KEY.out _ _ HZ.out GA.out
  have b1 : decide ((n1 : Int) ≤ 64) = true := by simp; omega
  by_cases h2 : 64 < n2
  · have h3 : decide ((n2 : Int) ≤ 64) = false := by simp; omega
    have HZ := Lib.hid (N2.out (by show 64 < dt.length; rw [← H2.out]; exact h2)).symm
    go_enter Try.func82, Try.ntmps82
    go_wp2
    go_ret
    exact KEY.out _ _ HZ.out GA.out
  have b2 : decide ((n2 : Int) ≤ 64) = true := by simp; omega
  cases hm : maySess si with
  | false =>
    have HZ := Lib.hid (N3.out hm).symm
    have HM := Lib.hid hm
    clear hm
    go_enter Try.func82, Try.ntmps82
    go_wp2_with fail
    refine (maySess_any si nn _).mono ?_
    rw [HM.out]
    rintro e w1 ⟨rfl, g1⟩
    have G1 := Lib.hid (GA.out.trans g1)
    clear g1
    go_wp2
    go_ret
    exact KEY.out _ _ HZ.out G1.out
  | true =>
    have HM := Lib.hid hm
    have e1 : pt.length ≤ 64 := by rw [← H1.out]; omega
    have e2 : dt.length ≤ 64 := by rw [← H2.out]; omega
    have E1 := Lib.hid e1
    have E2 := Lib.hid e2
    clear hm e1 e2
    have T : Hid (∀ W, Gr (w.alloc (.cells #[.string pb, .bool go, .slice da n2 dc, .int .u32 (ve : Int), .int .u32 (ki : Int), .int .u32 (ne : Int), .int .i64 si, .int .u32 (nn : Int), .int .u64 (ma : Int), .int .u64 (ch : Int), .int .u64 (tu : Int)] 31)) W → W.cell? ⟨w.heap.size, 0, none⟩ = some (.string pb) ∧ W.cell? ⟨w.heap.size, 1, none⟩ = some (.bool go) ∧ W.cell? ⟨w.heap.size, 2, none⟩ = some (.slice da n2 dc) ∧ W.cell? ⟨w.heap.size, 3, none⟩ = some (.int .u32 (ve : Int)) ∧ W.cell? ⟨w.heap.size, 4, none⟩ = some (.int .u32 (ki : Int)) ∧ W.cell? ⟨w.heap.size, 5, none⟩ = some (.int .u32 (ne : Int)) ∧ W.cell? ⟨w.heap.size, 6, none⟩ = some (.int .i64 si) ∧ W.cell? ⟨w.heap.size, 7, none⟩ = some (.int .u32 (nn : Int)) ∧ W.cell? ⟨w.heap.size, 8, none⟩ = some (.int .u64 (ma : Int)) ∧ W.cell? ⟨w.heap.size, 9, none⟩ = some (.int .u64 (ch : Int)) ∧ W.cell? ⟨w.heap.size, 10, none⟩ = some (.int .u64 (tu : Int))) := Lib.hid fun W hW => by
      have k1 : CellsAt (w.alloc (.cells #[.string pb, .bool go, .slice da n2 dc, .int .u32 (ve : Int), .int .u32 (ki : Int), .int .u32 (ne : Int), .int .i64 si, .int .u32 (nn : Int), .int .u64 (ma : Int), .int .u64 (ch : Int), .int .u64 (tu : Int)] 31)) w.heap.size [.string pb, .bool go, .slice da n2 dc, .int .u32 (ve : Int), .int .u32 (ki : Int), .int .u32 (ne : Int), .int .i64 si, .int .u32 (nn : Int), .int .u64 (ma : Int), .int .u64 (ch : Int), .int .u64 (tu : Int)] 31 := CellsAt.new _ _ _
      exact ⟨(k1.gr hW).cell 0, (k1.gr hW).cell 1, (k1.gr hW).cell 2, (k1.gr hW).cell 3, (k1.gr hW).cell 4, (k1.gr hW).cell 5, (k1.gr hW).cell 6, (k1.gr hW).cell 7, (k1.gr hW).cell 8, (k1.gr hW).cell 9, (k1.gr hW).cell 10⟩
    cases go with
    | false =>
      have HZ := Lib.hid (Y1.out E1.out E2.out HM.out rfl).symm
      go_enter Try.func82, Try.ntmps82
      go_wp2_with fail
      refine (maySess_any si nn _).mono ?_
      rw [HM.out]
      rintro e w1 ⟨rfl, g1⟩
      have G1 := Lib.hid (GA.out.trans g1)
      obtain ⟨c0, c1, c2, c3, c4, c5, c6, c7, c8, c9, c10⟩ := T.out w1 g1
      clear g1
      go_wp2
      go_ret
      exact KEY.out _ _ HZ.out G1.out
    | true =>
      have HZ := Lib.hid (Y2.out E1.out E2.out HM.out rfl).symm
      go_enter Try.func82, Try.ntmps82
      go_wp2_with fail
      refine (maySess_any si nn _).mono ?_
      rw [HM.out]
      rintro e w1 ⟨rfl, g1⟩
      have G1 := Lib.hid (GA.out.trans g1)
      obtain ⟨c0, c1, c2, c3, c4, c5, c6, c7, c8, c9, c10⟩ := T.out w1 g1
      clear g1
      go_wp2_with fail
      rw [H2.out]
      refine (ZE.out _).mono ?_
      rintro e w2 ⟨rfl, g2⟩
      have G2 := Lib.hid (G1.out.trans g2)
      clear g2
      go_wp2
      go_ret
      exact KEY.out _ _ HZ.out G2.out
theorem f132_any (w0 w : World) (x : EffD) (r : List Value) (bx : Nat) (hbx : bx < w.heap.size) (hc : w.cell? ⟨bx, 0, none⟩ = some (.func (.func 82) #[] #[])) (hr : RowOfE w0 x r) (hg : Gr w0 w) :
    Calls Try.prog 96 #[.agg r.toArray, .pointer (some ⟨bx, 0, none⟩)] w (RetBool w (!mayEff x)) := by
  have M := fun W (hW : Gr w W) => mayEff_any w0 W x r hr (hg.trans hW)
  obtain ⟨pa, go, da, dn, dc, ve, ki, ne, si, nn, ma, ch, tu, rfl⟩ := hr.form
  have MM := Lib.hid M
  have hc2 := (((Gr.refl w).alloc (.cells #[.string pa, .bool go, .slice da dn dc, .int .u32 (ve : Int), .int .u32 (ki : Int), .int .u32 (ne : Int), .int .i64 si, .int .u32 (nn : Int), .int .u64 (ma : Int), .int .u64 (ch : Int), .int .u64 (tu : Int)] 31)).cell (p := ⟨bx, 0, none⟩) hbx).trans hc
  clear M hr hc
  go_enter Try.func96, Try.ntmps96
  go_wp2_with fail
  refine (MM.out _ ((Gr.refl w).alloc _)).mono ?_
  rintro e w1 ⟨rfl, g1⟩
  have G1 := Lib.hid (((Gr.refl w).alloc _).trans g1)
  clear g1
  go_wp2
  go_ret
  exact ⟨rfl, G1.out⟩
theorem allE_any (w0 w : World) (pv : Value) (ps : List EffD) (m : Nat) (hp : EffsP Any w0 pv ps) (hg0 : Gr w0 w) (hn : ps.length ≤ maxLen) (hm : m ≤ 1000) :
    Calls Try.prog 81 #[pv, .int .i64 (m : Int), .func (.func 82) #[] #[]] w (RetBool w (decide (ps.length ≤ m) && ps.all mayEff)) := by
  have KEY := Lib.hid (fun (b : Bool) (w' : World) (h : b = (decide (ps.length ≤ m) && ps.all mayEff)) (g : Gr w w') => RetBool.mk h g)
  have IDX := fun W (hW : Gr w W) (hc : W.cell? ⟨w.heap.size, 0, none⟩ = some (.func (.func 82) #[] #[])) (hbx : w.heap.size < W.heap.size) =>
    idxE_any w0 W pv ps hp (hg0.trans hW) hn w.heap.size (fun V k hk r hV hr => f132_any w0 V ps[k] r w.heap.size (Nat.lt_of_lt_of_le hbx hV.size) ((hV.cell (p := ⟨w.heap.size, 0, none⟩) hbx).trans hc) hr ((hg0.trans hW).trans hV))
  obtain ⟨a, cap, rfl⟩ := hp.shape
  have II := Lib.hid IDX
  obtain ⟨n, hn2⟩ : ∃ n, n = ps.length := ⟨_, rfl⟩
  rw [← hn2] at II KEY ⊢
  clear IDX hp hn hn2
  by_cases h0 : m < n
  · have h2 : decide ((n : Int) ≤ (m : Int)) = false := by simp; omega
    have h3 : Hid (false = (decide (n ≤ m) && ps.all mayEff)) := Lib.hid (and_no h0 _).symm
    go_enter Try.func81, Try.ntmps81
    go_wp2
    go_ret
    exact KEY.out _ _ h3.out ((Gr.refl w).alloc _)
  · have h2 : decide ((n : Int) ≤ (m : Int)) = true := by simp; omega
    have h3 : Hid (∀ c : Bool, c = (decide (n ≤ m) && c)) := Lib.hid (fun c => (and_yes (by omega) c).symm)
    have CONT : ∀ W, Gr w W → W.cell? ⟨w.heap.size, 0, none⟩ = some (.func (.func 82) #[] #[]) → w.heap.size < W.heap.size →
        Calls Try.prog 95 #[.slice a n cap, .func (.func 96) #[] #[.pointer (some ⟨w.heap.size, 0, none⟩)]] W (RetBool W (!ps.all mayEff)) := by
      intro W hW hc hbx
      have I := Lib.hid (II.out W hW hc hbx)
      clear II hc
      go_enter Try.func95, Try.ntmps95
      go_wp2_with fail
      refine I.out.mono ?_
      rintro e w1 ⟨⟨z, rfl, hz⟩, g1⟩
      have HZ := Lib.hid hz
      clear hz
      go_wp2
      go_ret
      exact RetBool.mk HZ.out g1
    have CC := Lib.hid CONT
    clear CONT II
    have hnew : (w.alloc (.cells #[.func (.func 82) #[] #[]] 107)).cell? ⟨w.heap.size, 0, none⟩ = some (.func (.func 82) #[] #[]) := by
      rw [cell_of_block (heap_alloc_new w _)]; rfl
    have HN := Lib.hid hnew
    clear hnew
    go_enter Try.func81, Try.ntmps81
    go_wp2_with fail
    refine (CC.out _ ((Gr.refl w).alloc _) HN.out (by simp)).mono ?_
    rintro e w1 ⟨rfl, g1⟩
    have G1 := Lib.hid (((Gr.refl w).alloc _).trans g1)
    clear g1
    go_wp2
    go_ret
    exact KEY.out _ _ (by rw [← h3.out]) G1.out
theorem mayItem_no (x : ItemD) (h : ¬ ((0 ≤ x.origin ∧ x.origin < 3) ∧ (-1 ≤ x.region ∧ x.region < 4) ∧ x.stamp.length ≤ 3)) : mayItem x = false := by
  rw [Bool.eq_false_iff]; intro e; have := (mayItem_iff x).1 e; exact h ⟨this.1, this.2.1, this.2.2.1⟩
theorem mayItem_yes (x : ItemD) (h1 : 0 ≤ x.origin) (h2 : x.origin < 3) (h3 : -1 ≤ x.region) (h4 : x.region < 4) (h5 : x.stamp.length ≤ 3) : mayItem x = (decide (x.effs.length ≤ 16) && x.effs.all mayEff) := by
  unfold mayItem; simp [h1, h2, h3, h4, h5]
set_option maxHeartbeats 2000000 in
theorem mayItem_any (w : World) (x : ItemD) (sv ev : Value) (hp : ItemP Any w x sv ev) (hn : x.effs.length ≤ maxLen) : Calls Try.prog 38 #[.agg (itemCells x sv ev).toArray] w (RetBool w (mayItem x)) := by
  have KEY := Lib.hid (fun (c : Bool) (w' : World) (h : c = mayItem x) (g : Gr w w') => RetBool.mk h g)
  have NO := Lib.hid (mayItem_no x)
  have YES := Lib.hid (mayItem_yes x)
  obtain ⟨sa, sc, rfl⟩ := hp.1.1.oneCells
  have ALL := fun W (hW : Gr w W) => allE_any w W ev x.effs 16 hp.2 hW hn (by decide)
  obtain ⟨ea, ec, rfl⟩ := hp.2.shape
  have AA := Lib.hid ALL
  clear ALL hp
  rw [nums_length]
  obtain ⟨ori, seq, reg, epo, st, es, clo⟩ := x
  obtain ⟨n1, hn1⟩ : ∃ n1, n1 = st.length := ⟨_, rfl⟩
  obtain ⟨n2, hn2⟩ : ∃ n2, n2 = es.length := ⟨_, rfl⟩
  show Calls Try.prog 38 #[.agg #[.int .i64 ori, .int .u64 (seq : Int), .int .i64 reg, .int .u64 (epo : Int), .slice sa st.length sc, .slice ea es.length ec, .int .u32 (clo : Int)]] w (RetBool w (mayItem ⟨ori, seq, reg, epo, st, es, clo⟩))
  rw [← hn1, ← hn2]
  dsimp only at NO YES AA
  rw [← hn1] at NO YES
  rw [← hn2] at YES AA
  clear hn1 hn2 hn
  have GA := Lib.hid ((Gr.refl w).alloc (.cells #[.int .i64 ori, .int .u64 (seq : Int), .int .i64 reg, .int .u64 (epo : Int), .slice sa n1 sc, .slice ea n2 ec, .int .u32 (clo : Int)] 34))
  by_cases h0 : ori < 0
  · have b0 : decide ((0 : Int) ≤ ori) = false := by simp; omega
    have HZ := Lib.hid (NO.out (by omega)).symm
    go_enter Try.func38, Try.ntmps38
    go_wp2
    go_ret
    exact KEY.out _ _ HZ.out GA.out
  have b0 : decide ((0 : Int) ≤ ori) = true := by simp; omega
  have k0 : 0 ≤ ori := by omega
  clear h0
  by_cases h1 : 3 ≤ ori
  · have b1 : decide (ori < (3 : Int)) = false := by simp; omega
    have HZ := Lib.hid (NO.out (by omega)).symm
    go_enter Try.func38, Try.ntmps38
    go_wp2
    go_ret
    exact KEY.out _ _ HZ.out GA.out
  have b1 : decide (ori < (3 : Int)) = true := by simp; omega
  have k1 : ori < 3 := by omega
  clear h1
  by_cases h2 : reg < -1
  · have b2 : decide ((-1 : Int) ≤ reg) = false := by simp; omega
    have HZ := Lib.hid (NO.out (by omega)).symm
    go_enter Try.func38, Try.ntmps38
    go_wp2
    go_ret
    exact KEY.out _ _ HZ.out GA.out
  have b2 : decide ((-1 : Int) ≤ reg) = true := by simp; omega
  have k2 : -1 ≤ reg := by omega
  clear h2
  by_cases h3 : 4 ≤ reg
  · have b3 : decide (reg < (4 : Int)) = false := by simp; omega
    have HZ := Lib.hid (NO.out (by omega)).symm
    go_enter Try.func38, Try.ntmps38
    go_wp2
    go_ret
    exact KEY.out _ _ HZ.out GA.out
  have b3 : decide (reg < (4 : Int)) = true := by simp; omega
  have k3 : reg < 4 := by omega
  clear h3
  by_cases h4 : 3 < n1
  · have b4 : decide ((n1 : Int) ≤ 3) = false := by simp; omega
    have HZ := Lib.hid (NO.out (by omega)).symm
    go_enter Try.func38, Try.ntmps38
    go_wp2
    go_ret
    exact KEY.out _ _ HZ.out GA.out
  have b4 : decide ((n1 : Int) ≤ 3) = true := by simp; omega
  have k4 : n1 ≤ 3 := by omega
  clear h4
  have HZ := Lib.hid (YES.out k0 k1 k2 k3 k4).symm
  go_enter Try.func38, Try.ntmps38
  go_wp2_with fail
  refine (AA.out _ GA.out).mono ?_
  rintro e w1 ⟨rfl, g1⟩
  have G1 := Lib.hid (GA.out.trans g1)
  clear g1
  go_wp2
  go_ret
  exact KEY.out _ _ HZ.out G1.out
end Go.Proofs.Ytiemgmbjhllmbaa
end
