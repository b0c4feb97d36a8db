/-
  StreamTaken: an item that is ready is not ready again once it was taken, nor is one of a number behind it ready ahead of it. Every input; no conditions.
-/
import Derived.Test.YtpdninnnpoiblaaSOpen
import Derived.Test.YtpdninnnpoiblaaSGoes
import Derived.Test.YtpdninnnpoiblaaRefLeq
set_option linter.unusedVariables false
namespace Go.Proofs.Ytpdninnnpoiblaa
open Go.RowKit

theorem incV_length (v : List Nat) (i : Int) : (incV v i).length = v.length := by unfold incV; split <;> simp
theorem readyV_at {x : ItemD} {v : List Nat} (h : readyV x v = true) : 0 ≤ x.origin ∧ x.origin < v.length ∧ 0 < x.seq ∧ x.seq - 1 = v.getD x.origin.toNat 0 ∧ leqV x.stamp v = true := by
  unfold readyV at h
  simp only [Bool.and_eq_true, decide_eq_true_eq] at h
  exact ⟨h.1.1.1.1, h.1.1.1.2, h.1.1.2, h.1.2, h.2⟩
theorem incV_at {v : List Nat} {o : Int} (h0 : 0 ≤ o) (h1 : o < v.length) (hb : v.getD o.toNat 0 < 18446744073709551615) : (incV v o).getD o.toNat 0 = v.getD o.toNat 0 + 1 := by
  have hk : o.toNat < v.length := by omega
  unfold incV
  rw [if_pos ⟨h0, h1⟩]
  have e : v[o.toNat]?.getD 0 = v.getD o.toNat 0 := by rw [List.getD_eq_getElem?_getD]
  rw [e]
  simp only [List.getD_eq_getElem?_getD] at hb ⊢
  rw [List.getElem?_set_self hk]
  simp only [Option.getD_some]
  omega
theorem ready_not_again {x : ItemD} {v : List Nat} (h : readyV x v = true) (hs : x.seq < 2 ^ 64) : readyV x (incV v x.origin) = false := by
  obtain ⟨h0, h1, h2, h3, _⟩ := readyV_at h
  have := incV_at h0 h1 (by omega)
  unfold readyV
  rw [this, decide_eq_false (p := x.seq - 1 = _) (by omega)]
  simp
theorem ready_not_later {x y : ItemD} {v : List Nat} (h : readyV x v = true) (ho : y.origin = x.origin) (hs : x.seq < y.seq) : readyV y v = false := by
  obtain ⟨h0, h1, h2, h3, _⟩ := readyV_at h
  unfold readyV
  rw [ho, decide_eq_false (p := y.seq - 1 = _) (by omega)]
  simp
theorem leq_inc {x : ItemD} {v : List Nat} (h : readyV x v = true) (hs : x.seq < 2 ^ 64) : leqV x.stamp (incV v x.origin) = true := by
  obtain ⟨h0, h1, h2, h3, h4⟩ := readyV_at h
  have hl : x.stamp.length = v.length := by
    by_cases e : x.stamp.length = v.length
    · exact e
    · rw [leqV_ne _ _ e] at h4; cases h4
  rw [leqV_iff _ _ (by rw [incV_length]; exact hl)]
  rw [leqV_iff _ _ hl] at h4
  intro j hj
  have h5 := h4 j hj
  have hat := incV_at h0 h1 (by omega)
  have hk : x.origin.toNat < v.length := by omega
  unfold pairAt at h5 ⊢
  dsimp only at h5 ⊢
  by_cases e : j = x.origin.toNat
  · subst e
    rw [List.getD_eq_getElem?_getD, List.getD_eq_getElem?_getD] at hat
    omega
  · have : (incV v x.origin)[j]? = v[j]? := by
      unfold incV
      rw [if_pos ⟨h0, h1⟩, List.getElem?_set_ne (fun h => e h.symm)]
    rw [this]
    exact h5

set_option maxHeartbeats 1000000 in
theorem taken_walk (w : World) (x : ItemD) (sv ev vv : Value) (v : List Nat) (more : Nat) (hs : Sl w sv (nums x.stamp)) (he : ∃ a c, ev = .slice a x.effs.length c) (hnum : ItemNum x) (hv : Sl w vv (nums v)) (hvl : v.length ≤ maxLen) (hvn : ∀ k ∈ v, k < 2 ^ 64) (hm : more < 256) :
    Calls Try.prog 6 #[.agg (itemCells x sv ev), vv, .int .u8 (more : Int)] w fun e w' => e = .returned (.bool true) ∧ Below w.heap.size w w' := by
  obtain ⟨as_, cs, rfl⟩ := hs.oneCells
  obtain ⟨ae, ce, rfl⟩ := he
  obtain ⟨av, cv, rfl⟩ := hv.oneCells
  simp only [nums_length] at *
  unfold maxLen at hvl
  have HA : Hid ((.agg #[.int .i64 x.origin, .int .u64 (x.seq : Int), .int .i64 x.region, .int .u64 (x.epoch : Int), .slice as_ x.stamp.length cs, .slice ae x.effs.length ce, .int .u32 (x.closed : Int)] : Value) = .agg (itemCells x (.slice as_ x.stamp.length cs) (.slice ae x.effs.length ce))) := Lib.hid rfl
  obtain ⟨w1, hw1⟩ : ∃ w1, w1 = w.alloc (.cells #[.int .i64 x.origin, .int .u64 (x.seq : Int), .int .i64 x.region, .int .u64 (x.epoch : Int), .slice as_ x.stamp.length cs, .slice ae x.effs.length ce, .int .u32 (x.closed : Int)] 33) := ⟨_, rfl⟩
  have g1 : Gr w w1 := by rw [hw1]; exact (Gr.refl w).alloc _
  have b1 : ItemAt w1 w.heap.size (itemCells x (.slice as_ x.stamp.length cs) (.slice ae x.effs.length ce)) := by unfold ItemAt; rw [hw1]; exact heap_alloc_new w _
  have hlt := b1.lt
  have TW : Hid (∀ W, Gr w1 W → W.cell? ⟨w.heap.size, 0, none⟩ = some (.int .i64 x.origin) ∧ W.cell? ⟨w.heap.size, 1, none⟩ = some (.int .u64 (x.seq : Int)) ∧ W.cell? ⟨w.heap.size, 2, none⟩ = some (.int .i64 x.region) ∧ W.cell? ⟨w.heap.size, 3, none⟩ = some (.int .u64 (x.epoch : Int)) ∧ W.cell? ⟨w.heap.size, 4, none⟩ = some (.slice as_ x.stamp.length cs) ∧ W.cell? ⟨w.heap.size, 5, none⟩ = some (.slice ae x.effs.length ce) ∧ W.cell? ⟨w.heap.size, 6, none⟩ = some (.int .u32 (x.closed : Int))) := Lib.hid fun W hW => by
    have hb := b1.block (hW.block _ hlt)
    exact ⟨hb.cell 0, hb.cell 1, hb.cell 2, hb.cell 3, hb.cell 4, hb.cell 5, hb.cell 6⟩
  have HS := Lib.hid (fun W (g : Gr w1 W) => hs.below (Gr.trans g1 g))
  have HV := Lib.hid (fun W (g : Gr w1 W) => hv.below (Gr.trans g1 g))
  have HW1 := Lib.hid hw1
  have HG1 := Lib.hid g1
  have HLT := Lib.hid hlt
  have HN := Lib.hid hnum
  have HVN := Lib.hid hvn
  clear hw1 g1 b1 hs hv hnum hvn hlt
  obtain ⟨w2, hw2⟩ : ∃ w2, w2 = w1.alloc (.cells #[.int .i64 x.origin, .int .u64 (x.seq : Int), .int .i64 x.region, .int .u64 (x.epoch : Int), .slice as_ x.stamp.length cs, .slice ae x.effs.length ce, .int .u32 (x.closed : Int)] 33) := ⟨_, rfl⟩
  have hrow : Rows w2 (.slice (some ⟨w1.heap.size, 0, none⟩) 1 1) 1 7 (rowF #[.int .i64 x.origin, .int .u64 (x.seq : Int), .int .i64 x.region, .int .u64 (x.epoch : Int), .slice as_ x.stamp.length cs, .slice ae x.effs.length ce, .int .u32 (x.closed : Int)]) := by rw [hw2]; exact rows_one _ _ 7 _ 33 (0, 0) (heap_alloc_new w1 _) rfl
  have e1 : w1.heap.size = w.heap.size + 1 := by rw [HW1.out]; simp

  have HR := Lib.hid hrow
  have g2 : Gr w1 w2 := by rw [hw2]; exact (Gr.refl w1).alloc _
  have HW2 := Lib.hid hw2
  have HE1 := Lib.hid e1
  clear hrow hw2 e1
  obtain ⟨t0, t1, t2, t3, t4, t5, t6⟩ := TW.out _ (Gr.refl _)
  unfold itemCells
  go_enter Try.func6, Try.ntmps6
  go_upto_region 1 with fail
  rw [← HW1.out]
  go_wp2_with fail
  rw [← HW2.out]
  refine (great_any _ _ 1 (fun _ => x.stamp.length) (fun _ => x.effs.length) _ HR.out (fun i hi => ⟨as_, cs, rfl⟩) (fun i hi => ⟨ae, ce, rfl⟩) (by decide)).mono ?_
  rintro e w' ⟨rfl, rfl⟩
  clear t0 t1 t2 t3 t4 t5 t6
  have HG2 := Lib.hid g2
  clear g2
  cases hgr : greatV 1 (fun _ => x.stamp.length) (fun _ => x.effs.length) with
  | true =>
    clear hgr
    go_wp2
    go_ret
    exact ⟨rfl, Gr.trans HG1.out HG2.out⟩
  | false =>
  obtain ⟨_, hsm⟩ := greatV_small hgr
  have HSM := Lib.hid (hsm 0 (by decide))
  clear hgr hsm
  by_cases hv10 : 10 < v.length
  · go_wp2
    go_ret
    exact ⟨rfl, Gr.trans HG1.out HG2.out⟩
  obtain ⟨t0, t1, t2, t3, t4, t5, t6⟩ := TW.out _ HG2.out
  go_wp2_with fail
  clear t0 t1 t2 t3 t4 t5 t6
  rw [HA.out]
  refine (ready_plain _ x _ _ _ v (HS.out _ HG2.out) ⟨_, _, rfl⟩ (HV.out _ HG2.out) (by have := HSM.out.1; omega) HN.out.n (by omega)).mono ?_
  rintro e w3 ⟨rfl, g⟩
  have G3 := Lib.hid (Gr.trans HG2.out g)
  clear g
  cases hrd : readyV x v with
  | false =>
    clear hrd
    go_wp2_with fail
    refine (goes_any _).mono ?_
    rintro e w4 ⟨rfl, g⟩
    have G4 := Lib.hid (Gr.trans G3.out g)
    clear g
    go_wp2
    go_ret
    exact ⟨rfl, Gr.trans HG1.out G4.out⟩
  | true =>
  have HRD := Lib.hid hrd
  clear hrd
  obtain ⟨t0, t1, t2, t3, t4, t5, t6⟩ := TW.out _ G3.out
  have hl3 : w.heap.size < w3.heap.size := Nat.lt_of_lt_of_le HLT.out G3.out.size
  obtain ⟨sy, hsy⟩ : ∃ sy : Nat, sy = (x.seq + 1 + more) % 18446744073709551616 := ⟨_, rfl⟩
  have hwr : IntKind.u64.wrap (IntKind.u64.wrap (↑x.seq + 1) + ↑more) = (sy : Int) := by
    simp only [IntKind.wrap, IntKind.bits, IntKind.signed]
    simp
    omega
  have HSY := Lib.hid hsy
  have HWR := Lib.hid hwr
  clear hsy hwr
  go_upto_region 7 with fail
  rw [HWR.out]
  clear HWR
  clear t0 t1 t2 t3 t4 t5 t6
  obtain ⟨w4, hw4⟩ : ∃ w4, w4 = w3.alloc (.cells #[.int .i64 x.origin, .int .u64 (sy : Int), .int .i64 x.region, .int .u64 (x.epoch : Int), .slice as_ x.stamp.length cs, .slice ae x.effs.length ce, .int .u32 (x.closed : Int)] 33) := ⟨_, rfl⟩
  rw [← hw4]
  have g4 : Gr w3 w4 := by rw [hw4]; exact (Gr.refl w3).alloc _
  have by4 : ItemAt w4 w3.heap.size (itemCells { x with seq := sy } (.slice as_ x.stamp.length cs) (.slice ae x.effs.length ce)) := by unfold ItemAt; rw [hw4]; exact heap_alloc_new w3 _
  have hly := by4.lt
  have TY : Hid (∀ W, Gr w4 W → W.cell? ⟨w3.heap.size, 0, none⟩ = some (.int .i64 x.origin) ∧ W.cell? ⟨w3.heap.size, 1, none⟩ = some (.int .u64 (sy : Int)) ∧ W.cell? ⟨w3.heap.size, 2, none⟩ = some (.int .i64 x.region) ∧ W.cell? ⟨w3.heap.size, 3, none⟩ = some (.int .u64 (x.epoch : Int)) ∧ W.cell? ⟨w3.heap.size, 4, none⟩ = some (.slice as_ x.stamp.length cs) ∧ W.cell? ⟨w3.heap.size, 5, none⟩ = some (.slice ae x.effs.length ce) ∧ W.cell? ⟨w3.heap.size, 6, none⟩ = some (.int .u32 (x.closed : Int))) := Lib.hid fun W hW => by
    have hb := by4.block (hW.block _ hly)
    exact ⟨hb.cell 0, hb.cell 1, hb.cell 2, hb.cell 3, hb.cell 4, hb.cell 5, hb.cell 6⟩
  have G4 := Lib.hid (Gr.trans G3.out g4)
  clear hw4 g4 by4 hly hl3
  obtain ⟨t0, t1, t2, t3, t4, t5, t6⟩ := TW.out _ G4.out
  go_wp2_with fail
  clear t0 t1 t2 t3 t4 t5 t6
  refine (inc_any _ _ v x.origin (HV.out _ G4.out) (by omega) HN.out.n.2.1 HN.out.n.2.2).mono ?_
  rintro e w5 ⟨vi, rfl, hvi, b5⟩
  have hs5 := hvi.shape
  rw [nums_length, incV_length] at hs5
  obtain ⟨ai, ci, rfl⟩ := hs5
  have hg5 : Gr w4 w5 := b5
  have G5 := Lib.hid (Gr.trans G4.out hg5)
  have Y5 := Lib.hid hg5
  have HI := Lib.hid hvi.sl
  clear hvi b5 hg5
  obtain ⟨t0, t1, t2, t3, t4, t5, t6⟩ := TW.out _ G5.out
  obtain ⟨u0, u1, u2, u3, u4, u5, u6⟩ := TY.out _ Y5.out
  by_cases hle : sy ≤ x.seq
  · go_wp2_with fail
    refine (goes_any _).mono ?_
    rintro e w6 ⟨rfl, g⟩
    have G6 := Lib.hid (Gr.trans G5.out g)
    clear g
    go_wp2
    go_ret
    exact ⟨rfl, Gr.trans HG1.out G6.out⟩
  go_wp2_with fail
  clear t0 t1 t2 t3 t4 t5 t6 u0 u1 u2 u3 u4 u5 u6
  rw [HA.out]
  refine (ready_plain _ x _ _ _ (incV v x.origin) (HS.out _ G5.out) ⟨_, _, rfl⟩ HI.out (by have := HSM.out.1; omega) HN.out.n (by rw [incV_length]; omega)).mono ?_
  rintro e w6 ⟨rfl, g⟩
  rw [ready_not_again HRD.out HN.out.n.1]
  have G6 := Lib.hid (Gr.trans G5.out g)
  have Y6 := Lib.hid (Gr.trans Y5.out g)
  have I6 := Lib.hid (HI.out.below g)
  clear g
  obtain ⟨u0, u1, u2, u3, u4, u5, u6⟩ := TY.out _ Y6.out
  go_wp2_with fail
  clear u0 u1 u2 u3 u4 u5 u6
  have HB : Hid ((.agg #[.int .i64 x.origin, .int .u64 (sy : Int), .int .i64 x.region, .int .u64 (x.epoch : Int), .slice as_ x.stamp.length cs, .slice ae x.effs.length ce, .int .u32 (x.closed : Int)] : Value) = .agg (itemCells { x with seq := sy } (.slice as_ x.stamp.length cs) (.slice ae x.effs.length ce))) := Lib.hid rfl
  rw [HB.out]
  refine (ready_plain _ { x with seq := sy } _ _ _ v (HS.out _ G6.out) ⟨_, _, rfl⟩ (HV.out _ G6.out) (by have := HSM.out.1; show x.stamp.length ≤ _; omega) ⟨by show sy < _; have := HSY.out; omega, HN.out.n.2⟩ (by omega)).mono ?_
  rintro e w7 ⟨rfl, g⟩
  rw [ready_not_later (y := { x with seq := sy }) HRD.out rfl (show x.seq < sy by omega)]
  have G7 := Lib.hid (Gr.trans G6.out g)
  have I7 := Lib.hid (I6.out.below g)
  clear g
  obtain ⟨t0, t1, t2, t3, t4, t5, t6⟩ := TW.out _ G7.out
  go_wp2_with fail
  clear t0 t1 t2 t3 t4 t5 t6
  refine (leq_any _ _ _ x.stamp (incV v x.origin) (HS.out _ G7.out) I7.out (by have := HSM.out.1; omega) (by rw [incV_length]; omega)).mono ?_
  rintro e w8 ⟨rfl, g⟩
  rw [leq_inc HRD.out HN.out.n.1]
  have G8 := Lib.hid (Gr.trans G7.out g)
  clear g
  go_wp2_with fail
  refine (goes_any _).mono ?_
  rintro e w9 ⟨rfl, g⟩
  have G9 := Lib.hid (Gr.trans G8.out g)
  clear g
  go_wp2
  go_ret
  exact ⟨rfl, Gr.trans HG1.out G9.out⟩

open Go.ChangeShapes Go.WideShapes Go.ChangeAt Go.RowKit
open Go.ChangeMaps (open_string shut_string)
theorem own_streamTaken : ownKnob Try.prog.godebug = none := by kernel_rfl
theorem laidOut_streamTaken : laidOutB Try.prog = true := by kernel_rfl
set_option maxRecDepth 100000 in
theorem lifted_streamTaken (os : Os) (started : os.Started) (H : Type) (enc : TypeId × Value → H) :
    ReturnsInHanded {} Try.checked os 6 .any (Rows.streamTakenSpec.pre6 enc Try.prog Try.f6 Rows.streamTakenRow.domain false) (Rows.streamTakenSpec.post enc Try.prog Try.f6 false true false false) := by
  refine returnsInHanded_of_change (C := Try.checked) own_streamTaken started (by kernel_rfl) Try.func6
    (ChangeSpec.witness6 (enc := enc) (C := Try.checked) false ⟨#[], #[.agg #[.int .i64 0, .int .u64 0, .int .i64 0, .int .u64 0, .slice Option.none 0 0, .slice Option.none 0 0, .int .u32 0], .slice Option.none 0 0, .int .u8 0], []⟩ 8 (by kernel_rfl) (by kernel_rfl) (by kernel_rfl) (by kernel_rfl)) ?_
  intro W base args ds gs before hval0 hW hcnd _
  have hval : ∀ (j : Nat) t v, Try.f6.params[j]? = some t → args[j]? = some v → Value.okWide Try.prog W .any base t v := hval0
  have hW' := hW
  obtain ⟨p, q, hA0, hV, rfl, hfz, hnd⟩ := hW
  have hA : DataW.TrodAll enc Try.prog W 0 (fun _ => true) true Try.f6.params.toList args.toList ds p := hA0
  rw [Try.params6] at hA hval
  obtain ⟨v0, vs0, d0, ds0, p0, q0, hargs, rfl, rfl, k0, r0⟩ := trodAll_cons hA
  obtain ⟨v1, vs1, d1, ds1, p1, q1, rfl, rfl, rfl, k1, r1⟩ := trodAll_cons r0
  obtain ⟨v2, vs2, d2, ds2, p2, q2, rfl, rfl, rfl, k2, r2⟩ := trodAll_cons r1
  obtain ⟨rfl, rfl, rfl⟩ := trodAll_nil r2
  obtain rfl : args = #[v0, v1, v2] := by cases args; simp_all
  obtain ⟨rfl, rfl⟩ := trodVars_none hV
  have lt0 : ∀ x ∈ p0, x.block < W.heap.size := by obtain ⟨m, hm⟩ := k0; exact DataW.trod_lt m _ _ _ hm
  have lt1 : ∀ x ∈ p1, x.block < W.heap.size := by obtain ⟨m, hm⟩ := k1; exact DataW.trod_lt m _ _ _ hm
  have lt2 : ∀ x ∈ p2, x.block < W.heap.size := by obtain ⟨m, hm⟩ := k2; exact DataW.trod_lt m _ _ _ hm
  obtain ⟨x0, sv0, ev0, rfl, n0, s0, e0⟩ := open_item (hval 0 33 v0 rfl rfl) k0
  obtain ⟨l1, s1, m1, b1⟩ := open_nums Try.underlying24 Try.underlying23 (by kernel_rfl) (hval 1 24 v1 rfl rfl) k1
  obtain ⟨a2, rfl, w2⟩ := open_nat rfl Try.underlying5 (hval 2 5 v2 rfl rfl) k2
  clear hA0 hval0
  refine (taken_walk W x0 sv0 ev0 v1 l1 a2 s0 e0.shape n0 s1 m1 b1 w2  ).mono fun e W' ⟨he, bel⟩ => ?_
  subst he
  exact ⟨_, rfl, _, _, _, [], _, [], hW', trodAll_mk1 (shut_bool Try.underlying4 _), (trodAll_cons_mk (Below.trod laidOut_streamTaken (by kernel_rfl) (of_decide_eq_true (by kernel_rfl)) k0 bel lt0) (trodAll_cons_mk (Below.trod laidOut_streamTaken (by kernel_rfl) (of_decide_eq_true (by kernel_rfl)) k1 bel lt1) (trodAll_cons_mk (Below.trod laidOut_streamTaken (by kernel_rfl) (of_decide_eq_true (by kernel_rfl)) k2 bel lt2) trodAll_mk0))), rfl, bel.frame _, fun h => by cases h⟩

theorem over_streamTaken : Rows.streamTakenRow.holds Try.pinned (OpenSpec.ofChange Rows.streamTakenSpec) :=
  OpenClaim.holds_of_wide 6 Try.f6 rfl rfl rfl rfl rfl rfl rfl ⟨rfl, rfl, rfl, rfl, rfl⟩ rfl rfl rfl rfl rfl (by kernel_rfl) Try.func6 (by kernel_rfl)
    (of_decide_eq_true (by kernel_rfl)) (by unfold Func.isWrapper; first | (rw [if_pos (by decide +kernel)]; kernel_rfl) | (rw [if_neg (by decide +kernel)]; exact ⟨rfl, rfl⟩))
    (fun os started H enc _ => lifted_streamTaken os started H enc)

theorem streamTaken_proved : Rows.StreamTakenSaid := over_streamTaken
#print axioms streamTaken_proved
end Go.Proofs.Ytpdninnnpoiblaa
