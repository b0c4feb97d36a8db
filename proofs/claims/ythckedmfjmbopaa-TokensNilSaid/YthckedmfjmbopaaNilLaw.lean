/-
  TokensNil: calls on a nil table; what is answered is new memory. Every input; no conditions.
-/
import Derived.Test.YthckedmfjmbopaaTokGoes
set_option linter.unusedVariables false
namespace Go.Proofs.Ythckedmfjmbopaa
open Go.RowKit

theorem held_nil (w : World) (r : Int) : Calls Try.prog 13 #[.pointer none, .int .i64 r] w fun e w' => e = .returned (.tuple #[.int .u64 0, .bool false]) ∧ Gr w w' := by
  go_enter Try.func13, Try.ntmps13
  go_wp2_with fail
  refine (at_nil _ r _).mono ?_
  rintro e w' ⟨rfl, rfl⟩
  go_wp2
  go_region
  go_wp2
  exact bodyPost_ret (v := .tuple #[.int .u64 0, .bool false]) (by simp [results, Try.f13, go_sem]) rfl ⟨rfl, (((Gr.refl w).alloc _).alloc _).drew⟩
theorem last_nil (w : World) (r : Int) : Calls Try.prog 14 #[.pointer none, .int .i64 r] w fun e w' => e = .returned (.tuple #[.int .u64 0, .slice none 0 0, .bool false]) ∧ Gr w w' := by
  go_enter Try.func14, Try.ntmps14
  go_wp2_with fail
  refine (at_nil _ r _).mono ?_
  rintro e w' ⟨rfl, rfl⟩
  go_wp2
  go_region
  go_wp2
  exact bodyPost_ret (v := .tuple #[.int .u64 0, .slice none 0 0, .bool false]) (by simp [results, Try.f14, go_sem]) rfl ⟨rfl, ((((Gr.refl w).alloc _).alloc _).alloc _).drew⟩
theorem in_nil (w : World) (r : Int) (e : Nat) (fa va : Option Addr) (fl fc vl vc : Nat) : Calls Try.prog 18 #[.pointer none, .int .i64 r, .int .u64 (e : Int), .slice fa fl fc, .slice va vl vc] w fun en w' => en = .returned (.int .i64 8) ∧ Gr w w' := by
  go_enter Try.func18, Try.ntmps18
  go_wp2_with fail
  refine (at_nil _ r _).mono ?_
  rintro e w' ⟨rfl, rfl⟩
  go_wp2
  go_ret
  exact ⟨rfl, (((Gr.refl w).alloc _).alloc _).alloc _⟩
theorem out_nil (w : World) (r : Int) (e : Nat) (va : Option Addr) (vl vc : Nat) : Calls Try.prog 19 #[.pointer none, .int .i64 r, .int .u64 (e : Int), .slice va vl vc] w fun en w' => en = .returned (.int .i64 8) ∧ Gr w w' := by
  go_enter Try.func19, Try.ntmps19
  go_wp2_with fail
  refine (at_nil _ r _).mono ?_
  rintro e w' ⟨rfl, rfl⟩
  go_wp2
  go_ret
  exact ⟨rfl, ((Gr.refl w).alloc _).alloc _⟩
section
open Go.ChangeShapes Go.WideShapes Go.ChangeAt
variable {H : Type} {enc : TypeId × Value → H} {P : Program} {w : World}
theorem nums_of_ints (zs : List Int) (h : ∀ z ∈ zs, (Lit.int .u64 z).wf = true) : zs.map (Value.int .u64) = nums (zs.map Int.toNat) := by
  unfold nums
  rw [List.map_map]
  refine List.map_congr_left fun z hz => ?_
  have := h z hz
  simp [Lit.wf, IntKind.min, IntKind.max, IntKind.bits, IntKind.signed] at this
  simp only [Function.comp, num64]
  congr 1
  omega
theorem open_nums {r : Reach} {b0 : Nat} {t e : TypeId} {v : Value} {d : DataW H} {ps : List MemPlace} (ht : P.underlying t = some (.slice e)) (he : P.underlying e = some (.int .u64)) (hc : P.cellsOf e = 1)
    (hval : Value.okWide P w r b0 t v) (hd : DataW.Trod enc P w 0 (fun _ => true) true t v d ps) : ∃ l : List Nat, Sl w v (nums l) ∧ l.length ≤ maxLen ∧ ∀ x ∈ l, x < 2 ^ 64 := by
  obtain ⟨zs, hs, hw, hm⟩ := open_sl_ints ht he hc hval hd
  refine ⟨_, by rw [← nums_of_ints zs hw]; exact hs, by simpa using hm, ?_⟩
  intro x hx
  obtain ⟨z, hz, rfl⟩ := List.mem_map.1 hx
  have := hw z hz
  simp [Lit.wf, IntKind.min, IntKind.max, IntKind.bits, IntKind.signed] at this
  omega
end

set_option maxHeartbeats 1000000 in
theorem nil_walk (w : World) (r : Int) (e : Nat) (V : Value) (v : List Nat) (sv : Sl w V (nums v)) :
    Calls Try.prog 5 #[.int .i64 r, .int .u64 (e : Int), V] w fun e w' => e = .returned (.bool true) ∧ Below w.heap.size w w' := by
  obtain ⟨Va, Vc, rfl, _⟩ := sv.nums
  by_cases h10 : 10 < v.length
  · go_enter Try.func5, Try.ntmps5
    go_wp2
    all_goals (go_ret; exact ⟨rfl, Below.refl _ _⟩)
  go_enter Try.func5, Try.ntmps5
  go_wp2_with fail
  refine (held_nil _ r).mono ?_
  rintro e w1 ⟨rfl, c1⟩
  have b1 := (c1 : Below w.heap.size w w1)
  clear c1
  go_wp2_with fail
  refine (last_nil _ r).mono ?_
  rintro e w2 ⟨rfl, c2⟩
  have b2 := step0 b1 c2
  clear c2 b1
  go_wp2_with fail
  refine (in_nil _ r e _ _ _ _ _ _).mono ?_
  rintro e w3 ⟨rfl, c3⟩
  have b3 := step0 b2 c3
  clear c3 b2
  go_wp2_with fail
  refine (out_nil _ r e _ _ _).mono ?_
  rintro e w4 ⟨rfl, c4⟩
  have b4 := step0 b3 c4
  clear c4 b3
  go_wp2_with fail
  refine (new_any _ (1) (by decide) (by decide)).mono ?_
  rintro e w5 ⟨gx, rfl, hgx, tx, c5⟩
  rw [show regions (1) = 1 from rfl] at tx
  have hgx := Nat.le_trans b4.size hgx
  have b5 := step0 b4 c5
  clear c5 b4
  go_wp2_with fail
  refine (in_any _ (fun _ => False) gx 1 1 (0) (fun _ => tok0) _ _ [7] [7] ((tx.below (below_a _ _)).below (below_a _ _)) (by decide) (sl_lit1 _ [.int .u64 7] [7] rfl _ _ rfl rfl _) (sl_lit _ [.int .u64 7] [7] rfl _ _ rfl (World.size_alloc _ _).symm) (by decide) (by decide) (by decide)).mono ?_
  rintro e w6 ⟨he, c6, base6, tx', _⟩
  rw [show (atR 1 (fun _ => tok0) (0) (inTok 1 [7] [7])).2 = 0 from rfl] at he
  subst he
  have c6 := (((Ch.of_gr (below_a _ _)).trans (Ch.of_gr (below_a _ _))).trans c6)
  have d6 := c6.below (B := w.heap.size) b5.size (by rintro k rfl; exact hgx)
  have b6 := Below.trans b5 d6
  clear tx c6 d6 b5
  skip
  have tx := tx'
  clear tx'
  have hbx := tx.2.1
  have hlx := tx.lt
  have hsz := b6.size
  go_wp2_with fail
  refine (last_any _ base6 gx 1 0 (atR 1 (fun _ => tok0) (0) (inTok 1 [7] [7])).1 tx (by decide)).mono ?_
  rintro e w7 ⟨vf, rfl, of, c7⟩
  rw [show (heldOf 1 (atR 1 (fun _ => tok0) (0) (inTok 1 [7] [7])).1 0).f = [7] from rfl] at of
  rw [show (((heldOf 1 (atR 1 (fun _ => tok0) (0) (inTok 1 [7] [7])).1 0).e : Nat) : Int) = 1 from rfl, show (heldOf 1 (atR 1 (fun _ => tok0) (0) (inTok 1 [7] [7])).1 0).out = false from rfl]
  obtain ⟨gf, nf, rfl, hgf1, hgf2, hgf3⟩ := of.formN (by decide)
  have cc := of.cellN 0 7 rfl
  have ff := of.frozenN 0
  rw [show ([7] : List Nat).length = 1 from rfl]
  clear of
  replace tx := tx.below c7
  have b7 := step0 b6 c7
  clear c7 b6
  have hbx := Lib.hid hbx
  go_wp2_with fail
  obtain ⟨w8, hw⟩ : ∃ W, W = w7.setCell ⟨gf, 0, none⟩ (.int .u64 9) := ⟨_, rfl⟩
  rw [← hw]
  replace tx := tx.ch (ρ := fun k => k = gf) (w' := w8) (by rw [hw]; exact ch_set _ _ _ rfl) (by omega) (fun k hk e => by have := hbx.out k hk; omega)
  have b8 : Below w.heap.size w w8 := by rw [hw]; exact Below.setCell (p := ⟨gf, 0, none⟩) b7 (Nat.le_trans hsz hgf1) _
  clear hw b7 cc ff
  refine (last_any _ base6 gx 1 0 (atR 1 (fun _ => tok0) (0) (inTok 1 [7] [7])).1 tx (by decide)).mono ?_
  rintro e w9 ⟨vh, rfl, oh, c9⟩
  rw [show (heldOf 1 (atR 1 (fun _ => tok0) (0) (inTok 1 [7] [7])).1 0).f = [7] from rfl] at oh
  rw [show (((heldOf 1 (atR 1 (fun _ => tok0) (0) (inTok 1 [7] [7])).1 0).e : Nat) : Int) = 1 from rfl, show (heldOf 1 (atR 1 (fun _ => tok0) (0) (inTok 1 [7] [7])).1 0).out = false from rfl]
  obtain ⟨gh, nh, rfl, _, _, _⟩ := oh.formN (by decide)
  have cc := oh.cellN 0 7 rfl
  rw [show ([7] : List Nat).length = 1 from rfl]
  clear oh tx
  have b9 := step0 b8 c9
  clear c9 b8
  go_wp2_with fail
  refine (goes_any _).mono ?_
  rintro e w10 ⟨rfl, c10⟩
  have b10 := step0 b9 c10
  clear c10 b9
  go_wp2
  go_ret
  exact ⟨rfl, b10⟩

open Go.ChangeShapes Go.WideShapes Go.ChangeAt Go.RowKit
open Go.ChangeMaps (open_string shut_string)
theorem own_tokensNil : ownKnob Try.prog.godebug = none := by kernel_rfl
theorem laidOut_tokensNil : laidOutB Try.prog = true := by kernel_rfl
set_option maxRecDepth 100000 in
theorem lifted_tokensNil (os : Os) (started : os.Started) (H : Type) (enc : TypeId × Value → H) :
    ReturnsInHanded {} Try.checked os 5 .any (Rows.tokensNilSpec.pre6 enc Try.prog Try.f5 Rows.tokensNilRow.domain false) (Rows.tokensNilSpec.post enc Try.prog Try.f5 false true false false) := by
  refine returnsInHanded_of_change (C := Try.checked) own_tokensNil started (by kernel_rfl) Try.func5
    (ChangeSpec.witness6 (enc := enc) (C := Try.checked) false ⟨#[], #[.int .i64 0, .int .u64 0, .slice none 0 0], []⟩ 8 (by kernel_rfl) (by kernel_rfl) (by kernel_rfl) (by kernel_rfl)) ?_
  intro W base args ds gs before hval0 hW hcnd _
  have hval : ∀ (j : Nat) t v, Try.f5.params[j]? = some t → args[j]? = some v → Value.okWide Try.prog W .any base t v := hval0
  have hW' := hW
  obtain ⟨p, q, hA0, hV, rfl, hfz, hnd⟩ := hW
  have hA : DataW.TrodAll enc Try.prog W 0 (fun _ => true) true Try.f5.params.toList args.toList ds p := hA0
  rw [Try.params5] at hA hval
  obtain ⟨v0, vs0, d0, ds0, p0, q0, hargs, rfl, rfl, k0, r0⟩ := trodAll_cons hA
  obtain ⟨v1, vs1, d1, ds1, p1, q1, rfl, rfl, rfl, k1, r1⟩ := trodAll_cons r0
  obtain ⟨v2, vs2, d2, ds2, p2, q2, rfl, rfl, rfl, k2, r2⟩ := trodAll_cons r1
  obtain ⟨rfl, rfl, rfl⟩ := trodAll_nil r2
  obtain rfl : args = #[v0, v1, v2] := by cases args; simp_all
  obtain ⟨rfl, rfl⟩ := trodVars_none hV
  have lt0 : ∀ x ∈ p0, x.block < W.heap.size := by obtain ⟨m, hm⟩ := k0; exact DataW.trod_lt m _ _ _ hm
  have lt1 : ∀ x ∈ p1, x.block < W.heap.size := by obtain ⟨m, hm⟩ := k1; exact DataW.trod_lt m _ _ _ hm
  have lt2 : ∀ x ∈ p2, x.block < W.heap.size := by obtain ⟨m, hm⟩ := k2; exact DataW.trod_lt m _ _ _ hm
  obtain ⟨a0, rfl, _, _, w0⟩ := open_int Try.underlying3 (hval 0 3 v0 rfl rfl) k0
  obtain ⟨a1, rfl, w1⟩ := open_nat rfl Try.underlying27 (hval 1 27 v1 rfl rfl) k1
  obtain ⟨l2, s2, w2, f2⟩ := open_nums Try.underlying28 Try.underlying27 (by kernel_rfl) (hval 2 28 v2 rfl rfl) k2
  clear hA0 hval0
  refine (nil_walk W a0 a1 v2 l2 s2  ).mono fun e W' ⟨he, bel⟩ => ?_
  subst he
  exact ⟨_, rfl, _, _, _, [], _, [], hW', trodAll_mk1 (shut_bool Try.underlying4 _), (trodAll_cons_mk (Below.trod laidOut_tokensNil (by kernel_rfl) (of_decide_eq_true (by kernel_rfl)) k0 bel lt0) (trodAll_cons_mk (Below.trod laidOut_tokensNil (by kernel_rfl) (of_decide_eq_true (by kernel_rfl)) k1 bel lt1) (trodAll_cons_mk (Below.trod laidOut_tokensNil (by kernel_rfl) (of_decide_eq_true (by kernel_rfl)) k2 bel lt2) trodAll_mk0))), rfl, bel.frame _, fun h => by cases h⟩

theorem over_tokensNil : Rows.tokensNilRow.holds Try.pinned (OpenSpec.ofChange Rows.tokensNilSpec) :=
  OpenClaim.holds_of_wide 5 Try.f5 rfl rfl rfl rfl rfl rfl rfl ⟨rfl, rfl, rfl, rfl, rfl⟩ rfl rfl rfl rfl rfl (by kernel_rfl) Try.func5 (by kernel_rfl)
    (of_decide_eq_true (by kernel_rfl)) (by unfold Func.isWrapper; first | (rw [if_pos (by decide +kernel)]; kernel_rfl) | (rw [if_neg (by decide +kernel)]; exact ⟨rfl, rfl⟩))
    (fun os started H enc _ => lifted_tokensNil os started H enc)

theorem tokensNil_proved : Rows.TokensNilSaid := over_tokensNil
#print axioms tokensNil_proved
end Go.Proofs.Ythckedmfjmbopaa
