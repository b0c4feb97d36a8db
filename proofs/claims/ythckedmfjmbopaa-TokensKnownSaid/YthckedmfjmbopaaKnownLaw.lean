/-
  TokensKnown: the chapter's examples, and limits. Closed: no conditions.
-/
import Derived.Test.YthckedmfjmbopaaTokGoes
set_option linter.unusedVariables false
namespace Go.Proofs.Ythckedmfjmbopaa
open Go.RowKit

set_option maxHeartbeats 1000000 in
theorem known_walk (w : World) : Calls Try.prog 6 #[] w fun e w' => e = .returned (.bool true) ∧ Below w.heap.size w w' := by
  go_enter Try.func6, Try.ntmps6
  go_wp2_with fail
  refine (new_any _ (2) (by decide) (by decide)).mono ?_
  rintro e w1 ⟨gx, rfl, hgx, tx, c1⟩
  rw [show regions (2) = 2 from rfl] at tx
  have b1 := (c1 : Below w.heap.size w w1)
  clear c1
  go_wp2_with fail
  refine (in_any _ (fun _ => False) gx 1 2 (2) (fun _ => tok0) _ _ [] [] tx (by decide) (Sl.nil _ _ _) (Sl.nil _ _ _) (by decide) (by decide) (by decide)).mono ?_
  rintro e w2 ⟨he, c2, base2, tx', _⟩
  rw [show (atR 2 (fun _ => tok0) (2) (inTok 1 [] [])).2 = 1 from rfl] at he
  subst he
  skip
  have d2 := c2.below (B := w.heap.size) b1.size (by rintro k rfl; exact hgx)
  have b2 := Below.trans b1 d2
  clear tx c2 d2 b1
  skip
  have tx := tx'
  clear tx'
  go_wp2_with fail
  refine (in_any _ base2 gx 1 2 (-1) (atR 2 (fun _ => tok0) (2) (inTok 1 [] [])).1 _ _ [] [] tx (by decide) (Sl.nil _ _ _) (Sl.nil _ _ _) (by decide) (by decide) (by decide)).mono ?_
  rintro e w3 ⟨he, c3, base3, tx', _⟩
  rw [show (atR 2 (atR 2 (fun _ => tok0) (2) (inTok 1 [] [])).1 (-1) (inTok 1 [] [])).2 = 1 from rfl] at he
  subst he
  skip
  have d3 := c3.below (B := w.heap.size) b2.size (by rintro k rfl; exact hgx)
  have b3 := Below.trans b2 d3
  clear tx c3 d3 b2
  skip
  have tx := tx'
  clear tx'
  go_wp2_with fail
  refine (in_any _ base3 gx 0 2 (0) (atR 2 (atR 2 (fun _ => tok0) (2) (inTok 1 [] [])).1 (-1) (inTok 1 [] [])).1 _ _ [] [] tx (by decide) (Sl.nil _ _ _) (Sl.nil _ _ _) (by decide) (by decide) (by decide)).mono ?_
  rintro e w4 ⟨he, c4, base4, tx', _⟩
  rw [show (atR 2 (atR 2 (atR 2 (fun _ => tok0) (2) (inTok 1 [] [])).1 (-1) (inTok 1 [] [])).1 (0) (inTok 0 [] [])).2 = 61 from rfl] at he
  subst he
  skip
  have d4 := c4.below (B := w.heap.size) b3.size (by rintro k rfl; exact hgx)
  have b4 := Below.trans b3 d4
  clear tx c4 d4 b3
  skip
  have tx := tx'
  clear tx'
  go_wp2_with fail
  refine (out_any _ base4 gx 0 2 (0) (atR 2 (atR 2 (atR 2 (fun _ => tok0) (2) (inTok 1 [] [])).1 (-1) (inTok 1 [] [])).1 (0) (inTok 0 [] [])).1 _ [] tx (by decide) (Sl.nil _ _ _) (by decide) (by decide)).mono ?_
  rintro e w5 ⟨he, c5, base5, tx', _⟩
  rw [show (atR 2 (atR 2 (atR 2 (atR 2 (fun _ => tok0) (2) (inTok 1 [] [])).1 (-1) (inTok 1 [] [])).1 (0) (inTok 0 [] [])).1 (0) (outTok 0 [])).2 = 61 from rfl] at he
  subst he
  skip
  have d5 := c5.below (B := w.heap.size) b4.size (by rintro k rfl; exact hgx)
  have b5 := Below.trans b4 d5
  clear tx c5 d5 b4
  skip
  have tx := tx'
  clear tx'
  go_wp2_with fail
  refine (in_any _ base5 gx 5 2 (0) (atR 2 (atR 2 (atR 2 (atR 2 (fun _ => tok0) (2) (inTok 1 [] [])).1 (-1) (inTok 1 [] [])).1 (0) (inTok 0 [] [])).1 (0) (outTok 0 [])).1 _ _ [] [] tx (by decide) (Sl.nil _ _ _) (Sl.nil _ _ _) (by decide) (by decide) (by decide)).mono ?_
  rintro e w6 ⟨he, c6, base6, tx', _⟩
  rw [show (atR 2 (atR 2 (atR 2 (atR 2 (atR 2 (fun _ => tok0) (2) (inTok 1 [] [])).1 (-1) (inTok 1 [] [])).1 (0) (inTok 0 [] [])).1 (0) (outTok 0 [])).1 (0) (inTok 5 [] [])).2 = 0 from rfl] at he
  subst he
  skip
  have d6 := c6.below (B := w.heap.size) b5.size (by rintro k rfl; exact hgx)
  have b6 := Below.trans b5 d6
  clear tx c6 d6 b5
  skip
  have tx := tx'
  clear tx'
  go_wp2_with fail
  refine (in_any _ base6 gx 6 2 (0) (atR 2 (atR 2 (atR 2 (atR 2 (atR 2 (fun _ => tok0) (2) (inTok 1 [] [])).1 (-1) (inTok 1 [] [])).1 (0) (inTok 0 [] [])).1 (0) (outTok 0 [])).1 (0) (inTok 5 [] [])).1 _ _ [] [] tx (by decide) (Sl.nil _ _ _) (Sl.nil _ _ _) (by decide) (by decide) (by decide)).mono ?_
  rintro e w7 ⟨he, c7, base7, tx', _⟩
  rw [show (atR 2 (atR 2 (atR 2 (atR 2 (atR 2 (atR 2 (fun _ => tok0) (2) (inTok 1 [] [])).1 (-1) (inTok 1 [] [])).1 (0) (inTok 0 [] [])).1 (0) (outTok 0 [])).1 (0) (inTok 5 [] [])).1 (0) (inTok 6 [] [])).2 = 61 from rfl] at he
  subst he
  skip
  have d7 := c7.below (B := w.heap.size) b6.size (by rintro k rfl; exact hgx)
  have b7 := Below.trans b6 d7
  clear tx c7 d7 b6
  skip
  have tx := tx'
  clear tx'
  go_wp2_with fail
  refine (out_any _ base7 gx 5 2 (0) (atR 2 (atR 2 (atR 2 (atR 2 (atR 2 (atR 2 (fun _ => tok0) (2) (inTok 1 [] [])).1 (-1) (inTok 1 [] [])).1 (0) (inTok 0 [] [])).1 (0) (outTok 0 [])).1 (0) (inTok 5 [] [])).1 (0) (inTok 6 [] [])).1 _ [1] (tx.below (below_a _ _)) (by decide) (sl_lit _ [.int .u64 1] [1] rfl _ _ rfl rfl) (by decide) (by decide)).mono ?_
  rintro e w8 ⟨he, c8, base8, tx', _⟩
  rw [show (atR 2 (atR 2 (atR 2 (atR 2 (atR 2 (atR 2 (atR 2 (fun _ => tok0) (2) (inTok 1 [] [])).1 (-1) (inTok 1 [] [])).1 (0) (inTok 0 [] [])).1 (0) (outTok 0 [])).1 (0) (inTok 5 [] [])).1 (0) (inTok 6 [] [])).1 (0) (outTok 5 [1])).2 = 0 from rfl] at he
  subst he
  have c8 := ((Ch.of_gr (below_a _ _)).trans c8)
  have d8 := c8.below (B := w.heap.size) b7.size (by rintro k rfl; exact hgx)
  have b8 := Below.trans b7 d8
  clear tx c8 d8 b7
  skip
  have tx := tx'
  clear tx'
  go_wp2_with fail
  refine (in_any _ base8 gx 5 2 (0) (atR 2 (atR 2 (atR 2 (atR 2 (atR 2 (atR 2 (atR 2 (fun _ => tok0) (2) (inTok 1 [] [])).1 (-1) (inTok 1 [] [])).1 (0) (inTok 0 [] [])).1 (0) (outTok 0 [])).1 (0) (inTok 5 [] [])).1 (0) (inTok 6 [] [])).1 (0) (outTok 5 [1])).1 _ _ [] [] tx (by decide) (Sl.nil _ _ _) (Sl.nil _ _ _) (by decide) (by decide) (by decide)).mono ?_
  rintro e w9 ⟨he, c9, base9, tx', _⟩
  rw [show (atR 2 (atR 2 (atR 2 (atR 2 (atR 2 (atR 2 (atR 2 (atR 2 (fun _ => tok0) (2) (inTok 1 [] [])).1 (-1) (inTok 1 [] [])).1 (0) (inTok 0 [] [])).1 (0) (outTok 0 [])).1 (0) (inTok 5 [] [])).1 (0) (inTok 6 [] [])).1 (0) (outTok 5 [1])).1 (0) (inTok 5 [] [])).2 = 61 from rfl] at he
  subst he
  skip
  have d9 := c9.below (B := w.heap.size) b8.size (by rintro k rfl; exact hgx)
  have b9 := Below.trans b8 d9
  clear tx c9 d9 b8
  skip
  have tx := tx'
  clear tx'
  go_wp2_with fail
  refine (in_any _ base9 gx 6 2 (0) (atR 2 (atR 2 (atR 2 (atR 2 (atR 2 (atR 2 (atR 2 (atR 2 (fun _ => tok0) (2) (inTok 1 [] [])).1 (-1) (inTok 1 [] [])).1 (0) (inTok 0 [] [])).1 (0) (outTok 0 [])).1 (0) (inTok 5 [] [])).1 (0) (inTok 6 [] [])).1 (0) (outTok 5 [1])).1 (0) (inTok 5 [] [])).1 _ _ [1] [1, 1] ((tx.below (below_a _ _)).below (below_a _ _)) (by decide) (sl_lit1 _ [.int .u64 1] [1] rfl _ _ rfl rfl _) (sl_lit _ [.int .u64 1, .int .u64 1] [1, 1] rfl _ _ rfl (World.size_alloc _ _).symm) (by decide) (by decide) (by decide)).mono ?_
  rintro e w10 ⟨he, c10, base10, tx', _⟩
  rw [show (atR 2 (atR 2 (atR 2 (atR 2 (atR 2 (atR 2 (atR 2 (atR 2 (atR 2 (fun _ => tok0) (2) (inTok 1 [] [])).1 (-1) (inTok 1 [] [])).1 (0) (inTok 0 [] [])).1 (0) (outTok 0 [])).1 (0) (inTok 5 [] [])).1 (0) (inTok 6 [] [])).1 (0) (outTok 5 [1])).1 (0) (inTok 5 [] [])).1 (0) (inTok 6 [1] [1, 1])).2 = 62 from rfl] at he
  subst he
  have c10 := (((Ch.of_gr (below_a _ _)).trans (Ch.of_gr (below_a _ _))).trans c10)
  have d10 := c10.below (B := w.heap.size) b9.size (by rintro k rfl; exact hgx)
  have b10 := Below.trans b9 d10
  clear tx c10 d10 b9
  skip
  have tx := tx'
  clear tx'
  go_wp2_with fail
  refine (in_any _ base10 gx 6 2 (0) (atR 2 (atR 2 (atR 2 (atR 2 (atR 2 (atR 2 (atR 2 (atR 2 (atR 2 (fun _ => tok0) (2) (inTok 1 [] [])).1 (-1) (inTok 1 [] [])).1 (0) (inTok 0 [] [])).1 (0) (outTok 0 [])).1 (0) (inTok 5 [] [])).1 (0) (inTok 6 [] [])).1 (0) (outTok 5 [1])).1 (0) (inTok 5 [] [])).1 (0) (inTok 6 [1] [1, 1])).1 _ _ [1] [1] ((tx.below (below_a _ _)).below (below_a _ _)) (by decide) (sl_lit1 _ [.int .u64 1] [1] rfl _ _ rfl rfl _) (sl_lit _ [.int .u64 1] [1] rfl _ _ rfl (World.size_alloc _ _).symm) (by decide) (by decide) (by decide)).mono ?_
  rintro e w11 ⟨he, c11, base11, tx', _⟩
  rw [show (atR 2 (atR 2 (atR 2 (atR 2 (atR 2 (atR 2 (atR 2 (atR 2 (atR 2 (atR 2 (fun _ => tok0) (2) (inTok 1 [] [])).1 (-1) (inTok 1 [] [])).1 (0) (inTok 0 [] [])).1 (0) (outTok 0 [])).1 (0) (inTok 5 [] [])).1 (0) (inTok 6 [] [])).1 (0) (outTok 5 [1])).1 (0) (inTok 5 [] [])).1 (0) (inTok 6 [1] [1, 1])).1 (0) (inTok 6 [1] [1])).2 = 0 from rfl] at he
  subst he
  have c11 := (((Ch.of_gr (below_a _ _)).trans (Ch.of_gr (below_a _ _))).trans c11)
  have d11 := c11.below (B := w.heap.size) b10.size (by rintro k rfl; exact hgx)
  have b11 := Below.trans b10 d11
  clear tx c11 d11 b10
  skip
  have tx := tx'
  clear tx'
  go_wp2_with fail
  refine (last_any _ base11 gx 2 (0) (atR 2 (atR 2 (atR 2 (atR 2 (atR 2 (atR 2 (atR 2 (atR 2 (atR 2 (atR 2 (fun _ => tok0) (2) (inTok 1 [] [])).1 (-1) (inTok 1 [] [])).1 (0) (inTok 0 [] [])).1 (0) (outTok 0 [])).1 (0) (inTok 5 [] [])).1 (0) (inTok 6 [] [])).1 (0) (outTok 5 [1])).1 (0) (inTok 5 [] [])).1 (0) (inTok 6 [1] [1, 1])).1 (0) (inTok 6 [1] [1])).1 tx (by decide)).mono ?_
  rintro e w12 ⟨vf, rfl, of, c12⟩
  rw [show (heldOf 2 (atR 2 (atR 2 (atR 2 (atR 2 (atR 2 (atR 2 (atR 2 (atR 2 (atR 2 (atR 2 (fun _ => tok0) (2) (inTok 1 [] [])).1 (-1) (inTok 1 [] [])).1 (0) (inTok 0 [] [])).1 (0) (outTok 0 [])).1 (0) (inTok 5 [] [])).1 (0) (inTok 6 [] [])).1 (0) (outTok 5 [1])).1 (0) (inTok 5 [] [])).1 (0) (inTok 6 [1] [1, 1])).1 (0) (inTok 6 [1] [1])).1 (0)).f = [1] from rfl] at of
  rw [show (((heldOf 2 (atR 2 (atR 2 (atR 2 (atR 2 (atR 2 (atR 2 (atR 2 (atR 2 (atR 2 (atR 2 (fun _ => tok0) (2) (inTok 1 [] [])).1 (-1) (inTok 1 [] [])).1 (0) (inTok 0 [] [])).1 (0) (outTok 0 [])).1 (0) (inTok 5 [] [])).1 (0) (inTok 6 [] [])).1 (0) (outTok 5 [1])).1 (0) (inTok 5 [] [])).1 (0) (inTok 6 [1] [1, 1])).1 (0) (inTok 6 [1] [1])).1 (0)).e : Nat) : Int) = 6 from rfl, show (heldOf 2 (atR 2 (atR 2 (atR 2 (atR 2 (atR 2 (atR 2 (atR 2 (atR 2 (atR 2 (atR 2 (fun _ => tok0) (2) (inTok 1 [] [])).1 (-1) (inTok 1 [] [])).1 (0) (inTok 0 [] [])).1 (0) (outTok 0 [])).1 (0) (inTok 5 [] [])).1 (0) (inTok 6 [] [])).1 (0) (outTok 5 [1])).1 (0) (inTok 5 [] [])).1 (0) (inTok 6 [1] [1, 1])).1 (0) (inTok 6 [1] [1])).1 (0)).out = false from rfl]
  have sf := of.sl
  obtain ⟨af, nf, rfl⟩ := of.shape
  clear of
  replace tx := tx.below c12
  have b12 := step0 b11 c12
  clear c12 b11
  clear sf
  clear tx
  go_wp2_with fail
  refine (new_any _ (5) (by decide) (by decide)).mono ?_
  rintro e w13 ⟨gy, rfl, hgy, ty, c13⟩
  rw [show regions (5) = 0 from rfl] at ty
  have hgy := Nat.le_trans b12.size hgy
  have b13 := step0 b12 c13
  clear c13 b12
  go_wp2_with fail
  refine (in_any _ (fun _ => False) gy 1 0 (0) (fun _ => tok0) _ _ [] [] ty (by decide) (Sl.nil _ _ _) (Sl.nil _ _ _) (by decide) (by decide) (by decide)).mono ?_
  rintro e w14 ⟨he, c14, base14, ty', _⟩
  rw [show (atR 0 (fun _ => tok0) (0) (inTok 1 [] [])).2 = 1 from rfl] at he
  subst he
  skip
  have d14 := c14.below (B := w.heap.size) b13.size (by rintro k rfl; exact hgy)
  have b14 := Below.trans b13 d14
  clear ty c14 d14 b13
  skip
  have ty := ty'
  clear ty'
  clear ty
  go_wp2_with fail
  refine (new_any _ (-1) (by decide) (by decide)).mono ?_
  rintro e w15 ⟨gz, rfl, hgz, tz, c15⟩
  rw [show regions (-1) = 0 from rfl] at tz
  have hgz := Nat.le_trans b14.size hgz
  have b15 := step0 b14 c15
  clear c15 b14
  go_wp2_with fail
  refine (in_any _ (fun _ => False) gz 1 0 (0) (fun _ => tok0) _ _ [] [] tz (by decide) (Sl.nil _ _ _) (Sl.nil _ _ _) (by decide) (by decide) (by decide)).mono ?_
  rintro e w16 ⟨he, c16, base16, tz', _⟩
  rw [show (atR 0 (fun _ => tok0) (0) (inTok 1 [] [])).2 = 1 from rfl] at he
  subst he
  skip
  have d16 := c16.below (B := w.heap.size) b15.size (by rintro k rfl; exact hgz)
  have b16 := Below.trans b15 d16
  clear tz c16 d16 b15
  skip
  have tz := tz'
  clear tz'
  clear tz
  go_wp2_with fail
  refine (new_any _ (4) (by decide) (by decide)).mono ?_
  rintro e w17 ⟨gu, rfl, hgu, tu, c17⟩
  rw [show regions (4) = 4 from rfl] at tu
  have hgu := Nat.le_trans b16.size hgu
  have b17 := step0 b16 c17
  clear c17 b16
  go_wp2_with fail
  refine (in_any _ (fun _ => False) gu 1 4 (3) (fun _ => tok0) _ _ [] [] tu (by decide) (Sl.nil _ _ _) (Sl.nil _ _ _) (by decide) (by decide) (by decide)).mono ?_
  rintro e w18 ⟨he, c18, base18, tu', _⟩
  rw [show (atR 4 (fun _ => tok0) (3) (inTok 1 [] [])).2 = 0 from rfl] at he
  subst he
  skip
  have d18 := c18.below (B := w.heap.size) b17.size (by rintro k rfl; exact hgu)
  have b18 := Below.trans b17 d18
  clear tu c18 d18 b17
  skip
  have tu := tu'
  clear tu'
  clear tu
  go_wp2_with fail
  refine (goes_any _).mono ?_
  rintro e w19 ⟨rfl, c19⟩
  have b19 := step0 b18 c19
  clear c19 b18
  go_wp2
  go_ret
  exact ⟨rfl, b19⟩

open Go.ChangeShapes Go.WideShapes Go.ChangeAt Go.RowKit
open Go.ChangeMaps (open_string shut_string)
theorem own_tokensKnown : ownKnob Try.prog.godebug = none := by kernel_rfl
theorem laidOut_tokensKnown : laidOutB Try.prog = true := by kernel_rfl
set_option maxRecDepth 100000 in
theorem lifted_tokensKnown (os : Os) (started : os.Started) (H : Type) (enc : TypeId × Value → H) :
    ReturnsInHanded {} Try.checked os 6 .any (Rows.tokensKnownSpec.pre6 enc Try.prog Try.f6 Rows.tokensKnownRow.domain false) (Rows.tokensKnownSpec.post enc Try.prog Try.f6 false true false false) := by
  refine returnsInHanded_of_change (C := Try.checked) own_tokensKnown started (by kernel_rfl) Try.func6
    (ChangeSpec.witness6 (enc := enc) (C := Try.checked) false ⟨#[], #[], []⟩ 8 (by kernel_rfl) (by kernel_rfl) (by kernel_rfl) (by kernel_rfl)) ?_
  intro W base args ds gs before hval0 hW hcnd _
  have hval : ∀ (j : Nat) t v, Try.f6.params[j]? = some t → args[j]? = some v → Value.okWide Try.prog W .any base t v := hval0
  have hW' := hW
  obtain ⟨p, q, hA0, hV, rfl, hfz, hnd⟩ := hW
  have hA : DataW.TrodAll enc Try.prog W 0 (fun _ => true) true Try.f6.params.toList args.toList ds p := hA0
  rw [Try.params6] at hA hval
  obtain ⟨rfl, rfl, rfl⟩ := trodAll_none hA
  obtain ⟨rfl, rfl⟩ := trodVars_none hV
  clear hA0 hval0
  simp only [List.append_nil] at hW'
  refine (known_walk W ).mono fun e W' ⟨he, bel⟩ => ?_
  subst he
  exact ⟨_, rfl, _, _, _, [], _, [], hW', trodAll_mk1 (shut_bool Try.underlying4 _), trodAll_mk0, rfl, bel.frame _, fun h => by cases h⟩

theorem over_tokensKnown : Rows.tokensKnownRow.holds Try.pinned (OpenSpec.ofChange Rows.tokensKnownSpec) :=
  OpenClaim.holds_of_wide 6 Try.f6 rfl rfl rfl rfl rfl rfl rfl ⟨rfl, rfl, rfl, rfl, rfl⟩ rfl rfl rfl rfl rfl (by kernel_rfl) Try.func6 (by kernel_rfl)
    (of_decide_eq_true (by kernel_rfl)) (by unfold Func.isWrapper; first | (rw [if_pos (by decide +kernel)]; kernel_rfl) | (rw [if_neg (by decide +kernel)]; exact ⟨rfl, rfl⟩))
    (fun os started H enc _ => lifted_tokensKnown os started H enc)

theorem tokensKnown_proved : Rows.TokensKnownSaid := over_tokensKnown
#print axioms tokensKnown_proved
end Go.Proofs.Ythckedmfjmbopaa
