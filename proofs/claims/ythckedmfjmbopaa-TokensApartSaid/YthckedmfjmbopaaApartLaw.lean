/-
  TokensApart: what is done to one region changes no other one. Every input (the law looks at up to 100 acts, stamps of up to 10 numbers); no conditions.
-/
import Derived.Test.YthckedmfjmbopaaTokGoes
import Derived.Test.YthckedmfjmbopaaTokActs
set_option linter.unusedVariables false
namespace Go.Proofs.Ythckedmfjmbopaa
open Go.RowKit

theorem doesV_same (T T' : Nat → Tok) (x : ActD) (k : Nat) (hk : k < 4) (h : T k = T' k) (hr : x.r = (k : Int)) : (doesV 4 T x).2 = (doesV 4 T' x).2 ∧ (doesV 4 T x).1 k = (doesV 4 T' x).1 k := by
  have hin : 0 ≤ x.r ∧ x.r < 4 := by omega
  have e : x.r.toNat = k := by omega
  unfold doesV atR
  split <;> simp [hin, e, h, updT]
theorem doesV_other (T : Nat → Tok) (x : ActD) (k : Nat) (hr : x.r ≠ (k : Int)) : (doesV 4 T x).1 k = T k := by
  unfold doesV atR
  split <;> split <;> simp [updT] <;> (rintro e; exact absurd (show x.r = (k : Int) by omega) hr)
theorem heldOf_in (T : Nat → Tok) (k : Nat) (hk : k < 4) : heldOf 4 T (k : Int) = T k := by unfold heldOf; rw [if_pos ⟨by omega, by omega⟩, Int.toNat_natCast]

set_option maxHeartbeats 1000000 in
theorem apart_walk (w : World) (va : Value) (la : List ActD) (rr : Nat) (h : Acts w va la) (hl : la.length ≤ maxLen) (hrr : rr < 256) :
    Calls Try.prog 7 #[va, .int .u8 (rr : Int)] w fun e w' => e = .returned (.bool true) ∧ Below w.heap.size w w' := by
  obtain ⟨a, cap, rfl⟩ : ∃ a cap, va = .slice a la.length cap := by obtain ⟨R, ⟨a, cap, e, _⟩, _⟩ := h; exact ⟨a, cap, e⟩
  cases hgr : greatV la with
  | true =>
    go_enter Try.func7, Try.ntmps7
    go_wp2_with fail
    refine (great_any _ _ la h hl).mono ?_
    rintro e w' ⟨rfl, rfl⟩
    rw [hgr]
    go_wp2
    go_ret
    exact ⟨rfl, Below.refl _ _⟩
  | false =>
  obtain ⟨h100, hsm⟩ := greatV_small hgr
  obtain ⟨k0, hk0, ek⟩ : ∃ k0 : Nat, k0 < 4 ∧ (rr : Int) % 4 = (k0 : Int) := ⟨rr % 4, by omega, by omega⟩
  have h' := h
  have HS := Lib.hid hsm
  have H := Lib.hid h
  clear hsm
  go_enter Try.func7, Try.ntmps7
  go_wp2_with fail
  refine (great_any _ _ la h' hl).mono ?_
  rintro e w' ⟨rfl, rfl⟩
  rw [hgr]
  clear h h' hgr hl
  go_wp2_with fail
  refine (new_any _ 4 (by decide) (by decide)).mono ?_
  rintro e w1 ⟨ga, rfl, hga, ta, b1⟩
  rw [show regions 4 = 4 from rfl] at ta
  go_wp2_with fail
  refine (new_any _ 4 (by decide) (by decide)).mono ?_
  rintro e w2 ⟨gb, rfl, hgb, tb, b2⟩
  rw [show regions 4 = 4 from rfl] at tb
  have hal := ta.lt
  have hgb' := Nat.le_trans b1.size hgb
  have b3 := step0 b1 b2
  replace ta := ta.below b2
  clear b1 b2
  go_wp2
  go_loopw [8, 9] (fun i e wr => ∃ (k : Nat) (T T' : Nat → Tok) (ba bb : Nat → Prop), k ≤ la.length ∧ i = .int .i64 k ∧ Tab wr ba ga 4 T ∧ Tab wr bb gb 4 T' ∧ T k0 = T' k0 ∧ ¬ ba gb ∧ ¬ bb ga ∧ Below w.heap.size w wr) (fun i _ _ => la.length - (intOf i).toNat)
  case atStart => exact ⟨0, _, _, _, _, Nat.zero_le _, rfl, ta, tb, rfl, fun h => h, fun h => h, b3⟩
  case round =>
    clear ta tb b3
    obtain ⟨k, T, T', ba, bb, hk, rfl, ta, tb, hT, hba, hbb, br⟩ := hrel
    have HT := Lib.hid hT
    clear hT
    by_cases hlt : k < la.length
    · obtain ⟨hlf, hlv⟩ := HS.out k hlt
      obtain ⟨B, o, fa, fc, va, vc, rfl, hB, c0, c1, c2, c3, c4, sf, sv, hd, hr1, hr2, he⟩ := H.out.row k hlt
      have d0 := (br.cell (p := ⟨B, o + k * 5, none⟩) hB).trans c0
      have d1 := (br.cell (p := ⟨B, o + k * 5 + 1, none⟩) hB).trans c1
      have d2 := (br.cell (p := ⟨B, o + k * 5 + 2, none⟩) hB).trans c2
      have d3 := (br.cell (p := ⟨B, o + k * 5 + 3, none⟩) hB).trans c3
      have d4 := (br.cell (p := ⟨B, o + k * 5 + 4, none⟩) hB).trans c4
      have sf1 := sf.below br
      have sv1 := sv.below br
      obtain ⟨x, hx⟩ : ∃ x, x = la[k] := ⟨_, rfl⟩
      rw [← hx] at hlf hlv c0 c1 c2 c3 c4 d0 d1 d2 d3 d4 sf1 sv1 hd hr1 hr2 he sf sv
      have lf : x.f.length ≤ 1000000 := by omega
      have lv : x.v.length ≤ 1000000 := by omega
      have i1 : (0 : Int) ≤ (k : Int) := by omega
      have i2 : (k : Int) < (la.length : Int) := by omega
      clear hx
      have C0 := Lib.hid c0
      have C1 := Lib.hid c1
      have C2 := Lib.hid c2
      have C3 := Lib.hid c3
      have C4 := Lib.hid c4
      clear c0 c1 c2 c3 c4
      go_wp2_with fail
      refine (does_any _ ba ga 4 T x _ _ ta (by decide) sf1 sv1 lf lv hd he).mono ?_
      rintro en w3 ⟨rfl, ch, ba', ta', hba'⟩
      have hbb1 := tb.lt
      have hne : gb ≠ ga := by
        obtain ⟨_, hx, _⟩ := ta
        omega
      replace tb := tb.ch ch hne (fun j hj e => hbb (by rw [← e]; exact hj))
      have hba2 : ¬ ba' gb := fun hx => (hba' gb hx).elim hba (fun h => by omega)
      have br3 : Below w.heap.size w w3 := br.trans (ch.below br.size (by rintro j rfl; exact hga))
      have e0 := (br3.cell (p := ⟨B, o + k * 5, none⟩) hB).trans C0.out
      have e1 := (br3.cell (p := ⟨B, o + k * 5 + 1, none⟩) hB).trans C1.out
      have e2 := (br3.cell (p := ⟨B, o + k * 5 + 2, none⟩) hB).trans C2.out
      have e3 := (br3.cell (p := ⟨B, o + k * 5 + 3, none⟩) hB).trans C3.out
      have e4 := (br3.cell (p := ⟨B, o + k * 5 + 4, none⟩) hB).trans C4.out
      have sf3 := sf.below br3
      have sv3 := sv.below br3
      clear d0 d1 d2 d3 d4 sf1 sv1 sf sv ta ch hba' br hba C0 C1 C2 C3 C4
      by_cases hr : x.r = (k0 : Int)
      · have hrb : (x.r == (k0 : Int)) = true := by simp [hr]
        obtain ⟨q1, q2⟩ := doesV_same T T' x k0 hk0 HT.out hr
        have Q1 := Lib.hid q1
        have Q2 := Lib.hid q2
        clear q1 q2 hr
        go_wp2_with fail
        refine (does_any _ bb gb 4 T' x _ _ tb (by decide) sf3 sv3 lf lv hd he).mono ?_
        rintro en w4 ⟨rfl, ch, bb', tb', hbb'⟩
        have hal2 := ta'.lt
        have ta4 := ta'.ch ch (fun e => hne e.symm) (fun j hj e => hba2 (by rw [← e]; exact hj))
        have hbb2 : ¬ bb' ga := fun hx => (hbb' ga hx).elim hbb (fun h => by omega)
        have br4 : Below w.heap.size w w4 := br3.trans (ch.below br3.size (by rintro j rfl; exact hgb'))
        rw [← Q1.out]
        clear tb ta' ch hbb' br3 hbb e0 e1 e2 e3 e4 sf3 sv3
        go_wp2
        go_roundw
        case rel => exact ⟨k + 1, _, _, _, _, by omega, by go_num, ta4, tb', Q2.out, hba2, hbb2, br4⟩
        case measure => simp [intOf]; omega
      · have hrb : (x.r == (k0 : Int)) = false := by simp [hr]
        have Q2 := Lib.hid ((doesV_other T x k0 hr).trans HT.out)
        clear hr
        go_wp2
        go_roundw
        case rel => exact ⟨k + 1, _, _, _, _, by omega, by go_num, ta', tb, Q2.out, hba2, hbb, br3⟩
        case measure => simp [intOf]; omega
    · have hT4 := heldOf_in T k0 hk0
      have hT4' := heldOf_in T' k0 hk0
      rw [← HT.out] at hT4'
      have X1 := Lib.hid hT4
      have X2 := Lib.hid hT4'
      clear hT4 hT4'
      go_wp2_with fail
      refine (last_any _ ba ga 4 (k0 : Int) T ta (by decide)).mono ?_
      rintro e w3 ⟨v3, rfl, o3, g3⟩
      rw [X1.out] at o3 ⊢
      replace ta := ta.below g3
      replace tb := tb.below g3
      have b3 := step0 br g3
      have s3 := o3.sl
      clear o3 g3 br
      go_wp2_with fail
      refine (last_any _ bb gb 4 (k0 : Int) T' tb (by decide)).mono ?_
      rintro e w4 ⟨v4, rfl, o4, g4⟩
      rw [X2.out] at o4 ⊢
      replace ta := ta.below g4
      replace tb := tb.below g4
      have b4 := step0 b3 g4
      have s4 := o4.sl
      replace s3 := s3.below g4
      clear o4 g4 b3
      go_wp2_with fail
      refine (held_any _ ba ga 4 (k0 : Int) T ta (by decide)).mono ?_
      rintro e w5 ⟨rfl, g5⟩
      rw [X1.out]
      obtain ⟨z, hz⟩ : ∃ z, z = (if (T k0).held = true then ((T k0).e : Int) else 0) := ⟨_, rfl⟩
      rw [← hz]
      have HZ := Lib.hid hz
      clear hz
      replace tb := tb.below g5
      have b5 := step0 b4 g5
      replace s3 := s3.below g5
      replace s4 := s4.below g5
      have hlf : (T k0).f.length ≤ 1000000 := by
        obtain ⟨_, _, c, _, _, _, ht⟩ := ta
        obtain ⟨_, _, _, _, _, _, _, h, _⟩ := ht k0 hk0
        exact h
      clear g5 b4 ta
      go_wp2_with fail
      refine (held_any _ bb gb 4 (k0 : Int) T' tb (by decide)).mono ?_
      rintro e w6 ⟨rfl, g6⟩
      rw [X2.out, ← HZ.out]
      clear HZ
      have b6 := step0 b5 g6
      replace s3 := s3.below g6
      replace s4 := s4.below g6
      clear g6 b5 tb
      generalize T k0 = t at *
      clear HT X1 X2
      go_wp2_with fail
      refine (leq_any _ _ _ t.f t.f s3 s4 hlf hlf).mono ?_
      rintro e w7 ⟨rfl, g7⟩
      rw [leqV_refl]
      have b7 := step0 b6 g7
      replace s3 := s3.below g7
      replace s4 := s4.below g7
      clear g7 b6
      go_wp2_with fail
      refine (leq_any _ _ _ t.f t.f s4 s3 hlf hlf).mono ?_
      rintro e w8 ⟨rfl, g8⟩
      rw [leqV_refl]
      have b8 := step0 b7 g8
      clear g8 b7 s3 s4
      go_wp2_with fail
      refine (goes_any _).mono ?_
      rintro e w9 ⟨rfl, g9⟩
      go_wp2
      go_ret
      exact ⟨by simp, step0 b8 g9⟩

open Go.ChangeShapes Go.WideShapes Go.ChangeAt Go.RowKit
open Go.ChangeMaps (open_string shut_string)
theorem own_tokensApart : ownKnob Try.prog.godebug = none := by kernel_rfl
theorem laidOut_tokensApart : laidOutB Try.prog = true := by kernel_rfl
set_option maxRecDepth 100000 in
theorem lifted_tokensApart (os : Os) (started : os.Started) (H : Type) (enc : TypeId × Value → H) :
    ReturnsInHanded {} Try.checked os 7 .any (Rows.tokensApartSpec.pre6 enc Try.prog Try.f7 Rows.tokensApartRow.domain false) (Rows.tokensApartSpec.post enc Try.prog Try.f7 false true false false) := by
  refine returnsInHanded_of_change (C := Try.checked) own_tokensApart started (by kernel_rfl) Try.func7
    (ChangeSpec.witness6 (enc := enc) (C := Try.checked) false ⟨#[], #[.slice none 0 0, .int .u8 0], []⟩ 8 (by kernel_rfl) (by kernel_rfl) (by kernel_rfl) (by kernel_rfl)) ?_
  intro W base args ds gs before hval0 hW hcnd _
  have hval : ∀ (j : Nat) t v, Try.f7.params[j]? = some t → args[j]? = some v → Value.okWide Try.prog W .any base t v := hval0
  have hW' := hW
  obtain ⟨p, q, hA0, hV, rfl, hfz, hnd⟩ := hW
  have hA : DataW.TrodAll enc Try.prog W 0 (fun _ => true) true Try.f7.params.toList args.toList ds p := hA0
  rw [Try.params7] at hA hval
  obtain ⟨v0, vs0, d0, ds0, p0, q0, hargs, rfl, rfl, k0, r0⟩ := trodAll_cons hA
  obtain ⟨v1, vs1, d1, ds1, p1, q1, rfl, rfl, rfl, k1, r1⟩ := trodAll_cons r0
  obtain ⟨rfl, rfl, rfl⟩ := trodAll_nil r1
  obtain rfl : args = #[v0, v1] := by cases args; simp_all
  obtain ⟨rfl, rfl⟩ := trodVars_none hV
  have lt0 : ∀ x ∈ p0, x.block < W.heap.size := by obtain ⟨m, hm⟩ := k0; exact DataW.trod_lt m _ _ _ hm
  have lt1 : ∀ x ∈ p1, x.block < W.heap.size := by obtain ⟨m, hm⟩ := k1; exact DataW.trod_lt m _ _ _ hm
  obtain ⟨l0, s0, w0⟩ := open_acts (hval 0 22 v0 rfl rfl) k0
  obtain ⟨a1, rfl, w1⟩ := open_nat rfl Try.underlying5 (hval 1 5 v1 rfl rfl) k1
  clear hA0 hval0
  refine (apart_walk W v0 l0 a1 s0 w0 w1 ).mono fun e W' ⟨he, bel⟩ => ?_
  subst he
  exact ⟨_, rfl, _, _, _, [], _, [], hW', trodAll_mk1 (shut_bool Try.underlying4 _), (trodAll_cons_mk (Below.trod laidOut_tokensApart (by kernel_rfl) (of_decide_eq_true (by kernel_rfl)) k0 bel lt0) (trodAll_cons_mk (Below.trod laidOut_tokensApart (by kernel_rfl) (of_decide_eq_true (by kernel_rfl)) k1 bel lt1) trodAll_mk0)), rfl, bel.frame _, fun h => by cases h⟩

theorem over_tokensApart : Rows.tokensApartRow.holds Try.pinned (OpenSpec.ofChange Rows.tokensApartSpec) :=
  OpenClaim.holds_of_wide 7 Try.f7 rfl rfl rfl rfl rfl rfl rfl ⟨rfl, rfl, rfl, rfl, rfl⟩ rfl rfl rfl rfl rfl (by kernel_rfl) Try.func7 (by kernel_rfl)
    (of_decide_eq_true (by kernel_rfl)) (by unfold Func.isWrapper; first | (rw [if_pos (by decide +kernel)]; kernel_rfl) | (rw [if_neg (by decide +kernel)]; exact ⟨rfl, rfl⟩))
    (fun os started H enc _ => lifted_tokensApart os started H enc)

theorem tokensApart_proved : Rows.TokensApartSaid := over_tokensApart
#print axioms tokensApart_proved
end Go.Proofs.Ythckedmfjmbopaa
