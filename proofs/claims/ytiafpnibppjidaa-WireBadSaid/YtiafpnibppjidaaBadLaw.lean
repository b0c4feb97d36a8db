/-
  WireBad: once a reader is bad, and when it is nil, all that it answers. Every input; no conditions.
-/
import Derived.Test.YtiafpnibppjidaaPuts
import Derived.Test.YtiafpnibppjidaaStructs
import Derived.Test.YtiafpnibppjidaaWireNil
set_option linter.unusedVariables false
namespace Go.Proofs.Ytiafpnibppjidaa
open Go.RowKit

theorem below_got {B g : Nat} {w w1 w2 : World} (hb : Below B w w1) (hB : B ≤ w1.heap.size) (hg : w1.grownBy w2 (some g)) (h : B ≤ g) : Below B w w2 :=
  hb.grown hg hB (by rintro k hk; cases hk; exact h)

theorem i64_zero : i64 0 = 0 := by unfold i64 wrap64; decide

set_option maxHeartbeats 2000000 in
theorem bad_walk (w : World) (vb va : Value) (l : List UInt8) (n : Nat) (R : Nat → Nat → Value) (hl : Sl w vb (bytes l)) (hr : Rows w va n 2 R) (hz : ∀ i, i < n → ∃ z : Int, R i 1 = .int .i64 z ∧ z ≤ 9223372036854775807) :
    Calls Try.prog 8 #[vb, va] w fun e w' => e = .returned (.bool true) ∧ Below w.heap.size w w' := by
  obtain ⟨ab, cb, rfl, _, _⟩ := hl.bytes
  obtain ⟨aa, ca, rfl, hca, hrow⟩ := hr
  by_cases h5 : 200 < l.length
  · go_enter Try.func8, Try.ntmps8
    go_wp2
    all_goals (go_ret; exact ⟨rfl, Below.refl _ _⟩)
  by_cases h6 : 20 < n
  · go_enter Try.func8, Try.ntmps8
    go_wp2
    all_goals (go_ret; exact ⟨rfl, Below.refl _ _⟩)
  go_enter Try.func8, Try.ntmps8
  go_wp2_with fail
  refine (new_any _ _ _ hl (by omega)).mono ?_
  rintro e w1 ⟨g, rfl, hr1, hn1⟩
  have r1 : Rs w1 w.heap.size g (l, false) := hr1
  clear hr1
  go_wp2_with fail
  refine (get_bad _ _ _ _ r1).mono ?_
  rintro e w2 ⟨rfl, r2, hg2⟩
  have b2 := below_got hn1 hn1.size hg2 r1.1
  have r2' : Rs w2 w.heap.size g (l, true) := r2
  have hlen : (l, true).1.length ≤ 1000000000 := by show l.length ≤ _; omega
  clear r1 hg2 hn1 r2
  have HROW := Lib.hid hrow
  have HLEN := Lib.hid hlen
  clear hl hrow hlen
  go_wp2
  go_loopw [6] (fun i wr => ∃ k : Nat, k ≤ n ∧ i = .int .i64 k ∧ Rs wr w.heap.size g (l, true) ∧ Below w.heap.size w wr) (fun i _ => n - (intOf i).toNat)
  case atStart => exact ⟨0, by omega, rfl, r2', b2⟩
  case round =>
    obtain ⟨k, hk, rfl, rr, br⟩ := hrel
    by_cases hlt : k < n
    · obtain ⟨z, hz1, hz2⟩ := hz k hlt
      obtain ⟨B, o, rfl, hB, hcell⟩ := HROW.out.resolve_left (by omega)
      have cz := hcell k hlt 1 (by decide)
      rw [hz1] at cz
      clear hcell
      go_wp2_with fail
      refine (get_byte _ _ _ _ rr HLEN.out).mono ?_
      rintro e w3 ⟨rfl, r3, g3⟩
      have b3 := below_got br br.size g3 rr.1
      rw [rByte_bad] at r3 ⊢
      clear rr g3 br
      go_wp2_with fail
      refine (get_uint _ _ _ _ r3 HLEN.out).mono ?_
      rintro e w4 ⟨rfl, r4, g4⟩
      have b4 := below_got b3 b3.size g4 r3.1
      rw [rUint_bad] at r4 ⊢
      clear r3 g4 b3
      go_wp2_with fail
      refine (get_int _ _ _ _ r4 HLEN.out).mono ?_
      rintro e w5 ⟨rfl, r5, g5⟩
      have b5 := below_got b4 b4.size g5 r4.1
      rw [rUint_bad] at r5 ⊢
      rw [show i64 (0, (l, true)).1 = 0 from i64_zero]
      clear r4 g5 b4
      go_wp2_with fail
      refine (get_text _ _ _ _ r5 HLEN.out).mono ?_
      rintro e w6 ⟨vt, rfl, ho, r6, g6⟩
      have b6 := below_got b5 b5.size g6 r5.1
      rw [rText_bad] at ho r6
      obtain ⟨at1, ct1, rfl⟩ := ho.shape
      clear ho
      clear r5 g6 b5
      have cz1 := (b6.cell (p := ⟨B, o + k * 2 + 1, none⟩) hB).trans cz
      go_wp2_with fail
      refine (get_count _ _ _ _ z hz2 r6 HLEN.out).mono ?_
      rintro e w7 ⟨rfl, r7, g7⟩
      have b7 := below_got b6 b6.size g7 r6.1
      rw [rCount_bad] at r7 ⊢
      clear r6 g7 b6
      go_wp2_with fail
      refine (get_done _ _ _ _ r7 HLEN.out).mono ?_
      rintro e w' ⟨rfl, rfl⟩
      rw [rDone_bad]
      go_wp2
      go_roundw
      case rel => exact ⟨k + 1, by omega, by go_num, r7, b7⟩
      case measure => simp [intOf]; omega
    · obtain rfl : k = n := by omega
      go_wp2_with fail
      refine (nil_bad _).mono ?_
      rintro e w' ⟨rfl, rfl⟩
      go_wp2_with fail
      refine (nil_byte _).mono ?_
      rintro e w' ⟨rfl, rfl⟩
      go_wp2_with fail
      refine (nil_uint _).mono ?_
      rintro e w' ⟨rfl, rfl⟩
      go_wp2_with fail
      refine (nil_int _).mono ?_
      rintro e w' ⟨rfl, rfl⟩
      go_wp2_with fail
      refine (nil_text _).mono ?_
      rintro e w' ⟨rfl, rfl⟩
      go_wp2_with fail
      refine (nil_count _ 3 (by omega)).mono ?_
      rintro e w' ⟨rfl, rfl⟩
      go_wp2_with fail
      refine (nil_done _).mono ?_
      rintro e w' ⟨rfl, rfl⟩
      go_wp2_with fail
      refine (puts_any _).mono ?_
      rintro e w' ⟨rfl, hb'⟩
      go_wp2_with fail
      go_ret
      exact ⟨rfl, br.trans (hb'.mono br.size)⟩

open Go.ChangeShapes Go.WideShapes Go.ChangeAt Go.RowKit
open Go.ChangeMaps (open_string shut_string)
theorem own_wireBad : ownKnob Try.prog.godebug = none := by kernel_rfl
theorem laidOut_wireBad : laidOutB Try.prog = true := by kernel_rfl
set_option maxRecDepth 100000 in
theorem lifted_wireBad (os : Os) (started : os.Started) (H : Type) (enc : TypeId × Value → H) :
    ReturnsInHanded {} Try.checked os 8 .any (Rows.wireBadSpec.pre6 enc Try.prog Try.f8 Rows.wireBadRow.domain false) (Rows.wireBadSpec.post enc Try.prog Try.f8 false true false false) := by
  refine returnsInHanded_of_change (C := Try.checked) own_wireBad started (by kernel_rfl) Try.func8
    (ChangeSpec.witness6 (enc := enc) (C := Try.checked) false ⟨#[], #[.slice none 0 0, .slice none 0 0], []⟩ 8 (by kernel_rfl) (by kernel_rfl) (by kernel_rfl) (by kernel_rfl)) ?_
  intro W base args ds gs before hval0 hW hcnd _
  have hval : ∀ (j : Nat) t v, Try.f8.params[j]? = some t → args[j]? = some v → Value.okWide Try.prog W .any base t v := hval0
  have hW' := hW
  obtain ⟨p, q, hA0, hV, rfl, hfz, hnd⟩ := hW
  have hA : DataW.TrodAll enc Try.prog W 0 (fun _ => true) true Try.f8.params.toList args.toList ds p := hA0
  rw [Try.params8] at hA hval
  obtain ⟨v0, vs0, d0, ds0, p0, q0, hargs, rfl, rfl, k0, r0⟩ := trodAll_cons hA
  obtain ⟨v1, vs1, d1, ds1, p1, q1, rfl, rfl, rfl, k1, r1⟩ := trodAll_cons r0
  obtain ⟨rfl, rfl, rfl⟩ := trodAll_nil r1
  obtain rfl : args = #[v0, v1] := by cases args; simp_all
  obtain ⟨rfl, rfl⟩ := trodVars_none hV
  have lt0 : ∀ x ∈ p0, x.block < W.heap.size := by obtain ⟨m, hm⟩ := k0; exact DataW.trod_lt m _ _ _ hm
  have lt1 : ∀ x ∈ p1, x.block < W.heap.size := by obtain ⟨m, hm⟩ := k1; exact DataW.trod_lt m _ _ _ hm
  obtain ⟨l0, s0, w0⟩ := open_bytes Try.underlying23 Try.underlying5 (by kernel_rfl) (hval 0 23 v0 rfl rfl) k0
  obtain ⟨n1, R1, s1, w1, f1⟩ := open_rows Try.underlying45 Try.underlying51 (by kernel_rfl) (by kernel_rfl) (by decide) (hval 1 45 v1 rfl rfl) k1
  clear hA0 hval0
  refine (bad_walk W v0 v1 l0 n1 R1 s0 s1 (fun i hi => by obtain ⟨m, y, h⟩ := f1 i hi 1 _ rfl; obtain ⟨z, hz, _, h2⟩ := cell_int Try.underlying3 h; exact ⟨z, hz, h2⟩) ).mono fun e W' ⟨he, bel⟩ => ?_
  subst he
  exact ⟨_, rfl, _, _, _, [], _, [], hW', trodAll_mk1 (shut_bool Try.underlying4 _), (trodAll_cons_mk (Below.trod laidOut_wireBad (by kernel_rfl) (of_decide_eq_true (by kernel_rfl)) k0 bel lt0) (trodAll_cons_mk (Below.trod laidOut_wireBad (by kernel_rfl) (of_decide_eq_true (by kernel_rfl)) k1 bel lt1) trodAll_mk0)), rfl, bel.frame _, fun h => by cases h⟩

theorem over_wireBad : Rows.wireBadRow.holds Try.pinned (OpenSpec.ofChange Rows.wireBadSpec) :=
  OpenClaim.holds_of_wide 8 Try.f8 rfl rfl rfl rfl rfl rfl rfl ⟨rfl, rfl, rfl, rfl, rfl⟩ rfl rfl rfl rfl rfl (by kernel_rfl) Try.func8 (by kernel_rfl)
    (of_decide_eq_true (by kernel_rfl)) (by unfold Func.isWrapper; first | (rw [if_pos (by decide +kernel)]; kernel_rfl) | (rw [if_neg (by decide +kernel)]; exact ⟨rfl, rfl⟩))
    (fun os started H enc _ => lifted_wireBad os started H enc)

theorem wireBad_proved : Rows.WireBadSaid := over_wireBad
#print axioms wireBad_proved
end Go.Proofs.Ytiafpnibppjidaa
