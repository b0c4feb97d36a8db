/-
  VectorPlays: every Leq, Max, Inc, New is what the document says; what is handed in stays. Every input (the law looks at stamps of up to 20 numbers); no conditions.
-/
import Derived.Test.YtomhiodabnpfoaaPlaysB
set_option linter.unusedVariables false
namespace Go.Proofs.Ytomhiodabnpfoaa
open Go.RowKit

theorem i64_wf {z : Int} (h : (Lit.int .i64 z).wf = true) : -9223372036854775808 ≤ z ∧ z ≤ 9223372036854775807 := by
  simp [Lit.wf, IntKind.min, IntKind.max, IntKind.bits, IntKind.signed] at h
  omega
theorem plays_walk (w : World) (va vb : Value) (xs ys : List Nat) (i : Int) (sa : Sl w va (nums xs)) (sb : Sl w vb (nums ys)) (hi1 : -9223372036854775808 ≤ i) (hi2 : i ≤ 9223372036854775807) :
    Calls Try.prog 3 #[va, vb, .int .i64 i] w fun e w' => e = .returned (.bool true) ∧ Below w.heap.size w w' := by
  rcases Int.lt_or_le i 0 with h0 | h0
  · exact plays_neg w va vb xs ys i sa sb hi1 hi2 h0
  · rcases Int.lt_or_le 3 i with h3 | h3
    · rcases Int.lt_or_le i xs.length with hl | hl
      · exact plays_in_hi w va vb xs ys i sa sb hi1 hi2 h0 h3 hl
      · exact plays_out_hi w va vb xs ys i sa sb hi1 hi2 h0 h3 hl
    · rcases Int.lt_or_le i xs.length with hl | hl
      · exact plays_in_lo w va vb xs ys i sa sb hi1 hi2 h0 h3 hl
      · exact plays_out_lo w va vb xs ys i sa sb hi1 hi2 h0 h3 hl

open Go.ChangeShapes Go.WideShapes Go.ChangeAt Go.RowKit
open Go.ChangeMaps (open_string shut_string)
theorem own_vectorPlays : ownKnob Try.prog.godebug = none := by kernel_rfl
theorem laidOut_vectorPlays : laidOutB Try.prog = true := by kernel_rfl
set_option maxRecDepth 100000 in
theorem lifted_vectorPlays (os : Os) (started : os.Started) (H : Type) (enc : TypeId × Value → H) :
    ReturnsInHanded {} Try.checked os 3 .any (Rows.vectorPlaysSpec.pre6 enc Try.prog Try.f3 Rows.vectorPlaysRow.domain false) (Rows.vectorPlaysSpec.post enc Try.prog Try.f3 false true false false) := by
  refine returnsInHanded_of_change (C := Try.checked) own_vectorPlays started (by kernel_rfl) Try.func3
    (ChangeSpec.witness6 (enc := enc) (C := Try.checked) false ⟨#[], #[.slice none 0 0, .slice none 0 0, .int .i64 0], []⟩ 8 (by kernel_rfl) (by kernel_rfl) (by kernel_rfl) (by kernel_rfl)) ?_
  intro W base args ds gs before hval0 hW hcnd _
  have hval : ∀ (j : Nat) t v, Try.f3.params[j]? = some t → args[j]? = some v → Value.okWide Try.prog W .any base t v := hval0
  have hW' := hW
  obtain ⟨p, q, hA0, hV, rfl, hfz, hnd⟩ := hW
  have hA : DataW.TrodAll enc Try.prog W 0 (fun _ => true) true Try.f3.params.toList args.toList ds p := hA0
  rw [Try.params3] at hA hval
  obtain ⟨v0, vs0, d0, ds0, p0, q0, hargs, rfl, rfl, k0, r0⟩ := trodAll_cons hA
  obtain ⟨v1, vs1, d1, ds1, p1, q1, rfl, rfl, rfl, k1, r1⟩ := trodAll_cons r0
  obtain ⟨v2, vs2, d2, ds2, p2, q2, rfl, rfl, rfl, k2, r2⟩ := trodAll_cons r1
  obtain ⟨rfl, rfl, rfl⟩ := trodAll_nil r2
  obtain rfl : args = #[v0, v1, v2] := by cases args; simp_all
  obtain ⟨rfl, rfl⟩ := trodVars_none hV
  have lt0 : ∀ x ∈ p0, x.block < W.heap.size := by obtain ⟨m, hm⟩ := k0; exact DataW.trod_lt m _ _ _ hm
  have lt1 : ∀ x ∈ p1, x.block < W.heap.size := by obtain ⟨m, hm⟩ := k1; exact DataW.trod_lt m _ _ _ hm
  have lt2 : ∀ x ∈ p2, x.block < W.heap.size := by obtain ⟨m, hm⟩ := k2; exact DataW.trod_lt m _ _ _ hm
  obtain ⟨l0, s0, w0, f0⟩ := open_nums Try.underlying22 Try.underlying23 (by kernel_rfl) (hval 0 22 v0 rfl rfl) k0
  obtain ⟨l1, s1, w1, f1⟩ := open_nums Try.underlying22 Try.underlying23 (by kernel_rfl) (hval 1 22 v1 rfl rfl) k1
  obtain ⟨a2, rfl, _, _, w2⟩ := open_int Try.underlying3 (hval 2 3 v2 rfl rfl) k2
  obtain ⟨x2, y2⟩ := i64_wf w2
  clear hA0 hval0
  refine (plays_walk W v0 v1 l0 l1 a2 s0 s1 x2 y2  ).mono fun e W' ⟨he, bel⟩ => ?_
  subst he
  exact ⟨_, rfl, _, _, _, [], _, [], hW', trodAll_mk1 (shut_bool Try.underlying4 _), (trodAll_cons_mk (Below.trod laidOut_vectorPlays (by kernel_rfl) (of_decide_eq_true (by kernel_rfl)) k0 bel lt0) (trodAll_cons_mk (Below.trod laidOut_vectorPlays (by kernel_rfl) (of_decide_eq_true (by kernel_rfl)) k1 bel lt1) (trodAll_cons_mk (Below.trod laidOut_vectorPlays (by kernel_rfl) (of_decide_eq_true (by kernel_rfl)) k2 bel lt2) trodAll_mk0))), rfl, bel.frame _, fun h => by cases h⟩

theorem over_vectorPlays : Rows.vectorPlaysRow.holds Try.pinned (OpenSpec.ofChange Rows.vectorPlaysSpec) :=
  OpenClaim.holds_of_wide 3 Try.f3 rfl rfl rfl rfl rfl rfl rfl ⟨rfl, rfl, rfl, rfl, rfl⟩ rfl rfl rfl rfl rfl (by kernel_rfl) Try.func3 (by kernel_rfl)
    (of_decide_eq_true (by kernel_rfl)) (by unfold Func.isWrapper; first | (rw [if_pos (by decide +kernel)]; kernel_rfl) | (rw [if_neg (by decide +kernel)]; exact ⟨rfl, rfl⟩))
    (fun os started H enc _ => lifted_vectorPlays os started H enc)

theorem vectorPlays_proved : Rows.VectorPlaysSaid := over_vectorPlays
#print axioms vectorPlays_proved
end Go.Proofs.Ytomhiodabnpfoaa
