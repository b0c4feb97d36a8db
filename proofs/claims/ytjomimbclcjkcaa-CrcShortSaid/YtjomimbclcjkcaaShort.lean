/-
  CrcShort: of texts of up to eight bytes, as many each, no two have one check. Every input; no conditions.
-/
import Derived.Test.YtjomimbclcjkcaaGoes
import Derived.Test.YtjomimbclcjkcaaOpen
import Derived.StillTailTactics
set_option linter.unusedVariables false
namespace Go.Proofs.Ytjomimbclcjkcaa
open Go.ChangeShapes Go.WideShapes Go.ChangeAt Go.RowKit
open Go.ChangeMaps (open_string shut_string)
open Plain
theorem beq_told (a b : BitVec 64) (s t : List UInt8) (h : a = b ↔ s = t) : (((a.toNat : Int) == (b.toNat : Int)) == (s == t)) = true := by
  have e : ((a.toNat : Int) == (b.toNat : Int)) = decide (a = b) := by
    rw [Bool.eq_iff_iff]; simp [← BitVec.toNat_inj]; omega
  have e2 : (s == t) = decide (s = t) := by rw [Bool.eq_iff_iff]; simp
  rw [e, e2]; simp [h]
theorem arr28 : Try.prog.arrayLen 28 = 8 := by kernel_rfl
theorem elem28 : Try.prog.elem 28 = 5 := by kernel_rfl
theorem size5 (w : World) : (sizeOf 5).run Try.prog w = .ok 1 w := by kernel_rfl
theorem slice28 (w : World) (B k : Nat) (hk : k ≤ 8) : (Instr.sliceAt 28 (.pointer (some ⟨B, 0, none⟩)) none (some (.int .i64 (k : Int))) none).run Try.prog w = .ok (.slice (some ⟨B, 0, none⟩) k 8) w := by
  rw [run_sliceAt_array_h w 28 ⟨B, 0, none⟩ Try.underlying28 .i64 k (by omega) (by rw [arr28]; omega), elem28, size5]
  simp [Result.andThen, slicedAt, arr28, Addr.add]
set_option maxHeartbeats 400000 in
theorem short_walk (w : World) (la lb : List UInt8) (m : Nat) (hm : m < 256) (ha : la.length = 8) (hb : lb.length = 8) :
   Calls Try.prog 6 #[.agg (bytes la).toArray, .agg (bytes lb).toArray, .int .u8 (m : Int)] w fun e w' => e = .returned (.bool true) ∧ Below w.heap.size w w' := by
  obtain ⟨k, hk8, hk⟩ : ∃ k : Nat, k ≤ 8 ∧ (m : Int) % 9 = (k : Int) := ⟨m % 9, by omega, by omega⟩
  go_enter Try.func6, Try.ntmps6
  go_wp2
  obtain ⟨W2, hW2⟩ : ∃ W2, W2 = (w.alloc (.cells (bytes la).toArray 28)).alloc (.cells (bytes lb).toArray 28) := ⟨_, rfl⟩
  rw [← hW2]
  have hbel : Below w.heap.size w W2 := by subst hW2; exact ((Below.refl _ _).alloc (Nat.le_refl _) _).alloc (by simp) _
  have ca : Sl W2.drew (.slice (some ⟨w.heap.size, 0, none⟩) k 8) (bytes (la.take k)) := by
    rw [← bytes_take]
    refine Sl.take _ (by subst hW2; simp; omega) ?_ k 8 (by rw [bytes_length]; omega)
    have := cells_at (w := w) (w' := W2.drew) (bytes la) 28 (0, 0) (by subst hW2; exact ((Below.refl _ _).alloc (Nat.le_refl _) _).drew)
    exact this
  have cb : Sl W2.drew (.slice (some ⟨w.heap.size + 1, 0, none⟩) k 8) (bytes (lb.take k)) := by
    rw [← bytes_take]
    refine Sl.take _ (by subst hW2; simp) ?_ k 8 (by rw [bytes_length]; omega)
    have := cells_at (w := w.alloc (.cells (bytes la).toArray 28)) (w' := W2.drew) (bytes lb) 28 (0, 0) (by subst hW2; exact (Below.refl _ _).drew)
    simpa using this
  clear hW2
  have sa := run_string_sl (P := Try.prog) 22 5 9 Try.underlying22 Try.underlying5 Try.underlying9 ca
  have sb := run_string_sl (P := Try.prog) 22 5 9 Try.underlying22 Try.underlying5 Try.underlying9 cb
  have htold := beq_told _ _ _ _ (crc_short (la.take k) (lb.take k) (by simp; omega) (by simp; omega))
  refine wp_region_still_tail 16 (by kernel_rfl) (by kernel_rfl) ?_
  change wpStill _ _ W2.drew _ _ _
  generalize W2.drew = W3 at *
  have hsl := fun B => slice28 W3 B k hk8
  simp only [List.take_succ_cons, List.take_zero, List.drop_succ_cons, List.drop_zero]
  repeat still_step
  still_call ((sum_any _ _ _ ca (by simp; omega)).mono fun e w' ⟨h, h'⟩ => ⟨h, h'.symm⟩)
  repeat still_step
  still_call ((sum_any _ _ _ cb (by simp; omega)).mono fun e w' ⟨h, h'⟩ => ⟨h, h'.symm⟩)
  repeat still_step
  refine wpStill_nil ?_
  go_wp2_with fail
  refine (goes_any _).mono ?_
  rintro e w' ⟨rfl, hb⟩
  go_wp2_with fail
  go_ret
  exact ⟨rfl, hbel.drew.trans (hb.mono hbel.drew.size)⟩
theorem own_crcShort : ownKnob Try.prog.godebug = none := by kernel_rfl
theorem laidOut_crcShort : laidOutB Try.prog = true := by kernel_rfl
set_option maxRecDepth 100000 in
theorem lifted_crcShort (os : Os) (started : os.Started) (H : Type) (enc : TypeId × Value → H) :
    ReturnsInHanded {} Try.checked os 6 .any (Rows.crcShortSpec.pre6 enc Try.prog Try.f6 Rows.crcShortRow.domain false) (Rows.crcShortSpec.post enc Try.prog Try.f6 false true false false) := by
  refine returnsInHanded_of_change (C := Try.checked) own_crcShort started (by kernel_rfl) Try.func6
    (ChangeSpec.witness6 (enc := enc) (C := Try.checked) false ⟨#[], #[.agg #[.int .u8 0, .int .u8 0, .int .u8 0, .int .u8 0, .int .u8 0, .int .u8 0, .int .u8 0, .int .u8 0], .agg #[.int .u8 0, .int .u8 0, .int .u8 0, .int .u8 0, .int .u8 0, .int .u8 0, .int .u8 0, .int .u8 0], .int .u8 0], []⟩ 8 (by kernel_rfl) (by kernel_rfl) (by kernel_rfl) (by kernel_rfl)) ?_
  intro W base args ds gs before hval0 hW hcnd _
  have hval : ∀ (j : Nat) t v, Try.f6.params[j]? = some t → args[j]? = some v → Value.okWide Try.prog W .any base t v := hval0
  have hW' := hW
  obtain ⟨p, q, hA0, hV, rfl, hfz, hnd⟩ := hW
  have hA : DataW.TrodAll enc Try.prog W 0 (fun _ => true) true Try.f6.params.toList args.toList ds p := hA0
  rw [Try.params6] at hA hval
  obtain ⟨v0, vs0, d0, ds0, p0, q0, hargs, rfl, rfl, k0, r0⟩ := trodAll_cons hA
  obtain ⟨v1, vs1, d1, ds1, p1, q1, rfl, rfl, rfl, k1, r1⟩ := trodAll_cons r0
  obtain ⟨v2, vs2, d2, ds2, p2, q2, rfl, rfl, rfl, k2, r2⟩ := trodAll_cons r1
  obtain ⟨rfl, rfl, rfl⟩ := trodAll_nil r2
  obtain rfl : args = #[v0, v1, v2] := by cases args; simp_all
  obtain ⟨rfl, rfl⟩ := trodVars_none hV
  have lt0 : ∀ x ∈ p0, x.block < W.heap.size := by obtain ⟨m, hm⟩ := k0; exact DataW.trod_lt m _ _ _ hm
  have lt1 : ∀ x ∈ p1, x.block < W.heap.size := by obtain ⟨m, hm⟩ := k1; exact DataW.trod_lt m _ _ _ hm
  have lt2 : ∀ x ∈ p2, x.block < W.heap.size := by obtain ⟨m, hm⟩ := k2; exact DataW.trod_lt m _ _ _ hm
  obtain ⟨l0, rfl, w0⟩ := open_byte_array Try.underlying28 Try.underlying5 (by kernel_rfl) (by kernel_rfl) (hval 0 28 v0 rfl rfl) k0
  obtain ⟨l1, rfl, w1⟩ := open_byte_array Try.underlying28 Try.underlying5 (by kernel_rfl) (by kernel_rfl) (hval 1 28 v1 rfl rfl) k1
  obtain ⟨a2, rfl, w2⟩ := open_nat rfl Try.underlying5 (hval 2 5 v2 rfl rfl) k2
  clear hA0 hval0
  refine (short_walk W l0 l1 a2 w2 w0 w1).mono fun e W' ⟨he, bel⟩ => ?_
  subst he
  exact ⟨_, rfl, _, _, _, [], _, [], hW', trodAll_mk1 (shut_bool Try.underlying4 _), (trodAll_cons_mk (Below.trod laidOut_crcShort (by kernel_rfl) (of_decide_eq_true (by kernel_rfl)) k0 bel lt0) (trodAll_cons_mk (Below.trod laidOut_crcShort (by kernel_rfl) (of_decide_eq_true (by kernel_rfl)) k1 bel lt1) (trodAll_cons_mk (Below.trod laidOut_crcShort (by kernel_rfl) (of_decide_eq_true (by kernel_rfl)) k2 bel lt2) trodAll_mk0))), rfl, bel.frame _, fun h => by cases h⟩

theorem over_crcShort : Rows.crcShortRow.holds Try.pinned (OpenSpec.ofChange Rows.crcShortSpec) :=
  OpenClaim.holds_of_wide 6 Try.f6 rfl rfl rfl rfl rfl rfl rfl ⟨rfl, rfl, rfl, rfl, rfl⟩ rfl rfl rfl rfl rfl (by kernel_rfl) Try.func6 (by kernel_rfl)
    (of_decide_eq_true (by kernel_rfl)) (by unfold Func.isWrapper; first | (rw [if_pos (by decide +kernel)]; kernel_rfl) | (rw [if_neg (by decide +kernel)]; exact ⟨rfl, rfl⟩))
    (fun os started H enc _ => lifted_crcShort os started H enc)

theorem crcShort_proved : Rows.CrcShortSaid := over_crcShort
#print axioms crcShort_proved
end Go.Proofs.Ytjomimbclcjkcaa
