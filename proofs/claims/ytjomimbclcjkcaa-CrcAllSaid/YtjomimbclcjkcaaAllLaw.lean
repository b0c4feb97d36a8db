/-
  CrcAll: the check of bytes is what the document says, bit by bit; what is handed in stays. Every input (the law itself looks at up to 600 bytes); no conditions.
-/
import Derived.Test.YtjomimbclcjkcaaGoes
import Derived.Test.YtjomimbclcjkcaaOpen
import Derived.Test.YtjomimbclcjkcaaRefSum
import Derived.Test.YtjomimbclcjkcaaStrBytes
set_option linter.unusedVariables false
namespace Go.Proofs.Ytjomimbclcjkcaa
open Go.RowKit Plain

set_option maxHeartbeats 400000 in
theorem all_walk (w : World) (va : Value) (l : List UInt8) (sa : Sl w va (bytes l)) :
   Calls Try.prog 3 #[va] w fun e w' => e = .returned (.bool true) ∧ Below w.heap.size w w' := by
  have sa0 := sa
  obtain ⟨a, cap, rfl, _⟩ := sa.bytes
  by_cases h6 : 600 < l.length
  · go_enter Try.func3, Try.ntmps3
    go_wp2
    all_goals (go_ret; exact ⟨rfl, Below.refl _ _⟩)
  · obtain ⟨v1, w1, hr, s1, b1⟩ := run_bytes_sl (P := Try.prog) w 9 22 5 l Try.underlying9 Try.underlying22 Try.underlying5
    have st := run_string_sl (P := Try.prog) 22 5 9 Try.underlying22 Try.underlying5 Try.underlying9 sa0
    go_enter Try.func3, Try.ntmps3
    go_wp2_with fail
    refine (sum_any _ l _ sa (by omega)).mono ?_
    rintro e w' ⟨rfl, rfl⟩
    go_wp2_with fail
    refine (refsum_any _ l _ s1 (by omega)).mono ?_
    rintro e w2 ⟨rfl, b2⟩
    have b3 := b1.trans (b2.mono b1.size)
    have st2 := run_string_sl (P := Try.prog) 22 5 9 Try.underlying22 Try.underlying5 Try.underlying9 (sa0.below b3)
    clear st hr
    go_wp2_with fail
    refine (goes_any _).mono ?_
    rintro e w3 ⟨rfl, b4⟩
    go_wp2
    go_ret
    exact ⟨by simp, b3.trans (b4.mono b3.size)⟩
open Go.ChangeShapes Go.WideShapes Go.ChangeAt

open Go.ChangeShapes Go.WideShapes Go.ChangeAt Go.RowKit
open Go.ChangeMaps (open_string shut_string)
theorem own_crcAll : ownKnob Try.prog.godebug = none := by kernel_rfl
theorem laidOut_crcAll : laidOutB Try.prog = true := by kernel_rfl
set_option maxRecDepth 100000 in
theorem lifted_crcAll (os : Os) (started : os.Started) (H : Type) (enc : TypeId × Value → H) :
    ReturnsInHanded {} Try.checked os 3 .any (Rows.crcAllSpec.pre6 enc Try.prog Try.f3 Rows.crcAllRow.domain false) (Rows.crcAllSpec.post enc Try.prog Try.f3 false true false false) := by
  refine returnsInHanded_of_change (C := Try.checked) own_crcAll started (by kernel_rfl) Try.func3
    (ChangeSpec.witness6 (enc := enc) (C := Try.checked) false ⟨#[], #[.slice none 0 0], []⟩ 8 (by kernel_rfl) (by kernel_rfl) (by kernel_rfl) (by kernel_rfl)) ?_
  intro W base args ds gs before hval0 hW hcnd _
  have hval : ∀ (j : Nat) t v, Try.f3.params[j]? = some t → args[j]? = some v → Value.okWide Try.prog W .any base t v := hval0
  have hW' := hW
  obtain ⟨p, q, hA0, hV, rfl, hfz, hnd⟩ := hW
  have hA : DataW.TrodAll enc Try.prog W 0 (fun _ => true) true Try.f3.params.toList args.toList ds p := hA0
  rw [Try.params3] at hA hval
  obtain ⟨v0, vs0, d0, ds0, p0, q0, hargs, rfl, rfl, k0, r0⟩ := trodAll_cons hA
  obtain ⟨rfl, rfl, rfl⟩ := trodAll_nil r0
  obtain rfl : args = #[v0] := by cases args; simp_all
  obtain ⟨rfl, rfl⟩ := trodVars_none hV
  have lt0 : ∀ x ∈ p0, x.block < W.heap.size := by obtain ⟨m, hm⟩ := k0; exact DataW.trod_lt m _ _ _ hm
  obtain ⟨l0, s0, w0⟩ := open_bytes Try.underlying22 Try.underlying5 (by kernel_rfl) (hval 0 22 v0 rfl rfl) k0
  clear hA0 hval0
  refine (all_walk W v0 l0 s0).mono fun e W' ⟨he, bel⟩ => ?_
  subst he
  exact ⟨_, rfl, _, _, _, [], _, [], hW', trodAll_mk1 (shut_bool Try.underlying4 _), (trodAll_cons_mk (Below.trod laidOut_crcAll (by kernel_rfl) (of_decide_eq_true (by kernel_rfl)) k0 bel lt0) trodAll_mk0), rfl, bel.frame _, fun h => by cases h⟩

theorem over_crcAll : Rows.crcAllRow.holds Try.pinned (OpenSpec.ofChange Rows.crcAllSpec) :=
  OpenClaim.holds_of_wide 3 Try.f3 rfl rfl rfl rfl rfl rfl rfl ⟨rfl, rfl, rfl, rfl, rfl⟩ rfl rfl rfl rfl rfl (by kernel_rfl) Try.func3 (by kernel_rfl)
    (of_decide_eq_true (by kernel_rfl)) (by unfold Func.isWrapper; first | (rw [if_pos (by decide +kernel)]; kernel_rfl) | (rw [if_neg (by decide +kernel)]; exact ⟨rfl, rfl⟩))
    (fun os started H enc _ => lifted_crcAll os started H enc)

theorem crcAll_proved : Rows.CrcAllSaid := over_crcAll
#print axioms crcAll_proved
end Go.Proofs.Ytjomimbclcjkcaa
