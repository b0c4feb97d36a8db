/-
  WanPuts: every Put answers as the document does; what is handed in stays. Every input (the law looks at what its 'heavy' lets pass); no conditions.
-/
import Derived.Test.YtgilijkmmcpfjaaZWOpen
import Derived.Test.YtgilijkmmcpfjaaZWPutX
import Derived.JoinedCond
set_option linter.unusedVariables false
set_option linter.unusedSimpArgs false
set_option maxRecDepth 100000
namespace Go.Proofs.Ytgilijkmmcpfjaa
open Go.RowKit
set_option maxHeartbeats 8000000 in
theorem puts_walk (w : World) (x : WanD) (a1 b1 c1 : Value) (hp : WanP Any w x a1 b1 c1) (ok : WanOk x) :
    Calls Try.prog 3 #[.agg (wanCells x a1 b1 c1).toArray] w fun e w' => e = .returned (.bool true) ∧ Below w.heap.size w w' := by
  have PUT : Hid (WanLight x → ∀ W, Gr w W → Calls Try.prog 10 #[.agg (wanCells x a1 b1 c1).toArray] W (RetPutW W x)) := Lib.hid fun h W hW => putW_any W x a1 b1 c1 (hp.gr hW) ok h.len
  have DPUT : Hid (WanLight x → ∀ W, Gr w W → Calls Try.prog 11 #[.agg (wanCells x a1 b1 c1).toArray] W (RetPutW W x)) := Lib.hid fun h W hW => dputW_any W x a1 b1 c1 (hp.gr hW) ok h.short
  have HEAVY : Hid (∀ W, Gr w W → Calls Try.prog 9 #[.agg (wanCells x a1 b1 c1).toArray] W (NotThenW (WanLight x) W)) := Lib.hid fun W hW => heavy_any W x a1 b1 c1 (hp.gr hW)
  obtain ⟨cL, hcL⟩ : ∃ cL, cL = (putW x).1 := ⟨_, rfl⟩
  obtain ⟨pe, hpe⟩ : ∃ pe, pe = (putW x).2 := ⟨_, rfl⟩
  have RP : Hid (∀ W e W', RetPutW W x e W' → ∃ v, e = .returned (.tuple #[v, .int .i64 pe]) ∧ Sl W' v (bytes cL) ∧ Gr W W') := Lib.hid fun W e W' h => by rw [hcL, hpe]; exact h
  obtain ⟨E, hE⟩ : ∃ E, E = wanCells x a1 b1 c1 := ⟨_, rfl⟩
  have EN : Hid (E.length = 7) := Lib.hid (by rw [hE]; rfl)
  rw [← hE] at PUT DPUT HEAVY ⊢
  obtain ⟨PP, hPP⟩ : ∃ PP : Prop, PP = WanLight x := ⟨_, rfl⟩
  rw [← hPP] at PUT DPUT HEAVY
  clear hcL hpe hE hPP hp ok
  go_enter Try.func3, Try.ntmps3
  go_wp2_with (first | (refine wpList_boxE _ rfl rfl rfl ?_) | fail)
  intro w1 k1 g1 n1
  obtain ⟨B1, hb1⟩ : ∃ B1, B1 = w.heap.size := ⟨_, rfl⟩
  rw [← hb1]
  rw [← hb1] at k1
  have KE := Lib.hid k1
  have GG := Lib.hid g1
  clear k1 g1 n1 hb1
  go_wp2_with (first | (refine wpList_loadE wanTy _ rfl rfl rfl KE.out EN.out ?_) | fail)
  refine (HEAVY.out w1 GG.out).mono ?_
  rintro en w2 ⟨z, rfl, hz, g2⟩
  have G2 := Lib.hid (GG.out.trans g2)
  have K2 := Lib.hid (KE.out.gr g2)
  cases z with
  | true =>
    clear hz g2
    go_wp2
    go_ret
    exact ⟨rfl, G2.out⟩
  | false =>
    have SH := Lib.hid (hz rfl)
    clear hz g2
    go_wp2_with (first | (refine wpList_loadE wanTy _ rfl rfl rfl K2.out EN.out ?_) | fail)
    refine (PUT.out SH.out w2 G2.out).mono ?_
    intro en w3 h3
    obtain ⟨v3, rfl, s3, g3⟩ := RP.out _ _ _ h3
    have G3 := Lib.hid (G2.out.trans g3)
    have K3 := Lib.hid (K2.out.gr g3)
    have S3 := Lib.hid s3
    clear h3 g3 s3
    go_wp2_with (first | (refine wpList_loadE wanTy _ rfl rfl rfl K3.out EN.out ?_) | fail)
    refine (DPUT.out SH.out w3 G3.out).mono ?_
    intro en w4 h4
    obtain ⟨v4, rfl, s4, g4⟩ := RP.out _ _ _ h4
    have G4 := Lib.hid (G3.out.trans g4)
    have r1 := run_string_sl (P := Try.prog) 28 5 9 Try.underlying28 Try.underlying5 Try.underlying9 (S3.out.below g4)
    have r2 := run_string_sl (P := Try.prog) 28 5 9 Try.underlying28 Try.underlying5 Try.underlying9 s4
    obtain ⟨a3, c3, hv3⟩ := S3.out.oneCells
    obtain ⟨a4, c4, hv4⟩ := s4.oneCells
    rw [bytes_length] at hv3 hv4
    subst hv3 hv4
    clear h4 g4 s4 S3
    go_wp2_with fail
    refine (tells_any w4).mono ?_
    rintro en w5 ⟨rfl, g5⟩
    have G5 := Lib.hid (G4.out.trans g5)
    clear g5
    go_wp2
    go_ret
    exact ⟨rfl, G5.out⟩
open Go.ChangeShapes Go.WideShapes Go.ChangeAt Go.RowKit
open Go.ChangeMaps (open_string shut_string)
theorem own_wanPuts : ownKnob Try.prog.godebug = none := by kernel_rfl
theorem laidOut_wanPuts : laidOutB Try.prog = true := by kernel_rfl
set_option maxRecDepth 100000 in
theorem lifted_wanPuts (os : Os) (started : os.Started) (H : Type) (enc : TypeId × Value → H) :
    ReturnsInHanded {} Try.checked os 3 .any (Rows.wanPutsSpec.pre6 enc Try.prog Try.f3 Rows.wanPutsRow.domain false) (Rows.wanPutsSpec.post enc Try.prog Try.f3 false true false false) := by
  refine returnsInHanded_of_change (C := Try.checked) own_wanPuts started (by kernel_rfl) Try.func3
    (ChangeSpec.witness6 (enc := enc) (C := Try.checked) false ⟨#[], #[.agg #[.int .u8 0, .int .i64 0, .slice none 0 0, .slice none 0 0, .int .i64 0, .int .u64 0, .slice none 0 0]], []⟩ 8 (by kernel_rfl) (by kernel_rfl) (by kernel_rfl) (by kernel_rfl)) ?_
  intro W base args ds gs before hval0 hW hcnd _
  have hval : ∀ (j : Nat) t v, Try.f3.params[j]? = some t → args[j]? = some v → Value.okWide Try.prog W .any base t v := hval0
  have hW' := hW
  obtain ⟨p, q, hA0, hV, rfl, hfz, hnd⟩ := hW
  have hA : DataW.TrodAll enc Try.prog W 0 (fun _ => true) true Try.f3.params.toList args.toList ds p := hA0
  rw [Try.params3] at hA hval
  obtain ⟨v0, vs0, d0, ds0, p0, q0, hargs, rfl, rfl, k0, r0⟩ := trodAll_cons hA
  obtain ⟨rfl, rfl, rfl⟩ := trodAll_nil r0
  obtain rfl : args = #[v0] := by cases args; simp_all
  obtain ⟨rfl, rfl⟩ := trodVars_none hV
  have lt0 : ∀ x ∈ p0, x.block < W.heap.size := by obtain ⟨m, hm⟩ := k0; exact DataW.trod_lt m _ _ _ hm
  obtain ⟨x0, a0, b0, c0, hv0, ok0, pp0⟩ := open_wan (hval 0 26 v0 rfl rfl) k0
  subst hv0
  clear hA0 hval0
  refine (puts_walk W x0 a0 b0 c0 pp0 ok0).mono fun e W' ⟨he, bel⟩ => ?_
  subst he
  exact ⟨_, rfl, _, _, _, [], _, [], hW', trodAll_mk1 (shut_bool Try.underlying4 _), (trodAll_cons_mk (Below.trod laidOut_wanPuts (by kernel_rfl) (of_decide_eq_true (by kernel_rfl)) k0 bel lt0) trodAll_mk0), rfl, bel.frame _, fun h => by cases h⟩
theorem over_wanPuts : Rows.wanPutsRow.holds Try.pinned (OpenSpec.ofChange Rows.wanPutsSpec) :=
  OpenClaim.holds_of_wide 3 Try.f3 rfl rfl rfl rfl rfl rfl rfl ⟨rfl, rfl, rfl, rfl, rfl⟩ rfl rfl rfl rfl rfl (by kernel_rfl) Try.func3 (by kernel_rfl)
    (of_decide_eq_true (by kernel_rfl)) (by unfold Func.isWrapper; first | (rw [if_pos (by decide +kernel)]; kernel_rfl) | (rw [if_neg (by decide +kernel)]; exact ⟨rfl, rfl⟩))
    (fun os started H enc _ => lifted_wanPuts os started H enc)
theorem wanPuts_proved : Rows.WanPutsSaid := over_wanPuts
#print axioms wanPuts_proved
end Go.Proofs.Ytgilijkmmcpfjaa
