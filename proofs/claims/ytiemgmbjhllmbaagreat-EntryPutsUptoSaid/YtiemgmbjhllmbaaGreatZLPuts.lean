/-
  EntryPuts: every Put answers as the document does; what is handed in stays. Where what is handed in is of bulk at most 1048576.
-/
import Derived.Test.YtiemgmbjhllmbaaGreatZO
import Derived.Test.YtiemgmbjhllmbaaGreatZEHeavy
import Derived.Test.YtiemgmbjhllmbaaGreatZEOpen2
import Derived.JoinedCond
set_option linter.unusedVariables false
set_option linter.unusedSimpArgs false
set_option maxRecDepth 100000
namespace Go.Proofs.YtiemgmbjhllmbaaGreat
open Go.RowKit
set_option maxHeartbeats 8000000 in
theorem puts_walk (w : World) (x : EntD) (q : EntV) (hp : EntP Any w x q) (ok : EntOk x) (big : EntBig x) :
    Calls Tryz.prog 3 #[.agg (entCells x q).toArray] w fun e w' => e = .returned (.bool true) ∧ Below w.heap.size w w' := by
  have PUT : Hid (∀ W, Gr w W → Calls Tryz.prog 9 #[.agg (entCells x q).toArray] W (RetPut W x)) := Lib.hid fun W hW => put_any W x q (hp.gr hW) ok big
  have DPUT : Hid (EntShort x → ∀ W, Gr w W → Calls Tryz.prog 10 #[.agg (entCells x q).toArray] W (RetPut W x)) := Lib.hid fun h W hW => dput_any W x q (hp.gr hW) ok big h
  have HEAVY : Hid (∀ W, Gr w W → Calls Tryz.prog 8 #[.agg (entCells x q).toArray] W (NotThen (EntShort x) W)) := Lib.hid fun W hW => heavy_any W x q (hp.gr hW)
  obtain ⟨cL, hcL⟩ : ∃ cL, cL = (putV x).1 := ⟨_, rfl⟩
  obtain ⟨pe, hpe⟩ : ∃ pe, pe = (putV x).2 := ⟨_, rfl⟩
  have RP : Hid (∀ W e W', RetPut W x e W' → ∃ v, e = .returned (.tuple #[v, .int .i64 pe]) ∧ Sl W' v (bytes cL) ∧ Gr W W') := Lib.hid fun W e W' h => by rw [hcL, hpe]; exact h
  obtain ⟨E, hE⟩ : ∃ E, E = entCells x q := ⟨_, rfl⟩
  have EN : Hid (E.length = 23) := Lib.hid (by rw [hE]; rfl)
  rw [← hE] at PUT DPUT HEAVY ⊢
  obtain ⟨PP, hPP⟩ : ∃ PP : Prop, PP = EntShort x := ⟨_, rfl⟩
  rw [← hPP] at DPUT HEAVY
  clear hcL hpe hE hPP hp ok big
  go_enter Tryz.func3, Tryz.ntmps3
  go_wp2_with (first | (refine wpList_boxE _ rfl rfl rfl ?_) | fail)
  intro w1 k1 g1 n1
  obtain ⟨b1, hb1⟩ : ∃ b1, b1 = w.heap.size := ⟨_, rfl⟩
  rw [← hb1]
  rw [← hb1] at k1
  have KE := Lib.hid k1
  have GG := Lib.hid g1
  clear k1 g1 n1 hb1
  go_wp2_with (first | (refine wpList_loadE entTy _ rfl rfl rfl KE.out EN.out ?_) | fail)
  refine (HEAVY.out w1 GG.out).mono ?_
  rintro en w2 ⟨z, rfl, hz, g2⟩
  have G2 := Lib.hid (GG.out.trans g2)
  have K2 := Lib.hid (KE.out.gr g2)
  cases z with
  | true =>
    clear hz g2
    go_wp2
    go_ret
    exact ⟨rfl, G2.out⟩
  | false =>
    have SH := Lib.hid (hz rfl)
    clear hz g2
    go_wp2_with (first | (refine wpList_loadE entTy _ rfl rfl rfl K2.out EN.out ?_) | fail)
    refine (PUT.out w2 G2.out).mono ?_
    intro en w3 h3
    obtain ⟨v3, rfl, s3, g3⟩ := RP.out _ _ _ h3
    have G3 := Lib.hid (G2.out.trans g3)
    have K3 := Lib.hid (K2.out.gr g3)
    have S3 := Lib.hid s3
    clear h3 g3 s3
    go_wp2_with (first | (refine wpList_loadE entTy _ rfl rfl rfl K3.out EN.out ?_) | fail)
    refine (DPUT.out SH.out w3 G3.out).mono ?_
    intro en w4 h4
    obtain ⟨v4, rfl, s4, g4⟩ := RP.out _ _ _ h4
    have G4 := Lib.hid (G3.out.trans g4)
    have r1 := run_string_sl (P := Tryz.prog) 25 5 9 Tryz.underlying25 Tryz.underlying5 Tryz.underlying9 (S3.out.below g4)
    have r2 := run_string_sl (P := Tryz.prog) 25 5 9 Tryz.underlying25 Tryz.underlying5 Tryz.underlying9 s4
    obtain ⟨a3, c3, hv3⟩ := S3.out.oneCells
    obtain ⟨a4, c4, hv4⟩ := s4.oneCells
    rw [bytes_length] at hv3 hv4
    subst hv3 hv4
    clear h4 g4 s4 S3
    go_wp2_with fail
    refine (tells_any w4).mono ?_
    rintro en w5 ⟨rfl, g5⟩
    have G5 := Lib.hid (G4.out.trans g5)
    clear g5
    go_wp2
    go_ret
    exact ⟨rfl, G5.out⟩
open Go.ChangeShapes Go.WideShapes Go.ChangeAt Go.RowKit
open Go.ChangeMaps (open_string shut_string)
theorem own_entryPuts : ownKnob Tryz.prog.godebug = none := by kernel_rfl
theorem laidOut_entryPuts : laidOutB Tryz.prog = true := by kernel_rfl
set_option maxRecDepth 100000 in
theorem lifted_entryPuts (os : Os) (started : os.Started) (H : Type) (enc : TypeId × Value → H) (F : Stop.Interp) :
    ReturnsInHanded {} Tryz.checked os 3 .any ((Rows.OpenSpec.upto Rows.entryPutsSpec).pre6 enc Tryz.prog Tryz.f3 Rows.entryPutsUptoRow.domain false) (((Rows.OpenSpec.upto Rows.entryPutsSpec).at F).post enc Tryz.prog Tryz.f3 false true false false) := by
  refine returnsInHanded_of_cond (C := Tryz.checked) (s := Rows.OpenSpec.upto Rows.entryPutsSpec) (k := Rows.uptoSmall) rfl own_entryPuts started (by kernel_rfl) Tryz.func3
    (OpenSpec.witness (enc := enc) (C := Tryz.checked) (s := Rows.OpenSpec.upto Rows.entryPutsSpec) (k := Rows.uptoSmall) rfl false ⟨#[], #[.agg #[.int .u8 0, .int .u32 0, .int .u32 0, .int .i64 0, .int .u32 0, .int .u8 0, .string ⟨#[]⟩, .slice none 0 0, .int .i64 0, .bool false, .bool false, .slice none 0 0, .int .i64 0, .int .u64 0, .int .i64 0, .int .u64 0, .slice none 0 0, .slice none 0 0, .int .u32 0, .int .i64 0, .int .i64 0, .int .u64 0, .slice none 0 0]], []⟩ 8 (by kernel_rfl) (by kernel_rfl) (by kernel_rfl)
      (x := ([.agg [.lit (.int .u8 0), .lit (.int .u32 0), .lit (.int .u32 0), .agg [.lit (.int .i64 0), .lit (.int .u32 0)], .agg [.lit (.int .u8 0), .lit (.string []), .nil, .lit (.int .i64 0), .lit (.bool false), .lit (.bool false), .nil], .agg [.lit (.int .i64 0), .lit (.int .u64 0), .lit (.int .i64 0), .lit (.int .u64 0), .nil, .nil, .lit (.int .u32 0)], .lit (.int .i64 0), .lit (.int .i64 0), .lit (.int .u64 0), .nil]], [], [])) (by kernel_rfl) rfl (by kernel_rfl)) ?_
  intro W base args ds gs before hval0 hW _ hk0 _
  have hk1 : Rows.uptoBulkAll (ds ++ gs) ≤ 1048576 := of_decide_eq_true hk0
  clear hk0
  have hval : ∀ (j : Nat) t v, Tryz.f3.params[j]? = some t → args[j]? = some v → Value.okWide Tryz.prog W .any base t v := hval0
  have hW' := hW
  obtain ⟨p, q, hA0, hV, rfl, hfz, hnd⟩ := hW
  have hA : DataW.TrodAll enc Tryz.prog W 0 (fun _ => true) true Tryz.f3.params.toList args.toList ds p := hA0
  rw [Tryz.params3] at hA hval
  obtain ⟨v0, vs0, d0, ds0, p0, q0, hargs, rfl, rfl, k0, r0⟩ := trodAll_cons hA
  obtain ⟨rfl, rfl, rfl⟩ := trodAll_nil r0
  obtain rfl : args = #[v0] := by cases args; simp_all
  obtain ⟨rfl, rfl⟩ := trodVars_none hV
  have lt0 : ∀ x ∈ p0, x.block < W.heap.size := by obtain ⟨m, hm⟩ := k0; exact DataW.trod_lt m _ _ _ hm
  obtain ⟨x0, e0, hv0, ok0, p0', b0⟩ := open_ent (hval 0 35 v0 rfl rfl) k0
  clear hA0 hval0
  have hk : Rows.uptoBulk d0 ≤ 1048576 := by simpa [Rows.uptoBulkAll, Nat.add_assoc] using hk1
  clear hk1
  subst hv0
  refine (puts_walk W x0 e0 p0' ok0 (b0.big (by omega))).mono fun e W' ⟨he, bel⟩ => ?_
  subst he
  exact ⟨_, rfl, _, _, _, [], _, [], hW', trodAll_mk1 (shut_bool Tryz.underlying4 _), (trodAll_cons_mk (Below.trod laidOut_entryPuts (by kernel_rfl) (of_decide_eq_true (by kernel_rfl)) k0 bel lt0) trodAll_mk0), rfl, bel.frame _, fun h => by cases h⟩
theorem entryPuts_proved : Rows.EntryPutsUptoSaid :=
  OpenClaim.holds_of_cond 3 Tryz.f3 rfl rfl rfl rfl rfl rfl rfl ⟨rfl, rfl, rfl, rfl, rfl⟩ rfl rfl rfl rfl rfl (by kernel_rfl) Tryz.func3 (by kernel_rfl)
    (of_decide_eq_true (by kernel_rfl)) (by unfold Func.isWrapper; first | (rw [if_pos (by decide +kernel)]; kernel_rfl) | (rw [if_neg (by decide +kernel)]; exact ⟨rfl, rfl⟩))
    (fun os started H enc _ F => lifted_entryPuts os started H enc F)
#print axioms entryPuts_proved
end Go.Proofs.YtiemgmbjhllmbaaGreat
