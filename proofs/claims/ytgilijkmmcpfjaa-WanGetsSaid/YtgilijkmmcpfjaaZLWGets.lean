/-
  WanGets: every Get answers as the document does; what is handed in stays. Every input (the law looks at up to 5,000 bytes); no conditions.
-/
import Derived.Test.YtgilijkmmcpfjaaZU
import Derived.Test.YtgilijkmmcpfjaaZR
set_option linter.unusedVariables false
set_option linter.unusedSimpArgs false
set_option maxRecDepth 100000
namespace Go.Proofs.Ytgilijkmmcpfjaa
open Go.RowKit
set_option maxHeartbeats 4000000 in
theorem gets_walk (w : World) (vb : Value) (l : List UInt8) (hl : Sl w vb (bytes l)) (hlen : l.length ≤ maxLen) :
    Calls Try.prog 4 #[vb] w fun e w' => e = .returned (.bool true) ∧ Below w.heap.size w w' := by
  obtain ⟨ab, cb, rfl⟩ := hl.oneCells
  rw [bytes_length] at hl ⊢
  have hmx : l.length ≤ 9223372036854775807 := Nat.le_trans hlen (by decide)
  by_cases h6 : 5000 < l.length
  · have hi : (5000 : Int) < (l.length : Int) := by omega
    clear hlen
    go_enter Try.func4, Try.ntmps4
    go_wp2
    go_ret
    exact ⟨rfl, Below.refl _ _⟩
  have hi : (l.length : Int) ≤ 5000 := by omega
  have SL := Lib.hid fun W (hW : Gr w W) => hl.below hW
  have HL5 : Hid (l.length ≤ 5000) := Lib.hid (by omega)
  obtain ⟨hsh, -, -⟩ := getW_all l
  have SAME : Hid (∀ W q1 q2, wP Any W (getW l).1 q1 → wP Any W (getW l).1 q2 → Calls Try.prog 15 #[.agg (wC (getW l).1 q1).toArray, .agg (wC (getW l).1 q2).toArray] W (fun e w' => e = .returned (.bool true) ∧ Gr W w')) := Lib.hid fun W q1 q2 h1 h2 => (wan_says W _ _ _ _ _ _ _ _ h1 h2 hsh hsh).mono fun e w' ⟨z, he, hz, hg⟩ => ⟨by rw [he, hz.2 rfl], hg⟩
  obtain ⟨x, hx⟩ : ∃ x, x = (getW l).1 := ⟨_, rfl⟩
  obtain ⟨ne, hne⟩ : ∃ ne, ne = (getW l).2 := ⟨_, rfl⟩
  have RG : Hid (∀ W e W', RetGetW W l e W' → ∃ q, e = .returned (.tuple #[.agg (wC x q).toArray, .int .i64 ne]) ∧ wP (From W.heap.size) W' x q ∧ Gr W W') := Lib.hid fun W e W' h => by rw [hx, hne]; exact retGetW3 h
  rw [← hx] at SAME
  clear hx hne hsh hl hlen h6
  go_enter Try.func4, Try.ntmps4
  go_wp2_with fail
  refine (getW_any w _ l (SL.out w (Gr.refl w)) (by have := HL5.out; omega)).mono ?_
  intro en w2 hr2
  obtain ⟨q2, rfl, p2, g2⟩ := RG.out _ _ _ hr2
  have P2 := Lib.hid (p2.mono (fun _ _ => trivial) : wP Any w2 x q2)
  obtain ⟨E, hE⟩ : ∃ E, E = wC x q2 := ⟨_, rfl⟩
  have EN : Hid (E.length = 7) := Lib.hid (by rw [hE]; rfl)
  have E1 : Hid (oneAll E) := Lib.hid (by rw [hE]; exact p2.one)
  have HE := Lib.hid hE
  have G2 := Lib.hid g2
  rw [← hE]
  clear hr2 p2 g2 hE
  go_wp2_with (first | (refine wpList_storeE wanTy _ _ rfl rfl rfl rfl (CellsAt.new _ _ _) EN.out rfl E1.out ?_) | fail)
  intro w3 k3 ch3
  have g3 : Gr w2 w3 := Below.trans ((Gr.refl w2).alloc _) (ch3.below ((Gr.refl w2).alloc _).size (fun k hk => by have : k = w2.heap.size := hk; omega))
  have K3 := Lib.hid k3
  have P3 := Lib.hid (P2.out.gr g3)
  have G3 := Lib.hid (G2.out.trans g3)
  clear k3 ch3 g3 P2 G2
  go_wp2_with fail
  refine (dgetW_any w3 _ l (SL.out w3 G3.out) (by have := HL5.out; omega)).mono ?_
  intro en w4 hr4
  obtain ⟨q4, rfl, p4, g4⟩ := RG.out _ _ _ hr4
  have P4 := Lib.hid (p4.mono (fun _ _ => trivial) : wP Any w4 x q4)
  obtain ⟨F, hF⟩ : ∃ F, F = wC x q4 := ⟨_, rfl⟩
  have FN : Hid (F.length = 7) := Lib.hid (by rw [hF]; rfl)
  have F1 : Hid (oneAll F) := Lib.hid (by rw [hF]; exact p4.one)
  have HF := Lib.hid hF
  have G4 := Lib.hid (G3.out.trans g4)
  have K4 := Lib.hid (K3.out.gr g4)
  have P34 := Lib.hid (P3.out.gr g4)
  rw [← hF]
  clear hr4 p4 g4 hF K3 P3 G3
  go_wp2_with (first | (refine wpList_storeE wanTy _ _ rfl rfl rfl rfl (CellsAt.new _ _ _) FN.out rfl F1.out ?_) | fail)
  intro w5 k5 ch5
  have g5 : Gr w4 w5 := Below.trans ((Gr.refl w4).alloc _) (ch5.below ((Gr.refl w4).alloc _).size (fun k hk => by have : k = w4.heap.size := hk; omega))
  have K5 := Lib.hid k5
  have P5 := Lib.hid (P4.out.gr g5)
  have P35 := Lib.hid (P34.out.gr g5)
  have K45 := Lib.hid (K4.out.gr g5)
  have G5 := Lib.hid (G4.out.trans g5)
  clear k5 ch5 g5 P4 P34 K4 G4
  go_wp2_with (first | (refine wpList_loadE wanTy _ rfl rfl rfl K45.out EN.out ?_) | (refine wpList_loadE wanTy _ rfl rfl rfl K5.out FN.out ?_) | fail)
  rw [HE.out, HF.out]
  refine (SAME.out w5 q2 q4 P35.out P5.out).mono ?_
  rintro en w6 ⟨rfl, g6⟩
  rw [← HE.out, ← HF.out]
  have G6 := Lib.hid (G5.out.trans g6)
  clear g6
  go_wp2_with fail
  refine (tells_any w6).mono ?_
  rintro en w7 ⟨rfl, g7⟩
  have G7 := Lib.hid (G6.out.trans g7)
  clear g7
  go_wp2
  go_ret
  exact ⟨rfl, G7.out⟩
open Go.ChangeShapes Go.WideShapes Go.ChangeAt Go.RowKit
open Go.ChangeMaps (open_string shut_string)
theorem own_wanGets : ownKnob Try.prog.godebug = none := by kernel_rfl
theorem laidOut_wanGets : laidOutB Try.prog = true := by kernel_rfl
set_option maxRecDepth 100000 in
theorem lifted_wanGets (os : Os) (started : os.Started) (H : Type) (enc : TypeId × Value → H) :
    ReturnsInHanded {} Try.checked os 4 .any (Rows.wanGetsSpec.pre6 enc Try.prog Try.f4 Rows.wanGetsRow.domain false) (Rows.wanGetsSpec.post enc Try.prog Try.f4 false true false false) := by
  refine returnsInHanded_of_change (C := Try.checked) own_wanGets started (by kernel_rfl) Try.func4
    (ChangeSpec.witness6 (enc := enc) (C := Try.checked) false ⟨#[], #[.slice none 0 0], []⟩ 8 (by kernel_rfl) (by kernel_rfl) (by kernel_rfl) (by kernel_rfl)) ?_
  intro W base args ds gs before hval0 hW hcnd _
  have hval : ∀ (j : Nat) t v, Try.f4.params[j]? = some t → args[j]? = some v → Value.okWide Try.prog W .any base t v := hval0
  have hW' := hW
  obtain ⟨p, q, hA0, hV, rfl, hfz, hnd⟩ := hW
  have hA : DataW.TrodAll enc Try.prog W 0 (fun _ => true) true Try.f4.params.toList args.toList ds p := hA0
  rw [Try.params4] at hA hval
  obtain ⟨v0, vs0, d0, ds0, p0, q0, hargs, rfl, rfl, k0, r0⟩ := trodAll_cons hA
  obtain ⟨rfl, rfl, rfl⟩ := trodAll_nil r0
  obtain rfl : args = #[v0] := by cases args; simp_all
  obtain ⟨rfl, rfl⟩ := trodVars_none hV
  have lt0 : ∀ x ∈ p0, x.block < W.heap.size := by obtain ⟨m, hm⟩ := k0; exact DataW.trod_lt m _ _ _ hm
  obtain ⟨l0, s0, w0⟩ := open_bytes Try.underlying28 Try.underlying5 (by kernel_rfl) (hval 0 28 v0 rfl rfl) k0
  clear hA0 hval0
  refine (gets_walk W v0 l0 s0 w0).mono fun e W' ⟨he, bel⟩ => ?_
  subst he
  exact ⟨_, rfl, _, _, _, [], _, [], hW', trodAll_mk1 (shut_bool Try.underlying4 _), (trodAll_cons_mk (Below.trod laidOut_wanGets (by kernel_rfl) (of_decide_eq_true (by kernel_rfl)) k0 bel lt0) trodAll_mk0), rfl, bel.frame _, fun h => by cases h⟩
theorem over_wanGets : Rows.wanGetsRow.holds Try.pinned (OpenSpec.ofChange Rows.wanGetsSpec) :=
  OpenClaim.holds_of_wide 4 Try.f4 rfl rfl rfl rfl rfl rfl rfl ⟨rfl, rfl, rfl, rfl, rfl⟩ rfl rfl rfl rfl rfl (by kernel_rfl) Try.func4 (by kernel_rfl)
    (of_decide_eq_true (by kernel_rfl)) (by unfold Func.isWrapper; first | (rw [if_pos (by decide +kernel)]; kernel_rfl) | (rw [if_neg (by decide +kernel)]; exact ⟨rfl, rfl⟩))
    (fun os started H enc _ => lifted_wanGets os started H enc)
theorem wanGets_proved : Rows.WanGetsSaid := over_wanGets
#print axioms wanGets_proved
end Go.Proofs.Ytgilijkmmcpfjaa
