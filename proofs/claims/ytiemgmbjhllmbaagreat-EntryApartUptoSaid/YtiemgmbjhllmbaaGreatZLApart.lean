/-
  EntryApart: unlike entries have unlike bytes, like ones the same; what is handed in stays. Where what is handed in is of bulk at most 1048576 together.
-/
import Derived.Test.YtiemgmbjhllmbaaGreatZLBackP
import Derived.Test.YtiemgmbjhllmbaaGreatZEHeavy
import Derived.Test.YtiemgmbjhllmbaaGreatZEOpen2
import Derived.JoinedCond
set_option linter.unusedVariables false
set_option linter.unusedSimpArgs false
set_option maxRecDepth 100000
namespace Go.Proofs.YtiemgmbjhllmbaaGreat
open Go.RowKit
theorem apart_facts {x y : EntD} (hx : EntOk x) (bx : EntBig x) (hy : EntOk y) (by_ : EntBig y) (h1 : (putV x).2 = 0) (h2 : (putV y).2 = 0) : mayX x ∧ ((putV x).1 = (putV y).1 ↔ x = y) := by
  have m1 := ((putV_zero hx bx.fit (by decide)).1 h1)
  have m2 := ((putV_zero hy by_.fit (by decide)).1 h2)
  have e1 : (putV x).1 = tellB x := by rw [putV_may hx bx.fit (by decide) m1.1, if_neg (by omega)]
  have e2 : (putV y).1 = tellB y := by rw [putV_may hy by_.fit (by decide) m2.1, if_neg (by omega)]
  refine ⟨m1.1, ?_⟩
  rw [e1, e2]
  exact ⟨tell_apart hx m1.1 hy m2.1, fun e => by rw [e]⟩
set_option maxHeartbeats 8000000 in
theorem apart_walk (w : World) (x y : EntD) (q1 q2 : EntV) (hp1 : EntP Any w x q1) (hp2 : EntP Any w y q2) (ok1 : EntOk x) (ok2 : EntOk y) (big1 : EntBig x) (big2 : EntBig y) :
    Calls Tryz.prog 7 #[.agg (entCells x q1).toArray, .agg (entCells y q2).toArray] w fun e w' => e = .returned (.bool true) ∧ Below w.heap.size w w' := by
  have PUT1 : Hid (∀ W, Gr w W → Calls Tryz.prog 9 #[.agg (entCells x q1).toArray] W (RetPut W x)) := Lib.hid fun W hW => put_any W x q1 (hp1.gr hW) ok1 big1
  have HEAVY1 : Hid (∀ W, Gr w W → Calls Tryz.prog 8 #[.agg (entCells x q1).toArray] W (NotThen (EntShort x) W)) := Lib.hid fun W hW => heavy_any W x q1 (hp1.gr hW)
  obtain ⟨L1, hL1⟩ : ∃ L, L = (putV x).1 := ⟨_, rfl⟩
  obtain ⟨pe1, hpe1⟩ : ∃ pe, pe = (putV x).2 := ⟨_, rfl⟩
  have RP1 : Hid (∀ W e W', RetPut W x e W' → ∃ v, e = .returned (.tuple #[v, .int .i64 pe1]) ∧ Sl W' v (bytes L1) ∧ Gr W W') := Lib.hid fun W e W' h => by rw [hL1, hpe1]; exact h
  have PUT2 : Hid (∀ W, Gr w W → Calls Tryz.prog 9 #[.agg (entCells y q2).toArray] W (RetPut W y)) := Lib.hid fun W hW => put_any W y q2 (hp2.gr hW) ok2 big2
  have HEAVY2 : Hid (∀ W, Gr w W → Calls Tryz.prog 8 #[.agg (entCells y q2).toArray] W (NotThen (EntShort y) W)) := Lib.hid fun W hW => heavy_any W y q2 (hp2.gr hW)
  obtain ⟨L2, hL2⟩ : ∃ L, L = (putV y).1 := ⟨_, rfl⟩
  obtain ⟨pe2, hpe2⟩ : ∃ pe, pe = (putV y).2 := ⟨_, rfl⟩
  have RP2 : Hid (∀ W e W', RetPut W y e W' → ∃ v, e = .returned (.tuple #[v, .int .i64 pe2]) ∧ Sl W' v (bytes L2) ∧ Gr W W') := Lib.hid fun W e W' h => by rw [hL2, hpe2]; exact h
  obtain ⟨sm, hsm⟩ : ∃ sm : Bool, sm = true ↔ x = y := by
    by_cases h : x = y
    · exact ⟨true, fun _ => h, fun _ => rfl⟩
    · exact ⟨false, fun e => (by cases e), fun e => absurd e h⟩
  have SAME : Hid (EntShort x → EntShort y → mayX x → ∀ W, Gr w W → Calls Tryz.prog 14 #[.agg (entCells x q1).toArray, .agg (entCells y q2).toArray] W (fun e w' => e = .returned (.bool sm) ∧ Gr W w')) := Lib.hid fun h1 h2 hm W hW => (ent_says W x y q1 q2 (hp1.gr hW) (hp2.gr hW) h1 h2).mono fun e w' ⟨z, he, hz, hg⟩ => ⟨by
    have : z = sm := by rw [Bool.eq_iff_iff, hz, hsm]; exact ⟨fun h => h.1, fun h => ⟨h, mayX_flat hm⟩⟩
    rw [he, this], hg⟩
  have FACTS : Hid (pe1 = 0 → pe2 = 0 → mayX x ∧ (L1 == L2) = sm) := Lib.hid fun h1 h2 => by
    rw [hpe1] at h1
    rw [hpe2] at h2
    obtain ⟨f1, f2⟩ := apart_facts ok1 big1 ok2 big2 h1 h2
    refine ⟨f1, ?_⟩
    rw [Bool.eq_iff_iff, hsm, ← f2, hL1, hL2, beq_iff_eq]
  obtain ⟨E1, hE1⟩ : ∃ E, E = entCells x q1 := ⟨_, rfl⟩
  obtain ⟨E2, hE2⟩ : ∃ E, E = entCells y q2 := ⟨_, rfl⟩
  have EN1 : Hid (E1.length = 23) := Lib.hid (by rw [hE1]; rfl)
  have EN2 : Hid (E2.length = 23) := Lib.hid (by rw [hE2]; rfl)
  rw [← hE1] at PUT1 HEAVY1 SAME ⊢
  rw [← hE2] at PUT2 HEAVY2 SAME ⊢
  obtain ⟨PP1, hPP1⟩ : ∃ PP : Prop, PP = EntShort x := ⟨_, rfl⟩
  obtain ⟨PP2, hPP2⟩ : ∃ PP : Prop, PP = EntShort y := ⟨_, rfl⟩
  rw [← hPP1] at HEAVY1 SAME
  rw [← hPP2] at HEAVY2 SAME
  clear hL1 hL2 hpe1 hpe2 hE1 hE2 hp1 hp2 ok1 ok2 big1 big2 hPP1 hPP2 hsm
  go_enter Tryz.func7, Tryz.ntmps7
  go_wp2_with (first | (refine wpList_boxE _ rfl rfl rfl ?_) | fail)
  intro w0 k0 g0 n0
  have K0 := Lib.hid k0
  have G0 := Lib.hid g0
  clear k0 g0
  go_wp2_with (first | (refine wpList_boxE _ rfl rfl rfl ?_) | fail)
  intro w1 k1 g1 n1
  obtain ⟨b1, hb1⟩ : ∃ b1, b1 = w.heap.size := ⟨_, rfl⟩
  obtain ⟨b2, hb2⟩ : ∃ b2, b2 = w.heap.size + 1 := ⟨_, rfl⟩
  rw [← hb1] at K0
  rw [← hb2] at k1
  have KA := Lib.hid (K0.out.gr g1)
  have KB := Lib.hid k1
  have GG := Lib.hid (G0.out.trans g1)
  have HB1 : Hid (w.heap.size = b1) := Lib.hid hb1.symm
  have HB2 : Hid (w.heap.size + 1 = b2) := Lib.hid hb2.symm
  try rw [HB2.out]
  try rw [HB1.out]
  clear K0 G0 k1 g1 n0 n1 hb1 hb2
  go_wp2_with (first | (refine wpList_loadE entTy _ rfl rfl rfl KA.out EN1.out ?_) | fail)
  refine (HEAVY1.out w1 GG.out).mono ?_
  rintro en w2 ⟨z1, rfl, hz1, g2⟩
  have G2 := Lib.hid (GG.out.trans g2)
  have KA2 := Lib.hid (KA.out.gr g2)
  have KB2 := Lib.hid (KB.out.gr g2)
  cases z1 with
  | true =>
    clear hz1 g2
    go_wp2
    go_ret
    exact ⟨rfl, G2.out⟩
  | false =>
  have SH1 := Lib.hid (hz1 rfl)
  clear hz1 g2 KA KB
  go_wp2_with (first | (refine wpList_loadW entTy _ rfl rfl rfl KB2.out EN2.out ?_) | fail)
  refine (HEAVY2.out w2 G2.out).mono ?_
  rintro en w3 ⟨z2, rfl, hz2, g3⟩
  have G3 := Lib.hid (G2.out.trans g3)
  have KA3 := Lib.hid (KA2.out.gr g3)
  have KB3 := Lib.hid (KB2.out.gr g3)
  cases z2 with
  | true =>
    clear hz2 g3
    go_wp2
    go_ret
    exact ⟨rfl, G3.out⟩
  | false =>
  have SH2 := Lib.hid (hz2 rfl)
  clear hz2 g3 KA2 KB2
  go_wp2_with (first | (refine wpList_loadE entTy _ rfl rfl rfl KA3.out EN1.out ?_) | fail)
  refine (PUT1.out w3 G3.out).mono ?_
  intro en w4 h4
  obtain ⟨v4, rfl, s4, g4⟩ := RP1.out _ _ _ h4
  obtain ⟨a4, c4, hv4⟩ := s4.oneCells
  rw [bytes_length] at hv4
  subst hv4
  have G4 := Lib.hid (G3.out.trans g4)
  have S4 := Lib.hid s4
  have KA4 := Lib.hid (KA3.out.gr g4)
  have KB4 := Lib.hid (KB3.out.gr g4)
  clear h4 g4 s4 KA3 KB3
  go_wp2_with (first | (refine wpList_loadE entTy _ rfl rfl rfl KB4.out EN2.out ?_) | fail)
  refine (PUT2.out w4 G4.out).mono ?_
  intro en w5 h5
  obtain ⟨v5, rfl, s5, g5⟩ := RP2.out _ _ _ h5
  obtain ⟨a5, c5, hv5⟩ := s5.oneCells
  rw [bytes_length] at hv5
  subst hv5
  have G5 := Lib.hid (G4.out.trans g5)
  have S5 := Lib.hid s5
  have KA5 := Lib.hid (KA4.out.gr g5)
  have KB5 := Lib.hid (KB4.out.gr g5)
  have S45 := Lib.hid (S4.out.below g5)
  clear h5 g5 s5 KA4 KB4 S4
  by_cases hz : pe1 = 0
  rotate_left
  · have hzz : (pe1 == 0) = false := by simp; exact hz
    go_wp2_with fail
    refine (tells_any w5).mono ?_
    rintro en wt ⟨rfl, gt⟩
    have Gt := Lib.hid (G5.out.trans gt)
    clear gt
    go_wp2
    go_ret
    exact ⟨rfl, Gt.out⟩
  by_cases hy : pe2 = 0
  rotate_left
  · have hzz : (pe2 == 0) = false := by simp; exact hy
    subst hz
    go_wp2_with fail
    refine (tells_any w5).mono ?_
    rintro en wt ⟨rfl, gt⟩
    have Gt := Lib.hid (G5.out.trans gt)
    clear gt
    go_wp2
    go_ret
    exact ⟨rfl, Gt.out⟩
  subst hz hy
  obtain ⟨hm, hst⟩ := FACTS.out (by trivial) (by trivial)
  have SM := Lib.hid (SAME.out SH1.out SH2.out hm)
  have HST := Lib.hid hst
  clear hm hst FACTS
  have GD : Hid (Gr w5 w5.drew) := Lib.hid ((Gr.refl w5).drew)
  go_wp2_with fail
  apply wp_region_draw_grow (.eq _ :: .eq _ :: .eq _ :: .eq _ :: .eq _ :: .eq _ :: .eq _ :: .eq _ :: .eq _ :: .eq _ :: .eq _ :: .eq _ :: .eq _ :: []) (by kernel_rfl) (by kernel_rfl) trivial
  apply wpG_eq
  · intro W hW hs
    unfold opG
    go_simp
    first | exact resG_eq_mk _ _ _ | rfl
  simp only [Act.put, pt1, pt2, pt3]
  apply wpG_eq
  · intro W hW hs
    have r := run_string_sl (P := Tryz.prog) 25 5 9 Tryz.underlying25 Tryz.underlying5 Tryz.underlying9 (S45.out.below (GD.out.trans hW))
    unfold opG
    go_simp
    first | exact resG_eq_mk _ _ _ | rfl
  simp only [Act.put, pt1, pt2, pt3]
  apply wpG_eq
  · intro W hW hs
    unfold opG
    go_simp
    first | exact resG_eq_mk _ _ _ | rfl
  simp only [Act.put, pt1, pt2, pt3]
  apply wpG_eq
  · intro W hW hs
    have r := run_string_sl (P := Tryz.prog) 25 5 9 Tryz.underlying25 Tryz.underlying5 Tryz.underlying9 (S5.out.below (GD.out.trans hW))
    unfold opG
    go_simp
    first | exact resG_eq_mk _ _ _ | rfl
  simp only [Act.put, pt1, pt2, pt3]
  apply wpG_eq
  · intro W hW hs
    unfold opG
    go_simp
    first | exact resG_eq_mk _ _ _ | rfl
  simp only [Act.put, pt1, pt2, pt3]
  apply wpG_eq
  · intro W hW hs
    exact opG_load entTy _ rfl rfl rfl (KA5.out.gr (GD.out.trans hW)) EN1.out rfl
  simp only [Act.put, pt1, pt2, pt3]
  apply wpG_eq
  · intro W hW hs
    exact opG_load entTy _ rfl rfl rfl (KB5.out.gr (GD.out.trans hW)) EN2.out rfl
  simp only [Act.put, pt1, pt2, pt3]
  apply wpG_eq
  · intro W hW hs
    unfold opG
    go_simp
    refine resG_call ((SM.out W (G5.out.trans (GD.out.trans hW))).mono ?_)
    rintro en W2 ⟨rfl, g2⟩
    exact ⟨_, rfl, g2, rfl⟩
  simp only [Act.put, pt1, pt2, pt3]
  apply wpG_eq
  · intro W hW hs
    have hq : ((L1 == L2) == sm) = true := by rw [HST.out]; simp
    unfold opG
    go_simp
    first | exact resG_eq_mk _ _ _ | rfl
  simp only [Act.put, pt1, pt2, pt3]
  apply wpG_eq
  · intro W hW hs
    unfold opG
    go_simp
    first | exact resG_eq_mk _ _ _ | rfl
  simp only [Act.put, pt1, pt2, pt3]
  apply wpG_eq
  · intro W hW hs
    unfold opG
    go_simp
    refine resG_call ((tells_any W).mono ?_)
    rintro en W2 ⟨rfl, g2⟩
    exact ⟨_, rfl, g2, rfl⟩
  simp only [Act.put, pt1, pt2, pt3]
  iterate 2
   apply wpG_eq
   · intro W hW hs
     unfold opG
     go_simp
     first | exact resG_eq_mk _ _ _ | rfl
   simp only [Act.put, pt1, pt2, pt3]
  apply wpG_nil
  intro W9 hW9 hsAll
  clear hsAll
  have GZ := Lib.hid (G5.out.trans (GD.out.trans hW9))
  clear hW9
  go_wp2
  go_ret
  exact ⟨rfl, GZ.out⟩
open Go.ChangeShapes Go.WideShapes Go.ChangeAt Go.RowKit
open Go.ChangeMaps (open_string shut_string)
theorem own_entryApart : ownKnob Tryz.prog.godebug = none := by kernel_rfl
theorem laidOut_entryApart : laidOutB Tryz.prog = true := by kernel_rfl
set_option maxRecDepth 100000 in
theorem lifted_entryApart (os : Os) (started : os.Started) (H : Type) (enc : TypeId × Value → H) (F : Stop.Interp) :
    ReturnsInHanded {} Tryz.checked os 7 .any ((Rows.OpenSpec.upto Rows.entryApartSpec).pre6 enc Tryz.prog Tryz.f7 Rows.entryApartUptoRow.domain false) (((Rows.OpenSpec.upto Rows.entryApartSpec).at F).post enc Tryz.prog Tryz.f7 false true false false) := by
  refine returnsInHanded_of_cond (C := Tryz.checked) (s := Rows.OpenSpec.upto Rows.entryApartSpec) (k := Rows.uptoSmall) rfl own_entryApart started (by kernel_rfl) Tryz.func7
    (OpenSpec.witness (enc := enc) (C := Tryz.checked) (s := Rows.OpenSpec.upto Rows.entryApartSpec) (k := Rows.uptoSmall) rfl false ⟨#[], #[.agg #[.int .u8 0, .int .u32 0, .int .u32 0, .int .i64 0, .int .u32 0, .int .u8 0, .string ⟨#[]⟩, .slice none 0 0, .int .i64 0, .bool false, .bool false, .slice none 0 0, .int .i64 0, .int .u64 0, .int .i64 0, .int .u64 0, .slice none 0 0, .slice none 0 0, .int .u32 0, .int .i64 0, .int .i64 0, .int .u64 0, .slice none 0 0], .agg #[.int .u8 0, .int .u32 0, .int .u32 0, .int .i64 0, .int .u32 0, .int .u8 0, .string ⟨#[]⟩, .slice none 0 0, .int .i64 0, .bool false, .bool false, .slice none 0 0, .int .i64 0, .int .u64 0, .int .i64 0, .int .u64 0, .slice none 0 0, .slice none 0 0, .int .u32 0, .int .i64 0, .int .i64 0, .int .u64 0, .slice none 0 0]], []⟩ 8 (by kernel_rfl) (by kernel_rfl) (by kernel_rfl)
      (x := ([.agg [.lit (.int .u8 0), .lit (.int .u32 0), .lit (.int .u32 0), .agg [.lit (.int .i64 0), .lit (.int .u32 0)], .agg [.lit (.int .u8 0), .lit (.string []), .nil, .lit (.int .i64 0), .lit (.bool false), .lit (.bool false), .nil], .agg [.lit (.int .i64 0), .lit (.int .u64 0), .lit (.int .i64 0), .lit (.int .u64 0), .nil, .nil, .lit (.int .u32 0)], .lit (.int .i64 0), .lit (.int .i64 0), .lit (.int .u64 0), .nil], .agg [.lit (.int .u8 0), .lit (.int .u32 0), .lit (.int .u32 0), .agg [.lit (.int .i64 0), .lit (.int .u32 0)], .agg [.lit (.int .u8 0), .lit (.string []), .nil, .lit (.int .i64 0), .lit (.bool false), .lit (.bool false), .nil], .agg [.lit (.int .i64 0), .lit (.int .u64 0), .lit (.int .i64 0), .lit (.int .u64 0), .nil, .nil, .lit (.int .u32 0)], .lit (.int .i64 0), .lit (.int .i64 0), .lit (.int .u64 0), .nil]], [], [])) (by kernel_rfl) rfl (by kernel_rfl)) ?_
  intro W base args ds gs before hval0 hW _ hk0 _
  have hk1 : Rows.uptoBulkAll (ds ++ gs) ≤ 1048576 := of_decide_eq_true hk0
  clear hk0
  have hval : ∀ (j : Nat) t v, Tryz.f7.params[j]? = some t → args[j]? = some v → Value.okWide Tryz.prog W .any base t v := hval0
  have hW' := hW
  obtain ⟨p, q, hA0, hV, rfl, hfz, hnd⟩ := hW
  have hA : DataW.TrodAll enc Tryz.prog W 0 (fun _ => true) true Tryz.f7.params.toList args.toList ds p := hA0
  rw [Tryz.params7] at hA hval
  obtain ⟨v0, vs0, d0, ds0, p0, q0, hargs, rfl, rfl, k0, r0⟩ := trodAll_cons hA
  obtain ⟨v1, vs1, d1, ds1, p1, q1, rfl, rfl, rfl, k1, r1⟩ := trodAll_cons r0
  obtain ⟨rfl, rfl, rfl⟩ := trodAll_nil r1
  obtain rfl : args = #[v0, v1] := by cases args; simp_all
  obtain ⟨rfl, rfl⟩ := trodVars_none hV
  have lt0 : ∀ x ∈ p0, x.block < W.heap.size := by obtain ⟨m, hm⟩ := k0; exact DataW.trod_lt m _ _ _ hm
  have lt1 : ∀ x ∈ p1, x.block < W.heap.size := by obtain ⟨m, hm⟩ := k1; exact DataW.trod_lt m _ _ _ hm
  obtain ⟨x0, e0, hv0, ok0, p0', b0⟩ := open_ent (hval 0 35 v0 rfl rfl) k0
  obtain ⟨x1, e1, hv1, ok1, p1', b1⟩ := open_ent (hval 1 35 v1 rfl rfl) k1
  clear hA0 hval0
  have hk : Rows.uptoBulk d0 + Rows.uptoBulk d1 ≤ 1048576 := by simpa [Rows.uptoBulkAll, Nat.add_assoc] using hk1
  clear hk1
  subst hv0 hv1
  refine (apart_walk W  x0 x1 e0 e1 p0' p1' ok0 ok1 (b0.big (by omega)) (b1.big (by omega))).mono fun e W' ⟨he, bel⟩ => ?_
  subst he
  exact ⟨_, rfl, _, _, _, [], _, [], hW', trodAll_mk1 (shut_bool Tryz.underlying4 _), (trodAll_cons_mk (Below.trod laidOut_entryApart (by kernel_rfl) (of_decide_eq_true (by kernel_rfl)) k0 bel lt0) (trodAll_cons_mk (Below.trod laidOut_entryApart (by kernel_rfl) (of_decide_eq_true (by kernel_rfl)) k1 bel lt1) trodAll_mk0)), rfl, bel.frame _, fun h => by cases h⟩
theorem entryApart_proved : Rows.EntryApartUptoSaid :=
  OpenClaim.holds_of_cond 7 Tryz.f7 rfl rfl rfl rfl rfl rfl rfl ⟨rfl, rfl, rfl, rfl, rfl⟩ rfl rfl rfl rfl rfl (by kernel_rfl) Tryz.func7 (by kernel_rfl)
    (of_decide_eq_true (by kernel_rfl)) (by unfold Func.isWrapper; first | (rw [if_pos (by decide +kernel)]; kernel_rfl) | (rw [if_neg (by decide +kernel)]; exact ⟨rfl, rfl⟩))
    (fun os started H enc _ F => lifted_entryApart os started H enc F)
#print axioms entryApart_proved
end Go.Proofs.YtiemgmbjhllmbaaGreat
