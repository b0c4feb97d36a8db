/-
  RegistryBytes: bytes that are no entry of a token's do nothing to a registry; what is handed in stays. Where what is handed in is of bulk at most 1048576 together.
-/
import Derived.Test.YtpcpijecibiibaaGreatZRgE
import Derived.Test.YtpcpijecibiibaaGreatZEO
import Derived.JoinedCond
set_option linter.unusedVariables false
set_option linter.unusedSimpArgs false
set_option maxRecDepth 100000
namespace Go.Proofs.YtpcpijecibiibaaGreat
open Go.RowKit
theorem applyG_idle {r : RegD} {x : EntD} (ok : EntOk x) (big : EntBig x) (h : isD x.kind = false) : applyG r (putV x).1 = r := by
  have hx : applyX r x = r := by
    unfold applyX
    unfold isD at h
    simp only [Bool.or_eq_false_iff, beq_eq_false_iff_ne] at h
    split
    · have : ∀ t, doT x t = none := fun t => by unfold doT; rw [if_neg h.1, if_neg h.2]
      rw [this]
    · rfl
  by_cases hm : mayX x
  · by_cases hl : (tellB x).length ≤ 4096
    · exact (applyP_may ok big hm hl).trans hx
    · have e : putV x = ([], 3) := by rw [putV_may ok big.fit (by decide) hm, if_pos (by omega)]
      rw [e]
      show (if (getV []).2 = 0 then applyX r (getV []).1 else r) = _
      rw [getV_nil]; rfl
  · exact applyP_not ok big hm
theorem be1_mod (n : Nat) (h : n < 256) (l m : List UInt8) (e : be 1 n ++ l = 0 :: m) : n = 0 := by
  unfold be at e
  simp at e
  have := e.1
  have h2 := congrArg UInt8.toNat this
  simp at h2
  omega
theorem applyG_zero {r : RegD} (l : List UInt8) : applyG r (0 :: l) = r := by
  unfold applyG
  split
  · rename_i h
    obtain ⟨h1, h2, h3, _⟩ := getV_good h
    exfalso
    have h4 := be1_mod _ h1.kind _ _ h3
    have h5 := h2.1
    rw [h4] at h5
    cases h5
  · rfl
theorem own_zero (w : World) : Own (w.alloc (.cells #[.int .u8 0] 5)) w.heap.size 5 (.slice (some ⟨w.heap.size, 0, none⟩) 1 1) (bytes [0]) := ⟨rfl, .inr ⟨w.heap.size, 1, #[.int .u8 0], rfl, Nat.le_refl _, heap_alloc_new w _, Nat.le_refl _, by decide, rfl, rfl⟩⟩
theorem rbytes1 : applyG (newG 2 2) (putV (wantX 1 0)).1 = ⟨2, [t1a, tok0 2]⟩ := (applyW ⟨by decide, by decide⟩ ⟨by decide, by decide⟩).trans rfl
set_option maxHeartbeats 8000000 in
theorem bytes_walk (w : World) (v0 : Value) (l0 : List UInt8) (hs0 : Sl w v0 (bytes l0)) (x : EntD) (q : EntV) (hp : EntP Any w x q) (ok : EntOk x) (big : EntBig x) :
    Calls Tryz.prog 7 #[v0, .agg (entCells x q).toArray] w fun e w' => e = .returned (.bool true) ∧ Below w.heap.size w w' := by
  obtain ⟨a0, c0, hv0⟩ := hs0.oneCells
  rw [bytes_length] at hv0
  subst hv0
  have BY : Hid (∀ W, Gr w W → Calls Tryz.prog 13 #[.agg (entCells x q).toArray] W (RetSl W (putV x).1)) := Lib.hid (isEnt hp ok big)
  have IDLE : Hid (isD x.kind = false → ∀ r, applyG r (putV x).1 = r) := Lib.hid fun h r => applyG_idle ok big h
  obtain ⟨E, hE⟩ : ∃ E, E = entCells x q := ⟨_, rfl⟩
  have EN : Hid (E.length = 23) := Lib.hid (by rw [hE]; rfl)
  have CE : Hid (∀ W b, CellsAt W b E 44 → W.cell? ⟨b, 0, none⟩ = some (.int .u8 (x.kind : Int))) := Lib.hid fun W b hk => by rw [hE] at hk; exact hk.cell 0
  rw [← hE] at BY ⊢
  have S0 := Lib.hid hs0
  obtain ⟨n0, hn0⟩ : ∃ n, n = l0.length := ⟨_, rfl⟩
  rw [← hn0] at S0 ⊢
  have N0 := Lib.hid hn0
  clear hE hp ok big hs0 hn0
  by_cases hgr : 1000 < n0
  · have e1 : (1000 < (n0 : Int)) = True := by simp; omega
    clear hgr
    go_enter Tryz.func7, Tryz.ntmps7
    go_wp2_with (first | (refine wpList_boxE _ rfl rfl rfl ?_) | fail)
    intro w1 k1 g1 n1
    have G := Lib.hid g1
    clear k1 g1 n1
    go_wp2
    go_ret
    exact ⟨rfl, G.out⟩
  have e1 : (1000 < (n0 : Int)) = False := by simp; omega
  have HL : Hid (l0.length ≤ 1000) := Lib.hid (by have := N0.out; omega)
  clear hgr
  go_enter Tryz.func7, Tryz.ntmps7
  go_wp2_with (first | (refine wpList_boxE _ rfl rfl rfl ?_) | fail)
  intro w1 k1 g1 n1
  obtain ⟨b1, hb1⟩ : ∃ b1, b1 = w.heap.size := ⟨_, rfl⟩
  rw [← hb1] at k1 ⊢
  have K := Lib.hid k1
  have GW := Lib.hid g1
  clear k1 g1 n1 hb1
  go_wp2_with fail
  refine (new_own w1 2 2).mono ?_
  rintro en w2 ⟨gv, P, rfl, hR, g2⟩
  have R := Lib.hid hR
  have G := Lib.hid g2
  clear hR g2 e1
  go_wp2_with fail
  refine (want2 _ 1 0 ⟨by decide, by decide⟩ ⟨by decide, by decide⟩).mono ?_
  rintro en wA ⟨E, rfl, HB, gA⟩
  replace R := Lib.hid (R.out.gr gA)
  replace G := Lib.hid (G.out.trans gA)
  clear gA
  go_wp2_with fail
  refine (HB.out _ (Gr.refl _)).mono ?_
  rintro en wB ⟨v, rfl, sB, gB⟩
  obtain ⟨aB, cB, hvB⟩ := sB.oneCells
  rw [bytes_length] at hvB
  subst hvB
  have SB := Lib.hid sB
  replace R := Lib.hid (R.out.gr gB)
  replace G := Lib.hid (G.out.trans gB)
  clear gB sB HB
  go_wp2_with fail
  refine (apply_own w1 _ _ _ _ R.out _ _ SB.out (put_len _) G.out.size).mono ?_
  rintro en wC ⟨rfl, ⟨P2, hR, _, hPn⟩, hc⟩
  replace G := Lib.hid (R.out.after G.out hc)
  replace R := Lib.hid hR
  clear hR hc SB hPn
  rw [rbytes1] at R
  obtain ⟨v3, w3, hrun, hap⟩ := run_append_c (wC.alloc (.cells #[.int .u8 0] 5)) wC.heap.size (.slice (some ⟨wC.heap.size, 0, none⟩) 1 1) (.slice a0 n0 c0) [0] l0 (own_zero wC) (S0.out.below (GW.out.trans (G.out.trans ((Gr.refl wC).alloc _)))) (by have := HL.out; simp; omega) (by simp)
  have g3 : Gr wC w3 := Below.trans ((Gr.refl wC).alloc _) (grownBy_below hap.grown (by simp) (fun k hk => by have h1 : wC.heap.size = k := Option.some.inj hk; omega))
  have SB : Hid (Sl w3 v3 (bytes (0 :: l0))) := Lib.hid hap.own.sl
  obtain ⟨a3, c3, hv3⟩ := SB.out.oneCells
  obtain ⟨n3, hn3⟩ : ∃ n, n = (bytes (0 :: l0)).length := ⟨_, rfl⟩
  rw [← hn3] at hv3
  subst hv3
  have HRUN := Lib.hid hrun
  replace R := Lib.hid (R.out.gr g3)
  replace G := Lib.hid (G.out.trans g3)
  clear hrun hap g3 hn3
  go_wp2_with (at_builtin; refine wpList_run_append HRUN.out rfl _ _ rfl rfl rfl ?_; clear HRUN)
  refine (apply_own w1 _ _ _ _ R.out _ _ SB.out (by have := HL.out; simp; omega) G.out.size).mono ?_
  rintro en w4 ⟨rfl, ⟨P3, hR, _, _⟩, hc⟩
  replace G := Lib.hid (R.out.after G.out hc)
  replace R := Lib.hid hR
  clear hR hc SB
  rw [applyG_zero] at R
  have KK := Lib.hid (K.out.gr G.out)
  have y0 := CE.out w4 b1 KK.out
  by_cases h8 : x.kind = 8
  · have y1 : w4.cell? ⟨b1, 0, none⟩ = some (.int .u8 8) := by rw [y0, h8]; rfl
    clear y0 h8
    go_wp2_with fail
    refine (holder_any _ _ _ _ R.out.v 0).mono ?_
    rintro en w5 ⟨he, g5⟩
    obtain rfl : en = .returned (.tuple #[.int .i64 1, .int .u64 1, .bool true]) := he
    replace R := Lib.hid (R.out.gr g5)
    replace G := Lib.hid (G.out.trans g5)
    clear g5
    go_wp2_with fail
    refine (holder_any _ _ _ _ R.out.v 1).mono ?_
    rintro en w6 ⟨he, g6⟩
    obtain rfl : en = .returned (.tuple #[.int .i64 (-1), .int .u64 0, .bool false]) := he
    replace R := Lib.hid (R.out.gr g6)
    replace G := Lib.hid (G.out.trans g6)
    clear g6
    go_wp2_with fail
    refine (queue_any _ _ _ _ R.out.v 0 (by decide)).mono ?_
    rintro en w7 ⟨vq, rfl, oq, g7⟩
    obtain ⟨aq, cq, hsh⟩ := oq.shape
    replace hsh : vq = .slice aq 0 cq := hsh
    subst hsh
    replace G := Lib.hid (G.out.trans g7)
    clear g7 oq
    go_wp2_with fail
    refine (goes_any _).mono ?_
    rintro en w8 ⟨rfl, g8⟩
    replace G := Lib.hid (G.out.trans g8)
    clear g8
    go_wp2
    go_ret
    exact ⟨rfl, GW.out.trans G.out⟩
  by_cases h9 : x.kind = 9
  · have y1 : w4.cell? ⟨b1, 0, none⟩ = some (.int .u8 9) := by rw [y0, h9]; rfl
    clear y0 h8 h9
    go_wp2_with fail
    refine (holder_any _ _ _ _ R.out.v 0).mono ?_
    rintro en w5 ⟨he, g5⟩
    obtain rfl : en = .returned (.tuple #[.int .i64 1, .int .u64 1, .bool true]) := he
    replace R := Lib.hid (R.out.gr g5)
    replace G := Lib.hid (G.out.trans g5)
    clear g5
    go_wp2_with fail
    refine (holder_any _ _ _ _ R.out.v 1).mono ?_
    rintro en w6 ⟨he, g6⟩
    obtain rfl : en = .returned (.tuple #[.int .i64 (-1), .int .u64 0, .bool false]) := he
    replace R := Lib.hid (R.out.gr g6)
    replace G := Lib.hid (G.out.trans g6)
    clear g6
    go_wp2_with fail
    refine (queue_any _ _ _ _ R.out.v 0 (by decide)).mono ?_
    rintro en w7 ⟨vq, rfl, oq, g7⟩
    obtain ⟨aq, cq, hsh⟩ := oq.shape
    replace hsh : vq = .slice aq 0 cq := hsh
    subst hsh
    replace G := Lib.hid (G.out.trans g7)
    clear g7 oq
    go_wp2_with fail
    refine (goes_any _).mono ?_
    rintro en w8 ⟨rfl, g8⟩
    replace G := Lib.hid (G.out.trans g8)
    clear g8
    go_wp2
    go_ret
    exact ⟨rfl, GW.out.trans G.out⟩
  have e8 : ((x.kind : Int) = 8) = False := by simp; omega
  have e9 : ((x.kind : Int) = 9) = False := by simp; omega
  have e8b : ((x.kind : Int) != 8) = true := by simp; omega
  have e9b : ((x.kind : Int) != 9) = true := by simp; omega
  replace IDLE := Lib.hid (IDLE.out (by unfold isD; simp [h8, h9]))
  clear h8 h9
  go_wp2_with (first | (refine wpList_loadE entTy _ rfl rfl rfl KK.out EN.out ?_) | fail)
  refine (BY.out _ (GW.out.trans G.out)).mono ?_
  rintro en wX ⟨v, rfl, sX, gX⟩
  obtain ⟨aX, cX, hvX⟩ := sX.oneCells
  rw [bytes_length] at hvX
  subst hvX
  have SB := Lib.hid sX
  replace R := Lib.hid (R.out.gr gX)
  replace G := Lib.hid (G.out.trans gX)
  clear gX sX y0 e8 e9 e8b e9b
  go_wp2_with fail
  refine (apply_own w1 _ _ _ _ R.out _ _ SB.out (put_len _) G.out.size).mono ?_
  rintro en wC ⟨rfl, ⟨P2, hR, _, hPn⟩, hc⟩
  replace G := Lib.hid (R.out.after G.out hc)
  replace R := Lib.hid hR
  clear hR hc SB hPn
  rw [IDLE.out] at R
  go_wp2_with fail
  refine (holder_any _ _ _ _ R.out.v 0).mono ?_
  rintro en w5 ⟨he, g5⟩
  obtain rfl : en = .returned (.tuple #[.int .i64 1, .int .u64 1, .bool true]) := he
  replace R := Lib.hid (R.out.gr g5)
  replace G := Lib.hid (G.out.trans g5)
  clear g5
  go_wp2_with fail
  refine (holder_any _ _ _ _ R.out.v 1).mono ?_
  rintro en w6 ⟨he, g6⟩
  obtain rfl : en = .returned (.tuple #[.int .i64 (-1), .int .u64 0, .bool false]) := he
  replace R := Lib.hid (R.out.gr g6)
  replace G := Lib.hid (G.out.trans g6)
  clear g6
  go_wp2_with fail
  refine (queue_any _ _ _ _ R.out.v 0 (by decide)).mono ?_
  rintro en w7 ⟨vq, rfl, oq, g7⟩
  obtain ⟨aq, cq, hsh⟩ := oq.shape
  replace hsh : vq = .slice aq 0 cq := hsh
  subst hsh
  replace G := Lib.hid (G.out.trans g7)
  clear g7 oq
  go_wp2_with fail
  refine (goes_any _).mono ?_
  rintro en w8 ⟨rfl, g8⟩
  replace G := Lib.hid (G.out.trans g8)
  clear g8
  go_wp2
  go_ret
  exact ⟨rfl, GW.out.trans G.out⟩
open Go.ChangeShapes Go.WideShapes Go.ChangeAt Go.RowKit
open Go.ChangeMaps (open_string shut_string)
theorem own_registryBytes : ownKnob Tryz.prog.godebug = none := by kernel_rfl
theorem laidOut_registryBytes : laidOutB Tryz.prog = true := by kernel_rfl
set_option maxRecDepth 100000 in
theorem lifted_registryBytes (os : Os) (started : os.Started) (H : Type) (enc : TypeId × Value → H) (F : Stop.Interp) :
    ReturnsInHanded {} Tryz.checked os 7 .any ((Rows.OpenSpec.upto Rows.registryBytesSpec).pre6 enc Tryz.prog Tryz.f7 Rows.registryBytesUptoRow.domain false) (((Rows.OpenSpec.upto Rows.registryBytesSpec).at F).post enc Tryz.prog Tryz.f7 false true false false) := by
  refine returnsInHanded_of_cond (C := Tryz.checked) (s := Rows.OpenSpec.upto Rows.registryBytesSpec) (k := Rows.uptoSmall) rfl own_registryBytes started (by kernel_rfl) Tryz.func7
    (OpenSpec.witness (enc := enc) (C := Tryz.checked) (s := Rows.OpenSpec.upto Rows.registryBytesSpec) (k := Rows.uptoSmall) rfl false ⟨#[], #[.slice none 0 0, .agg #[.int .u8 0, .int .u32 0, .int .u32 0, .int .i64 0, .int .u32 0, .int .u8 0, .string ⟨#[]⟩, .slice none 0 0, .int .i64 0, .bool false, .bool false, .slice none 0 0, .int .i64 0, .int .u64 0, .int .i64 0, .int .u64 0, .slice none 0 0, .slice none 0 0, .int .u32 0, .int .i64 0, .int .i64 0, .int .u64 0, .slice none 0 0]], []⟩ 8 (by kernel_rfl) (by kernel_rfl) (by kernel_rfl)
      (x := ([.nil, .agg [.lit (.int .u8 0), .lit (.int .u32 0), .lit (.int .u32 0), .agg [.lit (.int .i64 0), .lit (.int .u32 0)], .agg [.lit (.int .u8 0), .lit (.string []), .nil, .lit (.int .i64 0), .lit (.bool false), .lit (.bool false), .nil], .agg [.lit (.int .i64 0), .lit (.int .u64 0), .lit (.int .i64 0), .lit (.int .u64 0), .nil, .nil, .lit (.int .u32 0)], .lit (.int .i64 0), .lit (.int .i64 0), .lit (.int .u64 0), .nil]], [], [])) (by kernel_rfl) rfl (by kernel_rfl)) ?_
  intro W base args ds gs before hval0 hW _ hk0 _
  have hk1 : Rows.uptoBulkAll (ds ++ gs) ≤ 1048576 := of_decide_eq_true hk0
  clear hk0
  have hval : ∀ (j : Nat) t v, Tryz.f7.params[j]? = some t → args[j]? = some v → Value.okWide Tryz.prog W .any base t v := hval0
  have hW' := hW
  obtain ⟨p, q, hA0, hV, rfl, hfz, hnd⟩ := hW
  have hA : DataW.TrodAll enc Tryz.prog W 0 (fun _ => true) true Tryz.f7.params.toList args.toList ds p := hA0
  rw [Tryz.params7] at hA hval
  obtain ⟨v0, vs0, d0, ds0, p0, q0, hargs, rfl, rfl, k0, r0⟩ := trodAll_cons hA
  obtain ⟨v1, vs1, d1, ds1, p1, q1, rfl, rfl, rfl, k1, r1⟩ := trodAll_cons r0
  obtain ⟨rfl, rfl, rfl⟩ := trodAll_nil r1
  obtain rfl : args = #[v0, v1] := by cases args; simp_all
  obtain ⟨rfl, rfl⟩ := trodVars_none hV
  have lt0 : ∀ x ∈ p0, x.block < W.heap.size := by obtain ⟨m, hm⟩ := k0; exact DataW.trod_lt m _ _ _ hm
  have lt1 : ∀ x ∈ p1, x.block < W.heap.size := by obtain ⟨m, hm⟩ := k1; exact DataW.trod_lt m _ _ _ hm
  obtain ⟨l0, s0, w0⟩ := open_bytes Tryz.underlying31 Tryz.underlying5 (by kernel_rfl) (hval 0 31 v0 rfl rfl) k0
  obtain ⟨x1, e1, hv1, ok1, p1', b1⟩ := open_ent (hval 1 44 v1 rfl rfl) k1
  clear hA0 hval0
  have hk : Rows.uptoBulk d0 + Rows.uptoBulk d1 ≤ 1048576 := by simpa [Rows.uptoBulkAll, Nat.add_assoc] using hk1
  clear hk1
  subst hv1
  refine (bytes_walk W v0 l0 s0 x1 e1 p1' ok1 (b1.big (by omega))).mono fun e W' ⟨he, bel⟩ => ?_
  subst he
  exact ⟨_, rfl, _, _, _, [], _, [], hW', trodAll_mk1 (shut_bool Tryz.underlying4 _), (trodAll_cons_mk (Below.trod laidOut_registryBytes (by kernel_rfl) (of_decide_eq_true (by kernel_rfl)) k0 bel lt0) (trodAll_cons_mk (Below.trod laidOut_registryBytes (by kernel_rfl) (of_decide_eq_true (by kernel_rfl)) k1 bel lt1) trodAll_mk0)), rfl, bel.frame _, fun h => by cases h⟩
theorem registryBytes_proved : Rows.RegistryBytesUptoSaid :=
  OpenClaim.holds_of_cond 7 Tryz.f7 rfl rfl rfl rfl rfl rfl rfl ⟨rfl, rfl, rfl, rfl, rfl⟩ rfl rfl rfl rfl rfl (by kernel_rfl) Tryz.func7 (by kernel_rfl)
    (of_decide_eq_true (by kernel_rfl)) (by unfold Func.isWrapper; first | (rw [if_pos (by decide +kernel)]; kernel_rfl) | (rw [if_neg (by decide +kernel)]; exact ⟨rfl, rfl⟩))
    (fun os started H enc _ F => lifted_registryBytes os started H enc F)
#print axioms registryBytes_proved
end Go.Proofs.YtpcpijecibiibaaGreat
