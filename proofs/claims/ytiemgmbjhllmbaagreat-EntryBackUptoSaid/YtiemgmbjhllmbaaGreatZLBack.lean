/-
  EntryBack: just entries that may be told are put, and got as they were; without the last byte, or with one more, they are none; what is handed in stays. Where what is handed in is of bulk at most 1048576.
-/
import Derived.Test.YtiemgmbjhllmbaaGreatZLBackP
import Derived.Test.YtiemgmbjhllmbaaGreatZB
import Derived.Test.YtiemgmbjhllmbaaGreatZEHeavy
import Derived.Test.YtiemgmbjhllmbaaGreatZEOpen2
import Derived.JoinedCond
set_option linter.unusedVariables false
set_option linter.unusedSimpArgs false
set_option maxRecDepth 100000
namespace Go.Proofs.YtiemgmbjhllmbaaGreat
open Go.RowKit
theorem Sl.cut {w : World} {a : Option Addr} {cap : Nat} {xs : List Value} (h : Sl w (.slice a xs.length cap) xs) (k : Nat) (hk : k ≤ xs.length) : Sl w (.slice a k cap) (xs.take k) := by
  obtain ⟨a', cap', he, hcap, hx⟩ := h
  injection he with e1 e2 e3
  subst e1 e3
  have hl : (xs.take k).length = k := by simp [hk]
  refine ⟨a, cap, by rw [hl], by rw [hl]; omega, ?_⟩
  rcases hx with rfl | ⟨b, off, rfl, hlt, hx⟩
  · left; simp
  · exact .inr ⟨b, off, rfl, hlt, fun j hj => by rw [hx j (by omega)]; simp⟩
/-- What is to be known of what Put answers. -/
structure PutFacts (x : EntD) (L : List UInt8) (pe : Int) : Prop where
  bad : pe ≠ 0 → L = [] ∧ (pe = 1 ↔ ¬ mayX x)
  good : pe = 0 → mayX x ∧ 1 ≤ L.length ∧ L.length ≤ 4096 ∧ getV L = (x, 0) ∧ (getV (L.take (L.length - 1))).2 = 2 ∧ (getV (L ++ [0])).2 = 2
theorem put_facts {x : EntD} (ok : EntOk x) (big : EntBig x) : PutFacts x (putV x).1 (putV x).2 := by
  by_cases hm : mayX x
  · rw [putV_may ok big.fit (by decide) hm]
    by_cases h : 4096 < (tellB x).length
    · rw [if_pos h]
      exact ⟨fun _ => ⟨rfl, fun e => (by cases e), fun e => absurd hm e⟩, fun e => (by cases e)⟩
    · rw [if_neg h]
      refine ⟨fun e => absurd rfl e, fun _ => ⟨hm, ?_, (show (tellB x).length ≤ 4096 by omega), getV_tell ok hm (by omega), get_less ok hm, get_more ok hm⟩⟩
      exact List.length_pos_iff.2 (tellB_ne x)
  · rw [putV_not ok big.fit (by decide) hm]
    exact ⟨fun _ => ⟨rfl, fun _ => hm, fun _ => rfl⟩, fun e => (by cases e)⟩
set_option maxHeartbeats 8000000 in
theorem back_walk (w : World) (x : EntD) (q : EntV) (hp : EntP Any w x q) (ok : EntOk x) (big : EntBig x) :
    Calls Tryz.prog 5 #[.agg (entCells x q).toArray] w fun e w' => e = .returned (.bool true) ∧ Below w.heap.size w w' := by
  have PUT : Hid (∀ W, Gr w W → Calls Tryz.prog 9 #[.agg (entCells x q).toArray] W (RetPut W x)) := Lib.hid fun W hW => put_any W x q (hp.gr hW) ok big
  have MAY : Hid (EntShort x → ∀ W, Gr w W → Calls Tryz.prog 15 #[.agg (entCells x q).toArray] W (Says (mayX x) W)) := Lib.hid fun h W hW => dmay_any W x q (hp.gr hW) ok h
  have HEAVY : Hid (∀ W, Gr w W → Calls Tryz.prog 8 #[.agg (entCells x q).toArray] W (NotThen (EntShort x) W)) := Lib.hid fun W hW => heavy_any W x q (hp.gr hW)
  have SAME : Hid (EntShort x → mayX x → ∀ W, Gr w W → ∀ q2, EntP Any W x q2 → Calls Tryz.prog 14 #[.agg (entCells x q).toArray, .agg (entCells x q2).toArray] W (fun e w' => e = .returned (.bool true) ∧ Gr W w')) := Lib.hid fun h hm W hW q2 h2 => (ent_says W x x q q2 (hp.gr hW) h2 h h).mono fun e w' ⟨z, he, hz, hg⟩ => ⟨by rw [he, hz.2 ⟨rfl, mayX_flat hm⟩], hg⟩
  have PF := put_facts ok big
  obtain ⟨L, hL⟩ : ∃ L, L = (putV x).1 := ⟨_, rfl⟩
  obtain ⟨pe, hpe⟩ : ∃ pe, pe = (putV x).2 := ⟨_, rfl⟩
  rw [← hL, ← hpe] at PF
  have FACTS := Lib.hid PF
  have RP : Hid (∀ W e W', RetPut W x e W' → ∃ v, e = .returned (.tuple #[v, .int .i64 pe]) ∧ Sl W' v (bytes L) ∧ Gr W W') := Lib.hid fun W e W' h => by rw [hL, hpe]; exact h
  obtain ⟨E, hE⟩ : ∃ E, E = entCells x q := ⟨_, rfl⟩
  have EN : Hid (E.length = 23) := Lib.hid (by rw [hE]; rfl)
  rw [← hE] at PUT MAY HEAVY SAME ⊢
  clear hL hpe hE hp ok big PF
  go_enter Tryz.func5, Tryz.ntmps5
  go_wp2_with (first | (refine wpList_boxE _ rfl rfl rfl ?_) | fail)
  intro w1 k1 g1 n1
  obtain ⟨b1, hb1⟩ : ∃ b1, b1 = w.heap.size := ⟨_, rfl⟩
  rw [← hb1]
  rw [← hb1] at k1
  have KE := Lib.hid k1
  have GG := Lib.hid g1
  clear k1 g1 n1 hb1
  go_wp2_with (first | (refine wpList_loadE entTy _ rfl rfl rfl KE.out EN.out ?_) | fail)
  refine (HEAVY.out w1 GG.out).mono ?_
  rintro en w2 ⟨z, rfl, hz, g2⟩
  have G2 := Lib.hid (GG.out.trans g2)
  have K2 := Lib.hid (KE.out.gr g2)
  cases z with
  | true =>
    clear hz g2
    go_wp2
    go_ret
    exact ⟨rfl, G2.out⟩
  | false =>
    have SH := Lib.hid (hz rfl)
    clear hz g2
    go_wp2_with (first | (refine wpList_loadE entTy _ rfl rfl rfl K2.out EN.out ?_) | fail)
    refine (PUT.out w2 G2.out).mono ?_
    intro en w3 h3
    obtain ⟨v3, rfl, s3, g3⟩ := RP.out _ _ _ h3
    have G3 := Lib.hid (G2.out.trans g3)
    have K3 := Lib.hid (K2.out.gr g3)
    obtain ⟨a3, c3, hv3⟩ := s3.oneCells
    rw [bytes_length] at hv3
    subst hv3
    have S3 := Lib.hid s3
    clear h3 g3 s3
    by_cases hz : pe = 0
    · subst hz
      obtain ⟨hm, f1, f2, f3, f4, f5⟩ := FACTS.out.good rfl
      obtain ⟨b3, o3, rfl, hcap⟩ : ∃ b3 o3, a3 = some ⟨b3, o3, none⟩ ∧ L.length ≤ c3 := by
        obtain ⟨a', c', he, hcap, hcase⟩ := S3.out.bytes
        injection he with e1 e2 e3
        subst e1 e3
        rcases hcase with h | ⟨b, off, h, _⟩
        · exfalso; rw [h] at f1; simp at f1
        · exact ⟨b, off, h, hcap⟩
      have HM := Lib.hid hm
      have F3 := Lib.hid f3
      have F4 := Lib.hid f4
      have F5 := Lib.hid f5
      clear hm f3 f4 f5 FACTS
      go_wp2_with (first | (refine wpList_loadE entTy _ rfl rfl rfl K3.out EN.out ?_) | fail)
      refine (MAY.out SH.out w3 G3.out).mono ?_
      rintro en w4 ⟨z, rfl, hz, g4⟩
      obtain rfl : z = true := hz.2 HM.out
      have G4 := Lib.hid (G3.out.trans g4)
      have K4 := Lib.hid (K3.out.gr g4)
      have S4 := Lib.hid (S3.out.below g4)
      have j1 : (L.length : Int) ≤ 4096 := by omega
      have j2 : (1 : Int) ≤ (L.length : Int) := by omega
      have j3 : ((L.length : Int) == 0) = false := by rw [Bool.eq_false_iff]; intro h; have := eq_of_beq h; omega
      clear hz g4
      go_wp2_with fail
      refine (get_any w4 _ L S4.out (by omega)).mono ?_
      rintro en w5 ⟨q5, rfl, p5, g5⟩
      rw [F3.out] at p5 ⊢
      have P5 := Lib.hid (p5.mono (fun _ _ => trivial) : EntP Any w5 x q5)
      dsimp only
      obtain ⟨F, hF⟩ : ∃ F, F = entCells x q5 := ⟨_, rfl⟩
      have FN : Hid (F.length = 23) := Lib.hid (by rw [hF]; rfl)
      have F1 : Hid (oneAll F) := Lib.hid (by rw [hF]; exact p5.one)
      have HF := Lib.hid hF
      have G5 := Lib.hid (G4.out.trans g5)
      have K5' := Lib.hid (K4.out.gr g5)
      have S5 := Lib.hid (S4.out.below g5)
      rw [← hF]
      clear p5 hF g5 K4 S4
      go_wp2_with (first | (refine wpList_storeE entTy _ _ rfl rfl rfl rfl (CellsAt.new _ _ _) FN.out rfl F1.out ?_) | fail)
      intro w6 k6 ch6
      have g6 : Gr w5 w6 := Below.trans ((Gr.refl w5).alloc _) (ch6.below ((Gr.refl w5).alloc _).size (fun k hk => by have : k = w5.heap.size := hk; omega))
      have K6 := Lib.hid k6
      have P6 := Lib.hid (P5.out.gr g6)
      have G6 := Lib.hid (G5.out.trans g6)
      have KE6 := Lib.hid (K5'.out.gr g6)
      have S6 := Lib.hid (S5.out.below g6)
      clear k6 ch6 g6 P5 K5' S5
      have sx : Sl w6 (.slice (some ⟨b3, o3, none⟩) (L.length - 1) c3) (bytes (L.take (L.length - 1))) := by
        have sb' : Sl w6 (.slice (some ⟨b3, o3, none⟩) (bytes L).length c3) (bytes L) := by rw [bytes_length]; exact S6.out
        have := sb'.cut (L.length - 1) (by rw [bytes_length]; omega)
        rw [bytes_take] at this
        exact this
      have SX := Lib.hid sx
      clear sx
      go_wp2_with fail
      refine (get_any w6 _ _ SX.out (by simp; omega)).mono ?_
      rintro en w7 ⟨q7, rfl, p7, g7⟩
      rw [F4.out]
      obtain ⟨I, hI⟩ : ∃ I, I = entCells (getV (L.take (L.length - 1))).1 q7 := ⟨_, rfl⟩
      have IN : Hid (I.length = 23) := Lib.hid (by rw [hI]; rfl)
      have I1 : Hid (oneAll I) := Lib.hid (by rw [hI]; exact p7.one)
      have G7 := Lib.hid (G6.out.trans g7)
      have KE7 := Lib.hid (KE6.out.gr g7)
      have KF7 := Lib.hid (K6.out.gr g7)
      have P7 := Lib.hid (P6.out.gr g7)
      have S7 := Lib.hid (S6.out.below g7)
      rw [← hI]
      clear p7 hI g7 G6 KE6 K6 P6 S6 SX F4
      go_wp2_with (first | (refine wpList_storeE entTy _ _ rfl rfl rfl rfl (CellsAt.new _ _ _) IN.out rfl I1.out ?_) | fail)
      intro w8 k8 ch8
      have g8 : Gr w7 w8 := Below.trans ((Gr.refl w7).alloc _) (ch8.below ((Gr.refl w7).alloc _).size (fun k hk => by have : k = w7.heap.size := hk; omega))
      have K8 := Lib.hid k8
      have G8 := Lib.hid (G7.out.trans g8)
      have KE8 := Lib.hid (KE7.out.gr g8)
      have KF8 := Lib.hid (KF7.out.gr g8)
      have P8 := Lib.hid (P7.out.gr g8)
      have s8 := S7.out.below g8
      clear k8 ch8 g8 G7 KE7 KF7 P7 S7
      obtain ⟨v10, w10, hr10, ho10, hg10⟩ := run_append_u8 (w8.alloc (.cells #[] 5)) w8.heap.size (.slice (some ⟨w8.heap.size, 0, none⟩) 0 0) (.slice (some ⟨b3, o3, none⟩) L.length c3) [] L (Own.nil_lit _ _ (Nat.le_refl _)) (s8.below ((Below.refl _ _).alloc (Nat.le_refl _) _)) (by simp; omega) (by simp)
      rw [List.nil_append] at ho10
      obtain ⟨v11, w11, hr11, ho11, hg11⟩ := run_append_u8 (w10.alloc (.cells #[.int .u8 0] 5)) w8.heap.size v10 (.slice (some ⟨w10.heap.size, 0, none⟩) 1 1) L [0] (World.ownsRow.alloc ho10 _) (Sl.new w10 [.int .u8 0] _ _ _ _ rfl (by decide)) (by simp; omega) (Nat.le_trans (Nat.le_trans (by simp) hg10.size) (by simp))
      have b10 : Below w8.heap.size w8 w10 := ((Below.refl _ _).alloc (Nat.le_refl _) _).grown hg10 (by simp) (fun k hk => by simp [Value.ownBlock] at hk; omega)
      have b11 : Below w8.heap.size w8 w11 := (b10.alloc b10.size _).grown hg11 (Nat.le_trans b10.size (by simp)) (fun k hk => ho10.ownBlock_ge k hk)
      have s11 := ho11.sl
      obtain ⟨a10, c10, rfl⟩ := ho10.shape
      obtain ⟨a11, c11, rfl⟩ := ho11.shape
      rw [bytes_length] at hr10 hr11
      rw [bytes_length] at s11 hr11
      have hl11 : (L ++ [(0 : UInt8)]).length = L.length + 1 := by simp
      rw [hl11] at hr11 s11
      have HR10 := Lib.hid hr10
      have HR11 := Lib.hid hr11
      have S11 := Lib.hid s11
      have G11 := Lib.hid (G8.out.trans b11)
      have KE11 := Lib.hid (KE8.out.gr b11)
      have KF11 := Lib.hid (KF8.out.gr b11)
      have P11 := Lib.hid (P8.out.gr b11)
      have HP11 : Hid ((L ++ [0]).length ≤ 1000000000) := Lib.hid (by simp; omega)
      clear hr10 hr11 s11 b11 b10 ho10 ho11 hg10 hg11 hl11 s8 G8 KE8 KF8 P8
      go_wp2_with (at_builtin; first | (refine wpList_run_append HR10.out rfl _ _ rfl rfl rfl ?_; clear HR10) | (refine wpList_run_append HR11.out rfl _ _ rfl rfl rfl ?_; clear HR11))
      refine (get_any w11 (.slice a11 (L.length + 1) c11) (L ++ [0]) S11.out HP11.out).mono ?_
      rintro en w12 ⟨q12, rfl, p12, g12⟩
      rw [F5.out]
      obtain ⟨M, hM⟩ : ∃ M, M = entCells (getV (L ++ [0])).1 q12 := ⟨_, rfl⟩
      have MN : Hid (M.length = 23) := Lib.hid (by rw [hM]; rfl)
      have M1 : Hid (oneAll M) := Lib.hid (by rw [hM]; exact p12.one)
      have G12 := Lib.hid (G11.out.trans g12)
      have KE12 := Lib.hid (KE11.out.gr g12)
      have KF12 := Lib.hid (KF11.out.gr g12)
      have P12 := Lib.hid (P11.out.gr g12)
      rw [← hM]
      clear p12 hM g12 G11 KE11 KF11 P11 S11 F5 HP11
      go_wp2_with (first | (refine wpList_storeE entTy _ _ rfl rfl rfl rfl (CellsAt.new _ _ _) MN.out rfl M1.out ?_) | fail)
      intro w13 k13 ch13
      have g13 : Gr w12 w13 := Below.trans ((Gr.refl w12).alloc _) (ch13.below ((Gr.refl w12).alloc _).size (fun k hk => by have : k = w12.heap.size := hk; omega))
      have K13 := Lib.hid k13
      have G13 := Lib.hid (G12.out.trans g13)
      have KE13 := Lib.hid (KE12.out.gr g13)
      have KF13 := Lib.hid (KF12.out.gr g13)
      have P13 := Lib.hid (P12.out.gr g13)
      clear k13 ch13 g13 G12 KE12 KF12 P12
      have SM := SAME.out SH.out HM.out w13 G13.out q5 P13.out
      rw [← HF.out] at SM
      have SMH := Lib.hid SM
      clear SM
      go_wp2_with (first | (refine wpList_loadW entTy _ rfl rfl rfl KE13.out EN.out ?_) | (refine wpList_loadW entTy _ rfl rfl rfl KF13.out FN.out ?_) | fail)
      refine SMH.out.mono ?_
      rintro en w14 ⟨rfl, g14⟩
      have G14 := Lib.hid (G13.out.trans g14)
      clear g14
      go_wp2_with fail
      refine (tells_any w14).mono ?_
      rintro en w15 ⟨rfl, g15⟩
      have G15 := Lib.hid (G14.out.trans g15)
      clear g15
      go_wp2
      go_ret
      exact ⟨rfl, G15.out⟩
    · obtain ⟨hl0, hme⟩ := FACTS.out.bad hz
      subst hl0
      have hzz : (pe == 0) = false := by simp; exact hz
      have HME := Lib.hid hme
      clear hme FACTS
      go_wp2_with (first | (refine wpList_loadW entTy _ rfl rfl rfl K3.out EN.out ?_) | fail)
      refine (MAY.out SH.out w3 G3.out).mono ?_
      rintro en w4 ⟨z, rfl, hz4, g4⟩
      have G4 := Lib.hid (G3.out.trans g4)
      have hb : (pe == 1) = !z := by
        cases z with
        | true => have h1 := hz4.1 rfl; simp; intro e; exact HME.out.1 e h1
        | false => simp; exact HME.out.2 (fun h => by have := hz4.2 h; cases this)
      have HBB := Lib.hid hb
      clear hz4 g4 hb HME
      cases z with
      | true =>
        have hb2 : (pe == 1) = false := HBB.out
        go_wp2_with fail
        refine (tells_any w4).mono ?_
        rintro en w5 ⟨rfl, g5⟩
        have G5 := Lib.hid (G4.out.trans g5)
        clear g5
        go_wp2
        go_ret
        exact ⟨rfl, G5.out⟩
      | false =>
        have hb2 : (pe == 1) = true := HBB.out
        go_wp2_with fail
        refine (tells_any w4).mono ?_
        rintro en w5 ⟨rfl, g5⟩
        have G5 := Lib.hid (G4.out.trans g5)
        clear g5
        go_wp2
        go_ret
        exact ⟨rfl, G5.out⟩
open Go.ChangeShapes Go.WideShapes Go.ChangeAt Go.RowKit
open Go.ChangeMaps (open_string shut_string)
theorem own_entryBack : ownKnob Tryz.prog.godebug = none := by kernel_rfl
theorem laidOut_entryBack : laidOutB Tryz.prog = true := by kernel_rfl
set_option maxRecDepth 100000 in
theorem lifted_entryBack (os : Os) (started : os.Started) (H : Type) (enc : TypeId × Value → H) (F : Stop.Interp) :
    ReturnsInHanded {} Tryz.checked os 5 .any ((Rows.OpenSpec.upto Rows.entryBackSpec).pre6 enc Tryz.prog Tryz.f5 Rows.entryBackUptoRow.domain false) (((Rows.OpenSpec.upto Rows.entryBackSpec).at F).post enc Tryz.prog Tryz.f5 false true false false) := by
  refine returnsInHanded_of_cond (C := Tryz.checked) (s := Rows.OpenSpec.upto Rows.entryBackSpec) (k := Rows.uptoSmall) rfl own_entryBack started (by kernel_rfl) Tryz.func5
    (OpenSpec.witness (enc := enc) (C := Tryz.checked) (s := Rows.OpenSpec.upto Rows.entryBackSpec) (k := Rows.uptoSmall) rfl false ⟨#[], #[.agg #[.int .u8 0, .int .u32 0, .int .u32 0, .int .i64 0, .int .u32 0, .int .u8 0, .string ⟨#[]⟩, .slice none 0 0, .int .i64 0, .bool false, .bool false, .slice none 0 0, .int .i64 0, .int .u64 0, .int .i64 0, .int .u64 0, .slice none 0 0, .slice none 0 0, .int .u32 0, .int .i64 0, .int .i64 0, .int .u64 0, .slice none 0 0]], []⟩ 8 (by kernel_rfl) (by kernel_rfl) (by kernel_rfl)
      (x := ([.agg [.lit (.int .u8 0), .lit (.int .u32 0), .lit (.int .u32 0), .agg [.lit (.int .i64 0), .lit (.int .u32 0)], .agg [.lit (.int .u8 0), .lit (.string []), .nil, .lit (.int .i64 0), .lit (.bool false), .lit (.bool false), .nil], .agg [.lit (.int .i64 0), .lit (.int .u64 0), .lit (.int .i64 0), .lit (.int .u64 0), .nil, .nil, .lit (.int .u32 0)], .lit (.int .i64 0), .lit (.int .i64 0), .lit (.int .u64 0), .nil]], [], [])) (by kernel_rfl) rfl (by kernel_rfl)) ?_
  intro W base args ds gs before hval0 hW _ hk0 _
  have hk1 : Rows.uptoBulkAll (ds ++ gs) ≤ 1048576 := of_decide_eq_true hk0
  clear hk0
  have hval : ∀ (j : Nat) t v, Tryz.f5.params[j]? = some t → args[j]? = some v → Value.okWide Tryz.prog W .any base t v := hval0
  have hW' := hW
  obtain ⟨p, q, hA0, hV, rfl, hfz, hnd⟩ := hW
  have hA : DataW.TrodAll enc Tryz.prog W 0 (fun _ => true) true Tryz.f5.params.toList args.toList ds p := hA0
  rw [Tryz.params5] at hA hval
  obtain ⟨v0, vs0, d0, ds0, p0, q0, hargs, rfl, rfl, k0, r0⟩ := trodAll_cons hA
  obtain ⟨rfl, rfl, rfl⟩ := trodAll_nil r0
  obtain rfl : args = #[v0] := by cases args; simp_all
  obtain ⟨rfl, rfl⟩ := trodVars_none hV
  have lt0 : ∀ x ∈ p0, x.block < W.heap.size := by obtain ⟨m, hm⟩ := k0; exact DataW.trod_lt m _ _ _ hm
  obtain ⟨x0, e0, hv0, ok0, p0', b0⟩ := open_ent (hval 0 35 v0 rfl rfl) k0
  clear hA0 hval0
  have hk : Rows.uptoBulk d0 ≤ 1048576 := by simpa [Rows.uptoBulkAll, Nat.add_assoc] using hk1
  clear hk1
  subst hv0
  refine (back_walk W x0 e0 p0' ok0 (b0.big (by omega))).mono fun e W' ⟨he, bel⟩ => ?_
  subst he
  exact ⟨_, rfl, _, _, _, [], _, [], hW', trodAll_mk1 (shut_bool Tryz.underlying4 _), (trodAll_cons_mk (Below.trod laidOut_entryBack (by kernel_rfl) (of_decide_eq_true (by kernel_rfl)) k0 bel lt0) trodAll_mk0), rfl, bel.frame _, fun h => by cases h⟩
theorem entryBack_proved : Rows.EntryBackUptoSaid :=
  OpenClaim.holds_of_cond 5 Tryz.f5 rfl rfl rfl rfl rfl rfl rfl ⟨rfl, rfl, rfl, rfl, rfl⟩ rfl rfl rfl rfl rfl (by kernel_rfl) Tryz.func5 (by kernel_rfl)
    (of_decide_eq_true (by kernel_rfl)) (by unfold Func.isWrapper; first | (rw [if_pos (by decide +kernel)]; kernel_rfl) | (rw [if_neg (by decide +kernel)]; exact ⟨rfl, rfl⟩))
    (fun os started H enc _ F => lifted_entryBack os started H enc F)
#print axioms entryBack_proved
end Go.Proofs.YtiemgmbjhllmbaaGreat
