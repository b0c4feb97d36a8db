/-
  WanBack: just messages that may be told are put, and got as they were; without the last byte, or with one more, they are none; none is a message of a group; what is handed in stays. Every input (the law looks at what its 'heavy' lets pass); no conditions.
-/
import Derived.Test.YtgilijkmmcpfjaaZWOpen
import Derived.Test.YtgilijkmmcpfjaaZV
import Derived.Test.YtgilijkmmcpfjaaZU
import Derived.Test.YtgilijkmmcpfjaaZT
import Derived.JoinedCond
set_option linter.unusedVariables false
set_option linter.unusedSimpArgs false
set_option maxRecDepth 100000
namespace Go.Proofs.Ytgilijkmmcpfjaa
open Go.RowKit
theorem stampB_le (l : List Nat) (h : l.length ≤ 3) : (stampB l).length ≤ 32 := by rw [stampB_length]; omega
theorem opt_le (c : Bool) (l : List UInt8) (n : Nat) (h : l.length ≤ n) : (opt c l).length ≤ n := by
  cases c with
  | true => exact h
  | false => exact Nat.zero_le _
theorem wanB_len {x : WanD} (m : MayW x) : 1 ≤ (wanB x).length ∧ (wanB x).length ≤ 50000 := by
  have h1 := opt_le (hasR x.kind) (be 8 (u64 x.region)) 8 (by rw [be_length]; exact Nat.le_refl _)
  have h2 := opt_le (hasE x.kind) (be 8 x.epoch) 8 (by rw [be_length]; exact Nat.le_refl _)
  have h3 := opt_le (hasV x.kind) (stampB x.vector) 32 (stampB_le _ m.vec_le)
  have h4 := opt_le (hasF x.kind) (stampB x.frontier) 32 (stampB_le _ m.fro_le)
  have h5 := opt_le (hasI x.kind) (itemsB x.items) 40000 (by
    have h6 := items_le x.items m.all
    have h7 := m.items_le
    unfold itemsB
    rw [List.length_append, be_length]; omega)
  unfold wanB bodyB
  simp only [List.length_append, be_length]
  omega
theorem zget_no {x : WanD} (m : MayW x) : zgetV (wanB x, false) = false := by
  have h1 : (rByte (wanB x, false)).1 = x.kind + 16 := by
    unfold wanB
    rw [rByte_be _ _ (show x.kind + 16 < 256 by have := m.kind; omega)]
  have h2 : (zkindV (gotM (wanB x, false)).kind).ok = false := by
    have h3 : (gotM (wanB x, false)).kind = x.kind + 16 := h1
    rw [h3]
    simp [zkindV]
  have h4 : mayV (gotM (wanB x, false)) = false := by unfold mayV; rw [h2]; simp
  unfold zgetV
  rw [h4, Bool.and_false]
theorem Sl.cut {w : World} {a : Option Addr} {cap : Nat} {xs : List Value} (h : Sl w (.slice a xs.length cap) xs) (k : Nat) (hk : k ≤ xs.length) : Sl w (.slice a k cap) (xs.take k) := by
  obtain ⟨a', cap', he, hcap, hx⟩ := h
  injection he with e1 e2 e3
  subst e1 e3
  have hl : (xs.take k).length = k := by simp [hk]
  refine ⟨a, cap, by rw [hl], by rw [hl]; omega, ?_⟩
  rcases hx with rfl | ⟨b, off, rfl, hlt, hx⟩
  · left; simp
  · exact .inr ⟨b, off, rfl, hlt, fun j hj => by rw [hx j (by omega)]; simp⟩
theorem bytes_take' (l : List UInt8) (k : Nat) : (Go.Proofs.Ytgilijkmmcpfjaa.bytes l).take k = Go.Proofs.Ytgilijkmmcpfjaa.bytes (l.take k) := by unfold Go.Proofs.Ytgilijkmmcpfjaa.bytes; rw [List.map_take]
theorem msgTy : RowTy Try.prog 50 6 := ⟨⟨_, Try.underlying50⟩, by kernel_rfl⟩
set_option maxHeartbeats 8000000 in
theorem wback_walk (w : World) (x : WanD) (a1 b1 c1 : Value) (hp : WanP Any w x a1 b1 c1) (ok : WanOk x) :
    Calls Try.prog 8 #[.agg (wanCells x a1 b1 c1).toArray] w fun e w' => e = .returned (.bool true) ∧ Below w.heap.size w w' := by
  have PUT : Hid (WanLight x → ∀ W, Gr w W → Calls Try.prog 10 #[.agg (wanCells x a1 b1 c1).toArray] W (RetPutW W x)) := Lib.hid fun h W hW => putW_any W x a1 b1 c1 (hp.gr hW) ok h.len
  have HEAVY : Hid (∀ W, Gr w W → Calls Try.prog 9 #[.agg (wanCells x a1 b1 c1).toArray] W (NotThenW (WanLight x) W)) := Lib.hid fun W hW => heavy_any W x a1 b1 c1 (hp.gr hW)
  have MAY : Hid (WanLight x → ∀ W, Gr w W → Calls Try.prog 16 #[.agg (wanCells x a1 b1 c1).toArray] W (RetBool W (mayW x))) := Lib.hid fun h W hW => dmayW_any W x a1 b1 c1 (hp.gr hW) h.short
  have SAME : Hid (WanLight x → ∀ W q, Gr w W → wP Any W x q → Calls Try.prog 15 #[.agg (wanCells x a1 b1 c1).toArray, .agg (wC x q).toArray] W (fun e w' => e = .returned (.bool true) ∧ Gr W w')) := Lib.hid fun h W q hW h2 => (wan_says W _ _ _ _ _ _ _ _ (hp.gr hW) h2 h.short h.short).mono fun e w' ⟨z, he, hz, hg⟩ => ⟨by rw [he, hz.2 rfl], hg⟩
  obtain ⟨m, hm⟩ : ∃ m, m = mayW x := ⟨_, rfl⟩
  obtain ⟨Lw, hLw⟩ : ∃ L, L = wanB x := ⟨_, rfl⟩
  have NOT : Hid (m = false → putW x = ([], 1)) := Lib.hid fun h => by unfold putW; rw [← hm, h]; rfl
  have YES : Hid (m = true → putW x = (Lw, 0) ∧ (1 ≤ Lw.length ∧ Lw.length ≤ 50000) ∧ getW Lw = (x, 0) ∧ (getW (Lw.take (Lw.length - 1))).2 = 2 ∧ (getW (Lw ++ [0])).2 = 2 ∧ zgetV (Lw, false) = false) := Lib.hid fun h => by
    have mw := (mayW_iff x).1 (hm ▸ h)
    rw [hLw]
    exact ⟨putW_may mw, wanB_len mw, getW_put ok mw, getW_less ok mw, getW_more ok mw, zget_no mw⟩
  obtain ⟨E, hE⟩ : ∃ E, E = wanCells x a1 b1 c1 := ⟨_, rfl⟩
  have EN : Hid (E.length = 7) := Lib.hid (by rw [hE]; rfl)
  rw [← hE] at PUT HEAVY MAY SAME ⊢
  rw [← hm] at MAY
  obtain ⟨PP, hPP⟩ : ∃ PP : Prop, PP = WanLight x := ⟨_, rfl⟩
  rw [← hPP] at PUT HEAVY MAY SAME
  clear hLw hm hE hPP hp ok
  go_enter Try.func8, Try.ntmps8
  go_wp2_with (first | (refine wpList_boxE _ rfl rfl rfl ?_) | fail)
  intro w1 k1 g1 n1
  obtain ⟨B1, hb1⟩ : ∃ b1, b1 = w.heap.size := ⟨_, rfl⟩
  rw [← hb1]
  rw [← hb1] at k1
  have KE := Lib.hid k1
  have GG := Lib.hid g1
  clear k1 g1 n1 hb1
  go_wp2_with (first | (refine wpList_loadE wanTy _ rfl rfl rfl KE.out EN.out ?_) | fail)
  refine (HEAVY.out w1 GG.out).mono ?_
  rintro en w2 ⟨z, rfl, hz, g2⟩
  have G2 := Lib.hid (GG.out.trans g2)
  have K2 := Lib.hid (KE.out.gr g2)
  cases z with
  | true =>
    clear hz g2
    go_wp2
    go_ret
    exact ⟨rfl, G2.out⟩
  | false =>
  have SH := Lib.hid (hz rfl)
  clear hz g2
  go_wp2_with (first | (refine wpList_loadE wanTy _ rfl rfl rfl K2.out EN.out ?_) | fail)
  refine (PUT.out SH.out w2 G2.out).mono ?_
  rintro en w3 ⟨v3, he3, s3, g3⟩
  have G3 := Lib.hid (G2.out.trans g3)
  have K3 := Lib.hid (K2.out.gr g3)
  cases m with
  | false =>
    rw [NOT.out rfl] at he3 s3
    subst he3
    obtain ⟨a3, c3, rfl⟩ := s3.oneCells
    have e0 : (bytes ([] : List UInt8)).length = 0 := rfl
    rw [e0]
    clear s3 g3 YES NOT e0
    go_wp2_with (first | (refine wpList_loadE wanTy _ rfl rfl rfl K3.out EN.out ?_) | fail)
    refine (MAY.out SH.out w3 G3.out).mono ?_
    rintro en w4 ⟨rfl, g4⟩
    have G4 := Lib.hid (G3.out.trans g4)
    clear g4
    go_wp2_with fail
    refine (tells_any w4).mono ?_
    rintro en w5 ⟨rfl, g5⟩
    have G5 := Lib.hid (G4.out.trans g5)
    clear g5
    go_wp2
    go_ret
    exact ⟨rfl, G5.out⟩
  | true =>
  obtain ⟨y1, ⟨hp1, hp2⟩, y3, y4, y5, y6⟩ := YES.out rfl
  rw [y1] at he3 s3
  subst he3
  obtain ⟨a3, c3, rfl⟩ := s3.oneCells
  rw [bytes_length] at s3 ⊢
  have S3 := Lib.hid s3
  have Y3 := Lib.hid y3
  have Y4 := Lib.hid y4
  have Y5 := Lib.hid y5
  have Y6 := Lib.hid y6
  clear s3 g3 YES NOT y1 y3 y4 y5 y6
  go_wp2_with (first | (refine wpList_loadE wanTy _ rfl rfl rfl K3.out EN.out ?_) | fail)
  refine (MAY.out SH.out w3 G3.out).mono ?_
  rintro en w4 ⟨rfl, g4⟩
  have G4 := Lib.hid (G3.out.trans g4)
  have K4 := Lib.hid (K3.out.gr g4)
  have S4 := Lib.hid (S3.out.below g4)
  have i0 : ((Lw.length : Int) == 0) = false := by rw [beq_eq_false_iff_ne]; omega
  have i1 : ¬ (Lw.length = 0) := by omega
  clear g4 S3 K3 MAY PUT HEAVY
  go_wp2_with fail
  refine (getW_any w4 _ Lw S4.out (by omega)).mono ?_
  intro en w5 h5
  obtain ⟨q5, h5a, p5, g5⟩ := retGetW3 h5
  rw [Y3.out] at h5a p5
  subst h5a
  clear h5
  have P5 := Lib.hid (p5.mono (fun _ _ => trivial) : wP Any w5 x q5)
  obtain ⟨F, hF⟩ : ∃ F, F = wC x q5 := ⟨_, rfl⟩
  have FN : Hid (F.length = 7) := Lib.hid (by rw [hF]; rfl)
  have F1 : Hid (oneAll F) := Lib.hid (by rw [hF]; exact p5.one)
  have HF := Lib.hid hF
  have G5 := Lib.hid (G4.out.trans g5)
  have K5 := Lib.hid (K4.out.gr g5)
  have S5 := Lib.hid (S4.out.below g5)
  rw [← hF]
  clear p5 g5 hF S4 K4
  go_wp2_with (first | (refine wpList_storeE wanTy _ _ rfl rfl rfl rfl (CellsAt.new _ _ _) FN.out rfl F1.out ?_) | fail)
  intro w6 k6 ch6
  have g6 : Gr w5 w6 := Below.trans ((Gr.refl w5).alloc _) (ch6.below ((Gr.refl w5).alloc _).size (fun k hk => by have : k = w5.heap.size := hk; omega))
  have P6 := Lib.hid (P5.out.gr g6)
  have G6 := Lib.hid (G5.out.trans g6)
  have K6 := Lib.hid (K5.out.gr g6)
  have S6 := Lib.hid (S5.out.below g6)
  have KF6 := Lib.hid k6
  obtain ⟨B6, hB6⟩ : ∃ B6, B6 = w5.heap.size := ⟨_, rfl⟩
  rw [← hB6] at KF6 ⊢
  clear k6 ch6 g6 P5 K5 S5 hB6
  have sx : Sl w6 (.slice a3 (Lw.length - 1) c3) (bytes (Lw.take (Lw.length - 1))) := by
    have sb' : Sl w6 (.slice a3 (bytes Lw).length c3) (bytes Lw) := by rw [bytes_length]; exact S6.out
    have := sb'.cut (Lw.length - 1) (by rw [bytes_length]; omega)
    rw [bytes_take'] at this
    exact this
  have SX := Lib.hid sx
  have sc := S6.out
  obtain ⟨_, _, he9, hcap9, hor⟩ := sc
  injection he9 with e91 e92 e93
  clear e92
  subst e91 e93
  rw [bytes_length] at hcap9
  obtain ⟨b4, o4, rfl⟩ : ∃ b o, a3 = some ⟨b, o, none⟩ := by
    rcases hor with h | ⟨b, o, h, _⟩
    · have := bytes_length Lw; rw [h] at this; simp at this; omega
    · exact ⟨b, o, h⟩
  have i2 : (1 : Int) ≤ (Lw.length : Int) := by omega
  clear sx hor
  go_wp2_with fail
  refine (getW_any w6 _ _ SX.out (by rw [List.length_take]; omega)).mono ?_
  intro en w7 h7
  obtain ⟨q7, rfl, p7, g7⟩ := retGetW3 h7
  rw [Y4.out]
  obtain ⟨F7, hF7⟩ : ∃ F, F = wC (getW (Lw.take (Lw.length - 1))).1 q7 := ⟨_, rfl⟩
  have F7N : Hid (F7.length = 7) := Lib.hid (by rw [hF7]; rfl)
  have F71 : Hid (oneAll F7) := Lib.hid (by rw [hF7]; exact p7.one)
  rw [← hF7]
  have P7 := Lib.hid (P6.out.gr g7)
  have G7 := Lib.hid (G6.out.trans g7)
  have K7 := Lib.hid (K6.out.gr g7)
  have KF7 := Lib.hid (KF6.out.gr g7)
  have S7 := Lib.hid (S6.out.below g7)
  clear h7 p7 hF7 g7 P6 K6 KF6 S6 SX
  go_wp2_with (first | (refine wpList_storeE wanTy _ _ rfl rfl rfl rfl (CellsAt.new _ _ _) F7N.out rfl F71.out ?_) | fail)
  intro w8 k8 ch8
  have g8 : Gr w7 w8 := Below.trans ((Gr.refl w7).alloc _) (ch8.below ((Gr.refl w7).alloc _).size (fun k hk => by have : k = w7.heap.size := hk; omega))
  have P8 := Lib.hid (P7.out.gr g8)
  have G8 := Lib.hid (G7.out.trans g8)
  have K8 := Lib.hid (K7.out.gr g8)
  have KF8 := Lib.hid (KF7.out.gr g8)
  have s8 := S7.out.below g8
  clear k8 ch8 g8 P7 K7 KF7 S7
  obtain ⟨v10, w10, hr10, ho10, hg10⟩ := run_append_u8 (w8.alloc (.cells #[] 5)) w8.heap.size (.slice (some ⟨w8.heap.size, 0, none⟩) 0 0) (.slice (some ⟨b4, o4, none⟩) Lw.length c3) [] Lw (Own.nil_lit _ _ (Nat.le_refl _)) (s8.below ((Below.refl _ _).alloc (Nat.le_refl _) _)) (by simp; omega) (by simp)
  rw [List.nil_append] at ho10
  obtain ⟨v11, w11, hr11, ho11, hg11⟩ := run_append_u8 (w10.alloc (.cells #[.int .u8 0] 5)) w8.heap.size v10 (.slice (some ⟨w10.heap.size, 0, none⟩) 1 1) Lw [0] (World.ownsRow.alloc ho10 _) (Sl.new w10 [.int .u8 0] _ _ _ _ rfl (by decide)) (by simp; omega) (Nat.le_trans (Nat.le_trans (by simp) hg10.size) (by simp))
  have b10 : Below w8.heap.size w8 w10 := ((Below.refl _ _).alloc (Nat.le_refl _) _).grown hg10 (by simp) (fun k hk => by simp [Value.ownBlock] at hk; omega)
  have b11 : Below w8.heap.size w8 w11 := (b10.alloc b10.size _).grown hg11 (Nat.le_trans b10.size (by simp)) (fun k hk => ho10.ownBlock_ge k hk)
  have s11 := ho11.sl
  obtain ⟨a10, c10, rfl⟩ := ho10.shape
  obtain ⟨a11, c11, rfl⟩ := ho11.shape
  rw [bytes_length] at hr10 hr11
  rw [bytes_length] at s11 hr11
  have hl11 : (Lw ++ [(0 : UInt8)]).length = Lw.length + 1 := by simp
  rw [hl11] at hr11 s11
  have HR10 := Lib.hid hr10
  have HR11 := Lib.hid hr11
  have S11 := Lib.hid s11
  have P11 := Lib.hid (P8.out.gr b11)
  have G11 := Lib.hid (G8.out.trans b11)
  have K11 := Lib.hid (K8.out.gr b11)
  have KF11 := Lib.hid (KF8.out.gr b11)
  have SL11 := Lib.hid (s8.below b11)
  have HP11 : Hid ((Lw ++ [0]).length ≤ 1000000000) := Lib.hid (by simp; omega)
  clear hr10 hr11 s11 b11 b10 ho10 ho11 hg10 hg11 s8 hl11 P8 K8 KF8
  go_wp2_with (at_builtin; first | (refine wpList_run_append HR10.out rfl _ _ rfl rfl rfl ?_; clear HR10) | (refine wpList_run_append HR11.out rfl _ _ rfl rfl rfl ?_; clear HR11))
  refine (getW_any w11 (.slice a11 (Lw.length + 1) c11) (Lw ++ [0]) S11.out HP11.out).mono ?_
  intro en w12 h12
  obtain ⟨q12, rfl, p12, g12⟩ := retGetW3 h12
  rw [Y5.out]
  obtain ⟨FA, hFA⟩ : ∃ F, F = wC (getW (Lw ++ [0])).1 q12 := ⟨_, rfl⟩
  have FAN : Hid (FA.length = 7) := Lib.hid (by rw [hFA]; rfl)
  have FA1 : Hid (oneAll FA) := Lib.hid (by rw [hFA]; exact p12.one)
  rw [← hFA]
  have P12 := Lib.hid (P11.out.gr g12)
  have G12 := Lib.hid (G11.out.trans g12)
  have K12 := Lib.hid (K11.out.gr g12)
  have KF12 := Lib.hid (KF11.out.gr g12)
  have S12 := Lib.hid (SL11.out.below g12)
  clear h12 p12 hFA g12 P11 K11 KF11 SL11 S11
  go_wp2_with (first | (refine wpList_storeE wanTy _ _ rfl rfl rfl rfl (CellsAt.new _ _ _) FAN.out rfl FA1.out ?_) | fail)
  intro w13 k13 ch13
  have g13 : Gr w12 w13 := Below.trans ((Gr.refl w12).alloc _) (ch13.below ((Gr.refl w12).alloc _).size (fun k hk => by have : k = w12.heap.size := hk; omega))
  have P13 := Lib.hid (P12.out.gr g13)
  have G13 := Lib.hid (G12.out.trans g13)
  have K13 := Lib.hid (K12.out.gr g13)
  have KF13 := Lib.hid (KF12.out.gr g13)
  have S13 := Lib.hid (S12.out.below g13)
  clear k13 ch13 g13 P12 K12 KF12 S12
  have ZG : Hid (Calls Try.prog 17 #[.slice (some ⟨b4, o4, none⟩) Lw.length c3] w13 (fun e w' => e = .returned (.tuple #[.agg zzeroM, .int .i64 2]) ∧ Gr w13 w')) := Lib.hid ((get_any w13 _ Lw S13.out (by omega)).mono fun e w' ⟨h1, h2⟩ => ⟨by rw [if_neg (by rw [Y6.out]; decide)] at h2; exact h2, h1⟩)
  go_wp2_with fail
  refine ZG.out.mono ?_
  rintro en w14 ⟨rfl, g14⟩
  have P14 := Lib.hid (P13.out.gr g14)
  have G14 := Lib.hid (G13.out.trans g14)
  have K14 := Lib.hid (K13.out.gr g14)
  have KF14 := Lib.hid (KF13.out.gr g14)
  clear g14 P13 K13 KF13 S13 ZG Y3 Y4 Y5 Y6
  unfold zzeroM
  go_wp2_with (first | (refine wpList_storeE (cs := [.int .u8 0, .int .u64 0, .int .u64 0, .int .i64 0, .int .i64 0, .slice none 0 0]) msgTy _ _ rfl rfl rfl rfl (CellsAt.new _ _ _) rfl rfl rfl ?_) | fail)
  intro w15 k15 ch15
  have g15 : Gr w14 w15 := Below.trans ((Gr.refl w14).alloc _) (ch15.below ((Gr.refl w14).alloc _).size (fun k hk => by have : k = w14.heap.size := hk; omega))
  have P15 := Lib.hid (P14.out.gr g15)
  have G15 := Lib.hid (G14.out.trans g15)
  have K15 := Lib.hid (K14.out.gr g15)
  have KF15 := Lib.hid (KF14.out.gr g15)
  clear k15 ch15 g15 P14 K14 KF14
  go_wp2_with (first | (refine wpList_loadE wanTy _ rfl rfl rfl K15.out EN.out ?_) | (refine wpList_loadE wanTy _ rfl rfl rfl KF15.out FN.out ?_) | (refine wpList_loadW wanTy _ rfl rfl rfl K15.out EN.out ?_) | (refine wpList_loadW wanTy _ rfl rfl rfl KF15.out FN.out ?_) | fail)
  rw [HF.out]
  refine (SAME.out SH.out w15 q5 G15.out P15.out).mono ?_
  rintro en w16 ⟨rfl, g16⟩
  rw [← HF.out]
  have G16 := Lib.hid (G15.out.trans g16)
  clear g16
  go_wp2_with fail
  refine (tells_any w16).mono ?_
  rintro en w17 ⟨rfl, g17⟩
  have G17 := Lib.hid (G16.out.trans g17)
  clear g17
  go_wp2
  go_ret
  exact ⟨rfl, G17.out⟩
open Go.ChangeShapes Go.WideShapes Go.ChangeAt Go.RowKit
open Go.ChangeMaps (open_string shut_string)
theorem own_wanBack : ownKnob Try.prog.godebug = none := by kernel_rfl
theorem laidOut_wanBack : laidOutB Try.prog = true := by kernel_rfl
set_option maxRecDepth 100000 in
theorem lifted_wanBack (os : Os) (started : os.Started) (H : Type) (enc : TypeId × Value → H) :
    ReturnsInHanded {} Try.checked os 8 .any (Rows.wanBackSpec.pre6 enc Try.prog Try.f8 Rows.wanBackRow.domain false) (Rows.wanBackSpec.post enc Try.prog Try.f8 false true false false) := by
  refine returnsInHanded_of_change (C := Try.checked) own_wanBack started (by kernel_rfl) Try.func8
    (ChangeSpec.witness6 (enc := enc) (C := Try.checked) false ⟨#[], #[.agg #[.int .u8 0, .int .i64 0, .slice none 0 0, .slice none 0 0, .int .i64 0, .int .u64 0, .slice none 0 0]], []⟩ 8 (by kernel_rfl) (by kernel_rfl) (by kernel_rfl) (by kernel_rfl)) ?_
  intro W base args ds gs before hval0 hW hcnd _
  have hval : ∀ (j : Nat) t v, Try.f8.params[j]? = some t → args[j]? = some v → Value.okWide Try.prog W .any base t v := hval0
  have hW' := hW
  obtain ⟨p, q, hA0, hV, rfl, hfz, hnd⟩ := hW
  have hA : DataW.TrodAll enc Try.prog W 0 (fun _ => true) true Try.f8.params.toList args.toList ds p := hA0
  rw [Try.params8] at hA hval
  obtain ⟨v0, vs0, d0, ds0, p0, q0, hargs, rfl, rfl, k0, r0⟩ := trodAll_cons hA
  obtain ⟨rfl, rfl, rfl⟩ := trodAll_nil r0
  obtain rfl : args = #[v0] := by cases args; simp_all
  obtain ⟨rfl, rfl⟩ := trodVars_none hV
  have lt0 : ∀ x ∈ p0, x.block < W.heap.size := by obtain ⟨m, hm⟩ := k0; exact DataW.trod_lt m _ _ _ hm
  obtain ⟨x0, a0, b0, c0, hv0, ok0, pp0⟩ := open_wan (hval 0 26 v0 rfl rfl) k0
  subst hv0
  clear hA0 hval0
  refine (wback_walk W x0 a0 b0 c0 pp0 ok0).mono fun e W' ⟨he, bel⟩ => ?_
  subst he
  exact ⟨_, rfl, _, _, _, [], _, [], hW', trodAll_mk1 (shut_bool Try.underlying4 _), (trodAll_cons_mk (Below.trod laidOut_wanBack (by kernel_rfl) (of_decide_eq_true (by kernel_rfl)) k0 bel lt0) trodAll_mk0), rfl, bel.frame _, fun h => by cases h⟩
theorem over_wanBack : Rows.wanBackRow.holds Try.pinned (OpenSpec.ofChange Rows.wanBackSpec) :=
  OpenClaim.holds_of_wide 8 Try.f8 rfl rfl rfl rfl rfl rfl rfl ⟨rfl, rfl, rfl, rfl, rfl⟩ rfl rfl rfl rfl rfl (by kernel_rfl) Try.func8 (by kernel_rfl)
    (of_decide_eq_true (by kernel_rfl)) (by unfold Func.isWrapper; first | (rw [if_pos (by decide +kernel)]; kernel_rfl) | (rw [if_neg (by decide +kernel)]; exact ⟨rfl, rfl⟩))
    (fun os started H enc _ => lifted_wanBack os started H enc)
theorem wanBack_proved : Rows.WanBackSaid := over_wanBack
#print axioms wanBack_proved
end Go.Proofs.Ytgilijkmmcpfjaa
