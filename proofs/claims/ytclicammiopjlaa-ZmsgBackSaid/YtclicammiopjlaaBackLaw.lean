/-
  ZmsgBack: just messages that may be are put, and got as they were; without the last byte, or with one more, they are none. Every input (the law looks at up to 300 lines and 6,000 bytes); no conditions.
-/
import Derived.Test.YtclicammiopjlaaTells
set_option linter.unusedVariables false
namespace Go.Proofs.Ytclicammiopjlaa
open Go.RowKit

theorem putV_len (m : MsgD) (h : mayV m = true) : 1 ≤ (putV m).length ∧ (putV m).length ≤ 2000000 := by
  have h1 := mayV_facts h
  have h2 := flat_le (ls := m.ls) h1.2.2.2.2.2.2.2.2.2.2
  have h3 := five_length m 5
  have h4 : (five m).take 5 = five m := List.take_of_length_le (by simp [five])
  rw [h4] at h3
  have h5 := h1.2.2.2.2.2.2.2.2.2.1
  unfold putV headB
  rw [List.length_append, List.length_append, be_length]
  omega
theorem last_of (l : List UInt8) (h : 1 ≤ l.length) : ∃ c, l = l.take (l.length - 1) ++ [c] := by
  have e := List.take_append_drop (l.length - 1) l
  have hd : (l.drop (l.length - 1)).length = 1 := by rw [List.length_drop]; omega
  obtain ⟨c, hc⟩ := List.length_eq_one_iff.1 hd
  exact ⟨c, by rw [hc] at e; exact e.symm⟩

theorem Sl.cut {w : World} {a : Option Addr} {cap : Nat} {xs : List Value} (h : Sl w (.slice a xs.length cap) xs) (k : Nat) (hk : k ≤ xs.length) : Sl w (.slice a k cap) (xs.take k) := by
  obtain ⟨a', cap', he, hcap, hx⟩ := h
  injection he with e1 e2 e3
  subst e1 e3
  have hl : (xs.take k).length = k := by simp [hk]
  refine ⟨a, cap, by rw [hl], by rw [hl]; omega, ?_⟩
  rcases hx with rfl | ⟨b, off, rfl, hlt, hx⟩
  · left; simp
  · exact .inr ⟨b, off, rfl, hlt, fun j hj => by rw [hx j (by omega)]; simp⟩

set_option maxHeartbeats 4000000 in
theorem back_walk (w : World) (m : MsgD) (lv : Value) (hl : Lines w lv m.ls) (hok : MsgOk m) (hlen : m.ls.length ≤ maxLen) :
    Calls Try.prog 5 #[.agg (msgCells m lv)] w fun e w' => e = .returned (.bool true) ∧ Below w.heap.size w w' := by
  obtain ⟨a, c, rfl⟩ := hl.shape
  have HA : Hid ((.agg #[.int .u8 (m.kind : Int), .int .u64 (m.epoch : Int), .int .u64 (m.current : Int), .int .i64 m.at_, .int .i64 m.commit, .slice a m.ls.length c] : Value) = .agg (msgCells m (.slice a m.ls.length c))) := Lib.hid rfl
  obtain ⟨w1, hw1⟩ : ∃ w1, w1 = w.alloc (.cells #[.int .u8 (m.kind : Int), .int .u64 (m.epoch : Int), .int .u64 (m.current : Int), .int .i64 m.at_, .int .i64 m.commit, .slice a m.ls.length c] 25) := ⟨_, rfl⟩
  have g1 : Gr w w1 := by rw [hw1]; exact (Gr.refl w).alloc _
  have b1 : MsgAt w1 w.heap.size m (.slice a m.ls.length c) := by unfold MsgAt; rw [hw1]; exact heap_alloc_new w _
  have cc := fun W (hg : Gr w1 W) => (b1.block (hg.block _ b1.lt)).cells
  have CC := Lib.hid cc
  have HL := Lib.hid (hl.below g1)
  have HW1 := Lib.hid hw1
  have HG1 := Lib.hid g1
  have HOK := Lib.hid hok
  have HLEN := Lib.hid hlen
  clear cc b1 hw1 hl g1 hok hlen
  unfold msgCells
  obtain ⟨f, hf⟩ : ∃ b, b = mayV m := ⟨_, rfl⟩
  have F := Lib.hid hf.symm
  clear hf
  go_enter Try.func5, Try.ntmps5
  go_wp2_with fail
  rw [← HW1.out, HA.out]
  refine (heavy_any _ m _ HL.out HLEN.out).mono ?_
  rintro e w3 ⟨z1, rfl, _, G3⟩
  obtain ⟨p0, p1, p2, p3, p4, p5, _⟩ := CC.out w3 G3
  have HG3 := Lib.hid G3
  clear G3
  cases z1 with
  | true =>
    go_wp2
    go_ret
    exact ⟨rfl, Gr.trans HG1.out HG3.out⟩
  | false =>
  go_wp2_with fail
  rw [HA.out]
  cases f with
  | false =>
    refine (put_no _ m _ (HL.out.below HG3.out) HOK.out HLEN.out F.out).mono ?_
    rintro e w4 ⟨rfl, g4⟩
    have G4 := Gr.trans HG3.out g4
    obtain ⟨p0, p1, p2, p3, p4, p5, _⟩ := CC.out w4 G4
    have HG4 := Lib.hid G4
    clear g4 G4 HG3
    go_wp2_with fail
    rw [HA.out]
    refine (refmay_any _ m _ (HL.out.below HG4.out) HOK.out HLEN.out).mono ?_
    rw [F.out]
    rintro e w5 ⟨rfl, g5⟩
    have G5 := Gr.trans HG4.out g5
    have HG5 := Lib.hid G5
    clear g5 G5 HG4
    go_wp2_with fail
    refine (tells_any _).mono ?_
    rintro e w6 ⟨rfl, g6⟩
    have G6 := Gr.trans HG1.out (Gr.trans HG5.out g6)
    go_wp2
    go_ret
    exact ⟨rfl, G6⟩
  | true =>
  have hpl := putV_len m F.out
  refine (put_yes _ m _ (HL.out.below HG3.out) HOK.out HLEN.out F.out).mono ?_
  rintro e w4 ⟨v4, rfl, s4, g4⟩
  obtain ⟨a4, c4, rfl, hcap4, hc4⟩ := s4.bytes
  rcases hc4 with hc4 | ⟨b4, o4, rfl, _⟩
  · rw [hc4] at hpl; exact absurd hpl.1 (by decide)
  obtain ⟨ch, hch⟩ := last_of (putV m) hpl.1
  have hgl := getV_less m _ ch F.out hch
  have hgm := getV_more m 0 F.out
  obtain ⟨hgy, hgmm⟩ := getV_put m F.out
  have G4 := Gr.trans HG3.out g4
  obtain ⟨p0, p1, p2, p3, p4, p5, _⟩ := CC.out w4 G4
  have HG4 := Lib.hid G4
  have HGL := Lib.hid hgl
  have HGM := Lib.hid hgm
  have HGY := Lib.hid hgy
  have HGMM := Lib.hid hgmm
  have S4 := Lib.hid s4
  clear g4 G4 HG3 hch hgl hgm hgy hgmm s4
  go_wp2_with fail
  rw [HA.out]
  refine (refmay_any _ m _ (HL.out.below HG4.out) HOK.out HLEN.out).mono ?_
  rw [F.out]
  rintro e w5 ⟨rfl, g5⟩
  have G5 := Gr.trans HG4.out g5
  have S5 := Lib.hid (S4.out.below g5)
  have HG5 := Lib.hid G5
  obtain ⟨pv, hpv⟩ : ∃ pv, pv = putV m := ⟨_, rfl⟩
  rw [← hpv] at HGL HGM HGY HGMM S5 hpl hcap4 ⊢
  clear g5 G5 HG4 S4 hpv
  have i0 : ((pv.length : Int) == 0) = false := by rw [beq_eq_false_iff_ne]; omega
  have i1 : ¬ (pv.length = 0) := by omega
  go_wp2_with fail
  refine (get_yes _ _ pv S5.out (by omega) HGY.out).mono ?_
  rw [HGMM.out]
  rintro e w6 ⟨l6, rfl, hl6, g6⟩
  obtain ⟨a6, c6, rfl⟩ := hl6.shape
  have HA6 : Hid ((.agg #[.int .u8 (m.kind : Int), .int .u64 (m.epoch : Int), .int .u64 (m.current : Int), .int .i64 m.at_, .int .i64 m.commit, .slice a6 m.ls.length c6] : Value) = .agg (msgCells m (.slice a6 m.ls.length c6))) := Lib.hid rfl
  obtain ⟨w7, hw7⟩ : ∃ w7, w7 = w6.alloc (.cells #[.int .u8 (m.kind : Int), .int .u64 (m.epoch : Int), .int .u64 (m.current : Int), .int .i64 m.at_, .int .i64 m.commit, .slice a6 m.ls.length c6] 25) := ⟨_, rfl⟩
  have g7 : Gr w6 w7 := by rw [hw7]; exact (Gr.refl w6).alloc _
  have b7 : MsgAt w7 w6.heap.size m (.slice a6 m.ls.length c6) := by unfold MsgAt; rw [hw7]; exact heap_alloc_new w6 _
  have hl7 := (hl6.lines).below g7
  have G7 := Gr.trans HG5.out (Gr.trans g6 g7)
  have s7 := S5.out.below (Gr.trans g6 g7)
  have S7 := Lib.hid s7
  have HW7 := Lib.hid hw7
  have HL7 := Lib.hid hl7
  have HB7 := Lib.hid b7
  have HG7 := Lib.hid G7
  clear hw7 g6 hl6 hl7 b7 S5 HG5 G7 g7
  have sx : Sl w7 (.slice (some ⟨b4, o4, none⟩) (pv.length - 1) c4) (bytes (pv.take (pv.length - 1))) := by
    have sb' : Sl w7 (.slice (some ⟨b4, o4, none⟩) (bytes pv).length c4) (bytes pv) := by rw [bytes_length]; exact s7
    have := sb'.cut (pv.length - 1) (by rw [bytes_length]; omega)
    rw [bytes_take] at this
    exact this
  have SX := Lib.hid sx
  clear sx s7
  unfold msgCells
  have i2 : (1 : Int) ≤ (pv.length : Int) := by omega
  go_wp2_with fail
  rw [← HW7.out]
  refine (get_no _ _ _ SX.out (by simp; omega) HGL.out).mono ?_
  rintro e w8 ⟨rfl, g8⟩
  obtain ⟨w9, hw9⟩ : ∃ w9, w9 = w8.alloc (.cells zeroM 25) := ⟨_, rfl⟩
  have g9 : Gr w8 w9 := by rw [hw9]; exact (Gr.refl w8).alloc _
  have G79 := Gr.trans g8 g9
  have s9 := S7.out.below G79
  obtain ⟨v10, w10, hr10, ho10, hg10⟩ := run_append_u8 (w9.alloc (.cells #[] 5)) w9.heap.size (.slice (some ⟨w9.heap.size, 0, none⟩) 0 0) (.slice (some ⟨b4, o4, none⟩) pv.length c4) [] pv (Own.nil_lit _ _ (Nat.le_refl _)) (s9.below ((Below.refl _ _).alloc (Nat.le_refl _) _)) (by simp; omega) (by simp)
  rw [List.nil_append] at ho10
  obtain ⟨v11, w11, hr11, ho11, hg11⟩ := run_append_u8 (w10.alloc (.cells #[.int .u8 0] 5)) w9.heap.size v10 (.slice (some ⟨w10.heap.size, 0, none⟩) 1 1) pv [0] (World.ownsRow.alloc ho10 _) (Sl.new w10 [.int .u8 0] _ _ _ _ rfl (by decide)) (by simp; omega) (Nat.le_trans (Nat.le_trans (by simp) hg10.size) (by simp))
  have b10 : Below w9.heap.size w9 w10 := ((Below.refl _ _).alloc (Nat.le_refl _) _).grown hg10 (by simp) (fun k hk => by simp [Value.ownBlock] at hk; omega)
  have b11 : Below w9.heap.size w9 w11 := (b10.alloc b10.size _).grown hg11 (Nat.le_trans b10.size (by simp)) (fun k hk => ho10.ownBlock_ge k hk)
  have s11 := ho11.sl
  obtain ⟨a10, c10, rfl⟩ := ho10.shape
  obtain ⟨a11, c11, rfl⟩ := ho11.shape
  rw [bytes_length] at hr10 hr11
  rw [bytes_length] at s11 hr11
  have hl11 : (pv ++ [(0 : UInt8)]).length = pv.length + 1 := by simp
  rw [hl11] at hr11 s11
  have G711 := Gr.trans G79 b11
  have e9 : w9.heap.size = w8.heap.size + 1 := by rw [hw9]; simp
  rw [e9] at hr10
  have HW9 := Lib.hid hw9
  have HR10 := Lib.hid hr10
  have HR11 := Lib.hid hr11
  have S11 := Lib.hid s11
  have G711H := Lib.hid G711
  have hpl11 : (pv ++ [0]).length ≤ 1000000000 := by simp; omega
  have HP11 := Lib.hid hpl11
  clear e9 hw9 hr10 hr11 s11 G711 b11 b10 ho10 ho11 hg10 hg11 s9 G79 g9 g8 S7 SX hpl11 hl11
  unfold zeroM at HW9 ⊢
  go_wp2_with (at_builtin; first | (rw [← HW9.out]; refine wpList_run_append HR10.out rfl _ _ rfl rfl rfl ?_) | (refine wpList_run_append HR11.out rfl _ _ rfl rfl rfl ?_))
  refine (get_no _ (.slice a11 (pv.length + 1) c11) (pv ++ [0]) S11.out HP11.out HGM.out).mono ?_
  rintro e w12 ⟨rfl, g12⟩
  obtain ⟨w13, hw13⟩ : ∃ w13, w13 = w12.alloc (.cells zeroM 25) := ⟨_, rfl⟩
  have g13 : Gr w12 w13 := by rw [hw13]; exact (Gr.refl w12).alloc _
  have G713 := Gr.trans G711H.out (Gr.trans g12 g13)
  have G13 := Gr.trans HG7.out G713
  have hl13 := HL7.out.below G713
  have hm13 := HL.out.below G13
  have HG13 := Lib.hid (Gr.trans HG1.out G13)
  obtain ⟨p0, p1, p2, p3, p4, p5, _⟩ := CC.out w13 G13
  obtain ⟨q0, q1, q2, q3, q4, q5, _⟩ := (HB7.out.block (G713.block _ HB7.out.lt)).cells
  rw [hw13] at p0 p1 p2 p3 p4 p5 q0 q1 q2 q3 q4 q5
  have HL13 := Lib.hid hl13
  have HM13 := Lib.hid hm13
  have HW13 := Lib.hid hw13
  clear hw13 g12 g13 G713 G13 hl13 hm13 HW9 HR10 HR11 S11 G711H HP11 HGM HGL HGY HG7 HB7 HL7 HW7
  unfold zeroM at HW13 p0 p1 p2 p3 p4 p5 q0 q1 q2 q3 q4 q5 ⊢
  go_wp2_with fail
  rw [← HW13.out, HA.out, HA6.out]
  refine (same_any _ m m _ _ HM13.out HL13.out HLEN.out HLEN.out).mono ?_
  rintro e w14 ⟨z, rfl, hz, g14⟩
  obtain rfl : z = true := hz.2 rfl
  have G14 := Gr.trans HG13.out g14
  have HG14 := Lib.hid G14
  clear g14 G14 hz
  go_wp2_with fail
  refine (tells_any _).mono ?_
  rintro e w15 ⟨rfl, g15⟩
  have G15 := Gr.trans HG14.out g15
  clear g15
  go_wp2
  go_ret
  exact ⟨rfl, G15⟩

open Go.ChangeShapes Go.WideShapes Go.ChangeAt Go.RowKit
open Go.ChangeMaps (open_string shut_string)
theorem own_zmsgBack : ownKnob Try.prog.godebug = none := by kernel_rfl
theorem laidOut_zmsgBack : laidOutB Try.prog = true := by kernel_rfl
set_option maxRecDepth 100000 in
theorem lifted_zmsgBack (os : Os) (started : os.Started) (H : Type) (enc : TypeId × Value → H) :
    ReturnsInHanded {} Try.checked os 5 .any (Rows.zmsgBackSpec.pre6 enc Try.prog Try.f5 Rows.zmsgBackRow.domain false) (Rows.zmsgBackSpec.post enc Try.prog Try.f5 false true false false) := by
  refine returnsInHanded_of_change (C := Try.checked) own_zmsgBack started (by kernel_rfl) Try.func5
    (ChangeSpec.witness6 (enc := enc) (C := Try.checked) false ⟨#[], #[.agg #[.int .u8 0, .int .u64 0, .int .u64 0, .int .i64 0, .int .i64 0, .slice none 0 0]], []⟩ 8 (by kernel_rfl) (by kernel_rfl) (by kernel_rfl) (by kernel_rfl)) ?_
  intro W base args ds gs before hval0 hW hcnd _
  have hval : ∀ (j : Nat) t v, Try.f5.params[j]? = some t → args[j]? = some v → Value.okWide Try.prog W .any base t v := hval0
  have hW' := hW
  obtain ⟨p, q, hA0, hV, rfl, hfz, hnd⟩ := hW
  have hA : DataW.TrodAll enc Try.prog W 0 (fun _ => true) true Try.f5.params.toList args.toList ds p := hA0
  rw [Try.params5] at hA hval
  obtain ⟨v0, vs0, d0, ds0, p0, q0, hargs, rfl, rfl, k0, r0⟩ := trodAll_cons hA
  obtain ⟨rfl, rfl, rfl⟩ := trodAll_nil r0
  obtain rfl : args = #[v0] := by cases args; simp_all
  obtain ⟨rfl, rfl⟩ := trodVars_none hV
  have lt0 : ∀ x ∈ p0, x.block < W.heap.size := by obtain ⟨m, hm⟩ := k0; exact DataW.trod_lt m _ _ _ hm
  obtain ⟨m0, lv0, rfl, hl0, ok0, n0, x0⟩ := open_msg (hval 0 25 v0 rfl rfl) k0
  clear hA0 hval0
  refine (back_walk W m0 lv0 hl0 ok0 n0).mono fun e W' ⟨he, bel⟩ => ?_
  subst he
  exact ⟨_, rfl, _, _, _, [], _, [], hW', trodAll_mk1 (shut_bool Try.underlying4 _), (trodAll_cons_mk (Below.trod laidOut_zmsgBack (by kernel_rfl) (of_decide_eq_true (by kernel_rfl)) k0 bel lt0) trodAll_mk0), rfl, bel.frame _, fun h => by cases h⟩

theorem over_zmsgBack : Rows.zmsgBackRow.holds Try.pinned (OpenSpec.ofChange Rows.zmsgBackSpec) :=
  OpenClaim.holds_of_wide 5 Try.f5 rfl rfl rfl rfl rfl rfl rfl ⟨rfl, rfl, rfl, rfl, rfl⟩ rfl rfl rfl rfl rfl (by kernel_rfl) Try.func5 (by kernel_rfl)
    (of_decide_eq_true (by kernel_rfl)) (by unfold Func.isWrapper; first | (rw [if_pos (by decide +kernel)]; kernel_rfl) | (rw [if_neg (by decide +kernel)]; exact ⟨rfl, rfl⟩))
    (fun os started H enc _ => lifted_zmsgBack os started H enc)

theorem zmsgBack_proved : Rows.ZmsgBackSaid := over_zmsgBack
#print axioms zmsgBack_proved
end Go.Proofs.Ytclicammiopjlaa
