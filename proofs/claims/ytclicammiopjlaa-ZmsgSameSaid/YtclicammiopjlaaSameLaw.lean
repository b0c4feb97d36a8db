/-
  ZmsgSame: bytes that are a message are those that it is put as; what is got is new memory. Every input (the law looks at up to 6,000 bytes); no conditions.
-/
import Derived.Test.YtclicammiopjlaaTells
import Derived.Test.YtclicammiopjlaaRdRef
set_option linter.unusedVariables false
namespace Go.Proofs.Ytclicammiopjlaa
open Go.RowKit

theorem wrap_inc (c : UInt8) : (((c + 1).toNat : Nat) : Int) = ((c.toNat : Int) + 1) % 256 := by
  simp [UInt8.toNat_add]
def zeroD : MsgD := ⟨0, 0, 0, 0, 0, []⟩
theorem zeroD_ok : MsgOk zeroD := by unfold MsgOk; decide

set_option maxHeartbeats 4000000 in
theorem same_walk (w : World) (vb : Value) (l : List UInt8) (hl : Sl w vb (bytes l)) (hlen : l.length ≤ maxLen) :
    Calls Try.prog 7 #[vb] w fun e w' => e = .returned (.bool true) ∧ Below w.heap.size w w' := by
  obtain ⟨ab, cb, rfl, _, _⟩ := hl.bytes
  have hmx : l.length ≤ 9223372036854775807 := Nat.le_trans hlen (by decide)
  by_cases h6 : 6000 < l.length
  · go_enter Try.func7, Try.ntmps7
    go_wp2
    go_ret
    exact ⟨rfl, Below.refl _ _⟩
  obtain ⟨v1, w1, hr1, ho1, hg1⟩ := run_append_u8 (w.alloc (.cells #[] 5)) w.heap.size (.slice (some ⟨w.heap.size, 0, none⟩) 0 0) (.slice ab l.length cb) [] l (Own.nil_lit _ _ (Nat.le_refl _)) (hl.below ((Below.refl _ _).alloc (Nat.le_refl _) _)) (by simp; omega) (by simp)
  rw [List.nil_append] at ho1
  have b1 : Below w.heap.size w w1 := ((Below.refl _ _).alloc (Nat.le_refl _) _).grown hg1 (by simp) (fun k hk => by simp [Value.ownBlock] at hk; omega)
  obtain ⟨a1, c1, rfl⟩ := ho1.shape
  rw [bytes_length] at ho1 hr1
  have HR1 := Lib.hid hr1
  have HL := Lib.hid hl
  clear hr1 hg1 hl
  cases hgv : getV (l, false) with
  | false =>
    go_enter Try.func7, Try.ntmps7
    go_wp2_with (at_builtin; refine wpList_run_append HR1.out rfl _ _ rfl rfl rfl ?_)
    refine (get_no _ _ l ho1.sl (by omega) hgv).mono ?_
    rintro e w2 ⟨rfl, g2⟩
    have b2 := b1.trans (Below.mono g2 b1.size)
    have G3 : Gr w2 (w2.alloc (.cells zeroM 25)) := (Gr.refl w2).alloc _
    have b3 := b2.trans (Below.mono G3 b2.size)
    have B3 := Lib.hid b3
    unfold zeroM at B3
    clear b2 b1 b3 G3 HR1 ho1
    unfold zeroM
    have HZ : Hid ((.agg #[.int .u8 0, .int .u64 0, .int .u64 0, .int .i64 0, .int .i64 0, .slice none 0 0] : Value) = .agg (msgCells zeroD (.slice none 0 0))) := Lib.hid rfl
    go_wp2_with fail
    rw [HZ.out]
    refine (same_any _ zeroD zeroD _ _ (Lines.nil _) (Lines.nil _) (by decide) (by decide)).mono ?_
    rintro e w4 ⟨z, rfl, hz, g4⟩
    obtain rfl : z = true := hz.2 rfl
    have b4 := B3.out.trans (Below.mono g4 B3.out.size)
    have B4 := Lib.hid b4
    clear b4 hz g4 B3
    go_wp2_with fail
    refine (tells_any _).mono ?_
    rintro e w5 ⟨rfl, g5⟩
    have b5 := B4.out.trans (Below.mono g5 B4.out.size)
    clear g5 B4
    go_wp2
    go_ret
    exact ⟨rfl, b5⟩
  | true =>
    obtain ⟨hmay, hput⟩ := getV_facts hgv
    have hok := gotM_ok (l, false)
    have hml : (gotM (l, false)).ls.length ≤ maxLen := by rw [gotM_len]; have := gotN_le (l, false); unfold maxLen; omega
    have HMAY := Lib.hid hmay
    have HPUT := Lib.hid hput
    have HOK := Lib.hid hok
    have HML := Lib.hid hml
    have HGV := Lib.hid hgv
    clear hmay hput hok hml hgv
    go_enter Try.func7, Try.ntmps7
    go_wp2_with (at_builtin; refine wpList_run_append HR1.out rfl _ _ rfl rfl rfl ?_; clear HR1)
    refine (get_yes _ _ l ho1.sl (by omega) HGV.out).mono ?_
    rintro e w2 ⟨lv, rfl, hlv, g2⟩
    obtain ⟨m, hm⟩ : ∃ m, m = gotM (l, false) := ⟨_, rfl⟩
    rw [← hm] at hlv HMAY HPUT HOK HML ⊢
    clear hm
    obtain ⟨a3, c3, rfl⟩ := hlv.shape
    have b2 := b1.trans (Below.mono g2 b1.size)
    have ho2 : Own w2 w.heap.size 5 (.slice a1 l.length c1) (bytes l) := ho1.gr g2
    obtain ⟨w3, hw3⟩ : ∃ w3, w3 = w2.alloc (.cells #[.int .u8 (m.kind : Int), .int .u64 (m.epoch : Int), .int .u64 (m.current : Int), .int .i64 m.at_, .int .i64 m.commit, .slice a3 m.ls.length c3] 25) := ⟨_, rfl⟩
    have g3 : Gr w2 w3 := by rw [hw3]; exact (Gr.refl w2).alloc _
    have bm : MsgAt w3 w2.heap.size m (.slice a3 m.ls.length c3) := by unfold MsgAt; rw [hw3]; exact heap_alloc_new w2 _
    have ho3 : Own w3 w.heap.size 5 (.slice a1 l.length c1) (bytes l) := ho2.gr g3
    have hlv3 := hlv.below g3
    have b3 := b2.trans (Below.mono g3 b2.size)
    have z12 := g2.size
    have o1lt := fun k hk => (ho1.lt' k hk).2
    have HW3 := Lib.hid hw3
    have O1 := Lib.hid o1lt
    clear hw3 ho2 b1 b2 g2 g3 hlv ho1 o1lt
    unfold msgCells
    go_wp2_with fail
    rw [← HW3.out]
    have HO3 := Lib.hid ho3
    have HLV3 := Lib.hid hlv3
    have HBM := Lib.hid bm
    have HB3 := Lib.hid b3
    clear HW3 ho3 hlv3 bm b3
    generalize w2.heap.size = gm at *
    go_loopw [6] (fun i wr => ∃ k : Nat, k ≤ l.length ∧ i = .int .i64 k ∧ ∃ l' : List UInt8, l'.length = l.length ∧ Own wr w.heap.size 5 (.slice a1 l'.length c1) (bytes l') ∧ MsgAt wr gm m (.slice a3 m.ls.length c3) ∧ LinesR wr w1.heap.size (.slice a3 m.ls.length c3) m.ls ∧ Below w.heap.size w wr) (fun i _ => l.length - (intOf i).toNat)
    case atStart => exact ⟨0, Nat.zero_le _, rfl, l, rfl, HO3.out, HBM.out, HLV3.out, HB3.out⟩
    case round =>
      obtain ⟨k, hk, rfl, l', hl', ho, hmw, hlw, bw⟩ := hrel
      obtain ⟨wo, rfl⟩ : ∃ wo : World, wo = wr := ⟨_, rfl⟩
      by_cases hlt : k < l.length
      · have hne : bytes l' ≠ [] := fun e => by rw [bytes_nil] at e; rw [e] at hl'; simp at hl'; omega
        obtain ⟨g, cap, hv, hg0, hg1, _⟩ := ho.form hne
        injection hv with e1 e2 e3
        subst e1
        have hk' : k < l'.length := by omega
        have hgw1 : g < w1.heap.size := O1.out g rfl
        have ck := ho.cellByte k l'[k] (List.getElem?_eq_getElem hk')
        have fk := ho.frozenByte k
        have i1 : (0 : Int) ≤ (k : Int) := by omega
        have i2 : (k : Int) < (l.length : Int) := by omega
        have ho' := ho.storeByte k (l'[k] + 1)
        have hlen' : (l'.set k (l'[k] + 1)).length = l'.length := by simp
        have hgr := grownBy_setCell wo g k (.int .u8 ((l'[k] + 1).toNat : Int))
        have hm' : MsgAt (wo.setCell ⟨g, k, none⟩ (.int .u8 ((l'[k] + 1).toNat : Int))) gm m (.slice a3 m.ls.length c3) := hmw.block (hgr.block gm hmw.lt (fun e => by injection e; omega))
        have hl'' := hlw.ch (Ch.of_grownBy (ρ := fun j => j = g) hgr (fun j hj => by cases hj; rfl)) (fun j hj => by cases hj; exact hgw1)
        have bw' := bw.trans (setCell_below (B := w.heap.size) (b := g) wo (.int .u8 ((l'[k] + 1).toNat : Int)) k hg0)
        rw [← hlen'] at ho'
        rw [wrap_inc] at ho' hm' hl'' bw'
        have HO := Lib.hid ho'
        have HM := Lib.hid hm'
        have HLL := Lib.hid hl''
        have HBW := Lib.hid bw'
        clear ho' hm' hl'' bw' hgr ho hmw hlw bw
        generalize l'[k] = c at *
        rw [hl'] at *
        go_wp2_with fail
        go_roundw
        case rel => exact ⟨k + 1, by omega, by go_num, _, by rw [hlen'], HO.out, HM.out, HLL.out, HBW.out⟩
        case measure => simp [intOf]; omega
      · obtain rfl : k = l.length := by omega
        obtain ⟨c0, c1', c2, c3', c4, c5, _⟩ := hmw.cells
        have hlines := hlw.lines
        have hsb := HL.out.below bw
        have HLI := Lib.hid hlines
        have HSB := Lib.hid hsb
        have HBW := Lib.hid bw
        have HA : Hid ((.agg #[.int .u8 (m.kind : Int), .int .u64 (m.epoch : Int), .int .u64 (m.current : Int), .int .i64 m.at_, .int .i64 m.commit, .slice a3 m.ls.length c3] : Value) = .agg (msgCells m (.slice a3 m.ls.length c3))) := Lib.hid rfl
        clear hlines hsb bw hlw hmw ho HL
        go_wp2_with fail
        rw [HA.out]
        refine (put_yes _ m _ HLI.out HOK.out HML.out HMAY.out).mono ?_
        rw [HPUT.out]
        rintro e w4 ⟨v4, rfl, s4, g4⟩
        obtain ⟨a4, c4', rfl, _, _⟩ := s4.bytes
        have b4 := HBW.out.trans (Below.mono g4 HBW.out.size)
        have q1 : (convert 27 9 (.slice a4 l.length c4')).run Try.prog w4 = .ok (.string ⟨l.toArray⟩) w4 := run_string_sl 27 5 9 Try.underlying27 Try.underlying5 Try.underlying9 s4
        have q2 : (convert 27 9 (.slice ab l.length cb)).run Try.prog w4 = .ok (.string ⟨l.toArray⟩) w4 := run_string_sl 27 5 9 Try.underlying27 Try.underlying5 Try.underlying9 (HSB.out.below g4)
        have B4 := Lib.hid b4
        clear b4 s4 g4 HBW HSB HLI
        go_wp2_with fail
        refine (tells_any _).mono ?_
        rintro e w5 ⟨rfl, g5⟩
        have b5 := B4.out.trans (Below.mono g5 B4.out.size)
        clear g5 B4 q1 q2
        go_wp2
        go_ret
        exact ⟨rfl, b5⟩

open Go.ChangeShapes Go.WideShapes Go.ChangeAt Go.RowKit
open Go.ChangeMaps (open_string shut_string)
theorem own_zmsgSame : ownKnob Try.prog.godebug = none := by kernel_rfl
theorem laidOut_zmsgSame : laidOutB Try.prog = true := by kernel_rfl
set_option maxRecDepth 100000 in
theorem lifted_zmsgSame (os : Os) (started : os.Started) (H : Type) (enc : TypeId × Value → H) :
    ReturnsInHanded {} Try.checked os 7 .any (Rows.zmsgSameSpec.pre6 enc Try.prog Try.f7 Rows.zmsgSameRow.domain false) (Rows.zmsgSameSpec.post enc Try.prog Try.f7 false true false false) := by
  refine returnsInHanded_of_change (C := Try.checked) own_zmsgSame started (by kernel_rfl) Try.func7
    (ChangeSpec.witness6 (enc := enc) (C := Try.checked) false ⟨#[], #[.slice none 0 0], []⟩ 8 (by kernel_rfl) (by kernel_rfl) (by kernel_rfl) (by kernel_rfl)) ?_
  intro W base args ds gs before hval0 hW hcnd _
  have hval : ∀ (j : Nat) t v, Try.f7.params[j]? = some t → args[j]? = some v → Value.okWide Try.prog W .any base t v := hval0
  have hW' := hW
  obtain ⟨p, q, hA0, hV, rfl, hfz, hnd⟩ := hW
  have hA : DataW.TrodAll enc Try.prog W 0 (fun _ => true) true Try.f7.params.toList args.toList ds p := hA0
  rw [Try.params7] at hA hval
  obtain ⟨v0, vs0, d0, ds0, p0, q0, hargs, rfl, rfl, k0, r0⟩ := trodAll_cons hA
  obtain ⟨rfl, rfl, rfl⟩ := trodAll_nil r0
  obtain rfl : args = #[v0] := by cases args; simp_all
  obtain ⟨rfl, rfl⟩ := trodVars_none hV
  have lt0 : ∀ x ∈ p0, x.block < W.heap.size := by obtain ⟨m, hm⟩ := k0; exact DataW.trod_lt m _ _ _ hm
  obtain ⟨l0, s0, w0⟩ := open_bytes Try.underlying27 Try.underlying5 (by kernel_rfl) (hval 0 27 v0 rfl rfl) k0
  clear hA0 hval0
  refine (same_walk W v0 l0 s0 w0).mono fun e W' ⟨he, bel⟩ => ?_
  subst he
  exact ⟨_, rfl, _, _, _, [], _, [], hW', trodAll_mk1 (shut_bool Try.underlying4 _), (trodAll_cons_mk (Below.trod laidOut_zmsgSame (by kernel_rfl) (of_decide_eq_true (by kernel_rfl)) k0 bel lt0) trodAll_mk0), rfl, bel.frame _, fun h => by cases h⟩

theorem over_zmsgSame : Rows.zmsgSameRow.holds Try.pinned (OpenSpec.ofChange Rows.zmsgSameSpec) :=
  OpenClaim.holds_of_wide 7 Try.f7 rfl rfl rfl rfl rfl rfl rfl ⟨rfl, rfl, rfl, rfl, rfl⟩ rfl rfl rfl rfl rfl (by kernel_rfl) Try.func7 (by kernel_rfl)
    (of_decide_eq_true (by kernel_rfl)) (by unfold Func.isWrapper; first | (rw [if_pos (by decide +kernel)]; kernel_rfl) | (rw [if_neg (by decide +kernel)]; exact ⟨rfl, rfl⟩))
    (fun os started H enc _ => lifted_zmsgSame os started H enc)

theorem zmsgSame_proved : Rows.ZmsgSameSaid := over_zmsgSame
#print axioms zmsgSame_proved
end Go.Proofs.Ytclicammiopjlaa
