/-
  ZmsgGets: every Get answers as the document does; what is handed in stays. Every input (the law looks at up to 6,000 bytes); no conditions.
-/
import Derived.Test.YtclicammiopjlaaTells
import Derived.Test.YtclicammiopjlaaRefGet
set_option linter.unusedVariables false
namespace Go.Proofs.Ytclicammiopjlaa
open Go.RowKit

def zeroD : MsgD := ⟨0, 0, 0, 0, 0, []⟩
def outM (s : RS) : MsgD := if getV s then gotM s else zeroD
def numG (s : RS) : Int := if getV s then 0 else 2
theorem outM_len (s : RS) : (outM s).ls.length ≤ maxLen := by
  unfold outM
  split
  · rw [gotM_len]; have := gotN_le s; unfold maxLen; omega
  · decide
theorem RetGetR.both {w w' : World} {s : RS} {e : Ending} (h : RetGetR w s e w') : ∃ a c, e = .returned (.tuple #[.agg (msgCells (outM s) (.slice a (outM s).ls.length c)), .int .i64 (numG s)]) ∧ Lines w' (.slice a (outM s).ls.length c) (outM s).ls ∧ Gr w w' := by
  obtain ⟨g, h⟩ := h
  unfold outM numG
  cases hv : getV s with
  | true =>
    rw [if_pos hv] at h
    obtain ⟨lv, rfl, hl⟩ := h
    obtain ⟨a, c, rfl⟩ := hl.shape
    exact ⟨a, c, rfl, hl, g⟩
  | false =>
    rw [if_neg (by simp [hv])] at h
    exact ⟨none, 0, h, Lines.nil _, g⟩
theorem RetGet.both {w w' : World} {s : RS} {e : Ending} (h : RetGet w s e w') : ∃ a c, e = .returned (.tuple #[.agg (msgCells (outM s) (.slice a (outM s).ls.length c)), .int .i64 (numG s)]) ∧ Lines w' (.slice a (outM s).ls.length c) (outM s).ls ∧ Gr w w' := by
  refine RetGetR.both ⟨h.1, ?_⟩
  have h2 := h.2
  cases hv : getV s with
  | true =>
    rw [if_pos hv] at h2
    obtain ⟨lv, he, hl⟩ := h2
    rw [if_pos rfl]
    exact ⟨lv, he, hl.lines⟩
  | false =>
    rw [if_neg (by simp [hv])] at h2
    rw [if_neg (by simp)]
    exact h2

set_option maxHeartbeats 4000000 in
theorem gets_walk (w : World) (vb : Value) (l : List UInt8) (hl : Sl w vb (bytes l)) (hlen : l.length ≤ maxLen) :
    Calls Try.prog 4 #[vb] w fun e w' => e = .returned (.bool true) ∧ Below w.heap.size w w' := by
  obtain ⟨ab, cb, rfl, _, _⟩ := hl.bytes
  have hmx : l.length ≤ 9223372036854775807 := Nat.le_trans hlen (by decide)
  by_cases h6 : 6000 < l.length
  · go_enter Try.func4, Try.ntmps4
    go_wp2
    go_ret
    exact ⟨rfl, Below.refl _ _⟩
  obtain ⟨v1, w1, hr1, ho1, hg1⟩ := run_append_u8 (w.alloc (.cells #[] 5)) w.heap.size (.slice (some ⟨w.heap.size, 0, none⟩) 0 0) (.slice ab l.length cb) [] l (Own.nil_lit _ _ (Nat.le_refl _)) (hl.below ((Below.refl _ _).alloc (Nat.le_refl _) _)) (by simp; omega) (by simp)
  rw [List.nil_append] at ho1
  have b1 : Gr w w1 := ((Below.refl _ _).alloc (Nat.le_refl _) _).grown hg1 (by simp) (fun k hk => by simp [Value.ownBlock] at hk; omega)
  have s1 := ho1.sl
  obtain ⟨a1, c1, rfl⟩ := ho1.shape
  rw [bytes_length] at s1 hr1
  have HR1 := Lib.hid hr1
  have HL := Lib.hid (hl.below b1)
  have HS1 := Lib.hid s1
  have HG1 := Lib.hid b1
  have HLEN := Lib.hid (outM_len (l, false))
  clear hr1 hg1 hl s1 b1 ho1
  go_enter Try.func4, Try.ntmps4
  go_wp2_with (at_builtin; refine wpList_run_append HR1.out rfl _ _ rfl rfl rfl ?_; clear HR1)
  refine (get_any _ _ l HS1.out (by omega)).mono ?_
  rintro e w2 hret
  obtain ⟨a2, c2, rfl, l2, g2⟩ := hret.both
  obtain ⟨m, hm⟩ : ∃ m, m = outM (l, false) := ⟨_, rfl⟩
  rw [← hm] at l2 HLEN ⊢
  obtain ⟨w3, hw3⟩ : ∃ w3, w3 = w2.alloc (.cells #[.int .u8 (m.kind : Int), .int .u64 (m.epoch : Int), .int .u64 (m.current : Int), .int .i64 m.at_, .int .i64 m.commit, .slice a2 m.ls.length c2] 25) := ⟨_, rfl⟩
  have g3 : Gr w2 w3 := by rw [hw3]; exact (Gr.refl w2).alloc _
  have b3 : MsgAt w3 w2.heap.size m (.slice a2 m.ls.length c2) := by unfold MsgAt; rw [hw3]; exact heap_alloc_new w2 _
  have L3 := Lib.hid (l2.below g3)
  have B3 := Lib.hid b3
  have G13 := Lib.hid (Gr.trans g2 g3)
  have HW3 := Lib.hid hw3
  have HM := Lib.hid hm
  clear hw3 b3 g3 g2 l2 hret hm
  unfold msgCells
  go_wp2_with fail
  rw [← HW3.out]
  refine (refget_any _ _ l (HL.out.below G13.out) (by omega)).mono ?_
  rintro e w4 hret
  obtain ⟨a4, c4, rfl, l4, g4⟩ := hret.both
  rw [← HM.out] at l4 ⊢
  have G5 : Gr w4 (w4.alloc (.cells #[.int .u8 (m.kind : Int), .int .u64 (m.epoch : Int), .int .u64 (m.current : Int), .int .i64 m.at_, .int .i64 m.commit, .slice a4 m.ls.length c4] 25)) := (Gr.refl w4).alloc _
  have b5 : MsgAt (w4.alloc (.cells #[.int .u8 (m.kind : Int), .int .u64 (m.epoch : Int), .int .u64 (m.current : Int), .int .i64 m.at_, .int .i64 m.commit, .slice a4 m.ls.length c4] 25)) w4.heap.size m (.slice a4 m.ls.length c4) := by unfold MsgAt; exact heap_alloc_new w4 _
  have G35 := Gr.trans g4 G5
  obtain ⟨p0, p1, p2, p3, p4, p5, _⟩ := (B3.out.block (G35.block _ B3.out.lt)).cells
  have L5 := Lib.hid (l4.below G5)
  have L35 := Lib.hid (L3.out.below G35)
  have G15 := Lib.hid (Gr.trans G13.out G35)
  have HA2 : Hid ((.agg #[.int .u8 (m.kind : Int), .int .u64 (m.epoch : Int), .int .u64 (m.current : Int), .int .i64 m.at_, .int .i64 m.commit, .slice a2 m.ls.length c2] : Value) = .agg (msgCells m (.slice a2 m.ls.length c2))) := Lib.hid rfl
  have HA4 : Hid ((.agg #[.int .u8 (m.kind : Int), .int .u64 (m.epoch : Int), .int .u64 (m.current : Int), .int .i64 m.at_, .int .i64 m.commit, .slice a4 m.ls.length c4] : Value) = .agg (msgCells m (.slice a4 m.ls.length c4))) := Lib.hid rfl
  clear hret l4 g4 G5 b5 G35 G13 B3 L3 HW3
  unfold msgCells
  go_wp2_with fail
  rw [HA2.out, HA4.out]
  refine (same_any _ m m _ _ L35.out L5.out HLEN.out HLEN.out).mono ?_
  rintro e w6 ⟨z, rfl, hz, g6⟩
  obtain rfl : z = true := hz.2 rfl
  have G16 := Gr.trans G15.out g6
  have es : (convert 27 9 (.slice a1 l.length c1)).run Try.prog w6 = .ok (.string ⟨l.toArray⟩) w6 := run_string_sl 27 5 9 Try.underlying27 Try.underlying5 Try.underlying9 (HS1.out.below G16)
  have et : (convert 27 9 (.slice ab l.length cb)).run Try.prog w6 = .ok (.string ⟨l.toArray⟩) w6 := run_string_sl 27 5 9 Try.underlying27 Try.underlying5 Try.underlying9 (HL.out.below G16)
  have HG16 := Lib.hid (Gr.trans HG1.out G16)
  clear hz g6 G16 G15 L5 L35 HL HS1
  go_wp2_with fail
  refine (tells_any _).mono ?_
  rintro e w7 ⟨rfl, g7⟩
  have G7 := Gr.trans HG16.out g7
  clear g7
  go_wp2
  go_ret
  exact ⟨rfl, G7⟩

open Go.ChangeShapes Go.WideShapes Go.ChangeAt Go.RowKit
open Go.ChangeMaps (open_string shut_string)
theorem own_zmsgGets : ownKnob Try.prog.godebug = none := by kernel_rfl
theorem laidOut_zmsgGets : laidOutB Try.prog = true := by kernel_rfl
set_option maxRecDepth 100000 in
theorem lifted_zmsgGets (os : Os) (started : os.Started) (H : Type) (enc : TypeId × Value → H) :
    ReturnsInHanded {} Try.checked os 4 .any (Rows.zmsgGetsSpec.pre6 enc Try.prog Try.f4 Rows.zmsgGetsRow.domain false) (Rows.zmsgGetsSpec.post enc Try.prog Try.f4 false true false false) := by
  refine returnsInHanded_of_change (C := Try.checked) own_zmsgGets started (by kernel_rfl) Try.func4
    (ChangeSpec.witness6 (enc := enc) (C := Try.checked) false ⟨#[], #[.slice none 0 0], []⟩ 8 (by kernel_rfl) (by kernel_rfl) (by kernel_rfl) (by kernel_rfl)) ?_
  intro W base args ds gs before hval0 hW hcnd _
  have hval : ∀ (j : Nat) t v, Try.f4.params[j]? = some t → args[j]? = some v → Value.okWide Try.prog W .any base t v := hval0
  have hW' := hW
  obtain ⟨p, q, hA0, hV, rfl, hfz, hnd⟩ := hW
  have hA : DataW.TrodAll enc Try.prog W 0 (fun _ => true) true Try.f4.params.toList args.toList ds p := hA0
  rw [Try.params4] at hA hval
  obtain ⟨v0, vs0, d0, ds0, p0, q0, hargs, rfl, rfl, k0, r0⟩ := trodAll_cons hA
  obtain ⟨rfl, rfl, rfl⟩ := trodAll_nil r0
  obtain rfl : args = #[v0] := by cases args; simp_all
  obtain ⟨rfl, rfl⟩ := trodVars_none hV
  have lt0 : ∀ x ∈ p0, x.block < W.heap.size := by obtain ⟨m, hm⟩ := k0; exact DataW.trod_lt m _ _ _ hm
  obtain ⟨l0, s0, w0⟩ := open_bytes Try.underlying27 Try.underlying5 (by kernel_rfl) (hval 0 27 v0 rfl rfl) k0
  clear hA0 hval0
  refine (gets_walk W v0 l0 s0 w0).mono fun e W' ⟨he, bel⟩ => ?_
  subst he
  exact ⟨_, rfl, _, _, _, [], _, [], hW', trodAll_mk1 (shut_bool Try.underlying4 _), (trodAll_cons_mk (Below.trod laidOut_zmsgGets (by kernel_rfl) (of_decide_eq_true (by kernel_rfl)) k0 bel lt0) trodAll_mk0), rfl, bel.frame _, fun h => by cases h⟩

theorem over_zmsgGets : Rows.zmsgGetsRow.holds Try.pinned (OpenSpec.ofChange Rows.zmsgGetsSpec) :=
  OpenClaim.holds_of_wide 4 Try.f4 rfl rfl rfl rfl rfl rfl rfl ⟨rfl, rfl, rfl, rfl, rfl⟩ rfl rfl rfl rfl rfl (by kernel_rfl) Try.func4 (by kernel_rfl)
    (of_decide_eq_true (by kernel_rfl)) (by unfold Func.isWrapper; first | (rw [if_pos (by decide +kernel)]; kernel_rfl) | (rw [if_neg (by decide +kernel)]; exact ⟨rfl, rfl⟩))
    (fun os started H enc _ => lifted_zmsgGets os started H enc)

theorem zmsgGets_proved : Rows.ZmsgGetsSaid := over_zmsgGets
#print axioms zmsgGets_proved
end Go.Proofs.Ytclicammiopjlaa
