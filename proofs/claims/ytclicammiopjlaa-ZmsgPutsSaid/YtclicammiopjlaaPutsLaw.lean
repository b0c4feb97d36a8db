/-
  ZmsgPuts: every Put answers as the document does; what is handed in stays. Every input (the law looks at up to 300 lines and 6,000 bytes); no conditions.
-/
import Derived.Test.YtclicammiopjlaaTells
import Derived.Test.YtclicammiopjlaaRefPut
set_option linter.unusedVariables false
namespace Go.Proofs.Ytclicammiopjlaa
open Go.RowKit

theorem Sl.keep {w w' : World} {v : Value} {xs : List Value} (h : Sl w v xs) (hs : w.heap.size ≤ w'.heap.size) (hb : ∀ k, k < w.heap.size → w'.heap[k]? = w.heap[k]?) : Sl w' v xs := by
  obtain ⟨a, cap, rfl, hcap, h⟩ := h
  refine ⟨a, cap, rfl, hcap, ?_⟩
  rcases h with h | ⟨b, off, rfl, hlt, h⟩
  · exact .inl h
  · exact .inr ⟨b, off, rfl, Nat.lt_of_lt_of_le hlt hs, fun k hk => (World.cell?_of_block (a := ⟨b, off + k, none⟩) (hb b hlt)).trans (h k hk)⟩
/-- A copy of lines: append([]Line{}, ls...). -/
theorem copy_lines (w0 w : World) (y : Value) (ls : List LineD) (h : Lines w0 y ls) (hg : Gr w0 w) (hlen : ls.length ≤ 300) :
    ∃ a c w', (Builtin.append_ #[23, 23] 23 #[.slice (some ⟨w.heap.size, 0, none⟩) 0 0, y]).run Try.prog (w.alloc (.cells #[] 37)) = .ok (.slice a ls.length c) w' ∧ Below w.heap.size w w' ∧
      ∀ w'' : World, w'.heap.size ≤ w''.heap.size → (∀ k, k < w0.heap.size → w''.heap[k]? = w0.heap[k]?) → (∀ k, w.heap.size ≤ k → k < w'.heap.size → w''.heap[k]? = w'.heap[k]?) → Lines w'' (.slice a ls.length c) ls := by
  obtain ⟨R, h1, h2⟩ := h
  obtain ⟨i0, hi0, hz0, hz1, hz2⟩ := info_parts info_line
  have hnews : ((List.range ls.length).map fun i => [R i 0, R i 1]).length = ls.length := by simp
  have hO := OwnR.lit (base := w.heap.size) w 37 2 [] #[] rfl (by simp) (by decide) (Nat.le_refl _)
  have hy : Rows (w.alloc (.cells #[] 37)) y ls.length 2 R := h1.below (Gr.trans hg ((Gr.refl w).alloc _))
  rw [← hnews] at hy
  obtain ⟨v', w', hr, p1, p2, p3, _⟩ := run_append_rows (P := Try.prog) (w.alloc (.cells #[] 37)) w.heap.size 23 23 37 i0 _ 2 32 Try.underlying23 hi0 hz0 hz1 hz2 (by rfl) (.slice (some ⟨w.heap.size, 0, none⟩) 0 0) y [] ((List.range ls.length).map fun i => [R i 0, R i 1]) hO R hy
    (by
      intro i hi
      have hi' : i < ls.length := by simpa using hi
      simp only [List.getElem_map, List.getElem_range]
      refine ⟨rfl, fun j hj => ?_⟩
      match j, hj with
      | 0, _ => rfl
      | 1, _ => rfl)
    (by
      intro r hr u hu
      obtain ⟨i, hi, rfl⟩ := List.mem_map.1 hr
      have hi' : i < ls.length := List.mem_range.1 hi
      obtain ⟨c0, c1, _⟩ := h2 i hi'
      rcases List.mem_cons.1 hu with rfl | hu
      · rw [c0]; rfl
      · obtain rfl : u = R i 1 := by simpa using hu
        obtain ⟨a, cap, e, _⟩ := c1
        rw [e]; rfl)
    (by unfold maxLen; simp; omega) (by simp; omega) (by simp)
  rw [List.nil_append] at p1
  obtain ⟨a, c, rfl⟩ := p1.shape
  rw [hnews] at hr p1
  refine ⟨a, c, w', hr, ((Below.refl _ _).alloc (Nat.le_refl _) _).grown p2 (by simp) (fun k hk => by simp [Value.ownBlock] at hk; omega), fun w'' hsz k0 k1 => ?_⟩
  have ow : OwnR w'' w.heap.size 37 2 (.slice a ls.length c) ((List.range ls.length).map fun i => [R i 0, R i 1]) := p1.block fun j hj => k1 j (p1.lt j hj).1 (p1.lt j hj).2
  have hrows := ow.rows
  rw [hnews] at hrows
  have hw' : w0.heap.size ≤ w''.heap.size := by
    have h1 := hg.size
    have h2 := p2.size
    simp at h2
    omega
  refine ⟨_, hrows, fun i hi => ?_⟩
  obtain ⟨c0, c1, c2⟩ := h2 i hi
  have e : ((List.range ls.length).map fun i => [R i 0, R i 1]).getD i [] = [R i 0, R i 1] := by
    rw [List.getD_eq_getElem?_getD, List.getElem?_map, List.getElem?_range hi]; rfl
  unfold LineC
  rw [e]
  exact ⟨c0, c1.keep hw' k0, c2⟩
def outV (m : MsgD) : List UInt8 := if mayV m then putV m else []
def numV (m : MsgD) : Int := if mayV m then 0 else 1
theorem RetPut.both {w w' : World} {m : MsgD} {e : Ending} (h : RetPut w m e w') : ∃ a c, e = .returned (.tuple #[.slice a (outV m).length c, .int .i64 (numV m)]) ∧ Sl w' (.slice a (outV m).length c) (bytes (outV m)) ∧ Gr w w' := by
  obtain ⟨g, h⟩ := h
  unfold outV numV
  cases hm : mayV m with
  | true =>
    rw [if_pos hm] at h
    obtain ⟨v, rfl, hs⟩ := h
    obtain ⟨a, c, rfl, _, _⟩ := hs.bytes
    exact ⟨a, c, rfl, hs, g⟩
  | false =>
    rw [if_neg (by simp [hm])] at h
    exact ⟨none, 0, h, Sl.nil _ _ _, g⟩

set_option maxHeartbeats 4000000 in
theorem puts_walk (w : World) (m : MsgD) (lv : Value) (hl : Lines w lv m.ls) (hok : MsgOk m) (hlen : m.ls.length ≤ maxLen) :
    Calls Try.prog 3 #[.agg (msgCells m lv)] w fun e w' => e = .returned (.bool true) ∧ Below w.heap.size w w' := by
  obtain ⟨a, c, rfl⟩ := hl.shape
  have HA : Hid ((.agg #[.int .u8 (m.kind : Int), .int .u64 (m.epoch : Int), .int .u64 (m.current : Int), .int .i64 m.at_, .int .i64 m.commit, .slice a m.ls.length c] : Value) = .agg (msgCells m (.slice a m.ls.length c))) := Lib.hid rfl
  obtain ⟨w1, hw1⟩ : ∃ w1, w1 = w.alloc (.cells #[.int .u8 (m.kind : Int), .int .u64 (m.epoch : Int), .int .u64 (m.current : Int), .int .i64 m.at_, .int .i64 m.commit, .slice a m.ls.length c] 25) := ⟨_, rfl⟩
  have g1 : Gr w w1 := by rw [hw1]; exact (Gr.refl w).alloc _
  have b1 : MsgAt w1 w.heap.size m (.slice a m.ls.length c) := by unfold MsgAt; rw [hw1]; exact heap_alloc_new w _
  have cc := fun W (hg : Below w1.heap.size w1 W) => (b1.block (hg.block _ b1.lt)).cells
  have CC := Lib.hid cc
  have HLT := Lib.hid b1.lt
  have HL := Lib.hid (hl.below g1)
  have HW1 := Lib.hid hw1
  have HG1 := Lib.hid g1
  have HOK := Lib.hid hok
  have HLEN := Lib.hid hlen
  clear cc b1 hw1 hl g1 hok hlen
  unfold msgCells
  go_enter Try.func3, Try.ntmps3
  go_wp2_with fail
  rw [← HW1.out, HA.out]
  refine (heavy_any _ m _ HL.out HLEN.out).mono ?_
  rintro e w2 ⟨z1, rfl, hz1, g2⟩
  obtain ⟨p0, p1, p2, p3, p4, p5, _⟩ := CC.out w2 g2
  have HG2 := Lib.hid g2
  clear g2
  cases z1 with
  | true =>
    clear hz1
    go_wp2
    go_ret
    exact ⟨rfl, Gr.trans HG1.out HG2.out⟩
  | false =>
  have h300 := hz1 rfl
  clear hz1
  obtain ⟨w3, hw3⟩ : ∃ w3, w3 = w2.alloc (.cells #[.int .u8 (m.kind : Int), .int .u64 (m.epoch : Int), .int .u64 (m.current : Int), .int .i64 m.at_, .int .i64 m.commit, .slice a m.ls.length c] 25) := ⟨_, rfl⟩
  have g3 : Gr w2 w3 := by rw [hw3]; exact (Gr.refl w2).alloc _
  have b3 : MsgAt w3 w2.heap.size m (.slice a m.ls.length c) := by unfold MsgAt; rw [hw3]; exact heap_alloc_new w2 _
  have e3 : w3.heap.size = w2.heap.size + 1 := by rw [hw3]; simp
  obtain ⟨a4, c4, w4, hr4, g4, hk4⟩ := copy_lines w1 w3 (.slice a m.ls.length c) m.ls HL.out (Gr.trans HG2.out g3) h300
  have b4 : MsgAt w4 w2.heap.size m (.slice a m.ls.length c) := b3.block (g4.block _ b3.lt)
  have n4 := b4.cells
  obtain ⟨d0, d1, d2, d3, d4, c5, f5⟩ := n4
  obtain ⟨w5, hw5⟩ : ∃ w5, w5 = w4.setCell ⟨w2.heap.size, 5, none⟩ (.slice a4 m.ls.length c4) := ⟨_, rfl⟩
  have b5 : MsgAt w5 w2.heap.size m (.slice a4 m.ls.length c4) := by rw [hw5]; exact b4.store _
  have g25 : Below w2.heap.size w2 w5 := by rw [hw5]; exact ((Below.refl w2.heap.size w2).trans (Gr.below g3 (Nat.le_of_lt (by omega)) g4)).trans (setCell_below w4 _ 5 (Nat.le_refl _))
  have sz5 : w5.heap.size = w4.heap.size := by rw [hw5]; simp
  have hset : ∀ k, k ≠ w2.heap.size → w5.heap[k]? = w4.heap[k]? := fun k hk => by rw [hw5]; exact Below.heap_setCell w4 ⟨w2.heap.size, 5, none⟩ _ k (fun e => hk (by rw [e]))
  have g15 : Below w1.heap.size w1 w5 := Gr.below HG2.out HG2.out.size g25
  have hl5 : Lines w5 (.slice a4 m.ls.length c4) m.ls := hk4 w5 (Nat.le_of_eq sz5.symm) (fun k hk => g15.block k hk) (fun k h1 h2 => hset k (by omega))
  have x5 : ((w2.alloc (.cells #[.int .u8 (m.kind : Int), .int .u64 (m.epoch : Int), .int .u64 (m.current : Int), .int .i64 m.at_, .int .i64 m.commit, .slice a m.ls.length c] 25)).alloc (.cells #[] 37)).cell? ⟨w.heap.size, 5, none⟩ = some (.slice a m.ls.length c) := (CC.out _ (Gr.trans HG2.out (((Gr.refl w2).alloc _).alloc _))).2.2.2.2.2.1
  rw [e3] at hr4
  have HA4 : Hid ((.agg #[.int .u8 (m.kind : Int), .int .u64 (m.epoch : Int), .int .u64 (m.current : Int), .int .i64 m.at_, .int .i64 m.commit, .slice a4 m.ls.length c4] : Value) = .agg (msgCells m (.slice a4 m.ls.length c4))) := Lib.hid rfl
  have HW3 := Lib.hid hw3
  have HW5 := Lib.hid hw5
  have HR4 := Lib.hid hr4
  have HB5 := Lib.hid b5
  have HL5 := Lib.hid hl5
  have HG15 := Lib.hid g15
  clear hw3 hw5 hr4 b5 hl5 g15 hset sz5 g25 b4 hk4 g4 b3 g3 e3 HG2
  go_wp2_with (at_builtin; rw [← HW3.out]; refine wpList_run_append HR4.out rfl _ _ rfl rfl rfl ?_; clear HR4)
  rw [← HW5.out, HA4.out]
  clear x5 c5 f5 p0 p1 p2 p3 p4 p5 d0 d1 d2 d3 d4
  refine (put_any _ m _ HL5.out HOK.out HLEN.out).mono ?_
  rintro e w6 hret
  obtain ⟨a6, c6, rfl, s6, g6⟩ := hret.both
  have G16 := HG15.out.trans (Below.mono g6 HG15.out.size)
  obtain ⟨p0, p1, p2, p3, p4, p5, _⟩ := CC.out w6 G16
  have HG16 := Lib.hid G16
  have S6 := Lib.hid s6
  have B6 := Lib.hid (HB5.out.block (g6.block _ HB5.out.lt))
  have L6 := Lib.hid (HL5.out.below g6)
  clear G16 s6 g6 HG15 HB5 HL5 hret
  go_wp2_with fail
  rw [HA.out]
  refine (refput_any _ m _ (HL.out.below HG16.out) HOK.out HLEN.out).mono ?_
  rintro e w7 hret
  obtain ⟨a7, c7, rfl, s7, g7⟩ := hret.both
  have G17 := HG16.out.trans (Below.mono g7 HG16.out.size)
  clear p0 p1 p2 p3 p4 p5
  obtain ⟨p0, p1, p2, p3, p4, p5, _⟩ := CC.out w7 G17
  obtain ⟨q0, q1, q2, q3, q4, q5, _⟩ := (B6.out.block (g7.block _ B6.out.lt)).cells
  have es : (convert 27 9 (.slice a6 (outV m).length c6)).run Try.prog w7 = .ok (.string ⟨(outV m).toArray⟩) w7 := run_string_sl 27 5 9 Try.underlying27 Try.underlying5 Try.underlying9 (S6.out.below g7)
  have et : (convert 27 9 (.slice a7 (outV m).length c7)).run Try.prog w7 = .ok (.string ⟨(outV m).toArray⟩) w7 := run_string_sl 27 5 9 Try.underlying27 Try.underlying5 Try.underlying9 s7
  have L7 := Lib.hid (L6.out.below g7)
  have M7 := Lib.hid (HL.out.below G17)
  have HG17 := Lib.hid (Gr.trans HG1.out G17)
  clear G17 g7 s7 hret S6 L6 B6 HG16
  go_wp2_with fail
  rw [HA.out, HA4.out]
  refine (same_any _ m m _ _ L7.out M7.out HLEN.out HLEN.out).mono ?_
  rintro e w8 ⟨z, rfl, hz, g8⟩
  obtain rfl : z = true := hz.2 rfl
  have HG18 := Lib.hid (Gr.trans HG17.out g8)
  clear hz g8 es et
  go_wp2_with fail
  refine (tells_any _).mono ?_
  rintro e w9 ⟨rfl, g9⟩
  have G9 := Gr.trans HG18.out g9
  clear g9
  go_wp2
  go_ret
  exact ⟨rfl, G9⟩

open Go.ChangeShapes Go.WideShapes Go.ChangeAt Go.RowKit
open Go.ChangeMaps (open_string shut_string)
theorem own_zmsgPuts : ownKnob Try.prog.godebug = none := by kernel_rfl
theorem laidOut_zmsgPuts : laidOutB Try.prog = true := by kernel_rfl
set_option maxRecDepth 100000 in
theorem lifted_zmsgPuts (os : Os) (started : os.Started) (H : Type) (enc : TypeId × Value → H) :
    ReturnsInHanded {} Try.checked os 3 .any (Rows.zmsgPutsSpec.pre6 enc Try.prog Try.f3 Rows.zmsgPutsRow.domain false) (Rows.zmsgPutsSpec.post enc Try.prog Try.f3 false true false false) := by
  refine returnsInHanded_of_change (C := Try.checked) own_zmsgPuts started (by kernel_rfl) Try.func3
    (ChangeSpec.witness6 (enc := enc) (C := Try.checked) false ⟨#[], #[.agg #[.int .u8 0, .int .u64 0, .int .u64 0, .int .i64 0, .int .i64 0, .slice none 0 0]], []⟩ 8 (by kernel_rfl) (by kernel_rfl) (by kernel_rfl) (by kernel_rfl)) ?_
  intro W base args ds gs before hval0 hW hcnd _
  have hval : ∀ (j : Nat) t v, Try.f3.params[j]? = some t → args[j]? = some v → Value.okWide Try.prog W .any base t v := hval0
  have hW' := hW
  obtain ⟨p, q, hA0, hV, rfl, hfz, hnd⟩ := hW
  have hA : DataW.TrodAll enc Try.prog W 0 (fun _ => true) true Try.f3.params.toList args.toList ds p := hA0
  rw [Try.params3] at hA hval
  obtain ⟨v0, vs0, d0, ds0, p0, q0, hargs, rfl, rfl, k0, r0⟩ := trodAll_cons hA
  obtain ⟨rfl, rfl, rfl⟩ := trodAll_nil r0
  obtain rfl : args = #[v0] := by cases args; simp_all
  obtain ⟨rfl, rfl⟩ := trodVars_none hV
  have lt0 : ∀ x ∈ p0, x.block < W.heap.size := by obtain ⟨m, hm⟩ := k0; exact DataW.trod_lt m _ _ _ hm
  obtain ⟨m0, lv0, rfl, hl0, ok0, n0, x0⟩ := open_msg (hval 0 25 v0 rfl rfl) k0
  clear hA0 hval0
  refine (puts_walk W m0 lv0 hl0 ok0 n0).mono fun e W' ⟨he, bel⟩ => ?_
  subst he
  exact ⟨_, rfl, _, _, _, [], _, [], hW', trodAll_mk1 (shut_bool Try.underlying4 _), (trodAll_cons_mk (Below.trod laidOut_zmsgPuts (by kernel_rfl) (of_decide_eq_true (by kernel_rfl)) k0 bel lt0) trodAll_mk0), rfl, bel.frame _, fun h => by cases h⟩

theorem over_zmsgPuts : Rows.zmsgPutsRow.holds Try.pinned (OpenSpec.ofChange Rows.zmsgPutsSpec) :=
  OpenClaim.holds_of_wide 3 Try.f3 rfl rfl rfl rfl rfl rfl rfl ⟨rfl, rfl, rfl, rfl, rfl⟩ rfl rfl rfl rfl rfl (by kernel_rfl) Try.func3 (by kernel_rfl)
    (of_decide_eq_true (by kernel_rfl)) (by unfold Func.isWrapper; first | (rw [if_pos (by decide +kernel)]; kernel_rfl) | (rw [if_neg (by decide +kernel)]; exact ⟨rfl, rfl⟩))
    (fun os started H enc _ => lifted_zmsgPuts os started H enc)

theorem zmsgPuts_proved : Rows.ZmsgPutsSaid := over_zmsgPuts
#print axioms zmsgPuts_proved
end Go.Proofs.Ytclicammiopjlaa
