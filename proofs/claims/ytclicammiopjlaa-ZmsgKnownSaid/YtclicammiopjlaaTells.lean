/-
  The law's own example: tells.
-/
import Derived.Test.YtclicammiopjlaaRefB
import Derived.Test.YtclicammiopjlaaGet
import Derived.Test.YtclicammiopjlaaPlain
import Derived.Lib.SlBytesConst
set_option linter.unusedVariables false
namespace Go.Proofs.Ytclicammiopjlaa
open Go.RowKit

/-- One line, written out. -/
theorem lines_one (w : World) (g : Nat) (x : LineD) (v : Value) (h : w.heap[g]? = some (.cells #[.int .u64 (x.e : Int), v] 37 (0, 0))) (hv : Sl w v (bytes x.b)) (he : x.e < 2 ^ 64) : Lines w (.slice (some ⟨g, 0, none⟩) 1 1) [x] := by
  refine ⟨fun _ j => if j = 0 then .int .u64 (x.e : Int) else v, ⟨_, 1, rfl, Nat.le_refl _, .inr ⟨g, 0, rfl, block_lt h, fun i hi j hj => ?_⟩⟩, fun i hi => ?_⟩
  · obtain rfl : i = 0 := by simp at hi; omega
    rw [cell_of_block h]
    rcases (by omega : j = 0 ∨ j = 1) with rfl | rfl <;> rfl
  · obtain rfl : i = 0 := by simp at hi; omega
    exact ⟨rfl, hv, he⟩
def telD : MsgD := ⟨5, 3, 0, 1, 1, [⟨2, [97, 98]⟩]⟩
theorem telD_may : mayV telD = true := by decide
theorem telD_len : (putV telD).length = 55 := by decide
theorem getV_nil : getV ([], false) = false := by decide
/-- What Put answers where the message may be; where it may not. -/
theorem put_yes (w : World) (m : MsgD) (lv : Value) (hl : Lines w lv m.ls) (hok : MsgOk m) (hlen : m.ls.length ≤ maxLen) (hm : mayV m = true) :
    Calls Try.prog 10 #[.agg (msgCells m lv)] w fun e w' => ∃ v, e = .returned (.tuple #[v, .int .i64 0]) ∧ Sl w' v (bytes (putV m)) ∧ Gr w w' := by
  refine (put_any w m lv hl hok hlen).mono ?_
  rintro e w' ⟨g, h⟩
  rw [if_pos hm] at h
  obtain ⟨v, rfl, hs⟩ := h
  exact ⟨v, rfl, hs, g⟩
theorem put_no (w : World) (m : MsgD) (lv : Value) (hl : Lines w lv m.ls) (hok : MsgOk m) (hlen : m.ls.length ≤ maxLen) (hm : mayV m = false) :
    Calls Try.prog 10 #[.agg (msgCells m lv)] w fun e w' => e = .returned (.tuple #[.slice none 0 0, .int .i64 1]) ∧ Gr w w' := by
  refine (put_any w m lv hl hok hlen).mono ?_
  rintro e w' ⟨g, h⟩
  rw [if_neg (by simp [hm])] at h
  exact ⟨h, g⟩
theorem get_yes (w : World) (v : Value) (l : List UInt8) (hs : Sl w v (bytes l)) (hl : l.length ≤ 1000000000) (hv : getV (l, false) = true) :
    Calls Try.prog 14 #[v] w fun e w' => ∃ lv, e = .returned (.tuple #[.agg (msgCells (gotM (l, false)) lv), .int .i64 0]) ∧ LinesR w' w.heap.size lv (gotM (l, false)).ls ∧ Gr w w' := by
  refine (get_any w v l hs hl).mono ?_
  rintro e w' ⟨g, h⟩
  rw [if_pos hv] at h
  obtain ⟨lv, rfl, hs⟩ := h
  exact ⟨lv, rfl, hs, g⟩
theorem get_no (w : World) (v : Value) (l : List UInt8) (hs : Sl w v (bytes l)) (hl : l.length ≤ 1000000000) (hv : getV (l, false) = false) :
    Calls Try.prog 14 #[v] w fun e w' => e = .returned (.tuple #[.agg zeroM, .int .i64 2]) ∧ Gr w w' := by
  refine (get_any w v l hs hl).mono ?_
  rintro e w' ⟨g, h⟩
  rw [if_neg (by simp [hv])] at h
  exact ⟨h, g⟩

set_option maxHeartbeats 4000000 in
theorem tells_any (w : World) : Calls Try.prog 13 #[] w fun e w' => e = .returned (.bool true) ∧ Gr w w' := by
  obtain ⟨w1, hw1⟩ : ∃ w1, w1 = w.alloc (.cells #[.int .u8 97, .int .u8 98] 5 (2, 3)) := ⟨_, rfl⟩
  have n1 : w1.heap.size = w.heap.size + 1 := by rw [hw1]; simp
  obtain ⟨w2, hw2⟩ : ∃ w2, w2 = w1.alloc (.cells #[.int .u64 2, .slice (some ⟨w.heap.size, 0, none⟩) 2 2] 37) := ⟨_, rfl⟩
  have n2 : w2.heap.size = w.heap.size + 1 + 1 := by rw [hw2]; simp [n1]
  obtain ⟨w3, hw3⟩ : ∃ w3, w3 = w2.alloc (.cells #[.int .u8 5, .int .u64 3, .int .u64 0, .int .i64 1, .int .i64 1, .slice (some ⟨w.heap.size + 1, 0, none⟩) 1 1] 25) := ⟨_, rfl⟩
  have g1 : Gr w w1 := by rw [hw1]; exact (Gr.refl w).alloc _
  have g2 : Gr w1 w2 := by rw [hw2]; exact (Gr.refl w1).alloc _
  have g3 : Gr w2 w3 := by rw [hw3]; exact (Gr.refl w2).alloc _
  have s1 : Sl w1 (.slice (some ⟨w.heap.size, 0, none⟩) 2 2) (bytes [97, 98]) := by rw [hw1]; exact Sl.new w (bytes [97, 98]) 5 (2, 3) 2 2 rfl (by decide)
  have b2 : w2.heap[w.heap.size + 1]? = some (.cells #[.int .u64 2, .slice (some ⟨w.heap.size, 0, none⟩) 2 2] 37 (0, 0)) := by rw [hw2, ← n1]; exact heap_alloc_new w1 _
  have l2 : Lines w2 (.slice (some ⟨w.heap.size + 1, 0, none⟩) 1 1) telD.ls := lines_one w2 _ ⟨2, [97, 98]⟩ _ b2 (s1.below g2) (by decide)
  have l3 := l2.below g3
  have b3 : MsgAt w3 (w.heap.size + 1 + 1) telD (.slice (some ⟨w.heap.size + 1, 0, none⟩) 1 1) := by unfold MsgAt; rw [hw3, ← n2]; exact heap_alloc_new w2 _
  have hok : MsgOk telD := by unfold MsgOk; decide
  have G3 := Gr.trans (Gr.trans g1 g2) g3
  have HW1 := Lib.hid hw1
  have HW2 := Lib.hid hw2
  have HW3 := Lib.hid hw3
  have HB3 := Lib.hid b3
  have HL3 := Lib.hid l3
  have HG3 := Lib.hid G3
  have hcell : (.agg #[.int .u8 5, .int .u64 3, .int .u64 0, .int .i64 1, .int .i64 1, .slice (some ⟨w.heap.size + 1, 0, none⟩) 1 1] : Value) = .agg (msgCells telD (.slice (some ⟨w.heap.size + 1, 0, none⟩) 1 1)) := rfl
  have HC := Lib.hid hcell
  clear hcell hw1 hw2 hw3 g1 g2 g3 s1 b2 l2 l3 b3 G3 n1 n2
  have hcv : (convert 27 27 (.slice (some ⟨w.heap.size, 0, none⟩) 2 2)).run Try.prog (w.alloc (.cells #[.int .u8 97, .int .u8 98] 5)) = .ok (.slice (some ⟨w.heap.size, 0, none⟩) 2 2) (w.alloc (.cells #[.int .u8 97, .int .u8 98] 5 (2, 3))) := Go.Lib.run_convert_bytes_const w 27 5 #[.int .u8 97, .int .u8 98] 2 2 Try.underlying27 Try.underlying5
  go_enter Try.func13, Try.ntmps13
  go_wp2_with fail
  rw [← HW1.out, ← HW2.out, ← HW3.out, HC.out]
  clear hcv
  refine (put_yes w3 telD _ HL3.out hok (by decide) telD_may).mono ?_
  rintro e w4 ⟨v4, rfl, s4, g4⟩
  obtain ⟨a4, c4, rfl, _, _⟩ := s4.bytes
  rw [telD_len] at s4 ⊢
  go_wp2_with fail
  refine (get_yes w4 _ (putV telD) s4 (by rw [telD_len]; decide) (getV_put telD telD_may).1).mono ?_
  rw [(getV_put telD telD_may).2]
  rintro e w5 ⟨l5, rfl, hl5, g5⟩
  obtain ⟨a5, c5, rfl⟩ := hl5.shape
  have G5 := Gr.trans g4 g5
  have hl5' := hl5.lines
  have HL5 := Lib.hid hl5'
  have HG5 := Lib.hid G5
  clear hl5 hl5' G5 g4 g5 s4
  unfold msgCells
  go_wp2_with fail
  obtain ⟨w6, hw6⟩ : ∃ w6, w6 = w5.alloc (.cells #[.int .u8 (telD.kind : Int), .int .u64 (telD.epoch : Int), .int .u64 (telD.current : Int), .int .i64 telD.at_, .int .i64 telD.commit, .slice a5 telD.ls.length c5] 25) := ⟨_, rfl⟩
  rw [← hw6]
  have g6 : Gr w5 w6 := by rw [hw6]; exact (Gr.refl w5).alloc _
  have b6 : MsgAt w6 w5.heap.size telD (.slice a5 telD.ls.length c5) := by unfold MsgAt; rw [hw6]; exact heap_alloc_new w5 _
  clear hw6
  refine (get_no w6 _ [] (Sl.nil _ _ _) (by decide) getV_nil).mono ?_
  rintro e w7 ⟨rfl, g7⟩
  have G8 : Gr w7 (w7.alloc (.cells zeroM 25)) := (Gr.refl w7).alloc _
  unfold zeroM at G8 ⊢
  have G68 := Gr.trans g7 G8
  have G58 := Gr.trans g6 G68
  have G38 := Gr.trans HG5.out G58
  have x3 := (HB3.out.block (G38.block _ HB3.out.lt)).cells
  have x6 := (b6.block (G68.block _ b6.lt)).cells
  obtain ⟨p0, p1, p2, p3, p4, p5, _⟩ := x3
  obtain ⟨q0, q1, q2, q3, q4, q5, _⟩ := x6
  have L3 := HL3.out.below G38
  have L5 := HL5.out.below G58
  have GG := Gr.trans HG3.out G38
  have HL3' := Lib.hid L3
  have HL5' := Lib.hid L5
  have HGG := Lib.hid GG
  have HA : Hid ((.agg #[.int .u8 (telD.kind : Int), .int .u64 (telD.epoch : Int), .int .u64 (telD.current : Int), .int .i64 telD.at_, .int .i64 telD.commit, .slice (some ⟨w.heap.size + 1, 0, none⟩) 1 1] : Value) = .agg (msgCells telD (.slice (some ⟨w.heap.size + 1, 0, none⟩) 1 1))) := Lib.hid rfl
  have HA2 : Hid ((.agg #[.int .u8 (telD.kind : Int), .int .u64 (telD.epoch : Int), .int .u64 (telD.current : Int), .int .i64 telD.at_, .int .i64 telD.commit, .slice a5 telD.ls.length c5] : Value) = .agg (msgCells telD (.slice a5 telD.ls.length c5))) := Lib.hid rfl
  clear L3 L5 GG G38 G58 G68 G8 g7 g6 b6 HB3 HL3 HL5 HG3 HG5
  go_wp2_with fail
  rw [HA.out, HA2.out]
  refine (same_any _ telD telD _ _ HL3'.out HL5'.out (by decide) (by decide)).mono ?_
  rintro e w9 ⟨z, rfl, hz, g9⟩
  obtain rfl : z = true := hz.2 rfl
  have G9 := Gr.trans HGG.out g9
  clear hz g9
  go_wp2
  go_ret
  exact ⟨rfl, G9⟩
end Go.Proofs.Ytclicammiopjlaa
