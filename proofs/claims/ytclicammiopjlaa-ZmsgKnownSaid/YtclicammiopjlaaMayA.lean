/-
  zmsg.may: may a message be?
-/
import Derived.Test.YtclicammiopjlaaKinds
import Derived.Test.YtclicammiopjlaaHead
import Derived.Test.YtclicammiopjlaaLateTail
import Derived.WalkLawsBesides
import Derived.WalkSpells
import Derived.Outline
set_option linter.unusedVariables false
namespace Go.Proofs.Ytclicammiopjlaa
open Go.RowKit

def lineV (x : LineD) : Bool := decide (1 ≤ x.e) && decide (x.e ≤ 281474976710656) && decide (1 ≤ x.b.length) && decide (x.b.length ≤ 4096)
def withinV (n : Int) (h : Bool) : Bool := n == 0 || (h && decide (0 < n) && decide (n ≤ 256))
def mayV (m : MsgD) : Bool :=
  (kindV m.kind).ok && decide (1 ≤ m.epoch) && decide (m.epoch ≤ 281474976710656) && (m.current == 0 || ((kindV m.kind).current && decide (m.current ≤ m.epoch))) &&
    withinV m.at_ (kindV m.kind).at_ && withinV m.commit (kindV m.kind).commit && withinV m.ls.length (kindV m.kind).lines && m.ls.all lineV

theorem line_any (w : World) (x : LineD) (ba : Option Addr) (bc : Nat) (he : x.e < 2 ^ 64) :
    Calls Try.prog 38 #[.agg #[.int .u64 (x.e : Int), .slice ba x.b.length bc]] w fun e w' => e = .returned (.bool (!lineV x)) ∧ Gr w w' := by
  have key : ∀ b : Bool, (!lineV x) = b → Ending.returned (.bool b) = .returned (.bool (!lineV x)) := fun b h => by rw [h]
  have KEY := Lib.hid key
  clear key
  obtain ⟨n, hn⟩ : ∃ n, n = x.b.length := ⟨_, rfl⟩
  have HN := Lib.hid hn
  rw [← hn]
  clear hn
  obtain ⟨ep, hep⟩ : ∃ ep, ep = x.e := ⟨_, rfl⟩
  have HE := Lib.hid hep
  rw [← hep] at he ⊢
  clear hep
  have hl : lineV x = (decide (1 ≤ ep) && decide (ep ≤ 281474976710656) && decide (1 ≤ n) && decide (n ≤ 4096)) := by unfold lineV; rw [HN.out, HE.out]
  have HL := Lib.hid hl
  clear hl
  by_cases h1 : ep < 1
  · have hv : lineV x = false := by rw [HL.out]; simp; omega
    have HV := Lib.hid hv
    clear hv
    go_enter Try.func38, Try.ntmps38
    go_wp2
    go_ret
    exact ⟨KEY.out _ (by rw [HV.out]; first | rfl | (simp; omega)), (Gr.refl w).alloc _⟩
  by_cases h2 : 281474976710656 < ep
  · have hv : lineV x = false := by rw [HL.out]; simp; omega
    have HV := Lib.hid hv
    clear hv
    go_enter Try.func38, Try.ntmps38
    go_wp2
    go_ret
    exact ⟨KEY.out _ (by rw [HV.out]; first | rfl | (simp; omega)), (Gr.refl w).alloc _⟩
  by_cases h3 : n < 1
  · have hv : lineV x = false := by rw [HL.out]; simp; omega
    have HV := Lib.hid hv
    clear hv
    go_enter Try.func38, Try.ntmps38
    go_wp2
    go_ret
    exact ⟨KEY.out _ (by rw [HV.out]; first | rfl | (simp; omega)), (Gr.refl w).alloc _⟩
  by_cases h4 : 4096 < n
  · have hv : lineV x = false := by rw [HL.out]; simp; omega
    have HV := Lib.hid hv
    clear hv
    go_enter Try.func38, Try.ntmps38
    go_wp2
    go_ret
    exact ⟨KEY.out _ (by rw [HV.out]; first | rfl | (simp; omega)), (Gr.refl w).alloc _⟩
  · have hv : lineV x = true := by rw [HL.out]; simp; omega
    have HV := Lib.hid hv
    clear hv
    go_enter Try.func38, Try.ntmps38
    go_wp2
    go_ret
    exact ⟨KEY.out _ (by rw [HV.out]; first | rfl | (simp; omega)), (Gr.refl w).alloc _⟩

theorem within_any (w : World) (n : Int) (h : Bool) : Calls Try.prog 39 #[.int .i64 n, .bool h] w fun e w' => e = .returned (.bool (withinV n h)) ∧ w' = w := by
  have key : ∀ b : Bool, withinV n h = b → Ending.returned (.bool b) = .returned (.bool (withinV n h)) := fun b h => by rw [h]
  have KEY := Lib.hid key
  clear key
  by_cases h0 : n = 0
  · have hb : (n == 0) = true := by simp [h0]
    go_enter Try.func39, Try.ntmps39
    go_wp2
    go_ret
    exact ⟨KEY.out _ (by unfold withinV; simp [h0]), rfl⟩
  have hb : (n == 0) = false := by simp [h0]
  cases h with
  | false =>
    go_enter Try.func39, Try.ntmps39
    go_wp2
    go_ret
    exact ⟨KEY.out _ (by unfold withinV; simp [h0]), rfl⟩
  | true =>
    by_cases h1 : 0 < n
    · by_cases h2 : n ≤ 256
      · go_enter Try.func39, Try.ntmps39
        go_wp2
        go_ret
        exact ⟨KEY.out _ (by unfold withinV; simp [h1, h2]), rfl⟩
      · go_enter Try.func39, Try.ntmps39
        go_wp2
        go_ret
        exact ⟨KEY.out _ (by unfold withinV; simp [h0]; intros; omega), rfl⟩
    · go_enter Try.func39, Try.ntmps39
      go_wp2
      go_ret
      exact ⟨KEY.out _ (by unfold withinV; simp [h0]; intros; omega), rfl⟩

theorem enters_line (args : Array Value) (W : World) : (callFunc 38 args).run Try.prog W = .ok (.enter 38 args) W := by simp [go_sem]
set_option maxHeartbeats 400000 in
theorem index_any (w : World) (lv : Value) (ls : List LineD) (h : Lines w lv ls) (hl : ls.length ≤ maxLen) :
    Calls Try.prog 48 #[lv, .func (.func 38) #[] #[]] w fun e w' => (∃ z : Int, e = .returned (.int .i64 z) ∧ decide (0 ≤ z) = !ls.all lineV) ∧ Gr w w' := by
  obtain ⟨a, cap, rfl⟩ := h.shape
  have hm : maxLen ≤ 9223372036854775807 := by decide
  have H := Lib.hid h
  have hm63 : ls.length ≤ 9223372036854775807 := Nat.le_trans hl hm
  clear h hl hm
  go_enter Try.func48, Try.ntmps48
  go_wp2
  go_loopw [5, 8] (fun s5 i wr => ∃ k : Nat, k ≤ ls.length ∧ i = .int .i64 k ∧ (∀ x ∈ ls.take k, lineV x = true) ∧ Gr w wr) (fun _ i _ => ls.length - (intOf i).toNat)
  case atStart => exact ⟨0, Nat.zero_le _, rfl, by simp, Gr.refl w⟩
  case round =>
    obtain ⟨k, hk, rfl, hall, br⟩ := hrel
    obtain ⟨wo, rfl⟩ : ∃ wo : World, wo = wr := ⟨_, rfl⟩
    have HALL := Lib.hid hall
    clear hall
    by_cases hlt : k < ls.length
    · obtain ⟨B, o, ba, bc, rfl, hB, c0, c1, hs, he⟩ := H.out.row k hlt
      have d0 := (br.cell (p := ⟨B, o + k * 2, none⟩) hB).trans c0
      have d1 := (br.cell (p := ⟨B, o + k * 2 + 1, none⟩) hB).trans c1
      obtain ⟨x, hx⟩ : ∃ x, x = ls[k] := ⟨_, rfl⟩
      rw [← hx] at d0 d1 he
      have HX := Lib.hid hx
      have i1 : (0 : Int) ≤ (k : Int) := by omega
      have i2 : (k : Int) < (ls.length : Int) := by omega
      clear hx c0 c1 hs
      go_wp2_with fail
      refine (line_any _ x ba bc he).mono ?_
      rintro e w2 ⟨rfl, g2⟩
      have b2 := Gr.trans br g2
      cases hv : lineV x with
      | false =>
        have hno : ls.all lineV = false := by
          rw [List.all_eq_false]
          exact ⟨ls[k], List.getElem_mem hlt, by rw [← HX.out, hv]; decide⟩
        have HNO := Lib.hid hno
        clear hno
        go_wp2
        go_ret
        exact ⟨⟨_, rfl, by rw [HNO.out]; simp⟩, b2⟩
      | true =>
        go_wp2
        go_roundw
        case rel =>
          refine ⟨k + 1, by omega, by go_num, fun y hy => ?_, b2⟩
          rw [List.take_add_one, List.getElem?_eq_getElem hlt] at hy
          rcases List.mem_append.1 hy with hy | hy
          · exact HALL.out y hy
          · have : y = ls[k] := by simpa using hy
            rw [this, ← HX.out, hv]
        case measure => simp [intOf]; omega
    · have hno : ls.all lineV = true := by
        rw [List.all_eq_true]
        intro y hy
        exact HALL.out y (by rw [List.take_of_length_le (by omega)]; exact hy)
      have HNO := Lib.hid hno
      clear hno
      go_wp2
      go_ret
      exact ⟨⟨_, rfl, by rw [HNO.out]; rfl⟩, br⟩
theorem contains_any (w : World) (lv : Value) (ls : List LineD) (h : Lines w lv ls) (hl : ls.length ≤ maxLen) :
    Calls Try.prog 40 #[lv, .func (.func 38) #[] #[]] w fun e w' => e = .returned (.bool (!ls.all lineV)) ∧ Gr w w' := by
  have h' := h
  obtain ⟨a, cap, rfl⟩ := h'.shape
  go_enter Try.func40, Try.ntmps40
  go_wp2_with fail
  refine (index_any _ _ ls h hl).mono ?_
  rintro e w2 ⟨⟨z, rfl, hz⟩, g2⟩
  have HZ := Lib.hid hz
  clear hz
  go_wp2
  go_ret
  exact ⟨by rw [← HZ.out]; rfl, g2⟩
end Go.Proofs.Ytclicammiopjlaa
