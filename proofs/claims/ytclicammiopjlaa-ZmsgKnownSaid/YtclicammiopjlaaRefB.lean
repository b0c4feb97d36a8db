/-
  Of the document: Same, May.
-/
import Derived.Test.YtclicammiopjlaaRefA
import Derived.Test.YtclicammiopjlaaPut
set_option linter.unusedVariables false
namespace Go.Proofs.Ytclicammiopjlaa
open Go.RowKit

set_option maxHeartbeats 2000000 in
theorem same_any (w : World) (m n : MsgD) (lv kv : Value) (hl : Lines w lv m.ls) (hk : Lines w kv n.ls) (h1 : m.ls.length ≤ maxLen) (h2 : n.ls.length ≤ maxLen) :
    Calls Try.prog 12 #[.agg (msgCells m lv), .agg (msgCells n kv)] w (Says (m = n) w) := by
  obtain ⟨kd1, ep1, cu1, at1, co1, la⟩ := m
  obtain ⟨kd2, ep2, cu2, at2, co2, lb⟩ := n
  simp only at hl hk h1 h2
  obtain ⟨a1, c1, rfl⟩ := hl.shape
  obtain ⟨a2, c2, rfl⟩ := hk.shape
  have G2 : ∀ o p, Gr w ((w.alloc o).alloc p) := fun o p => ((Gr.refl w).alloc o).alloc p
  have HG := Lib.hid G2
  have HL := Lib.hid hl
  have HK := Lib.hid hk
  unfold msgCells
  clear hl hk G2
  by_cases q0 : kd1 = kd2
  case neg =>
    have h' : ¬ ((kd1 : Int) = (kd2 : Int)) := by omega
    have hne : ¬ ((⟨kd1, ep1, cu1, at1, co1, la⟩ : MsgD) = ⟨kd2, ep2, cu2, at2, co2, lb⟩) := fun e => q0 (by injection e)
    have HNE := Lib.hid hne
    clear hne q0
    go_enter Try.func12, Try.ntmps12
    go_wp2
    go_ret
    exact says false ⟨(fun h => by cases h), fun h => absurd h HNE.out⟩ (HG.out _ _)
  subst q0
  by_cases q1 : ep1 = ep2
  case neg =>
    have h' : ¬ ((ep1 : Int) = (ep2 : Int)) := by omega
    have hne : ¬ ((⟨kd1, ep1, cu1, at1, co1, la⟩ : MsgD) = ⟨kd1, ep2, cu2, at2, co2, lb⟩) := fun e => q1 (by injection e)
    have HNE := Lib.hid hne
    clear hne q1
    go_enter Try.func12, Try.ntmps12
    go_wp2
    go_ret
    exact says false ⟨(fun h => by cases h), fun h => absurd h HNE.out⟩ (HG.out _ _)
  subst q1
  by_cases q2 : cu1 = cu2
  case neg =>
    have h' : ¬ ((cu1 : Int) = (cu2 : Int)) := by omega
    have hne : ¬ ((⟨kd1, ep1, cu1, at1, co1, la⟩ : MsgD) = ⟨kd1, ep1, cu2, at2, co2, lb⟩) := fun e => q2 (by injection e)
    have HNE := Lib.hid hne
    clear hne q2
    go_enter Try.func12, Try.ntmps12
    go_wp2
    go_ret
    exact says false ⟨(fun h => by cases h), fun h => absurd h HNE.out⟩ (HG.out _ _)
  subst q2
  by_cases q3 : at1 = at2
  case neg =>
    have h' : ¬ ((at1 : Int) = (at2 : Int)) := by omega
    have hne : ¬ ((⟨kd1, ep1, cu1, at1, co1, la⟩ : MsgD) = ⟨kd1, ep1, cu1, at2, co2, lb⟩) := fun e => q3 (by injection e)
    have HNE := Lib.hid hne
    clear hne q3
    go_enter Try.func12, Try.ntmps12
    go_wp2
    go_ret
    exact says false ⟨(fun h => by cases h), fun h => absurd h HNE.out⟩ (HG.out _ _)
  subst q3
  by_cases q4 : co1 = co2
  case neg =>
    have h' : ¬ ((co1 : Int) = (co2 : Int)) := by omega
    have hne : ¬ ((⟨kd1, ep1, cu1, at1, co1, la⟩ : MsgD) = ⟨kd1, ep1, cu1, at1, co2, lb⟩) := fun e => q4 (by injection e)
    have HNE := Lib.hid hne
    clear hne q4
    go_enter Try.func12, Try.ntmps12
    go_wp2
    go_ret
    exact says false ⟨(fun h => by cases h), fun h => absurd h HNE.out⟩ (HG.out _ _)
  subst q4
  go_enter Try.func12, Try.ntmps12
  go_wp2_with fail
  refine (lines_any _ _ _ la lb (HL.out.below (HG.out _ _)) (HK.out.below (HG.out _ _)) h1 h2).mono ?_
  rintro e w' ⟨z, rfl, hz, g⟩
  have G := Gr.trans (HG.out _ _) g
  have HZ := Lib.hid hz
  clear hz
  go_wp2
  go_ret
  exact says _ (by rw [HZ.out]; simp) G

/-- The document's own test ahead of the lines. -/
theorem mayV_ref (m : MsgD) (hk : m.kind < 256) : mayV m = (!(decide (m.kind < 1) || decide (6 < m.kind) || decide (m.epoch < 1) || decide (281474976710656 < m.epoch) || decide (m.epoch < m.current) || decide (m.at_ < 0) || decide (256 < m.at_) || decide (m.commit < 0) || decide (256 < m.commit) || decide (256 < m.ls.length)) &&
    m.ls.all lineV && !((decide (m.kind ≠ 2) && decide (0 < m.current)) || (decide (m.kind ≠ 5) && decide (0 < m.commit))) && !(decide (m.kind ≠ 5) && decide (m.kind ≠ 6) && decide (0 < m.at_)) && (decide (m.kind = 2) || decide (m.kind = 4) || decide (m.kind = 5) || decide (m.ls.length = 0))) := by
  unfold mayV kindV withinV
  rw [Bool.eq_iff_iff]
  simp only [Bool.and_eq_true, Bool.or_eq_true, Bool.not_eq_true', Bool.or_eq_false_iff, Bool.and_eq_false_iff, decide_eq_true_eq, decide_eq_false_iff_not, beq_iff_eq]
  constructor
  · rintro ⟨⟨⟨⟨⟨⟨⟨h1, h2⟩, h3⟩, h4⟩, h5⟩, h6⟩, h7⟩, h8⟩
    refine ⟨⟨⟨⟨?_, h8⟩, ?_⟩, ?_⟩, ?_⟩ <;> omega
  · rintro ⟨⟨⟨⟨h1, h8⟩, h5⟩, h6⟩, h7⟩
    refine ⟨⟨⟨⟨⟨⟨⟨?_, ?_⟩, ?_⟩, ?_⟩, ?_⟩, ?_⟩, ?_⟩, h8⟩ <;> omega
theorem mayV_iff (m : MsgD) (hk : m.kind < 256) : mayV m = true ↔ (1 ≤ m.kind ∧ m.kind ≤ 6 ∧ 1 ≤ m.epoch ∧ m.epoch ≤ 281474976710656 ∧ m.current ≤ m.epoch ∧ 0 ≤ m.at_ ∧ m.at_ ≤ 256 ∧ 0 ≤ m.commit ∧ m.commit ≤ 256 ∧ m.ls.length ≤ 256) ∧
    (∀ x ∈ m.ls, lineV x = true) ∧ (m.kind = 2 ∨ m.current = 0) ∧ (m.kind = 5 ∨ m.commit = 0) ∧ (m.kind = 5 ∨ m.kind = 6 ∨ m.at_ = 0) ∧ (m.kind = 2 ∨ m.kind = 4 ∨ m.kind = 5 ∨ m.ls.length = 0) := by
  rw [mayV_ref m hk]
  simp only [Bool.and_eq_true, Bool.or_eq_true, Bool.not_eq_true', Bool.or_eq_false_iff, Bool.and_eq_false_iff, decide_eq_true_eq, decide_eq_false_iff_not, List.all_eq_true]
  constructor
  · rintro ⟨⟨⟨⟨h1, h8⟩, h5⟩, h6⟩, h7⟩
    refine ⟨?_, h8, ?_, ?_, ?_, ?_⟩ <;> omega
  · rintro ⟨h1, h8, h4, h5, h6, h7⟩
    refine ⟨⟨⟨⟨?_, h8⟩, ?_⟩, ?_⟩, ?_⟩ <;> omega

set_option maxHeartbeats 4000000 in
theorem refmay_any (w : World) (m : MsgD) (lv : Value) (hl : Lines w lv m.ls) (hok : MsgOk m) (hlen : m.ls.length ≤ maxLen) :
    Calls Try.prog 16 #[.agg (msgCells m lv)] w fun e w' => e = .returned (.bool (mayV m)) ∧ Gr w w' := by
  obtain ⟨a, cap, rfl⟩ := hl.shape
  have hmx : m.ls.length ≤ 9223372036854775807 := Nat.le_trans hlen (by decide)
  have IFF := Lib.hid (mayV_iff m hok.1)
  have key : ∀ b : Bool, mayV m = b → Ending.returned (.bool b) = .returned (.bool (mayV m)) := fun b h => by rw [h]
  have KEY := Lib.hid key
  have hk8 := hok.1
  have he64 := hok.2.1
  have hc64 := hok.2.2.1
  clear key hok
  obtain ⟨kd, ep, cu, at9, co, ls⟩ := m
  simp only at hl hmx IFF hk8 he64 hc64 hlen
  have gA : ∀ o, Gr w (w.alloc o) := fun o => (Gr.refl w).alloc o
  have HG := Lib.hid gA
  unfold msgCells
  obtain ⟨w0, hw0⟩ : ∃ w0, w0 = w.alloc (.cells #[.int .u8 (kd : Int), .int .u64 (ep : Int), .int .u64 (cu : Int), .int .i64 at9, .int .i64 co, .slice a ls.length cap] 25) := ⟨_, rfl⟩
  have g0 : Gr w w0 := by rw [hw0]; exact gA _
  have hb0 : w0.heap[w.heap.size]? = some (.cells #[.int .u8 (kd : Int), .int .u64 (ep : Int), .int .u64 (cu : Int), .int .i64 at9, .int .i64 co, .slice a ls.length cap] 25 (0, 0)) := by rw [hw0]; exact heap_alloc_new w _
  have HL := Lib.hid (hl.below g0)
  have HW0 := Lib.hid hw0
  have G0 := Lib.hid g0
  have HB0 := Lib.hid hb0
  clear hw0 hb0 hl gA g0
  by_cases q0 : kd < 1
  case pos =>
    have hmv : mayV ⟨kd, ep, cu, at9, co, ls⟩ = false := by
      cases hm : mayV ⟨kd, ep, cu, at9, co, ls⟩ with
      | false => rfl
      | true => have := (IFF.out.1 hm).1; omega
    have HM := Lib.hid hmv
    clear hmv
    go_enter Try.func16, Try.ntmps16
    go_wp2
    go_ret
    exact ⟨KEY.out _ HM.out, HG.out _⟩
  by_cases q1 : 6 < kd
  case pos =>
    have hmv : mayV ⟨kd, ep, cu, at9, co, ls⟩ = false := by
      cases hm : mayV ⟨kd, ep, cu, at9, co, ls⟩ with
      | false => rfl
      | true => have := (IFF.out.1 hm).1; omega
    have HM := Lib.hid hmv
    clear hmv
    go_enter Try.func16, Try.ntmps16
    go_wp2
    go_ret
    exact ⟨KEY.out _ HM.out, HG.out _⟩
  by_cases q2 : ep < 1
  case pos =>
    have hmv : mayV ⟨kd, ep, cu, at9, co, ls⟩ = false := by
      cases hm : mayV ⟨kd, ep, cu, at9, co, ls⟩ with
      | false => rfl
      | true => have := (IFF.out.1 hm).1; omega
    have HM := Lib.hid hmv
    clear hmv
    go_enter Try.func16, Try.ntmps16
    go_wp2
    go_ret
    exact ⟨KEY.out _ HM.out, HG.out _⟩
  by_cases q3 : 281474976710656 < ep
  case pos =>
    have hmv : mayV ⟨kd, ep, cu, at9, co, ls⟩ = false := by
      cases hm : mayV ⟨kd, ep, cu, at9, co, ls⟩ with
      | false => rfl
      | true => have := (IFF.out.1 hm).1; omega
    have HM := Lib.hid hmv
    clear hmv
    go_enter Try.func16, Try.ntmps16
    go_wp2
    go_ret
    exact ⟨KEY.out _ HM.out, HG.out _⟩
  by_cases q4 : ep < cu
  case pos =>
    have hmv : mayV ⟨kd, ep, cu, at9, co, ls⟩ = false := by
      cases hm : mayV ⟨kd, ep, cu, at9, co, ls⟩ with
      | false => rfl
      | true => have := (IFF.out.1 hm).1; omega
    have HM := Lib.hid hmv
    clear hmv
    go_enter Try.func16, Try.ntmps16
    go_wp2
    go_ret
    exact ⟨KEY.out _ HM.out, HG.out _⟩
  by_cases q5 : at9 < 0
  case pos =>
    have hmv : mayV ⟨kd, ep, cu, at9, co, ls⟩ = false := by
      cases hm : mayV ⟨kd, ep, cu, at9, co, ls⟩ with
      | false => rfl
      | true => have := (IFF.out.1 hm).1; omega
    have HM := Lib.hid hmv
    clear hmv
    go_enter Try.func16, Try.ntmps16
    go_wp2
    go_ret
    exact ⟨KEY.out _ HM.out, HG.out _⟩
  by_cases q6 : 256 < at9
  case pos =>
    have hmv : mayV ⟨kd, ep, cu, at9, co, ls⟩ = false := by
      cases hm : mayV ⟨kd, ep, cu, at9, co, ls⟩ with
      | false => rfl
      | true => have := (IFF.out.1 hm).1; omega
    have HM := Lib.hid hmv
    clear hmv
    go_enter Try.func16, Try.ntmps16
    go_wp2
    go_ret
    exact ⟨KEY.out _ HM.out, HG.out _⟩
  by_cases q7 : co < 0
  case pos =>
    have hmv : mayV ⟨kd, ep, cu, at9, co, ls⟩ = false := by
      cases hm : mayV ⟨kd, ep, cu, at9, co, ls⟩ with
      | false => rfl
      | true => have := (IFF.out.1 hm).1; omega
    have HM := Lib.hid hmv
    clear hmv
    go_enter Try.func16, Try.ntmps16
    go_wp2
    go_ret
    exact ⟨KEY.out _ HM.out, HG.out _⟩
  by_cases q8 : 256 < co
  case pos =>
    have hmv : mayV ⟨kd, ep, cu, at9, co, ls⟩ = false := by
      cases hm : mayV ⟨kd, ep, cu, at9, co, ls⟩ with
      | false => rfl
      | true => have := (IFF.out.1 hm).1; omega
    have HM := Lib.hid hmv
    clear hmv
    go_enter Try.func16, Try.ntmps16
    go_wp2
    go_ret
    exact ⟨KEY.out _ HM.out, HG.out _⟩
  by_cases q9 : 256 < ls.length
  case pos =>
    have hmv : mayV ⟨kd, ep, cu, at9, co, ls⟩ = false := by
      cases hm : mayV ⟨kd, ep, cu, at9, co, ls⟩ with
      | false => rfl
      | true => have := (IFF.out.1 hm).1; omega
    have HM := Lib.hid hmv
    clear hmv
    go_enter Try.func16, Try.ntmps16
    go_wp2
    go_ret
    exact ⟨KEY.out _ HM.out, HG.out _⟩
  have hcs : ∀ W, Gr w0 W → ∀ j v, (#[.int .u8 (kd : Int), .int .u64 (ep : Int), .int .u64 (cu : Int), .int .i64 at9, .int .i64 co, .slice a ls.length cap] : Array Value)[j]? = some v → W.cell? ⟨w.heap.size, j, none⟩ = some v := fun W hg j v hv => by
    rw [hg.cell (p := ⟨w.heap.size, j, none⟩) (block_lt HB0.out), cell_of_row w0 _ j _ 25 (0, 0) HB0.out]; exact hv
  have HC := Lib.hid hcs
  clear hcs
  go_enter Try.func16, Try.ntmps16
  go_wp2_with fail
  rw [← HW0.out]
  go_loopw [3] (fun i wr => ∃ k : Nat, k ≤ ls.length ∧ i = .int .i64 k ∧ (∀ x ∈ ls.take k, lineV x = true) ∧ Gr w0 wr) (fun i _ => ls.length - (intOf i).toNat)
  case atStart => exact ⟨0, Nat.zero_le _, rfl, fun x hx => by simp at hx, Gr.refl _⟩
  case round =>
    obtain ⟨k, hk, rfl, hpre, gw⟩ := hrel
    have HP := Lib.hid hpre
    clear hpre
    have z0 := HC.out wr gw 0 _ rfl
    have z1 := HC.out wr gw 1 _ rfl
    have z2 := HC.out wr gw 2 _ rfl
    have z3 := HC.out wr gw 3 _ rfl
    have z4 := HC.out wr gw 4 _ rfl
    have z5 := HC.out wr gw 5 _ rfl
    by_cases hlt : k < ls.length
    · obtain ⟨B, o, ba, bc, rfl, hB, c0, c1, hsb, he⟩ := HL.out.row k hlt
      have d0 := (gw.cell (p := ⟨B, o + k * 2, none⟩) hB).trans c0
      have d1 := (gw.cell (p := ⟨B, o + k * 2 + 1, none⟩) hB).trans c1
      have i1 : (0 : Int) ≤ (k : Int) := by omega
      have i2 : (k : Int) < (ls.length : Int) := by omega
      obtain ⟨x, hx⟩ : ∃ x, x = ls[k] := ⟨_, rfl⟩
      rw [← hx] at d0 d1 he
      have HX := Lib.hid hx
      clear hx c0 c1 hsb
      go_wp2_with fail
      refine (refline_any _ x ba bc he).mono ?_
      rintro e w5 ⟨rfl, g5⟩
      have G5 := Gr.trans gw g5
      cases hv : lineV x with
      | true =>
        have hnext : ∀ y ∈ ls.take (k + 1), lineV y = true := fun y hy => by
          rw [List.take_add_one, List.getElem?_eq_getElem hlt] at hy
          rcases List.mem_append.1 hy with hy | hy
          · exact HP.out y hy
          · simp only [Option.toList_some, List.mem_singleton] at hy
            rw [hy, ← HX.out]; exact hv
        have HN := Lib.hid hnext
        clear hnext hv
        go_wp2
        go_roundw
        case rel => exact ⟨k + 1, by omega, by go_num, HN.out, G5⟩
        case measure => simp [intOf]; omega
      | false =>
        have hmv : mayV ⟨kd, ep, cu, at9, co, ls⟩ = false := by
          cases hm : mayV ⟨kd, ep, cu, at9, co, ls⟩ with
          | false => rfl
          | true =>
            have := (IFF.out.1 hm).2.1 x (by rw [HX.out]; exact List.getElem_mem hlt)
            rw [hv] at this; cases this
        have HM := Lib.hid hmv
        clear hmv hv
        go_wp2
        go_ret
        exact ⟨KEY.out _ HM.out, Gr.trans G0.out G5⟩
    · obtain rfl : k = ls.length := by omega
      have hall : ∀ x ∈ ls, lineV x = true := fun x hx => HP.out x (by rw [List.take_length]; exact hx)
      have HALL := Lib.hid hall
      clear hall HP
      have hall2 : (∀ x ∈ ls, lineV x = true) ↔ True := ⟨fun _ => trivial, fun _ => HALL.out⟩
      have HALL2 := Lib.hid hall2
      clear hall2
      go_wp2
      all_goals (go_ret; refine ⟨KEY.out _ ?_, Gr.trans G0.out gw⟩; rw [Bool.eq_iff_iff, IFF.out, HALL2.out]; simp only [true_and, Bool.false_eq_true, iff_false, iff_true, Bool.or_eq_true]; first | omega | (simp only [beq_iff_eq, bne_eq_false_iff_eq] at *; omega))
end Go.Proofs.Ytclicammiopjlaa
