/-
  Of the document: line, Lines, Same; of the law: heavy.
-/
import Derived.Test.YtclicammiopjlaaMay
import Derived.Test.YtclicammiopjlaaGrow
set_option linter.unusedVariables false
namespace Go.Proofs.Ytclicammiopjlaa
open Go.RowKit

/-- The call answers a Boolean which is true just where the word is. -/
def Says (p : Prop) (w : World) (e : Ending) (w' : World) : Prop := ∃ z : Bool, e = .returned (.bool z) ∧ (z = true ↔ p) ∧ Gr w w'
theorem says {p : Prop} {w w' : World} (z : Bool) (h : z = true ↔ p) (g : Gr w w') : Says p w (.returned (.bool z)) w' := ⟨z, rfl, h, g⟩

theorem refline_any (w : World) (x : LineD) (ba : Option Addr) (bc : Nat) (he : x.e < 2 ^ 64) :
    Calls Try.prog 36 #[.agg #[.int .u64 (x.e : Int), .slice ba x.b.length bc]] w fun e w' => e = .returned (.bool (lineV x)) ∧ Gr w w' := by
  have key : ∀ b : Bool, lineV x = b → Ending.returned (.bool b) = .returned (.bool (lineV x)) := fun b h => by rw [h]
  have KEY := Lib.hid key
  clear key
  obtain ⟨n, hn⟩ : ∃ n, n = x.b.length := ⟨_, rfl⟩
  have HN := Lib.hid hn
  rw [← hn]
  clear hn
  obtain ⟨ep, hep⟩ : ∃ ep, ep = x.e := ⟨_, rfl⟩
  have HE := Lib.hid hep
  rw [← hep] at he ⊢
  clear hep
  have hl : lineV x = (decide (1 ≤ ep) && decide (ep ≤ 281474976710656) && decide (1 ≤ n) && decide (n ≤ 4096)) := by unfold lineV; rw [HN.out, HE.out]
  have HL := Lib.hid hl
  clear hl
  by_cases h : ep < 1
  · have hv : lineV x = false := by rw [HL.out]; simp; omega
    have HV := Lib.hid hv
    clear hv
    go_enter Try.func36, Try.ntmps36
    go_wp2
    go_ret
    exact ⟨KEY.out _ (by rw [HV.out] <;> first | rfl | (simp; omega)), (Gr.refl w).alloc _⟩
  by_cases h : 281474976710656 < ep
  · have hv : lineV x = false := by rw [HL.out]; simp; omega
    have HV := Lib.hid hv
    clear hv
    go_enter Try.func36, Try.ntmps36
    go_wp2
    go_ret
    exact ⟨KEY.out _ (by rw [HV.out] <;> first | rfl | (simp; omega)), (Gr.refl w).alloc _⟩
  by_cases h : n < 1
  · have hv : lineV x = false := by rw [HL.out]; simp; omega
    have HV := Lib.hid hv
    clear hv
    go_enter Try.func36, Try.ntmps36
    go_wp2
    go_ret
    exact ⟨KEY.out _ (by rw [HV.out] <;> first | rfl | (simp; omega)), (Gr.refl w).alloc _⟩
  by_cases h : 4096 < n
  · have hv : lineV x = false := by rw [HL.out]; simp; omega
    have HV := Lib.hid hv
    clear hv
    go_enter Try.func36, Try.ntmps36
    go_wp2
    go_ret
    exact ⟨KEY.out _ (by rw [HV.out] <;> first | rfl | (simp; omega)), (Gr.refl w).alloc _⟩
  have hv : lineV x = true := by rw [HL.out]; simp; omega
  have HV := Lib.hid hv
  clear hv
  go_enter Try.func36, Try.ntmps36
  go_wp2
  go_ret
  exact ⟨KEY.out _ (by rw [HV.out] <;> first | rfl | (simp; omega)), (Gr.refl w).alloc _⟩

def Light (w : World) (n : Nat) (e : Ending) (w' : World) : Prop := ∃ z : Bool, e = .returned (.bool z) ∧ (z = false → n ≤ 300) ∧ Gr w w'
theorem light {w w' : World} {n : Nat} (z : Bool) (h : z = false → n ≤ 300) (g : Gr w w') : Light w n (.returned (.bool z)) w' := ⟨z, rfl, h, g⟩
set_option maxHeartbeats 1000000 in
theorem heavy_any (w : World) (m : MsgD) (lv : Value) (hl : Lines w lv m.ls) (hlen : m.ls.length ≤ maxLen) :
    Calls Try.prog 9 #[.agg (msgCells m lv)] w (Light w m.ls.length) := by
  obtain ⟨a, cap, rfl⟩ := hl.shape
  have gA : ∀ o, Gr w (w.alloc o) := fun o => (Gr.refl w).alloc o
  have hmx : m.ls.length ≤ 9223372036854775807 := Nat.le_trans hlen (by decide)
  unfold msgCells
  obtain ⟨w0, hw0⟩ : ∃ w0, w0 = w.alloc (.cells #[.int .u8 (m.kind : Int), .int .u64 (m.epoch : Int), .int .u64 (m.current : Int), .int .i64 m.at_, .int .i64 m.commit, .slice a m.ls.length cap] 25) := ⟨_, rfl⟩
  have g0 : Gr w w0 := by rw [hw0]; exact gA _
  have hb0 : w0.heap[w.heap.size]? = some (.cells #[.int .u8 (m.kind : Int), .int .u64 (m.epoch : Int), .int .u64 (m.current : Int), .int .i64 m.at_, .int .i64 m.commit, .slice a m.ls.length cap] 25 (0, 0)) := by rw [hw0]; exact heap_alloc_new w _
  have y5 : w0.cell? ⟨w.heap.size, 5, none⟩ = some (.slice a m.ls.length cap) := by rw [cell_of_row w0 _ 5 _ 25 (0, 0) hb0]; rfl
  have HL := Lib.hid (hl.below g0)
  have HW0 := Lib.hid hw0
  have G0 := Lib.hid g0
  generalize m.kind = kd at *
  generalize m.epoch = ep at *
  generalize m.current = cu at *
  generalize m.at_ = at9 at *
  generalize m.commit = co at *
  generalize m.ls = ls at *
  clear hw0 hb0 hl gA g0
  go_enter Try.func9, Try.ntmps9
  go_wp2_with fail
  rw [← HW0.out]
  go_loop [3, 4] (fun n i => ∃ k : Nat, k ≤ ls.length ∧ k ≤ 301 ∧ i = .int .i64 k ∧ ∃ N : Int, n = .int .i64 N) (fun _ i => ls.length - (intOf i).toNat)
  case atStart => exact ⟨0, Nat.zero_le _, by decide, rfl, _, rfl⟩
  case round =>
    obtain ⟨k, hk, hk3, rfl, N, rfl⟩ := hrel
    by_cases hlt : k < ls.length
    · by_cases h3 : k < 301
      · obtain ⟨B, o, ba, bc, rfl, hB, c0, c1, hsb, he⟩ := HL.out.row k hlt
        clear c0 hsb he
        generalize ls[k].b.length = bl at *
        have i1 : (0 : Int) ≤ (k : Int) := by omega
        have i2 : (k : Int) < (ls.length : Int) := by omega
        have i3 : (k : Int) < 301 := by omega
        go_wp2
        go_round
        case rel => exact ⟨k + 1, by omega, by omega, by go_num, _, rfl⟩
        case measure => simp [intOf]; omega
      · have i2 : (k : Int) < (ls.length : Int) := by omega
        have i3 : ¬ (k : Int) < 301 := by omega
        have i4 : (300 : Int) < (ls.length : Int) := by omega
        go_wp2
        go_ret
        exact light _ (fun h => by cases h) G0.out
    · obtain rfl : k = ls.length := by omega
      by_cases h3 : 300 < ls.length
      · have i4 : (300 : Int) < (ls.length : Int) := by omega
        go_wp2
        go_ret
        exact light _ (fun h => by cases h) G0.out
      · have i4 : ¬ (300 : Int) < (ls.length : Int) := by omega
        go_wp2
        go_ret
        exact light _ (fun h => by omega) G0.out

theorem toArray_ne {a b : List UInt8} (h : a ≠ b) : (⟨a.toArray⟩ : ByteArray) ≠ ⟨b.toArray⟩ := fun e => h (by
  have := congrArg (fun x : ByteArray => x.data.toList) e
  simpa using this)

set_option maxHeartbeats 2000000 in
theorem lines_any (w : World) (va vb : Value) (la lb : List LineD) (ha : Lines w va la) (hb : Lines w vb lb) (hl : la.length ≤ maxLen) (hl2 : lb.length ≤ maxLen) :
    Calls Try.prog 23 #[va, vb] w (Says (la = lb) w) := by
  obtain ⟨aa, ca, rfl⟩ := ha.shape
  obtain ⟨ab, cb, rfl⟩ := hb.shape
  by_cases hlen : la.length = lb.length
  · have R1 : ∀ w', Gr w w' → Says (la = lb) w (.returned (.bool true)) w' ∨ True := fun _ _ => .inr trivial
    have HB := Lib.hid hb
    have HA := Lib.hid ha
    have hmx : la.length ≤ 9223372036854775807 := Nat.le_trans hl (by decide)
    rw [← hlen]
    have HLEN := Lib.hid hlen
    clear hb ha R1 hlen
    go_enter Try.func23, Try.ntmps23
    go_wp2_with fail
    go_loopw [5] (fun i wr => ∃ k : Nat, k ≤ la.length ∧ i = .int .i64 k ∧ la.take k = lb.take k ∧ Gr w wr) (fun i _ => la.length - (intOf i).toNat)
    case atStart => exact ⟨0, Nat.zero_le _, rfl, rfl, Gr.refl _⟩
    case round =>
      obtain ⟨k, hk, rfl, hpre, gw⟩ := hrel
      have HP := Lib.hid hpre
      clear hpre
      by_cases hlt : k < la.length
      · obtain ⟨Ba, oa, sa, pa, rfl, hBa, ca0, ca1, hsa, hea⟩ := HA.out.row k hlt
        have hlt2 : k < lb.length := by rw [← HLEN.out]; exact hlt
        obtain ⟨Bb, ob, sb, pb, rfl, hBb, cb0, cb1, hsb, heb⟩ := HB.out.row k hlt2
        obtain ⟨x, hx⟩ : ∃ x, x = la[k] := ⟨_, rfl⟩
        obtain ⟨y, hy⟩ : ∃ y, y = lb[k] := ⟨_, rfl⟩
        rw [← hx] at ca0 ca1 hsa hea
        rw [← hy] at cb0 cb1 hsb heb
        have HX := Lib.hid hx
        have HY := Lib.hid hy
        have da0 : ∀ W, Gr wr.drew W → W.cell? ⟨Ba, oa + k * 2, none⟩ = some (.int .u64 (x.e : Int)) := fun W hW => ((Gr.trans gw.drew hW).cell (p := ⟨Ba, oa + k * 2, none⟩) hBa).trans ca0
        have da1 : ∀ W, Gr wr.drew W → W.cell? ⟨Ba, oa + k * 2 + 1, none⟩ = some (.slice sa x.b.length pa) := fun W hW => ((Gr.trans gw.drew hW).cell (p := ⟨Ba, oa + k * 2 + 1, none⟩) hBa).trans ca1
        have db0 : ∀ W, Gr wr.drew W → W.cell? ⟨Bb, ob + k * 2, none⟩ = some (.int .u64 (y.e : Int)) := fun W hW => ((Gr.trans gw.drew hW).cell (p := ⟨Bb, ob + k * 2, none⟩) hBb).trans cb0
        have db1 : ∀ W, Gr wr.drew W → W.cell? ⟨Bb, ob + k * 2 + 1, none⟩ = some (.slice sb y.b.length pb) := fun W hW => ((Gr.trans gw.drew hW).cell (p := ⟨Bb, ob + k * 2 + 1, none⟩) hBb).trans cb1
        have es : ∀ W, Gr wr.drew W → (convert 27 9 (.slice sa x.b.length pa)).run Try.prog W = .ok (.string ⟨x.b.toArray⟩) W := fun W hW => run_string_sl 27 5 9 Try.underlying27 Try.underlying5 Try.underlying9 (hsa.below (Gr.trans gw.drew hW))
        have et : ∀ W, Gr wr.drew W → (convert 27 9 (.slice sb y.b.length pb)).run Try.prog W = .ok (.string ⟨y.b.toArray⟩) W := fun W hW => run_string_sl 27 5 9 Try.underlying27 Try.underlying5 Try.underlying9 (hsb.below (Gr.trans gw.drew hW))
        have DA0 := Lib.hid da0
        have DA1 := Lib.hid da1
        have DB0 := Lib.hid db0
        have DB1 := Lib.hid db1
        have ES := Lib.hid es
        have ET := Lib.hid et
        have i1 : (0 : Int) ≤ (k : Int) := by omega
        have i2 : (k : Int) < (la.length : Int) := by omega
        clear hx hy da0 da1 db0 db1 es et ca0 ca1 cb0 cb1 hsa hsb
        by_cases he : x.e = y.e
        · by_cases hbq : x.b = y.b
          · have hxy : x = y := by cases x; cases y; simp_all
            have he' : ((x.e : Int) != (y.e : Int)) = false := by simp [he]
            rw [← hbq] at DB1 ET
            rw [← he] at DB0
            have hnext : la.take (k + 1) = lb.take (k + 1) := by
              rw [List.take_add_one, List.take_add_one, HP.out, List.getElem?_eq_getElem hlt, List.getElem?_eq_getElem hlt2, ← HX.out, ← HY.out, hxy]
            have HN := Lib.hid hnext
            clear hnext hxy he' he hbq HX HY HP
            go_wp2_with fail
            apply wp_region_draw_grow (.eq _ :: .eq _ :: .eq _ :: .eq _ :: .eq _ :: .eq _ :: .eq _ :: .eq _ :: .eq _ :: .eq _ :: .eq _ :: .eq _ :: .eq _ :: .eq _ :: .eq _ :: .eq _ :: .eq _ :: .eq _ :: .eq _ :: .eq _ :: .eq _ :: .eq _ :: .eq _ :: .eq _ :: .eq _ :: .eq _ :: []) (by kernel_rfl) (by kernel_rfl) trivial
            apply wpG_eq
            · intro W hW hs
              unfold opG
              go_simp
              first | exact resG_eq_mk _ _ _ | rfl
            simp only [Act.put, List.setIfInBounds_toArray, List.set_cons_zero, List.set_cons_succ]
            apply wpG_eq
            · intro W hW hs
              unfold opG
              go_simp
              first | exact resG_eq_mk _ _ _ | rfl
            simp only [Act.put, List.setIfInBounds_toArray, List.set_cons_zero, List.set_cons_succ]
            apply wpG_eq
            · intro W hW hs
              unfold opG
              go_simp
              first | exact resG_eq_mk _ _ _ | rfl
            simp only [Act.put, List.setIfInBounds_toArray, List.set_cons_zero, List.set_cons_succ]
            apply wpG_eq
            · intro W hW hs
              unfold opG
              go_simp
              first | exact resG_eq_mk _ _ _ | rfl
            simp only [Act.put, List.setIfInBounds_toArray, List.set_cons_zero, List.set_cons_succ]
            apply wpG_eq
            · intro W hW hs
              have h1 := DA0.out W hW
              unfold opG
              go_simp
              first | exact resG_eq_mk _ _ _ | rfl
            simp only [Act.put, List.setIfInBounds_toArray, List.set_cons_zero, List.set_cons_succ]
            apply wpG_eq
            · intro W hW hs
              unfold opG
              go_simp
              first | exact resG_eq_mk _ _ _ | rfl
            simp only [Act.put, List.setIfInBounds_toArray, List.set_cons_zero, List.set_cons_succ]
            apply wpG_eq
            · intro W hW hs
              unfold opG
              go_simp
              first | exact resG_eq_mk _ _ _ | rfl
            simp only [Act.put, List.setIfInBounds_toArray, List.set_cons_zero, List.set_cons_succ]
            apply wpG_eq
            · intro W hW hs
              unfold opG
              go_simp
              first | exact resG_eq_mk _ _ _ | rfl
            simp only [Act.put, List.setIfInBounds_toArray, List.set_cons_zero, List.set_cons_succ]
            apply wpG_eq
            · intro W hW hs
              unfold opG
              go_simp
              first | exact resG_eq_mk _ _ _ | rfl
            simp only [Act.put, List.setIfInBounds_toArray, List.set_cons_zero, List.set_cons_succ]
            apply wpG_eq
            · intro W hW hs
              have h1 := DB0.out W hW
              unfold opG
              go_simp
              first | exact resG_eq_mk _ _ _ | rfl
            simp only [Act.put, List.setIfInBounds_toArray, List.set_cons_zero, List.set_cons_succ]
            apply wpG_eq
            · intro W hW hs
              unfold opG
              go_simp
              first | exact resG_eq_mk _ _ _ | rfl
            simp only [Act.put, List.setIfInBounds_toArray, List.set_cons_zero, List.set_cons_succ]
            apply wpG_eq
            · intro W hW hs
              unfold opG
              go_simp
              first | exact resG_eq_mk _ _ _ | rfl
            simp only [Act.put, List.setIfInBounds_toArray, List.set_cons_zero, List.set_cons_succ]
            apply wpG_eq
            · intro W hW hs
              unfold opG
              go_simp
              first | exact resG_eq_mk _ _ _ | rfl
            simp only [Act.put, List.setIfInBounds_toArray, List.set_cons_zero, List.set_cons_succ]
            apply wpG_eq
            · intro W hW hs
              unfold opG
              go_simp
              first | exact resG_eq_mk _ _ _ | rfl
            simp only [Act.put, List.setIfInBounds_toArray, List.set_cons_zero, List.set_cons_succ]
            apply wpG_eq
            · intro W hW hs
              unfold opG
              go_simp
              first | exact resG_eq_mk _ _ _ | rfl
            simp only [Act.put, List.setIfInBounds_toArray, List.set_cons_zero, List.set_cons_succ]
            apply wpG_eq
            · intro W hW hs
              unfold opG
              go_simp
              first | exact resG_eq_mk _ _ _ | rfl
            simp only [Act.put, List.setIfInBounds_toArray, List.set_cons_zero, List.set_cons_succ]
            apply wpG_eq
            · intro W hW hs
              have h1 := DA1.out W hW
              unfold opG
              go_simp
              first | exact resG_eq_mk _ _ _ | rfl
            simp only [Act.put, List.setIfInBounds_toArray, List.set_cons_zero, List.set_cons_succ]
            apply wpG_eq
            · intro W hW hs
              have h1 := ES.out W hW
              unfold opG
              go_simp
              first | exact resG_eq_mk _ _ _ | rfl
            simp only [Act.put, List.setIfInBounds_toArray, List.set_cons_zero, List.set_cons_succ]
            apply wpG_eq
            · intro W hW hs
              unfold opG
              go_simp
              first | exact resG_eq_mk _ _ _ | rfl
            simp only [Act.put, List.setIfInBounds_toArray, List.set_cons_zero, List.set_cons_succ]
            apply wpG_eq
            · intro W hW hs
              unfold opG
              go_simp
              first | exact resG_eq_mk _ _ _ | rfl
            simp only [Act.put, List.setIfInBounds_toArray, List.set_cons_zero, List.set_cons_succ]
            apply wpG_eq
            · intro W hW hs
              unfold opG
              go_simp
              first | exact resG_eq_mk _ _ _ | rfl
            simp only [Act.put, List.setIfInBounds_toArray, List.set_cons_zero, List.set_cons_succ]
            apply wpG_eq
            · intro W hW hs
              unfold opG
              go_simp
              first | exact resG_eq_mk _ _ _ | rfl
            simp only [Act.put, List.setIfInBounds_toArray, List.set_cons_zero, List.set_cons_succ]
            apply wpG_eq
            · intro W hW hs
              have h1 := DB1.out W hW
              unfold opG
              go_simp
              first | exact resG_eq_mk _ _ _ | rfl
            simp only [Act.put, List.setIfInBounds_toArray, List.set_cons_zero, List.set_cons_succ]
            apply wpG_eq
            · intro W hW hs
              have h1 := ET.out W hW
              unfold opG
              go_simp
              first | exact resG_eq_mk _ _ _ | rfl
            simp only [Act.put, List.setIfInBounds_toArray, List.set_cons_zero, List.set_cons_succ]
            apply wpG_eq
            · intro W hW hs
              unfold opG
              go_simp
              first | exact resG_eq_mk _ _ _ | rfl
            simp only [Act.put, List.setIfInBounds_toArray, List.set_cons_zero, List.set_cons_succ]
            apply wpG_eq
            · intro W hW hs
              unfold opG
              go_simp
              first | exact resG_eq_mk _ _ _ | rfl
            simp only [Act.put, List.setIfInBounds_toArray, List.set_cons_zero, List.set_cons_succ]
            apply wpG_nil
            intro W9 hW9 hsAll
            have G9 := Gr.trans gw.drew hW9
            clear hsAll
            go_wp2
            go_roundw
            case rel => exact ⟨k + 1, by omega, by go_num, HN.out, G9⟩
            case measure => simp [intOf]; omega
          · have hne : la ≠ lb := fun e => hbq (by
              have h1 := HX.out; have h2 := HY.out
              subst e
              rw [h1, h2])
            have hbf : (x.b == y.b) = false := by simpa using hbq
            rw [← he] at DB0
            have HNE := Lib.hid hne
            clear hne hbq HX HY HP he
            go_wp2_with fail
            apply wp_region_draw_grow (.eq _ :: .eq _ :: .eq _ :: .eq _ :: .eq _ :: .eq _ :: .eq _ :: .eq _ :: .eq _ :: .eq _ :: .eq _ :: .eq _ :: .eq _ :: .eq _ :: .eq _ :: .eq _ :: .eq _ :: .eq _ :: .eq _ :: .eq _ :: .eq _ :: .eq _ :: .eq _ :: .eq _ :: .eq _ :: .eq _ :: []) (by kernel_rfl) (by kernel_rfl) trivial
            apply wpG_eq
            · intro W hW hs
              unfold opG
              go_simp
              first | exact resG_eq_mk _ _ _ | rfl
            simp only [Act.put, List.setIfInBounds_toArray, List.set_cons_zero, List.set_cons_succ]
            apply wpG_eq
            · intro W hW hs
              unfold opG
              go_simp
              first | exact resG_eq_mk _ _ _ | rfl
            simp only [Act.put, List.setIfInBounds_toArray, List.set_cons_zero, List.set_cons_succ]
            apply wpG_eq
            · intro W hW hs
              unfold opG
              go_simp
              first | exact resG_eq_mk _ _ _ | rfl
            simp only [Act.put, List.setIfInBounds_toArray, List.set_cons_zero, List.set_cons_succ]
            apply wpG_eq
            · intro W hW hs
              unfold opG
              go_simp
              first | exact resG_eq_mk _ _ _ | rfl
            simp only [Act.put, List.setIfInBounds_toArray, List.set_cons_zero, List.set_cons_succ]
            apply wpG_eq
            · intro W hW hs
              have h1 := DA0.out W hW
              unfold opG
              go_simp
              first | exact resG_eq_mk _ _ _ | rfl
            simp only [Act.put, List.setIfInBounds_toArray, List.set_cons_zero, List.set_cons_succ]
            apply wpG_eq
            · intro W hW hs
              unfold opG
              go_simp
              first | exact resG_eq_mk _ _ _ | rfl
            simp only [Act.put, List.setIfInBounds_toArray, List.set_cons_zero, List.set_cons_succ]
            apply wpG_eq
            · intro W hW hs
              unfold opG
              go_simp
              first | exact resG_eq_mk _ _ _ | rfl
            simp only [Act.put, List.setIfInBounds_toArray, List.set_cons_zero, List.set_cons_succ]
            apply wpG_eq
            · intro W hW hs
              unfold opG
              go_simp
              first | exact resG_eq_mk _ _ _ | rfl
            simp only [Act.put, List.setIfInBounds_toArray, List.set_cons_zero, List.set_cons_succ]
            apply wpG_eq
            · intro W hW hs
              unfold opG
              go_simp
              first | exact resG_eq_mk _ _ _ | rfl
            simp only [Act.put, List.setIfInBounds_toArray, List.set_cons_zero, List.set_cons_succ]
            apply wpG_eq
            · intro W hW hs
              have h1 := DB0.out W hW
              unfold opG
              go_simp
              first | exact resG_eq_mk _ _ _ | rfl
            simp only [Act.put, List.setIfInBounds_toArray, List.set_cons_zero, List.set_cons_succ]
            apply wpG_eq
            · intro W hW hs
              unfold opG
              go_simp
              first | exact resG_eq_mk _ _ _ | rfl
            simp only [Act.put, List.setIfInBounds_toArray, List.set_cons_zero, List.set_cons_succ]
            apply wpG_eq
            · intro W hW hs
              unfold opG
              go_simp
              first | exact resG_eq_mk _ _ _ | rfl
            simp only [Act.put, List.setIfInBounds_toArray, List.set_cons_zero, List.set_cons_succ]
            apply wpG_eq
            · intro W hW hs
              unfold opG
              go_simp
              first | exact resG_eq_mk _ _ _ | rfl
            simp only [Act.put, List.setIfInBounds_toArray, List.set_cons_zero, List.set_cons_succ]
            apply wpG_eq
            · intro W hW hs
              unfold opG
              go_simp
              first | exact resG_eq_mk _ _ _ | rfl
            simp only [Act.put, List.setIfInBounds_toArray, List.set_cons_zero, List.set_cons_succ]
            apply wpG_eq
            · intro W hW hs
              unfold opG
              go_simp
              first | exact resG_eq_mk _ _ _ | rfl
            simp only [Act.put, List.setIfInBounds_toArray, List.set_cons_zero, List.set_cons_succ]
            apply wpG_eq
            · intro W hW hs
              unfold opG
              go_simp
              first | exact resG_eq_mk _ _ _ | rfl
            simp only [Act.put, List.setIfInBounds_toArray, List.set_cons_zero, List.set_cons_succ]
            apply wpG_eq
            · intro W hW hs
              have h1 := DA1.out W hW
              unfold opG
              go_simp
              first | exact resG_eq_mk _ _ _ | rfl
            simp only [Act.put, List.setIfInBounds_toArray, List.set_cons_zero, List.set_cons_succ]
            apply wpG_eq
            · intro W hW hs
              have h1 := ES.out W hW
              unfold opG
              go_simp
              first | exact resG_eq_mk _ _ _ | rfl
            simp only [Act.put, List.setIfInBounds_toArray, List.set_cons_zero, List.set_cons_succ]
            apply wpG_eq
            · intro W hW hs
              unfold opG
              go_simp
              first | exact resG_eq_mk _ _ _ | rfl
            simp only [Act.put, List.setIfInBounds_toArray, List.set_cons_zero, List.set_cons_succ]
            apply wpG_eq
            · intro W hW hs
              unfold opG
              go_simp
              first | exact resG_eq_mk _ _ _ | rfl
            simp only [Act.put, List.setIfInBounds_toArray, List.set_cons_zero, List.set_cons_succ]
            apply wpG_eq
            · intro W hW hs
              unfold opG
              go_simp
              first | exact resG_eq_mk _ _ _ | rfl
            simp only [Act.put, List.setIfInBounds_toArray, List.set_cons_zero, List.set_cons_succ]
            apply wpG_eq
            · intro W hW hs
              unfold opG
              go_simp
              first | exact resG_eq_mk _ _ _ | rfl
            simp only [Act.put, List.setIfInBounds_toArray, List.set_cons_zero, List.set_cons_succ]
            apply wpG_eq
            · intro W hW hs
              have h1 := DB1.out W hW
              unfold opG
              go_simp
              first | exact resG_eq_mk _ _ _ | rfl
            simp only [Act.put, List.setIfInBounds_toArray, List.set_cons_zero, List.set_cons_succ]
            apply wpG_eq
            · intro W hW hs
              have h1 := ET.out W hW
              unfold opG
              go_simp
              first | exact resG_eq_mk _ _ _ | rfl
            simp only [Act.put, List.setIfInBounds_toArray, List.set_cons_zero, List.set_cons_succ]
            apply wpG_eq
            · intro W hW hs
              unfold opG
              go_simp
              first | exact resG_eq_mk _ _ _ | rfl
            simp only [Act.put, List.setIfInBounds_toArray, List.set_cons_zero, List.set_cons_succ]
            apply wpG_eq
            · intro W hW hs
              unfold opG
              go_simp
              first | exact resG_eq_mk _ _ _ | rfl
            simp only [Act.put, List.setIfInBounds_toArray, List.set_cons_zero, List.set_cons_succ]
            apply wpG_nil
            intro W9 hW9 hsAll
            have G9 := Gr.trans gw.drew hW9
            clear hsAll
            go_wp2
            go_ret
            exact says _ (by simp [HNE.out]) G9
        · have hne : la ≠ lb := fun e => he (by
            have h1 := HX.out; have h2 := HY.out
            subst e
            rw [h1, h2])
          have HNE := Lib.hid hne
          have he' : ¬ ((x.e : Int) = (y.e : Int)) := by omega
          clear hne HX HY HP
          go_wp2_with fail
          apply wp_region_draw_grow (.eq _ :: .eq _ :: .eq _ :: .eq _ :: .eq _ :: .eq _ :: .eq _ :: .eq _ :: .eq _ :: .eq _ :: .eq _ :: .eq _ :: .eq _ :: .eq _ :: .eq _ :: .eq _ :: .eq _ :: .eq _ :: .eq _ :: .eq _ :: .eq _ :: .eq _ :: .eq _ :: .eq _ :: .eq _ :: .eq _ :: []) (by kernel_rfl) (by kernel_rfl) trivial
          apply wpG_eq
          · intro W hW hs
            unfold opG
            go_simp
            first | exact resG_eq_mk _ _ _ | rfl
          simp only [Act.put, List.setIfInBounds_toArray, List.set_cons_zero, List.set_cons_succ]
          apply wpG_eq
          · intro W hW hs
            unfold opG
            go_simp
            first | exact resG_eq_mk _ _ _ | rfl
          simp only [Act.put, List.setIfInBounds_toArray, List.set_cons_zero, List.set_cons_succ]
          apply wpG_eq
          · intro W hW hs
            unfold opG
            go_simp
            first | exact resG_eq_mk _ _ _ | rfl
          simp only [Act.put, List.setIfInBounds_toArray, List.set_cons_zero, List.set_cons_succ]
          apply wpG_eq
          · intro W hW hs
            unfold opG
            go_simp
            first | exact resG_eq_mk _ _ _ | rfl
          simp only [Act.put, List.setIfInBounds_toArray, List.set_cons_zero, List.set_cons_succ]
          apply wpG_eq
          · intro W hW hs
            have h1 := DA0.out W hW
            unfold opG
            go_simp
            first | exact resG_eq_mk _ _ _ | rfl
          simp only [Act.put, List.setIfInBounds_toArray, List.set_cons_zero, List.set_cons_succ]
          apply wpG_eq
          · intro W hW hs
            unfold opG
            go_simp
            first | exact resG_eq_mk _ _ _ | rfl
          simp only [Act.put, List.setIfInBounds_toArray, List.set_cons_zero, List.set_cons_succ]
          apply wpG_eq
          · intro W hW hs
            unfold opG
            go_simp
            first | exact resG_eq_mk _ _ _ | rfl
          simp only [Act.put, List.setIfInBounds_toArray, List.set_cons_zero, List.set_cons_succ]
          apply wpG_eq
          · intro W hW hs
            unfold opG
            go_simp
            first | exact resG_eq_mk _ _ _ | rfl
          simp only [Act.put, List.setIfInBounds_toArray, List.set_cons_zero, List.set_cons_succ]
          apply wpG_eq
          · intro W hW hs
            unfold opG
            go_simp
            first | exact resG_eq_mk _ _ _ | rfl
          simp only [Act.put, List.setIfInBounds_toArray, List.set_cons_zero, List.set_cons_succ]
          apply wpG_eq
          · intro W hW hs
            have h1 := DB0.out W hW
            unfold opG
            go_simp
            first | exact resG_eq_mk _ _ _ | rfl
          simp only [Act.put, List.setIfInBounds_toArray, List.set_cons_zero, List.set_cons_succ]
          apply wpG_eq
          · intro W hW hs
            unfold opG
            go_simp
            first | exact resG_eq_mk _ _ _ | rfl
          simp only [Act.put, List.setIfInBounds_toArray, List.set_cons_zero, List.set_cons_succ]
          apply wpG_eq
          · intro W hW hs
            unfold opG
            go_simp
            first | exact resG_eq_mk _ _ _ | rfl
          simp only [Act.put, List.setIfInBounds_toArray, List.set_cons_zero, List.set_cons_succ]
          apply wpG_eq
          · intro W hW hs
            unfold opG
            go_simp
            first | exact resG_eq_mk _ _ _ | rfl
          simp only [Act.put, List.setIfInBounds_toArray, List.set_cons_zero, List.set_cons_succ]
          apply wpG_eq
          · intro W hW hs
            unfold opG
            go_simp
            first | exact resG_eq_mk _ _ _ | rfl
          simp only [Act.put, List.setIfInBounds_toArray, List.set_cons_zero, List.set_cons_succ]
          apply wpG_eq
          · intro W hW hs
            unfold opG
            go_simp
            first | exact resG_eq_mk _ _ _ | rfl
          simp only [Act.put, List.setIfInBounds_toArray, List.set_cons_zero, List.set_cons_succ]
          apply wpG_eq
          · intro W hW hs
            unfold opG
            go_simp
            first | exact resG_eq_mk _ _ _ | rfl
          simp only [Act.put, List.setIfInBounds_toArray, List.set_cons_zero, List.set_cons_succ]
          apply wpG_eq
          · intro W hW hs
            unfold opG
            go_simp
            first | exact resG_eq_mk _ _ _ | rfl
          simp only [Act.put, List.setIfInBounds_toArray, List.set_cons_zero, List.set_cons_succ]
          apply wpG_eq
          · intro W hW hs
            unfold opG
            go_simp
            first | exact resG_eq_mk _ _ _ | rfl
          simp only [Act.put, List.setIfInBounds_toArray, List.set_cons_zero, List.set_cons_succ]
          apply wpG_eq
          · intro W hW hs
            unfold opG
            go_simp
            first | exact resG_eq_mk _ _ _ | rfl
          simp only [Act.put, List.setIfInBounds_toArray, List.set_cons_zero, List.set_cons_succ]
          apply wpG_eq
          · intro W hW hs
            unfold opG
            go_simp
            first | exact resG_eq_mk _ _ _ | rfl
          simp only [Act.put, List.setIfInBounds_toArray, List.set_cons_zero, List.set_cons_succ]
          apply wpG_eq
          · intro W hW hs
            unfold opG
            go_simp
            first | exact resG_eq_mk _ _ _ | rfl
          simp only [Act.put, List.setIfInBounds_toArray, List.set_cons_zero, List.set_cons_succ]
          apply wpG_eq
          · intro W hW hs
            unfold opG
            go_simp
            first | exact resG_eq_mk _ _ _ | rfl
          simp only [Act.put, List.setIfInBounds_toArray, List.set_cons_zero, List.set_cons_succ]
          apply wpG_eq
          · intro W hW hs
            unfold opG
            go_simp
            first | exact resG_eq_mk _ _ _ | rfl
          simp only [Act.put, List.setIfInBounds_toArray, List.set_cons_zero, List.set_cons_succ]
          apply wpG_eq
          · intro W hW hs
            unfold opG
            go_simp
            first | exact resG_eq_mk _ _ _ | rfl
          simp only [Act.put, List.setIfInBounds_toArray, List.set_cons_zero, List.set_cons_succ]
          apply wpG_eq
          · intro W hW hs
            unfold opG
            go_simp
            first | exact resG_eq_mk _ _ _ | rfl
          simp only [Act.put, List.setIfInBounds_toArray, List.set_cons_zero, List.set_cons_succ]
          apply wpG_eq
          · intro W hW hs
            unfold opG
            go_simp
            first | exact resG_eq_mk _ _ _ | rfl
          simp only [Act.put, List.setIfInBounds_toArray, List.set_cons_zero, List.set_cons_succ]
          apply wpG_nil
          intro W9 hW9 hsAll
          have G9 := Gr.trans gw.drew hW9
          clear hsAll
          go_wp2
          go_ret
          exact says _ (by simp [HNE.out]) G9
      · obtain rfl : k = la.length := by omega
        have heq : la = lb := by
          have := HP.out
          rwa [List.take_of_length_le (Nat.le_refl _), HLEN.out, List.take_of_length_le (Nat.le_refl _)] at this
        have HE := Lib.hid heq
        clear heq HP
        go_wp2
        go_ret
        exact says _ (by simp [HE.out]) gw
  · have hne : la ≠ lb := fun e => hlen (by rw [e])
    have HN := Lib.hid hne
    have h' : ¬ ((la.length : Int) = (lb.length : Int)) := by omega
    clear hne
    go_enter Try.func23, Try.ntmps23
    go_wp2
    go_ret
    exact says _ (by simp [HN.out]) (Gr.refl _)
end Go.Proofs.Ytclicammiopjlaa
