/-
  The document's Same where it holds, and the laws' helpers.
-/
import Derived.Test.YtcpkbngoecpnkaaNetL
import Derived.Test.YtcpkbngoecpnkaaStrBytes
set_option linter.unusedVariables false
namespace Go.Proofs.Ytcpkbngoecpnkaa
open Go.RowKit

set_option maxHeartbeats 4000000 in
set_option maxRecDepth 100000 in
/-- The document's Same, of the same letters. -/
theorem same_true (w : World) (va vb : Value) (ls : List LetD) (h1 : Lets w va ls) (h2 : Lets w vb ls) (hl : ls.length ≤ 100000) : Calls Try.prog 13 #[va, vb] w fun e w' => e = .returned (.bool true) ∧ Gr w w' := by
  obtain ⟨aa, ca, rfl⟩ := h1.shape
  obtain ⟨ab, cb, rfl⟩ := h2.shape
  have H1 := Lib.hid h1
  have H2 := Lib.hid h2
  obtain ⟨n, hn⟩ : ∃ n, n = ls.length := ⟨_, rfl⟩
  rw [← hn] at hl H1 H2 ⊢
  have HN := Lib.hid hn
  clear h1 h2 hn
  go_enter Try.func13, Try.ntmps13
  go_wp2_with fail
  go_loopw [5] (fun i W => ∃ k : Nat, k ≤ n ∧ i = .int .i64 k ∧ Gr w W) (fun i _ => n - (intOf i).toNat)
  case atStart => exact ⟨0, Nat.zero_le _, rfl, Gr.refl _⟩
  case round =>
    obtain ⟨k, hk, rfl, hg⟩ := hrel
    have HG := Lib.hid hg
    clear hg
    by_cases hlt : k < n
    · have hkl : k < ls.length := by rw [← HN.out]; exact hlt
      obtain ⟨B1, o1, bv1, rfl, _, p0, p1, p2, p3, p4, hs1⟩ := (H1.out.gr HG.out).at k hkl
      obtain ⟨B2, o2, bv2, rfl, _, q0, q1, q2, q3, q4, hs2⟩ := (H2.out.gr HG.out).at k hkl
      obtain ⟨x, hx⟩ : ∃ x, x = ls[k]'hkl := ⟨_, rfl⟩
      rw [← hx] at p0 p1 p2 p3 hs1 q0 q1 q2 q3 hs2
      clear hx
      obtain ⟨⟨a1, a2⟩, ⟨b1, b2⟩, b⟩ := x
      simp only at p0 p1 p2 p3 hs1 q0 q1 q2 q3 hs2
      obtain ⟨av1, cv1, rfl, _⟩ := hs1.bytes
      obtain ⟨av2, cv2, rfl, _⟩ := hs2.bytes
      have FP := Lib.hid (And.intro p0 (And.intro p1 (And.intro p2 (And.intro p3 p4))))
      have FQ := Lib.hid (And.intro q0 (And.intro q1 (And.intro q2 (And.intro q3 q4))))
      have FS := Lib.hid (And.intro hs1 hs2)
      have hk0 : (0 : Int) ≤ (k : Int) := by omega
      have hk1 : (k : Int) < (n : Int) := by omega
      clear p0 p1 p2 p3 p4 q0 q1 q2 q3 q4 hs1 hs2
      go_upto_region 6 with fail
      apply wp_region_draw_grow (.eq _ :: .eq _ :: .eq _ :: .eq _ :: .eq _ :: .eq _ :: .eq _ :: .eq _ :: .eq _ :: .eq _ :: .eq _ :: .eq _ :: .eq _ :: .eq _ :: .eq _ :: .eq _ :: .eq _ :: .eq _ :: .eq _ :: .eq _ :: .eq _ :: .eq _ :: .eq _ :: .eq _ :: .eq _ :: .eq _ :: .eq _ :: .eq _ :: .eq _ :: .eq _ :: .eq _ :: .eq _ :: .eq _ :: .eq _ :: .eq _ :: .eq _ :: .eq _ :: .eq _ :: .eq _ :: []) (by kernel_rfl) (by kernel_rfl) trivial
      apply wpG_eq
      · intro W hW hs
        unfold opG
        go_simp
        first | exact resG_eq_mk _ _ _ | rfl
      simp only [Act.put, List.setIfInBounds_toArray, List.set_cons_zero, List.set_cons_succ]
      apply wpG_eq
      · intro W hW hs
        unfold opG
        go_simp
        first | exact resG_eq_mk _ _ _ | rfl
      simp only [Act.put, List.setIfInBounds_toArray, List.set_cons_zero, List.set_cons_succ]
      apply wpG_eq
      · intro W hW hs
        unfold opG
        go_simp
        first | exact resG_eq_mk _ _ _ | rfl
      simp only [Act.put, List.setIfInBounds_toArray, List.set_cons_zero, List.set_cons_succ]
      apply wpG_eq
      · intro W hW hs
        unfold opG
        go_simp
        first | exact resG_eq_mk _ _ _ | rfl
      simp only [Act.put, List.setIfInBounds_toArray, List.set_cons_zero, List.set_cons_succ]
      apply wpG_eq
      · intro W hW hs
        obtain ⟨p0, p1, p2, p3, p4⟩ := FP.out
        have p0' := hW.drew0 p0
        have p1' := hW.drew0 p1
        have p2' := hW.drew0 p2
        have p3' := hW.drew0 p3
        have p4' := hW.drew0 p4
        clear p0 p1 p2 p3 p4
        unfold opG
        go_simp
        first | exact resG_eq_mk _ _ _ | rfl
      simp only [Act.put, List.setIfInBounds_toArray, List.set_cons_zero, List.set_cons_succ]
      apply wpG_eq
      · intro W hW hs
        unfold opG
        go_simp
        first | exact resG_eq_mk _ _ _ | rfl
      simp only [Act.put, List.setIfInBounds_toArray, List.set_cons_zero, List.set_cons_succ]
      apply wpG_eq
      · intro W hW hs
        unfold opG
        go_simp
        first | exact resG_eq_mk _ _ _ | rfl
      simp only [Act.put, List.setIfInBounds_toArray, List.set_cons_zero, List.set_cons_succ]
      apply wpG_eq
      · intro W hW hs
        unfold opG
        go_simp
        first | exact resG_eq_mk _ _ _ | rfl
      simp only [Act.put, List.setIfInBounds_toArray, List.set_cons_zero, List.set_cons_succ]
      apply wpG_eq
      · intro W hW hs
        unfold opG
        go_simp
        first | exact resG_eq_mk _ _ _ | rfl
      simp only [Act.put, List.setIfInBounds_toArray, List.set_cons_zero, List.set_cons_succ]
      apply wpG_eq
      · intro W hW hs
        obtain ⟨q0, q1, q2, q3, q4⟩ := FQ.out
        have q0' := hW.drew0 q0
        have q1' := hW.drew0 q1
        have q2' := hW.drew0 q2
        have q3' := hW.drew0 q3
        have q4' := hW.drew0 q4
        clear q0 q1 q2 q3 q4
        unfold opG
        go_simp
        first | exact resG_eq_mk _ _ _ | rfl
      simp only [Act.put, List.setIfInBounds_toArray, List.set_cons_zero, List.set_cons_succ]
      apply wpG_eq
      · intro W hW hs
        unfold opG
        go_simp
        first | exact resG_eq_mk _ _ _ | rfl
      simp only [Act.put, List.setIfInBounds_toArray, List.set_cons_zero, List.set_cons_succ]
      apply wpG_eq
      · intro W hW hs
        unfold opG
        go_simp
        first | exact resG_eq_mk _ _ _ | rfl
      simp only [Act.put, List.setIfInBounds_toArray, List.set_cons_zero, List.set_cons_succ]
      apply wpG_eq
      · intro W hW hs
        unfold opG
        go_simp
        first | exact resG_eq_mk _ _ _ | rfl
      simp only [Act.put, List.setIfInBounds_toArray, List.set_cons_zero, List.set_cons_succ]
      apply wpG_eq
      · intro W hW hs
        unfold opG
        go_simp
        first | exact resG_eq_mk _ _ _ | rfl
      simp only [Act.put, List.setIfInBounds_toArray, List.set_cons_zero, List.set_cons_succ]
      apply wpG_eq
      · intro W hW hs
        unfold opG
        go_simp
        first | exact resG_eq_mk _ _ _ | rfl
      simp only [Act.put, List.setIfInBounds_toArray, List.set_cons_zero, List.set_cons_succ]
      apply wpG_eq
      · intro W hW hs
        unfold opG
        go_simp
        first | exact resG_eq_mk _ _ _ | rfl
      simp only [Act.put, List.setIfInBounds_toArray, List.set_cons_zero, List.set_cons_succ]
      apply wpG_eq
      · intro W hW hs
        obtain ⟨p0, p1, p2, p3, p4⟩ := FP.out
        have p0' := hW.drew0 p0
        have p1' := hW.drew0 p1
        have p2' := hW.drew0 p2
        have p3' := hW.drew0 p3
        have p4' := hW.drew0 p4
        clear p0 p1 p2 p3 p4
        unfold opG
        go_simp
        first | exact resG_eq_mk _ _ _ | rfl
      simp only [Act.put, List.setIfInBounds_toArray, List.set_cons_zero, List.set_cons_succ]
      apply wpG_eq
      · intro W hW hs
        unfold opG
        go_simp
        first | exact resG_eq_mk _ _ _ | rfl
      simp only [Act.put, List.setIfInBounds_toArray, List.set_cons_zero, List.set_cons_succ]
      apply wpG_eq
      · intro W hW hs
        unfold opG
        go_simp
        first | exact resG_eq_mk _ _ _ | rfl
      simp only [Act.put, List.setIfInBounds_toArray, List.set_cons_zero, List.set_cons_succ]
      apply wpG_eq
      · intro W hW hs
        unfold opG
        go_simp
        first | exact resG_eq_mk _ _ _ | rfl
      simp only [Act.put, List.setIfInBounds_toArray, List.set_cons_zero, List.set_cons_succ]
      apply wpG_eq
      · intro W hW hs
        unfold opG
        go_simp
        first | exact resG_eq_mk _ _ _ | rfl
      simp only [Act.put, List.setIfInBounds_toArray, List.set_cons_zero, List.set_cons_succ]
      apply wpG_eq
      · intro W hW hs
        obtain ⟨q0, q1, q2, q3, q4⟩ := FQ.out
        have q0' := hW.drew0 q0
        have q1' := hW.drew0 q1
        have q2' := hW.drew0 q2
        have q3' := hW.drew0 q3
        have q4' := hW.drew0 q4
        clear q0 q1 q2 q3 q4
        unfold opG
        go_simp
        first | exact resG_eq_mk _ _ _ | rfl
      simp only [Act.put, List.setIfInBounds_toArray, List.set_cons_zero, List.set_cons_succ]
      apply wpG_eq
      · intro W hW hs
        unfold opG
        go_simp
        first | exact resG_eq_mk _ _ _ | rfl
      simp only [Act.put, List.setIfInBounds_toArray, List.set_cons_zero, List.set_cons_succ]
      apply wpG_eq
      · intro W hW hs
        unfold opG
        go_simp
        first | exact resG_eq_mk _ _ _ | rfl
      simp only [Act.put, List.setIfInBounds_toArray, List.set_cons_zero, List.set_cons_succ]
      apply wpG_eq
      · intro W hW hs
        unfold opG
        go_simp
        first | exact resG_eq_mk _ _ _ | rfl
      simp only [Act.put, List.setIfInBounds_toArray, List.set_cons_zero, List.set_cons_succ]
      apply wpG_eq
      · intro W hW hs
        unfold opG
        go_simp
        first | exact resG_eq_mk _ _ _ | rfl
      simp only [Act.put, List.setIfInBounds_toArray, List.set_cons_zero, List.set_cons_succ]
      apply wpG_eq
      · intro W hW hs
        unfold opG
        go_simp
        first | exact resG_eq_mk _ _ _ | rfl
      simp only [Act.put, List.setIfInBounds_toArray, List.set_cons_zero, List.set_cons_succ]
      apply wpG_eq
      · intro W hW hs
        unfold opG
        go_simp
        first | exact resG_eq_mk _ _ _ | rfl
      simp only [Act.put, List.setIfInBounds_toArray, List.set_cons_zero, List.set_cons_succ]
      apply wpG_eq
      · intro W hW hs
        unfold opG
        go_simp
        first | exact resG_eq_mk _ _ _ | rfl
      simp only [Act.put, List.setIfInBounds_toArray, List.set_cons_zero, List.set_cons_succ]
      apply wpG_eq
      · intro W hW hs
        obtain ⟨p0, p1, p2, p3, p4⟩ := FP.out
        have p0' := hW.drew0 p0
        have p1' := hW.drew0 p1
        have p2' := hW.drew0 p2
        have p3' := hW.drew0 p3
        have p4' := hW.drew0 p4
        clear p0 p1 p2 p3 p4
        unfold opG
        go_simp
        first | exact resG_eq_mk _ _ _ | rfl
      simp only [Act.put, List.setIfInBounds_toArray, List.set_cons_zero, List.set_cons_succ]
      apply wpG_eq
      · intro W hW hs
        have s1 := run_string_sl (P := Try.prog) 23 5 9 Try.underlying23 Try.underlying5 Try.underlying9 (FS.out.1.below (Gr.trans ((Gr.refl wr).drew) hW))
        unfold opG
        go_simp
        first | exact resG_eq_mk _ _ _ | rfl
      simp only [Act.put, List.setIfInBounds_toArray, List.set_cons_zero, List.set_cons_succ]
      apply wpG_eq
      · intro W hW hs
        unfold opG
        go_simp
        first | exact resG_eq_mk _ _ _ | rfl
      simp only [Act.put, List.setIfInBounds_toArray, List.set_cons_zero, List.set_cons_succ]
      apply wpG_eq
      · intro W hW hs
        unfold opG
        go_simp
        first | exact resG_eq_mk _ _ _ | rfl
      simp only [Act.put, List.setIfInBounds_toArray, List.set_cons_zero, List.set_cons_succ]
      apply wpG_eq
      · intro W hW hs
        unfold opG
        go_simp
        first | exact resG_eq_mk _ _ _ | rfl
      simp only [Act.put, List.setIfInBounds_toArray, List.set_cons_zero, List.set_cons_succ]
      apply wpG_eq
      · intro W hW hs
        unfold opG
        go_simp
        first | exact resG_eq_mk _ _ _ | rfl
      simp only [Act.put, List.setIfInBounds_toArray, List.set_cons_zero, List.set_cons_succ]
      apply wpG_eq
      · intro W hW hs
        obtain ⟨q0, q1, q2, q3, q4⟩ := FQ.out
        have q0' := hW.drew0 q0
        have q1' := hW.drew0 q1
        have q2' := hW.drew0 q2
        have q3' := hW.drew0 q3
        have q4' := hW.drew0 q4
        clear q0 q1 q2 q3 q4
        unfold opG
        go_simp
        first | exact resG_eq_mk _ _ _ | rfl
      simp only [Act.put, List.setIfInBounds_toArray, List.set_cons_zero, List.set_cons_succ]
      apply wpG_eq
      · intro W hW hs
        have s1 := run_string_sl (P := Try.prog) 23 5 9 Try.underlying23 Try.underlying5 Try.underlying9 (FS.out.2.below (Gr.trans ((Gr.refl wr).drew) hW))
        unfold opG
        go_simp
        first | exact resG_eq_mk _ _ _ | rfl
      simp only [Act.put, List.setIfInBounds_toArray, List.set_cons_zero, List.set_cons_succ]
      apply wpG_eq
      · intro W hW hs
        unfold opG
        go_simp
        first | exact resG_eq_mk _ _ _ | rfl
      simp only [Act.put, List.setIfInBounds_toArray, List.set_cons_zero, List.set_cons_succ]
      apply wpG_eq
      · intro W hW hs
        unfold opG
        go_simp
        first | exact resG_eq_mk _ _ _ | rfl
      simp only [Act.put, List.setIfInBounds_toArray, List.set_cons_zero, List.set_cons_succ]
      apply wpG_nil
      intro W9 hW9 hsAll
      have G9 := Lib.hid (Gr.trans HG.out (Gr.trans ((Gr.refl wr).drew) hW9))
      clear hsAll hW9
      go_wp2_with fail
      go_roundw
      case rel =>
        first
          | exact ⟨k + 1, by omega, by go_num, G9.out⟩
          | ((repeat apply Exists.intro); apply And.intro; rotate_left; rfl; exact ⟨k + 1, by omega, by go_num, G9.out⟩)
      case measure => (first | (simp [intOf]; omega) | (show _ < _; simp [intOf]; omega))
    · obtain rfl : k = n := by omega
      go_wp2_with fail
      go_ret
      exact ⟨rfl, HG.out⟩

/-- More than a statement looks at. -/
def greatV (xs : List ActD) : Bool := decide (60 < xs.length) || xs.any fun x => decide (200 < x.l.b.length)
set_option maxHeartbeats 1000000 in
theorem great_any (w : World) (v : Value) (xs : List ActD) (h : Acts w v xs) (hm : xs.length ≤ maxLen) : Calls Try.prog 8 #[v] w fun e w' => e = .returned (.bool (greatV xs)) ∧ w' = w := by
  unfold maxLen at hm
  obtain ⟨a, cap, rfl⟩ := h.shape
  have H := Lib.hid h
  obtain ⟨n, hn⟩ : ∃ n, n = xs.length := ⟨_, rfl⟩
  obtain ⟨r, hr⟩ : ∃ r, r = greatV xs := ⟨_, rfl⟩
  unfold greatV at hr
  rw [← hn] at hm H hr
  have hgv : greatV xs = r := by rw [hr, hn]; rfl
  rw [← hn, hgv]
  have HN := Lib.hid hn
  have HR := Lib.hid hr
  clear h hn hr hgv
  by_cases h60 : 60 < n
  · have hre : r = true := by rw [HR.out]; simp [h60]
    subst hre
    clear HR
    go_enter Try.func8, Try.ntmps8
    go_wp2_with fail
    go_ret
    exact ⟨rfl, rfl⟩
  · have hra : r = xs.any fun x => decide (200 < x.l.b.length) := by rw [HR.out]; simp [h60]
    have HRA := Lib.hid hra
    clear hra HR
    go_enter Try.func8, Try.ntmps8
    go_wp2_with fail
    go_loopw [3] (fun i W => ∃ k : Nat, k ≤ n ∧ i = .int .i64 k ∧ ((xs.take k).any fun x => decide (200 < x.l.b.length)) = false ∧ W = w) (fun i _ => n - (intOf i).toNat)
    case atStart => exact ⟨0, Nat.zero_le _, rfl, by simp, rfl⟩
    case round =>
      obtain ⟨k, hk, rfl, hno, hw⟩ := hrel
      subst hw
      by_cases hlt : k < n
      · have hkl : k < xs.length := by rw [← HN.out]; exact hlt
        obtain ⟨B1, o1, bv1, rfl, _, _, p0, p1, p2, p3, p4, p5, p6, hs1, _⟩ := H.out.at k hkl
        obtain ⟨x, hx⟩ : ∃ x, x = xs[k]'hkl := ⟨_, rfl⟩
        rw [← hx] at hs1
        obtain ⟨av1, cv1, rfl, _⟩ := hs1.bytes
        have htk : ((xs.take (k + 1)).any fun x => decide (200 < x.l.b.length)) = decide (200 < x.l.b.length) := by
          rw [List.take_add_one, List.getElem?_eq_getElem hkl, ← hx, List.any_append, hno]; simp
        have hall : 200 < x.l.b.length → (xs.any fun x => decide (200 < x.l.b.length)) = true := fun h => List.any_eq_true.2 ⟨x, by rw [hx]; exact List.getElem_mem hkl, by simpa using h⟩
        have HTK := Lib.hid (And.intro htk hall)
        obtain ⟨m, hm9⟩ : ∃ m, m = x.l.b.length := ⟨_, rfl⟩
        rw [← hm9] at p6 HTK
        have hk0 : (0 : Int) ≤ (k : Int) := by omega
        have hk1 : (k : Int) < (n : Int) := by omega
        clear p0 p1 p2 p3 p4 p5 hs1 hx htk hall hno hm9
        by_cases hbig : 200 < m
        · have hre : r = true := by rw [HRA.out]; exact HTK.out.2 hbig
          subst hre
          go_wp2_with fail
          go_ret
          exact ⟨rfl, rfl⟩
        · have hnx := HTK.out.1.trans (decide_eq_false hbig)
          have HNX := Lib.hid hnx
          clear hnx
          go_wp2_with fail
          go_roundw
          case rel =>
            first
              | exact ⟨k + 1, by omega, by go_num, HNX.out, (by first | trivial | rfl)⟩
              | ((repeat apply Exists.intro); apply And.intro; rotate_left; rfl; exact ⟨k + 1, by omega, by go_num, HNX.out, (by first | trivial | rfl)⟩)
          case measure => (first | (simp [intOf]; omega) | (show _ < _; simp [intOf]; omega))
      · obtain rfl : k = n := by omega
        have hre : r = false := by rw [HRA.out, ← hno, HN.out, List.take_length]
        subst hre
        clear hno
        go_wp2_with fail
        go_ret
        exact ⟨rfl, rfl⟩
end Go.Proofs.Ytcpkbngoecpnkaa
