/-
  cut: three numbers.
-/
import Derived.Test.YtomhiodabnpfoaaVec
import Derived.Laws.CopyOwn
set_option linter.unusedVariables false
namespace Go.Proofs.Ytomhiodabnpfoaa
open Go.RowKit

def cutV (l : List Nat) : List Nat := l.take 3 ++ List.replicate (3 - l.length) 0
theorem cutV_length (l : List Nat) : (cutV l).length = 3 := by simp [cutV]; omega

theorem cut_any (w : World) (v : Value) (l : List Nat) (hs : Sl w v (nums l)) (hl : l.length ≤ maxLen) :
    Calls Try.prog 16 #[v] w (RetNums w (cutV l)) := by
  obtain ⟨a, cap, rfl, hcap, hc⟩ := hs
  rw [nums_length] at *
  obtain ⟨w1, hr, ho, hb⟩ := run_make_n w 3 (by decide)
  have hr3 : (Instr.makeSlice 22 (.int .i64 3) (.int .i64 3)).run Try.prog w = .ok (.slice (some ⟨w.heap.size, 0, none⟩) 3 3) w1 := hr
  clear hr
  have hinf : (Try.prog.info? 23).map (·.size) = some 1 := by kernel_rfl
  by_cases h0 : l = []
  · subst h0
    have hv : cutV [] = List.replicate 3 0 := rfl
    rw [hv]
    have hcp := run_copy_none (P := Try.prog) w1 22 22 3 23 (some ⟨w.heap.size, 0, none⟩) a 3 3 0 cap Try.underlying22 hinf rfl
    go_enter Try.func16, Try.ntmps16
    go_wp2
    go_ret
    exact ⟨_, rfl, ho, hb⟩
  · obtain ⟨b, off, rfl, hlt, hc⟩ := hc.resolve_left (by simpa [nums] using h0)
    have hpos : 0 < l.length := List.length_pos_iff.2 h0
    have h2 := ho.2
    obtain ⟨g, cp, cur, he, hbg, hh, _, hm, hsz, htk⟩ := h2.resolve_left (by rintro ⟨h, _⟩; cases h)
    injection he with e1 e2 e3
    injection e1 with e1
    injection e1 with e1
    subst e1 e3
    clear e2
    have hcur : cur.toList = nums [0, 0, 0] := by
      rw [List.take_of_length_le (by rw [Array.length_toList, hsz]; simp [nums])] at htk
      exact htk
    have hsrc : ∀ j u, (nums (l.take 3))[j]? = some u → w1.cell? ((⟨b, off, none⟩ : Addr).add j) = some u := by
      intro j u hj
      rw [← nums_take] at hj
      obtain ⟨h1, h2⟩ := List.getElem?_eq_some_iff.1 hj
      simp at h1
      rw [addr_add, hb.cell (p := ⟨b, off + j, none⟩) hlt, hc j (by omega)]
      rw [List.getElem_take] at h2
      rw [h2]
    have hcl : (nums (l.take 3)).length = Nat.min l.length 3 := by rw [nums_length, List.length_take, Nat.min_comm]
    have hcp := run_copy_row (P := Try.prog) w1 22 22 3 23 w.heap.size 0 3 3 ⟨b, off, none⟩ l.length cap cur 23 (nums (l.take 3)) Try.underlying22 hinf hh hcl hsrc (by rw [hcl, hsz, Nat.zero_add]; exact Nat.min_le_right _ _) (one_nums _)
    have hrow : ((cur.toList.take 0 ++ nums (l.take 3) ++ cur.toList.drop (0 + (nums (l.take 3)).length)).toArray : Array Value) = (nums (cutV l)).toArray := by
      rw [hcur, List.take_zero, List.nil_append, Nat.zero_add, hcl]
      unfold cutV
      rw [nums_append]
      congr 2
      rcases Nat.lt_or_ge l.length 3 with h | h
      · have h3 : l.length = 1 ∨ l.length = 2 := by omega
        rcases h3 with h3 | h3 <;> (rw [h3]; rfl)
      · rw [show Nat.min l.length 3 = 3 from Nat.min_eq_right h, show 3 - l.length = 0 by omega]; rfl
    obtain ⟨W2, rv, hcp2, hown2, hb2⟩ : ∃ W2 rv, (Builtin.copy_ #[22, 22] 3 #[.slice (some ⟨w.heap.size, 0, none⟩) 3 3, .slice (some ⟨b, off, none⟩) l.length cap]).run Try.prog w1 = .ok rv W2 ∧ Own W2 w.heap.size 23 (.slice (some ⟨w.heap.size, 0, none⟩) 3 3) (nums (cutV l)) ∧ Below w.heap.size w W2 := by
      refine ⟨_, _, hcp, ?_, below_setRow hb (Nat.le_refl _) _⟩
      rw [hrow]
      unfold Own
      rw [nums_length, cutV_length]
      refine ⟨by rw [nums_length, cutV_length], .inr ⟨w.heap.size, 3, _, rfl, Nat.le_refl _, setRow_heap w1 w.heap.size cur _ 23 (0, 0) hh, Nat.le_refl _, by decide, by simp [nums_length, cutV_length], ?_⟩⟩
      simp only [Nat.mul_one]
      exact List.take_of_length_le (by rw [nums_length, cutV_length]; exact Nat.le_refl _)
    clear hcp hrow hh hsrc hcl hsz hcur htk h2 hc ho hm hbg
    go_enter Try.func16, Try.ntmps16
    go_wp2
    go_ret
    exact ⟨_, rfl, hown2, hb2⟩
end Go.Proofs.Ytomhiodabnpfoaa
