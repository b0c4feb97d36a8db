/-
  Package tokens: the closures that are done at a region.
-/
import Derived.Test.YthckedmfjmbopaaTab
import Derived.Test.YthckedmfjmbopaaGrowTail
set_option linter.unusedVariables false
namespace Go.Proofs.Ythckedmfjmbopaa
open Go.RowKit
theorem in1_no (w : World) (g o be bf bv ep e : Nat) (held : Bool) (c0 : w.cell? ⟨g, o, none⟩ = some (.int .u64 (ep : Int))) (c2 : w.cell? ⟨g, o + 2, none⟩ = some (.bool held)) (ce : w.cell? ⟨be, 0, none⟩ = some (.int .u64 (e : Int))) (hno : held = true ∨ e ≤ ep) :
    Calls Try.prog 26 #[.pointer (some ⟨g, o, none⟩), .pointer (some ⟨be, 0, none⟩), .pointer (some ⟨bf, 0, none⟩), .pointer (some ⟨bv, 0, none⟩)] w fun en w' => en = .returned (.int .i64 61) ∧ Gr w w' := by
  have hg := cell_block_lt c0
  have he := cell_block_lt ce
  cases held with
  | true =>
    go_enter Try.func26, Try.ntmps26
    go_wp2
    apply wp_region_draw_grow (.eq _ :: .eq _ :: .eq _ :: .eq _ :: .eq _ :: .eq _ :: .eq _ :: .eq _ :: .eq _ :: .eq _ :: .eq _ :: .eq _ :: .eq _ :: []) (by kernel_rfl) (by kernel_rfl) trivial
    apply wpG_eq
    · intro W hW hs
      have dc0 := (hW.cell (p := ⟨g, o, none⟩) hg).trans c0
      have dc2 := (hW.cell (p := ⟨g, o + 2, none⟩) hg).trans c2
      have dce := (hW.cell (p := ⟨be, 0, none⟩) he).trans ce
      unfold opG
      go_simp
      first | exact resG_eq_mk _ _ _ | rfl
    simp only [Act.put, List.setIfInBounds_toArray, List.set_cons_zero, List.set_cons_succ]
    apply wpG_eq
    · intro W hW hs
      have dc0 := (hW.cell (p := ⟨g, o, none⟩) hg).trans c0
      have dc2 := (hW.cell (p := ⟨g, o + 2, none⟩) hg).trans c2
      have dce := (hW.cell (p := ⟨be, 0, none⟩) he).trans ce
      unfold opG
      go_simp
      first | exact resG_eq_mk _ _ _ | rfl
    simp only [Act.put, List.setIfInBounds_toArray, List.set_cons_zero, List.set_cons_succ]
    apply wpG_eq
    · intro W hW hs
      have dc0 := (hW.cell (p := ⟨g, o, none⟩) hg).trans c0
      have dc2 := (hW.cell (p := ⟨g, o + 2, none⟩) hg).trans c2
      have dce := (hW.cell (p := ⟨be, 0, none⟩) he).trans ce
      unfold opG
      go_simp
      first | exact resG_eq_mk _ _ _ | rfl
    simp only [Act.put, List.setIfInBounds_toArray, List.set_cons_zero, List.set_cons_succ]
    apply wpG_eq
    · intro W hW hs
      have dc0 := (hW.cell (p := ⟨g, o, none⟩) hg).trans c0
      have dc2 := (hW.cell (p := ⟨g, o + 2, none⟩) hg).trans c2
      have dce := (hW.cell (p := ⟨be, 0, none⟩) he).trans ce
      unfold opG
      go_simp
      first | exact resG_eq_mk _ _ _ | rfl
    simp only [Act.put, List.setIfInBounds_toArray, List.set_cons_zero, List.set_cons_succ]
    apply wpG_eq
    · intro W hW hs
      have dc0 := (hW.cell (p := ⟨g, o, none⟩) hg).trans c0
      have dc2 := (hW.cell (p := ⟨g, o + 2, none⟩) hg).trans c2
      have dce := (hW.cell (p := ⟨be, 0, none⟩) he).trans ce
      unfold opG
      go_simp
      first | exact resG_eq_mk _ _ _ | rfl
    simp only [Act.put, List.setIfInBounds_toArray, List.set_cons_zero, List.set_cons_succ]
    apply wpG_eq
    · intro W hW hs
      have dc0 := (hW.cell (p := ⟨g, o, none⟩) hg).trans c0
      have dc2 := (hW.cell (p := ⟨g, o + 2, none⟩) hg).trans c2
      have dce := (hW.cell (p := ⟨be, 0, none⟩) he).trans ce
      unfold opG
      go_simp
      first | exact resG_eq_mk _ _ _ | rfl
    simp only [Act.put, List.setIfInBounds_toArray, List.set_cons_zero, List.set_cons_succ]
    apply wpG_eq
    · intro W hW hs
      have dc0 := (hW.cell (p := ⟨g, o, none⟩) hg).trans c0
      have dc2 := (hW.cell (p := ⟨g, o + 2, none⟩) hg).trans c2
      have dce := (hW.cell (p := ⟨be, 0, none⟩) he).trans ce
      unfold opG
      go_simp
      first | exact resG_eq_mk _ _ _ | rfl
    simp only [Act.put, List.setIfInBounds_toArray, List.set_cons_zero, List.set_cons_succ]
    apply wpG_eq
    · intro W hW hs
      have dc0 := (hW.cell (p := ⟨g, o, none⟩) hg).trans c0
      have dc2 := (hW.cell (p := ⟨g, o + 2, none⟩) hg).trans c2
      have dce := (hW.cell (p := ⟨be, 0, none⟩) he).trans ce
      unfold opG
      go_simp
      first | exact resG_eq_mk _ _ _ | rfl
    simp only [Act.put, List.setIfInBounds_toArray, List.set_cons_zero, List.set_cons_succ]
    apply wpG_eq
    · intro W hW hs
      have dc0 := (hW.cell (p := ⟨g, o, none⟩) hg).trans c0
      have dc2 := (hW.cell (p := ⟨g, o + 2, none⟩) hg).trans c2
      have dce := (hW.cell (p := ⟨be, 0, none⟩) he).trans ce
      unfold opG
      go_simp
      first | exact resG_eq_mk _ _ _ | rfl
    simp only [Act.put, List.setIfInBounds_toArray, List.set_cons_zero, List.set_cons_succ]
    apply wpG_eq
    · intro W hW hs
      have dc0 := (hW.cell (p := ⟨g, o, none⟩) hg).trans c0
      have dc2 := (hW.cell (p := ⟨g, o + 2, none⟩) hg).trans c2
      have dce := (hW.cell (p := ⟨be, 0, none⟩) he).trans ce
      unfold opG
      go_simp
      first | exact resG_eq_mk _ _ _ | rfl
    simp only [Act.put, List.setIfInBounds_toArray, List.set_cons_zero, List.set_cons_succ]
    apply wpG_eq
    · intro W hW hs
      have dc0 := (hW.cell (p := ⟨g, o, none⟩) hg).trans c0
      have dc2 := (hW.cell (p := ⟨g, o + 2, none⟩) hg).trans c2
      have dce := (hW.cell (p := ⟨be, 0, none⟩) he).trans ce
      unfold opG
      go_simp
      first | exact resG_eq_mk _ _ _ | rfl
    simp only [Act.put, List.setIfInBounds_toArray, List.set_cons_zero, List.set_cons_succ]
    apply wpG_eq
    · intro W hW hs
      have dc0 := (hW.cell (p := ⟨g, o, none⟩) hg).trans c0
      have dc2 := (hW.cell (p := ⟨g, o + 2, none⟩) hg).trans c2
      have dce := (hW.cell (p := ⟨be, 0, none⟩) he).trans ce
      unfold opG
      go_simp
      first | exact resG_eq_mk _ _ _ | rfl
    simp only [Act.put, List.setIfInBounds_toArray, List.set_cons_zero, List.set_cons_succ]
    apply wpG_eq
    · intro W hW hs
      have dc0 := (hW.cell (p := ⟨g, o, none⟩) hg).trans c0
      have dc2 := (hW.cell (p := ⟨g, o + 2, none⟩) hg).trans c2
      have dce := (hW.cell (p := ⟨be, 0, none⟩) he).trans ce
      unfold opG
      go_simp
      first | exact resG_eq_mk _ _ _ | rfl
    simp only [Act.put, List.setIfInBounds_toArray, List.set_cons_zero, List.set_cons_succ]
    apply wpG_nil
    intro W9 hW9 hsAll
    go_wp2
    go_ret
    exact ⟨rfl, (Gr.refl w).drew.trans hW9⟩
  | false =>
    have hle : (e : Int) ≤ (ep : Int) := by rcases hno with h | h <;> simp_all
    clear hno
    go_enter Try.func26, Try.ntmps26
    go_wp2
    apply wp_region_draw_grow (.eq _ :: .eq _ :: .eq _ :: .eq _ :: .eq _ :: .eq _ :: .eq _ :: .eq _ :: .eq _ :: .eq _ :: .eq _ :: .eq _ :: .eq _ :: []) (by kernel_rfl) (by kernel_rfl) trivial
    apply wpG_eq
    · intro W hW hs
      have dc0 := (hW.cell (p := ⟨g, o, none⟩) hg).trans c0
      have dc2 := (hW.cell (p := ⟨g, o + 2, none⟩) hg).trans c2
      have dce := (hW.cell (p := ⟨be, 0, none⟩) he).trans ce
      unfold opG
      go_simp
      first | exact resG_eq_mk _ _ _ | rfl
    simp only [Act.put, List.setIfInBounds_toArray, List.set_cons_zero, List.set_cons_succ]
    apply wpG_eq
    · intro W hW hs
      have dc0 := (hW.cell (p := ⟨g, o, none⟩) hg).trans c0
      have dc2 := (hW.cell (p := ⟨g, o + 2, none⟩) hg).trans c2
      have dce := (hW.cell (p := ⟨be, 0, none⟩) he).trans ce
      unfold opG
      go_simp
      first | exact resG_eq_mk _ _ _ | rfl
    simp only [Act.put, List.setIfInBounds_toArray, List.set_cons_zero, List.set_cons_succ]
    apply wpG_eq
    · intro W hW hs
      have dc0 := (hW.cell (p := ⟨g, o, none⟩) hg).trans c0
      have dc2 := (hW.cell (p := ⟨g, o + 2, none⟩) hg).trans c2
      have dce := (hW.cell (p := ⟨be, 0, none⟩) he).trans ce
      unfold opG
      go_simp
      first | exact resG_eq_mk _ _ _ | rfl
    simp only [Act.put, List.setIfInBounds_toArray, List.set_cons_zero, List.set_cons_succ]
    apply wpG_eq
    · intro W hW hs
      have dc0 := (hW.cell (p := ⟨g, o, none⟩) hg).trans c0
      have dc2 := (hW.cell (p := ⟨g, o + 2, none⟩) hg).trans c2
      have dce := (hW.cell (p := ⟨be, 0, none⟩) he).trans ce
      unfold opG
      go_simp
      first | exact resG_eq_mk _ _ _ | rfl
    simp only [Act.put, List.setIfInBounds_toArray, List.set_cons_zero, List.set_cons_succ]
    apply wpG_eq
    · intro W hW hs
      have dc0 := (hW.cell (p := ⟨g, o, none⟩) hg).trans c0
      have dc2 := (hW.cell (p := ⟨g, o + 2, none⟩) hg).trans c2
      have dce := (hW.cell (p := ⟨be, 0, none⟩) he).trans ce
      unfold opG
      go_simp
      first | exact resG_eq_mk _ _ _ | rfl
    simp only [Act.put, List.setIfInBounds_toArray, List.set_cons_zero, List.set_cons_succ]
    apply wpG_eq
    · intro W hW hs
      have dc0 := (hW.cell (p := ⟨g, o, none⟩) hg).trans c0
      have dc2 := (hW.cell (p := ⟨g, o + 2, none⟩) hg).trans c2
      have dce := (hW.cell (p := ⟨be, 0, none⟩) he).trans ce
      unfold opG
      go_simp
      first | exact resG_eq_mk _ _ _ | rfl
    simp only [Act.put, List.setIfInBounds_toArray, List.set_cons_zero, List.set_cons_succ]
    apply wpG_eq
    · intro W hW hs
      have dc0 := (hW.cell (p := ⟨g, o, none⟩) hg).trans c0
      have dc2 := (hW.cell (p := ⟨g, o + 2, none⟩) hg).trans c2
      have dce := (hW.cell (p := ⟨be, 0, none⟩) he).trans ce
      unfold opG
      go_simp
      first | exact resG_eq_mk _ _ _ | rfl
    simp only [Act.put, List.setIfInBounds_toArray, List.set_cons_zero, List.set_cons_succ]
    apply wpG_eq
    · intro W hW hs
      have dc0 := (hW.cell (p := ⟨g, o, none⟩) hg).trans c0
      have dc2 := (hW.cell (p := ⟨g, o + 2, none⟩) hg).trans c2
      have dce := (hW.cell (p := ⟨be, 0, none⟩) he).trans ce
      unfold opG
      go_simp
      first | exact resG_eq_mk _ _ _ | rfl
    simp only [Act.put, List.setIfInBounds_toArray, List.set_cons_zero, List.set_cons_succ]
    apply wpG_eq
    · intro W hW hs
      have dc0 := (hW.cell (p := ⟨g, o, none⟩) hg).trans c0
      have dc2 := (hW.cell (p := ⟨g, o + 2, none⟩) hg).trans c2
      have dce := (hW.cell (p := ⟨be, 0, none⟩) he).trans ce
      unfold opG
      go_simp
      first | exact resG_eq_mk _ _ _ | rfl
    simp only [Act.put, List.setIfInBounds_toArray, List.set_cons_zero, List.set_cons_succ]
    apply wpG_eq
    · intro W hW hs
      have dc0 := (hW.cell (p := ⟨g, o, none⟩) hg).trans c0
      have dc2 := (hW.cell (p := ⟨g, o + 2, none⟩) hg).trans c2
      have dce := (hW.cell (p := ⟨be, 0, none⟩) he).trans ce
      unfold opG
      go_simp
      first | exact resG_eq_mk _ _ _ | rfl
    simp only [Act.put, List.setIfInBounds_toArray, List.set_cons_zero, List.set_cons_succ]
    apply wpG_eq
    · intro W hW hs
      have dc0 := (hW.cell (p := ⟨g, o, none⟩) hg).trans c0
      have dc2 := (hW.cell (p := ⟨g, o + 2, none⟩) hg).trans c2
      have dce := (hW.cell (p := ⟨be, 0, none⟩) he).trans ce
      unfold opG
      go_simp
      first | exact resG_eq_mk _ _ _ | rfl
    simp only [Act.put, List.setIfInBounds_toArray, List.set_cons_zero, List.set_cons_succ]
    apply wpG_eq
    · intro W hW hs
      have dc0 := (hW.cell (p := ⟨g, o, none⟩) hg).trans c0
      have dc2 := (hW.cell (p := ⟨g, o + 2, none⟩) hg).trans c2
      have dce := (hW.cell (p := ⟨be, 0, none⟩) he).trans ce
      unfold opG
      go_simp
      first | exact resG_eq_mk _ _ _ | rfl
    simp only [Act.put, List.setIfInBounds_toArray, List.set_cons_zero, List.set_cons_succ]
    apply wpG_eq
    · intro W hW hs
      have dc0 := (hW.cell (p := ⟨g, o, none⟩) hg).trans c0
      have dc2 := (hW.cell (p := ⟨g, o + 2, none⟩) hg).trans c2
      have dce := (hW.cell (p := ⟨be, 0, none⟩) he).trans ce
      unfold opG
      go_simp
      first | exact resG_eq_mk _ _ _ | rfl
    simp only [Act.put, List.setIfInBounds_toArray, List.set_cons_zero, List.set_cons_succ]
    apply wpG_nil
    intro W9 hW9 hsAll
    go_wp2
    go_ret
    exact ⟨rfl, (Gr.refl w).drew.trans hW9⟩
theorem in1_stale (w : World) (g o be bf bv ep e : Nat) (F V : Value) (f v : List Nat) (c0 : w.cell? ⟨g, o, none⟩ = some (.int .u64 (ep : Int))) (c2 : w.cell? ⟨g, o + 2, none⟩ = some (.bool false)) (ce : w.cell? ⟨be, 0, none⟩ = some (.int .u64 (e : Int))) (cf : w.cell? ⟨bf, 0, none⟩ = some F) (cv : w.cell? ⟨bv, 0, none⟩ = some V)
    (hlt : ep < e) (sf : Sl w F (nums f)) (sv : Sl w V (nums v)) (lf : f.length ≤ 1000000) (lv : v.length ≤ 1000000) (hl : leqV f v = false) :
    Calls Try.prog 26 #[.pointer (some ⟨g, o, none⟩), .pointer (some ⟨be, 0, none⟩), .pointer (some ⟨bf, 0, none⟩), .pointer (some ⟨bv, 0, none⟩)] w fun en w' => en = .returned (.int .i64 62) ∧ Gr w w' := by
  have hg := cell_block_lt c0
  have he := cell_block_lt ce
  have hf := cell_block_lt cf
  have hv := cell_block_lt cv
  have hle : (ep : Int) < (e : Int) := by omega
  go_enter Try.func26, Try.ntmps26
  go_wp2
  apply wp_region_draw_grow (.eq _ :: .eq _ :: .eq _ :: .eq _ :: .eq _ :: .eq _ :: .eq _ :: .eq _ :: .eq _ :: .eq _ :: .eq _ :: .eq _ :: .eq _ :: []) (by kernel_rfl) (by kernel_rfl) trivial
  apply wpG_eq
  · intro W hW hs
    have dc0 := (hW.cell (p := ⟨g, o, none⟩) hg).trans c0
    have dc2 := (hW.cell (p := ⟨g, o + 2, none⟩) hg).trans c2
    have dce := (hW.cell (p := ⟨be, 0, none⟩) he).trans ce
    have dcf := (hW.cell (p := ⟨bf, 0, none⟩) hf).trans cf
    have dcv := (hW.cell (p := ⟨bv, 0, none⟩) hv).trans cv
    unfold opG
    go_simp
    first | exact resG_eq_mk _ _ _ | rfl
  simp only [Act.put, List.setIfInBounds_toArray, List.set_cons_zero, List.set_cons_succ]
  apply wpG_eq
  · intro W hW hs
    have dc0 := (hW.cell (p := ⟨g, o, none⟩) hg).trans c0
    have dc2 := (hW.cell (p := ⟨g, o + 2, none⟩) hg).trans c2
    have dce := (hW.cell (p := ⟨be, 0, none⟩) he).trans ce
    have dcf := (hW.cell (p := ⟨bf, 0, none⟩) hf).trans cf
    have dcv := (hW.cell (p := ⟨bv, 0, none⟩) hv).trans cv
    unfold opG
    go_simp
    first | exact resG_eq_mk _ _ _ | rfl
  simp only [Act.put, List.setIfInBounds_toArray, List.set_cons_zero, List.set_cons_succ]
  apply wpG_eq
  · intro W hW hs
    have dc0 := (hW.cell (p := ⟨g, o, none⟩) hg).trans c0
    have dc2 := (hW.cell (p := ⟨g, o + 2, none⟩) hg).trans c2
    have dce := (hW.cell (p := ⟨be, 0, none⟩) he).trans ce
    have dcf := (hW.cell (p := ⟨bf, 0, none⟩) hf).trans cf
    have dcv := (hW.cell (p := ⟨bv, 0, none⟩) hv).trans cv
    unfold opG
    go_simp
    first | exact resG_eq_mk _ _ _ | rfl
  simp only [Act.put, List.setIfInBounds_toArray, List.set_cons_zero, List.set_cons_succ]
  apply wpG_eq
  · intro W hW hs
    have dc0 := (hW.cell (p := ⟨g, o, none⟩) hg).trans c0
    have dc2 := (hW.cell (p := ⟨g, o + 2, none⟩) hg).trans c2
    have dce := (hW.cell (p := ⟨be, 0, none⟩) he).trans ce
    have dcf := (hW.cell (p := ⟨bf, 0, none⟩) hf).trans cf
    have dcv := (hW.cell (p := ⟨bv, 0, none⟩) hv).trans cv
    unfold opG
    go_simp
    first | exact resG_eq_mk _ _ _ | rfl
  simp only [Act.put, List.setIfInBounds_toArray, List.set_cons_zero, List.set_cons_succ]
  apply wpG_eq
  · intro W hW hs
    have dc0 := (hW.cell (p := ⟨g, o, none⟩) hg).trans c0
    have dc2 := (hW.cell (p := ⟨g, o + 2, none⟩) hg).trans c2
    have dce := (hW.cell (p := ⟨be, 0, none⟩) he).trans ce
    have dcf := (hW.cell (p := ⟨bf, 0, none⟩) hf).trans cf
    have dcv := (hW.cell (p := ⟨bv, 0, none⟩) hv).trans cv
    unfold opG
    go_simp
    first | exact resG_eq_mk _ _ _ | rfl
  simp only [Act.put, List.setIfInBounds_toArray, List.set_cons_zero, List.set_cons_succ]
  apply wpG_eq
  · intro W hW hs
    have dc0 := (hW.cell (p := ⟨g, o, none⟩) hg).trans c0
    have dc2 := (hW.cell (p := ⟨g, o + 2, none⟩) hg).trans c2
    have dce := (hW.cell (p := ⟨be, 0, none⟩) he).trans ce
    have dcf := (hW.cell (p := ⟨bf, 0, none⟩) hf).trans cf
    have dcv := (hW.cell (p := ⟨bv, 0, none⟩) hv).trans cv
    unfold opG
    go_simp
    first | exact resG_eq_mk _ _ _ | rfl
  simp only [Act.put, List.setIfInBounds_toArray, List.set_cons_zero, List.set_cons_succ]
  apply wpG_eq
  · intro W hW hs
    have dc0 := (hW.cell (p := ⟨g, o, none⟩) hg).trans c0
    have dc2 := (hW.cell (p := ⟨g, o + 2, none⟩) hg).trans c2
    have dce := (hW.cell (p := ⟨be, 0, none⟩) he).trans ce
    have dcf := (hW.cell (p := ⟨bf, 0, none⟩) hf).trans cf
    have dcv := (hW.cell (p := ⟨bv, 0, none⟩) hv).trans cv
    unfold opG
    go_simp
    first | exact resG_eq_mk _ _ _ | rfl
  simp only [Act.put, List.setIfInBounds_toArray, List.set_cons_zero, List.set_cons_succ]
  apply wpG_eq
  · intro W hW hs
    have dc0 := (hW.cell (p := ⟨g, o, none⟩) hg).trans c0
    have dc2 := (hW.cell (p := ⟨g, o + 2, none⟩) hg).trans c2
    have dce := (hW.cell (p := ⟨be, 0, none⟩) he).trans ce
    have dcf := (hW.cell (p := ⟨bf, 0, none⟩) hf).trans cf
    have dcv := (hW.cell (p := ⟨bv, 0, none⟩) hv).trans cv
    unfold opG
    go_simp
    first | exact resG_eq_mk _ _ _ | rfl
  simp only [Act.put, List.setIfInBounds_toArray, List.set_cons_zero, List.set_cons_succ]
  apply wpG_eq
  · intro W hW hs
    have dc0 := (hW.cell (p := ⟨g, o, none⟩) hg).trans c0
    have dc2 := (hW.cell (p := ⟨g, o + 2, none⟩) hg).trans c2
    have dce := (hW.cell (p := ⟨be, 0, none⟩) he).trans ce
    have dcf := (hW.cell (p := ⟨bf, 0, none⟩) hf).trans cf
    have dcv := (hW.cell (p := ⟨bv, 0, none⟩) hv).trans cv
    unfold opG
    go_simp
    first | exact resG_eq_mk _ _ _ | rfl
  simp only [Act.put, List.setIfInBounds_toArray, List.set_cons_zero, List.set_cons_succ]
  apply wpG_eq
  · intro W hW hs
    have dc0 := (hW.cell (p := ⟨g, o, none⟩) hg).trans c0
    have dc2 := (hW.cell (p := ⟨g, o + 2, none⟩) hg).trans c2
    have dce := (hW.cell (p := ⟨be, 0, none⟩) he).trans ce
    have dcf := (hW.cell (p := ⟨bf, 0, none⟩) hf).trans cf
    have dcv := (hW.cell (p := ⟨bv, 0, none⟩) hv).trans cv
    unfold opG
    go_simp
    first | exact resG_eq_mk _ _ _ | rfl
  simp only [Act.put, List.setIfInBounds_toArray, List.set_cons_zero, List.set_cons_succ]
  apply wpG_eq
  · intro W hW hs
    have dc0 := (hW.cell (p := ⟨g, o, none⟩) hg).trans c0
    have dc2 := (hW.cell (p := ⟨g, o + 2, none⟩) hg).trans c2
    have dce := (hW.cell (p := ⟨be, 0, none⟩) he).trans ce
    have dcf := (hW.cell (p := ⟨bf, 0, none⟩) hf).trans cf
    have dcv := (hW.cell (p := ⟨bv, 0, none⟩) hv).trans cv
    unfold opG
    go_simp
    first | exact resG_eq_mk _ _ _ | rfl
  simp only [Act.put, List.setIfInBounds_toArray, List.set_cons_zero, List.set_cons_succ]
  apply wpG_eq
  · intro W hW hs
    have dc0 := (hW.cell (p := ⟨g, o, none⟩) hg).trans c0
    have dc2 := (hW.cell (p := ⟨g, o + 2, none⟩) hg).trans c2
    have dce := (hW.cell (p := ⟨be, 0, none⟩) he).trans ce
    have dcf := (hW.cell (p := ⟨bf, 0, none⟩) hf).trans cf
    have dcv := (hW.cell (p := ⟨bv, 0, none⟩) hv).trans cv
    unfold opG
    go_simp
    first | exact resG_eq_mk _ _ _ | rfl
  simp only [Act.put, List.setIfInBounds_toArray, List.set_cons_zero, List.set_cons_succ]
  apply wpG_eq
  · intro W hW hs
    have dc0 := (hW.cell (p := ⟨g, o, none⟩) hg).trans c0
    have dc2 := (hW.cell (p := ⟨g, o + 2, none⟩) hg).trans c2
    have dce := (hW.cell (p := ⟨be, 0, none⟩) he).trans ce
    have dcf := (hW.cell (p := ⟨bf, 0, none⟩) hf).trans cf
    have dcv := (hW.cell (p := ⟨bv, 0, none⟩) hv).trans cv
    unfold opG
    go_simp
    first | exact resG_eq_mk _ _ _ | rfl
  simp only [Act.put, List.setIfInBounds_toArray, List.set_cons_zero, List.set_cons_succ]
  apply wpG_nil
  intro W9 hW9 hsAll
  have cf9 := (hW9.cell (p := ⟨bf, 0, none⟩) hf).trans cf
  have cv9 := (hW9.cell (p := ⟨bv, 0, none⟩) hv).trans cv
  have sf9 := sf.below ((Gr.refl w).drew.trans hW9)
  have sv9 := sv.below ((Gr.refl w).drew.trans hW9)
  have g9 : Gr w W9 := (Gr.refl w).drew.trans hW9
  clear hW9
  go_wp2_with fail
  refine (leq_any _ _ _ f v sf9 sv9 lf lv).mono ?_
  rintro e' w2 ⟨rfl, b2⟩
  rw [hl]
  go_wp2
  go_ret
  exact ⟨rfl, g9.trans b2⟩
def Set4 (w1 : World) (g o : Nat) (a b c d : Value) : World := (((w1.setCell ⟨g, o, none⟩ a).setCell ⟨g, o + 1, none⟩ b).setCell ⟨g, o + 2, none⟩ c).setCell ⟨g, o + 3, none⟩ d
theorem in1_ok (w : World) (g o be bf bv ep e : Nat) (F V : Value) (f v : List Nat) (c0 : w.cell? ⟨g, o, none⟩ = some (.int .u64 (ep : Int))) (c2 : w.cell? ⟨g, o + 2, none⟩ = some (.bool false)) (ce : w.cell? ⟨be, 0, none⟩ = some (.int .u64 (e : Int))) (cf : w.cell? ⟨bf, 0, none⟩ = some F) (cv : w.cell? ⟨bv, 0, none⟩ = some V)
    (hlt : ep < e) (sf : Sl w F (nums f)) (sv : Sl w V (nums v)) (lf : f.length ≤ 1000000) (lv : v.length ≤ 1000000) (hl : leqV f v = true) (c1 : (w.cell? ⟨g, o + 1, none⟩).isSome = true) (c3 : (w.cell? ⟨g, o + 3, none⟩).isSome = true) (hfz : ∀ i, w.frozen? ⟨g, i, none⟩ = false) :
    Calls Try.prog 26 #[.pointer (some ⟨g, o, none⟩), .pointer (some ⟨be, 0, none⟩), .pointer (some ⟨bf, 0, none⟩), .pointer (some ⟨bv, 0, none⟩)] w fun en w' =>
      en = .returned (.int .i64 0) ∧ ∃ nv w1, Own w1 w.heap.size 27 nv (nums f) ∧ Gr w w1 ∧ w' = Set4 w1 g o (.int .u64 (e : Int)) nv (.bool true) (.bool false) := by
  have hg := cell_block_lt c0
  have he := cell_block_lt ce
  have hf := cell_block_lt cf
  have hv := cell_block_lt cv
  have hle : (ep : Int) < (e : Int) := by omega
  obtain ⟨y1, c1⟩ := Option.isSome_iff_exists.1 c1
  obtain ⟨y3, c3⟩ := Option.isSome_iff_exists.1 c3
  go_enter Try.func26, Try.ntmps26
  go_wp2
  apply wp_region_draw_grow (.eq _ :: .eq _ :: .eq _ :: .eq _ :: .eq _ :: .eq _ :: .eq _ :: .eq _ :: .eq _ :: .eq _ :: .eq _ :: .eq _ :: .eq _ :: []) (by kernel_rfl) (by kernel_rfl) trivial
  apply wpG_eq
  · intro W hW hs
    have dc0 := (hW.cell (p := ⟨g, o, none⟩) hg).trans c0
    have dc2 := (hW.cell (p := ⟨g, o + 2, none⟩) hg).trans c2
    have dce := (hW.cell (p := ⟨be, 0, none⟩) he).trans ce
    have dcf := (hW.cell (p := ⟨bf, 0, none⟩) hf).trans cf
    have dcv := (hW.cell (p := ⟨bv, 0, none⟩) hv).trans cv
    unfold opG
    go_simp
    first | exact resG_eq_mk _ _ _ | rfl
  simp only [Act.put, List.setIfInBounds_toArray, List.set_cons_zero, List.set_cons_succ]
  apply wpG_eq
  · intro W hW hs
    have dc0 := (hW.cell (p := ⟨g, o, none⟩) hg).trans c0
    have dc2 := (hW.cell (p := ⟨g, o + 2, none⟩) hg).trans c2
    have dce := (hW.cell (p := ⟨be, 0, none⟩) he).trans ce
    have dcf := (hW.cell (p := ⟨bf, 0, none⟩) hf).trans cf
    have dcv := (hW.cell (p := ⟨bv, 0, none⟩) hv).trans cv
    unfold opG
    go_simp
    first | exact resG_eq_mk _ _ _ | rfl
  simp only [Act.put, List.setIfInBounds_toArray, List.set_cons_zero, List.set_cons_succ]
  apply wpG_eq
  · intro W hW hs
    have dc0 := (hW.cell (p := ⟨g, o, none⟩) hg).trans c0
    have dc2 := (hW.cell (p := ⟨g, o + 2, none⟩) hg).trans c2
    have dce := (hW.cell (p := ⟨be, 0, none⟩) he).trans ce
    have dcf := (hW.cell (p := ⟨bf, 0, none⟩) hf).trans cf
    have dcv := (hW.cell (p := ⟨bv, 0, none⟩) hv).trans cv
    unfold opG
    go_simp
    first | exact resG_eq_mk _ _ _ | rfl
  simp only [Act.put, List.setIfInBounds_toArray, List.set_cons_zero, List.set_cons_succ]
  apply wpG_eq
  · intro W hW hs
    have dc0 := (hW.cell (p := ⟨g, o, none⟩) hg).trans c0
    have dc2 := (hW.cell (p := ⟨g, o + 2, none⟩) hg).trans c2
    have dce := (hW.cell (p := ⟨be, 0, none⟩) he).trans ce
    have dcf := (hW.cell (p := ⟨bf, 0, none⟩) hf).trans cf
    have dcv := (hW.cell (p := ⟨bv, 0, none⟩) hv).trans cv
    unfold opG
    go_simp
    first | exact resG_eq_mk _ _ _ | rfl
  simp only [Act.put, List.setIfInBounds_toArray, List.set_cons_zero, List.set_cons_succ]
  apply wpG_eq
  · intro W hW hs
    have dc0 := (hW.cell (p := ⟨g, o, none⟩) hg).trans c0
    have dc2 := (hW.cell (p := ⟨g, o + 2, none⟩) hg).trans c2
    have dce := (hW.cell (p := ⟨be, 0, none⟩) he).trans ce
    have dcf := (hW.cell (p := ⟨bf, 0, none⟩) hf).trans cf
    have dcv := (hW.cell (p := ⟨bv, 0, none⟩) hv).trans cv
    unfold opG
    go_simp
    first | exact resG_eq_mk _ _ _ | rfl
  simp only [Act.put, List.setIfInBounds_toArray, List.set_cons_zero, List.set_cons_succ]
  apply wpG_eq
  · intro W hW hs
    have dc0 := (hW.cell (p := ⟨g, o, none⟩) hg).trans c0
    have dc2 := (hW.cell (p := ⟨g, o + 2, none⟩) hg).trans c2
    have dce := (hW.cell (p := ⟨be, 0, none⟩) he).trans ce
    have dcf := (hW.cell (p := ⟨bf, 0, none⟩) hf).trans cf
    have dcv := (hW.cell (p := ⟨bv, 0, none⟩) hv).trans cv
    unfold opG
    go_simp
    first | exact resG_eq_mk _ _ _ | rfl
  simp only [Act.put, List.setIfInBounds_toArray, List.set_cons_zero, List.set_cons_succ]
  apply wpG_eq
  · intro W hW hs
    have dc0 := (hW.cell (p := ⟨g, o, none⟩) hg).trans c0
    have dc2 := (hW.cell (p := ⟨g, o + 2, none⟩) hg).trans c2
    have dce := (hW.cell (p := ⟨be, 0, none⟩) he).trans ce
    have dcf := (hW.cell (p := ⟨bf, 0, none⟩) hf).trans cf
    have dcv := (hW.cell (p := ⟨bv, 0, none⟩) hv).trans cv
    unfold opG
    go_simp
    first | exact resG_eq_mk _ _ _ | rfl
  simp only [Act.put, List.setIfInBounds_toArray, List.set_cons_zero, List.set_cons_succ]
  apply wpG_eq
  · intro W hW hs
    have dc0 := (hW.cell (p := ⟨g, o, none⟩) hg).trans c0
    have dc2 := (hW.cell (p := ⟨g, o + 2, none⟩) hg).trans c2
    have dce := (hW.cell (p := ⟨be, 0, none⟩) he).trans ce
    have dcf := (hW.cell (p := ⟨bf, 0, none⟩) hf).trans cf
    have dcv := (hW.cell (p := ⟨bv, 0, none⟩) hv).trans cv
    unfold opG
    go_simp
    first | exact resG_eq_mk _ _ _ | rfl
  simp only [Act.put, List.setIfInBounds_toArray, List.set_cons_zero, List.set_cons_succ]
  apply wpG_eq
  · intro W hW hs
    have dc0 := (hW.cell (p := ⟨g, o, none⟩) hg).trans c0
    have dc2 := (hW.cell (p := ⟨g, o + 2, none⟩) hg).trans c2
    have dce := (hW.cell (p := ⟨be, 0, none⟩) he).trans ce
    have dcf := (hW.cell (p := ⟨bf, 0, none⟩) hf).trans cf
    have dcv := (hW.cell (p := ⟨bv, 0, none⟩) hv).trans cv
    unfold opG
    go_simp
    first | exact resG_eq_mk _ _ _ | rfl
  simp only [Act.put, List.setIfInBounds_toArray, List.set_cons_zero, List.set_cons_succ]
  apply wpG_eq
  · intro W hW hs
    have dc0 := (hW.cell (p := ⟨g, o, none⟩) hg).trans c0
    have dc2 := (hW.cell (p := ⟨g, o + 2, none⟩) hg).trans c2
    have dce := (hW.cell (p := ⟨be, 0, none⟩) he).trans ce
    have dcf := (hW.cell (p := ⟨bf, 0, none⟩) hf).trans cf
    have dcv := (hW.cell (p := ⟨bv, 0, none⟩) hv).trans cv
    unfold opG
    go_simp
    first | exact resG_eq_mk _ _ _ | rfl
  simp only [Act.put, List.setIfInBounds_toArray, List.set_cons_zero, List.set_cons_succ]
  apply wpG_eq
  · intro W hW hs
    have dc0 := (hW.cell (p := ⟨g, o, none⟩) hg).trans c0
    have dc2 := (hW.cell (p := ⟨g, o + 2, none⟩) hg).trans c2
    have dce := (hW.cell (p := ⟨be, 0, none⟩) he).trans ce
    have dcf := (hW.cell (p := ⟨bf, 0, none⟩) hf).trans cf
    have dcv := (hW.cell (p := ⟨bv, 0, none⟩) hv).trans cv
    unfold opG
    go_simp
    first | exact resG_eq_mk _ _ _ | rfl
  simp only [Act.put, List.setIfInBounds_toArray, List.set_cons_zero, List.set_cons_succ]
  apply wpG_eq
  · intro W hW hs
    have dc0 := (hW.cell (p := ⟨g, o, none⟩) hg).trans c0
    have dc2 := (hW.cell (p := ⟨g, o + 2, none⟩) hg).trans c2
    have dce := (hW.cell (p := ⟨be, 0, none⟩) he).trans ce
    have dcf := (hW.cell (p := ⟨bf, 0, none⟩) hf).trans cf
    have dcv := (hW.cell (p := ⟨bv, 0, none⟩) hv).trans cv
    unfold opG
    go_simp
    first | exact resG_eq_mk _ _ _ | rfl
  simp only [Act.put, List.setIfInBounds_toArray, List.set_cons_zero, List.set_cons_succ]
  apply wpG_eq
  · intro W hW hs
    have dc0 := (hW.cell (p := ⟨g, o, none⟩) hg).trans c0
    have dc2 := (hW.cell (p := ⟨g, o + 2, none⟩) hg).trans c2
    have dce := (hW.cell (p := ⟨be, 0, none⟩) he).trans ce
    have dcf := (hW.cell (p := ⟨bf, 0, none⟩) hf).trans cf
    have dcv := (hW.cell (p := ⟨bv, 0, none⟩) hv).trans cv
    unfold opG
    go_simp
    first | exact resG_eq_mk _ _ _ | rfl
  simp only [Act.put, List.setIfInBounds_toArray, List.set_cons_zero, List.set_cons_succ]
  apply wpG_nil
  intro W9 hW9 hsAll
  have cf9 := (hW9.cell (p := ⟨bf, 0, none⟩) hf).trans cf
  have cv9 := (hW9.cell (p := ⟨bv, 0, none⟩) hv).trans cv
  have sf9 := sf.below ((Gr.refl w).drew.trans hW9)
  have sv9 := sv.below ((Gr.refl w).drew.trans hW9)
  have g9 : Gr w W9 := (Gr.refl w).drew.trans hW9
  clear hW9
  go_wp2_with fail
  refine (leq_any _ _ _ f v sf9 sv9 lf lv).mono ?_
  rintro e' w2 ⟨rfl, b2⟩
  rw [hl]
  have g2 := g9.trans b2
  clear sf9 sv9 cf9 cv9
  go_wp2
  have ce := (g2.cell (p := ⟨be, 0, none⟩) he).trans ce
  have cf := (g2.cell (p := ⟨bf, 0, none⟩) hf).trans cf
  have sf := sf.below g2
  have he2 : be < w2.drew.heap.size := Nat.lt_of_lt_of_le he g2.size
  have hf2 : bf < w2.drew.heap.size := Nat.lt_of_lt_of_le hf g2.size
  apply wp_region_draw_tail 6 (.eq _ :: .eq _ :: .eq _ :: .ok (fun u W => Own W w2.heap.size 27 u (nums f)) :: .ok (fun u W => ∃ nv, u = .agg #[.int .u64 (e : Int), nv, .bool true, .bool false] ∧ Own W w2.heap.size 27 nv (nums f)) :: .eq _ :: []) (by kernel_rfl) (by kernel_rfl) ⟨mono_own _ _ _, (fun _ _ _ hg ⟨nv, h1, h2⟩ => ⟨nv, h1, h2.gr hg⟩), trivial⟩
  simp only [List.take_succ_cons, List.take_zero, List.drop_succ_cons, List.drop_zero]
  apply wpG_eq
  · intro W hW hs
    unfold opG
    go_simp
    first | exact resG_eq_mk _ _ _ | rfl
  simp only [Act.put, List.setIfInBounds_toArray, List.set_cons_zero, List.set_cons_succ]
  apply wpG_eq
  · intro W hW hs
    have d := (hW.cell (p := ⟨be, 0, none⟩) he2).trans ce
    unfold opG
    go_simp
    first | exact resG_eq_mk _ _ _ | rfl
  simp only [Act.put, List.setIfInBounds_toArray, List.set_cons_zero, List.set_cons_succ]
  apply wpG_eq
  · intro W hW hs
    have d := (hW.cell (p := ⟨bf, 0, none⟩) hf2).trans cf
    unfold opG
    go_simp
    first | exact resG_eq_mk _ _ _ | rfl
  simp only [Act.put, List.setIfInBounds_toArray, List.set_cons_zero, List.set_cons_succ]
  apply wpG_ok
  · intro W hW hs
    unfold opG
    go_simp
    refine resG_call ((clone_n _ f _ (sf.below ((Gr.refl w2).drew.trans hW)) lf).mono ?_)
    rintro e W2 ⟨nv, rfl, ho, hb⟩
    exact ⟨nv, rfl, hb, ho.mono ((Gr.refl w2).drew.trans hW).size⟩
  intro nv
  simp only [Act.put, List.setIfInBounds_toArray, List.set_cons_zero, List.set_cons_succ]
  apply wpG_ok
  · intro W hW hs
    have ho := hs _ (List.mem_cons_self ..) rfl
    obtain ⟨na, nc, rfl⟩ := ho.shape
    unfold opG
    go_simp
    refine resG_mk (Gr.refl _) ?_
    exact ⟨_, rfl, ho⟩
  intro ag
  simp only [Act.put, List.setIfInBounds_toArray, List.set_cons_zero, List.set_cons_succ]
  apply wpG_eq
  · intro W hW hs
    unfold opG
    go_simp
    first | exact resG_eq_mk _ _ _ | rfl
  simp only [Act.put, List.setIfInBounds_toArray, List.set_cons_zero, List.set_cons_succ]
  apply wpG_nil
  intro W8 hW8 hsAll
  obtain ⟨nv, rfl, ho⟩ := hsAll _ (List.mem_cons_self ..)
  have g8 : Gr w W8 := g2.trans ((Gr.refl w2).drew.trans hW8)
  have k0 := (g8.cell (p := ⟨g, o, none⟩) hg).trans c0
  have k1 := (g8.cell (p := ⟨g, o + 1, none⟩) hg).trans c1
  have k2 := (g8.cell (p := ⟨g, o + 2, none⟩) hg).trans c2
  have k3 := (g8.cell (p := ⟨g, o + 3, none⟩) hg).trans c3
  have z0 := (g8.frozen (p := ⟨g, o, none⟩) hg).trans (hfz o)
  have z1 := (g8.frozen (p := ⟨g, o + 1, none⟩) hg).trans (hfz _)
  have z2 := (g8.frozen (p := ⟨g, o + 2, none⟩) hg).trans (hfz _)
  have z3 := (g8.frozen (p := ⟨g, o + 3, none⟩) hg).trans (hfz _)
  have ho := ho.mono (base' := w.heap.size) g2.size
  obtain ⟨na, nc, rfl⟩ := ho.shape
  have HO := Lib.hid ho
  have G8 := Lib.hid g8
  clear ho g8 hsAll hW8 g2 b2 c0 c1 c2 c3 ce cf cv hfz
  go_wp2
  go_ret
  exact ⟨rfl, _, _, HO.out, G8.out, rfl⟩
theorem out1_no (w : World) (g o be bv ep e : Nat) (held : Bool) (c0 : w.cell? ⟨g, o, none⟩ = some (.int .u64 (ep : Int))) (c2 : w.cell? ⟨g, o + 2, none⟩ = some (.bool held)) (ce : w.cell? ⟨be, 0, none⟩ = some (.int .u64 (e : Int))) (hno : held = false ∨ ep ≠ e) :
    Calls Try.prog 27 #[.pointer (some ⟨g, o, none⟩), .pointer (some ⟨be, 0, none⟩), .pointer (some ⟨bv, 0, none⟩)] w fun en w' => en = .returned (.int .i64 61) ∧ Gr w w' := by
  have hg := cell_block_lt c0
  have he := cell_block_lt ce
  cases held with
  | false =>
    go_enter Try.func27, Try.ntmps27
    go_wp2
    apply wp_region_draw_grow (.eq _ :: .eq _ :: .eq _ :: .eq _ :: .eq _ :: .eq _ :: .eq _ :: .eq _ :: .eq _ :: .eq _ :: .eq _ :: .eq _ :: .eq _ :: []) (by kernel_rfl) (by kernel_rfl) trivial
    apply wpG_eq
    · intro W hW hs
      have dc0 := (hW.cell (p := ⟨g, o, none⟩) hg).trans c0
      have dc2 := (hW.cell (p := ⟨g, o + 2, none⟩) hg).trans c2
      have dce := (hW.cell (p := ⟨be, 0, none⟩) he).trans ce
      unfold opG
      go_simp
      first | exact resG_eq_mk _ _ _ | rfl
    simp only [Act.put, List.setIfInBounds_toArray, List.set_cons_zero, List.set_cons_succ]
    apply wpG_eq
    · intro W hW hs
      have dc0 := (hW.cell (p := ⟨g, o, none⟩) hg).trans c0
      have dc2 := (hW.cell (p := ⟨g, o + 2, none⟩) hg).trans c2
      have dce := (hW.cell (p := ⟨be, 0, none⟩) he).trans ce
      unfold opG
      go_simp
      first | exact resG_eq_mk _ _ _ | rfl
    simp only [Act.put, List.setIfInBounds_toArray, List.set_cons_zero, List.set_cons_succ]
    apply wpG_eq
    · intro W hW hs
      have dc0 := (hW.cell (p := ⟨g, o, none⟩) hg).trans c0
      have dc2 := (hW.cell (p := ⟨g, o + 2, none⟩) hg).trans c2
      have dce := (hW.cell (p := ⟨be, 0, none⟩) he).trans ce
      unfold opG
      go_simp
      first | exact resG_eq_mk _ _ _ | rfl
    simp only [Act.put, List.setIfInBounds_toArray, List.set_cons_zero, List.set_cons_succ]
    apply wpG_eq
    · intro W hW hs
      have dc0 := (hW.cell (p := ⟨g, o, none⟩) hg).trans c0
      have dc2 := (hW.cell (p := ⟨g, o + 2, none⟩) hg).trans c2
      have dce := (hW.cell (p := ⟨be, 0, none⟩) he).trans ce
      unfold opG
      go_simp
      first | exact resG_eq_mk _ _ _ | rfl
    simp only [Act.put, List.setIfInBounds_toArray, List.set_cons_zero, List.set_cons_succ]
    apply wpG_eq
    · intro W hW hs
      have dc0 := (hW.cell (p := ⟨g, o, none⟩) hg).trans c0
      have dc2 := (hW.cell (p := ⟨g, o + 2, none⟩) hg).trans c2
      have dce := (hW.cell (p := ⟨be, 0, none⟩) he).trans ce
      unfold opG
      go_simp
      first | exact resG_eq_mk _ _ _ | rfl
    simp only [Act.put, List.setIfInBounds_toArray, List.set_cons_zero, List.set_cons_succ]
    apply wpG_eq
    · intro W hW hs
      have dc0 := (hW.cell (p := ⟨g, o, none⟩) hg).trans c0
      have dc2 := (hW.cell (p := ⟨g, o + 2, none⟩) hg).trans c2
      have dce := (hW.cell (p := ⟨be, 0, none⟩) he).trans ce
      unfold opG
      go_simp
      first | exact resG_eq_mk _ _ _ | rfl
    simp only [Act.put, List.setIfInBounds_toArray, List.set_cons_zero, List.set_cons_succ]
    apply wpG_eq
    · intro W hW hs
      have dc0 := (hW.cell (p := ⟨g, o, none⟩) hg).trans c0
      have dc2 := (hW.cell (p := ⟨g, o + 2, none⟩) hg).trans c2
      have dce := (hW.cell (p := ⟨be, 0, none⟩) he).trans ce
      unfold opG
      go_simp
      first | exact resG_eq_mk _ _ _ | rfl
    simp only [Act.put, List.setIfInBounds_toArray, List.set_cons_zero, List.set_cons_succ]
    apply wpG_eq
    · intro W hW hs
      have dc0 := (hW.cell (p := ⟨g, o, none⟩) hg).trans c0
      have dc2 := (hW.cell (p := ⟨g, o + 2, none⟩) hg).trans c2
      have dce := (hW.cell (p := ⟨be, 0, none⟩) he).trans ce
      unfold opG
      go_simp
      first | exact resG_eq_mk _ _ _ | rfl
    simp only [Act.put, List.setIfInBounds_toArray, List.set_cons_zero, List.set_cons_succ]
    apply wpG_eq
    · intro W hW hs
      have dc0 := (hW.cell (p := ⟨g, o, none⟩) hg).trans c0
      have dc2 := (hW.cell (p := ⟨g, o + 2, none⟩) hg).trans c2
      have dce := (hW.cell (p := ⟨be, 0, none⟩) he).trans ce
      unfold opG
      go_simp
      first | exact resG_eq_mk _ _ _ | rfl
    simp only [Act.put, List.setIfInBounds_toArray, List.set_cons_zero, List.set_cons_succ]
    apply wpG_eq
    · intro W hW hs
      have dc0 := (hW.cell (p := ⟨g, o, none⟩) hg).trans c0
      have dc2 := (hW.cell (p := ⟨g, o + 2, none⟩) hg).trans c2
      have dce := (hW.cell (p := ⟨be, 0, none⟩) he).trans ce
      unfold opG
      go_simp
      first | exact resG_eq_mk _ _ _ | rfl
    simp only [Act.put, List.setIfInBounds_toArray, List.set_cons_zero, List.set_cons_succ]
    apply wpG_eq
    · intro W hW hs
      have dc0 := (hW.cell (p := ⟨g, o, none⟩) hg).trans c0
      have dc2 := (hW.cell (p := ⟨g, o + 2, none⟩) hg).trans c2
      have dce := (hW.cell (p := ⟨be, 0, none⟩) he).trans ce
      unfold opG
      go_simp
      first | exact resG_eq_mk _ _ _ | rfl
    simp only [Act.put, List.setIfInBounds_toArray, List.set_cons_zero, List.set_cons_succ]
    apply wpG_eq
    · intro W hW hs
      have dc0 := (hW.cell (p := ⟨g, o, none⟩) hg).trans c0
      have dc2 := (hW.cell (p := ⟨g, o + 2, none⟩) hg).trans c2
      have dce := (hW.cell (p := ⟨be, 0, none⟩) he).trans ce
      unfold opG
      go_simp
      first | exact resG_eq_mk _ _ _ | rfl
    simp only [Act.put, List.setIfInBounds_toArray, List.set_cons_zero, List.set_cons_succ]
    apply wpG_eq
    · intro W hW hs
      have dc0 := (hW.cell (p := ⟨g, o, none⟩) hg).trans c0
      have dc2 := (hW.cell (p := ⟨g, o + 2, none⟩) hg).trans c2
      have dce := (hW.cell (p := ⟨be, 0, none⟩) he).trans ce
      unfold opG
      go_simp
      first | exact resG_eq_mk _ _ _ | rfl
    simp only [Act.put, List.setIfInBounds_toArray, List.set_cons_zero, List.set_cons_succ]
    apply wpG_nil
    intro W9 hW9 hsAll
    go_wp2
    go_ret
    exact ⟨rfl, (Gr.refl w).drew.trans hW9⟩
  | true =>
    have hne : ((ep : Int) != (e : Int)) = true := by rcases hno with h | h <;> simp_all <;> omega
    have hne2 : ((ep : Int) == (e : Int)) = false := by rcases hno with h | h <;> simp_all <;> omega
    clear hno
    go_enter Try.func27, Try.ntmps27
    go_wp2
    apply wp_region_draw_grow (.eq _ :: .eq _ :: .eq _ :: .eq _ :: .eq _ :: .eq _ :: .eq _ :: .eq _ :: .eq _ :: .eq _ :: .eq _ :: .eq _ :: .eq _ :: []) (by kernel_rfl) (by kernel_rfl) trivial
    apply wpG_eq
    · intro W hW hs
      have dc0 := (hW.cell (p := ⟨g, o, none⟩) hg).trans c0
      have dc2 := (hW.cell (p := ⟨g, o + 2, none⟩) hg).trans c2
      have dce := (hW.cell (p := ⟨be, 0, none⟩) he).trans ce
      unfold opG
      go_simp
      first | exact resG_eq_mk _ _ _ | rfl
    simp only [Act.put, List.setIfInBounds_toArray, List.set_cons_zero, List.set_cons_succ]
    apply wpG_eq
    · intro W hW hs
      have dc0 := (hW.cell (p := ⟨g, o, none⟩) hg).trans c0
      have dc2 := (hW.cell (p := ⟨g, o + 2, none⟩) hg).trans c2
      have dce := (hW.cell (p := ⟨be, 0, none⟩) he).trans ce
      unfold opG
      go_simp
      first | exact resG_eq_mk _ _ _ | rfl
    simp only [Act.put, List.setIfInBounds_toArray, List.set_cons_zero, List.set_cons_succ]
    apply wpG_eq
    · intro W hW hs
      have dc0 := (hW.cell (p := ⟨g, o, none⟩) hg).trans c0
      have dc2 := (hW.cell (p := ⟨g, o + 2, none⟩) hg).trans c2
      have dce := (hW.cell (p := ⟨be, 0, none⟩) he).trans ce
      unfold opG
      go_simp
      first | exact resG_eq_mk _ _ _ | rfl
    simp only [Act.put, List.setIfInBounds_toArray, List.set_cons_zero, List.set_cons_succ]
    apply wpG_eq
    · intro W hW hs
      have dc0 := (hW.cell (p := ⟨g, o, none⟩) hg).trans c0
      have dc2 := (hW.cell (p := ⟨g, o + 2, none⟩) hg).trans c2
      have dce := (hW.cell (p := ⟨be, 0, none⟩) he).trans ce
      unfold opG
      go_simp
      first | exact resG_eq_mk _ _ _ | rfl
    simp only [Act.put, List.setIfInBounds_toArray, List.set_cons_zero, List.set_cons_succ]
    apply wpG_eq
    · intro W hW hs
      have dc0 := (hW.cell (p := ⟨g, o, none⟩) hg).trans c0
      have dc2 := (hW.cell (p := ⟨g, o + 2, none⟩) hg).trans c2
      have dce := (hW.cell (p := ⟨be, 0, none⟩) he).trans ce
      unfold opG
      go_simp
      first | exact resG_eq_mk _ _ _ | rfl
    simp only [Act.put, List.setIfInBounds_toArray, List.set_cons_zero, List.set_cons_succ]
    apply wpG_eq
    · intro W hW hs
      have dc0 := (hW.cell (p := ⟨g, o, none⟩) hg).trans c0
      have dc2 := (hW.cell (p := ⟨g, o + 2, none⟩) hg).trans c2
      have dce := (hW.cell (p := ⟨be, 0, none⟩) he).trans ce
      unfold opG
      go_simp
      first | exact resG_eq_mk _ _ _ | rfl
    simp only [Act.put, List.setIfInBounds_toArray, List.set_cons_zero, List.set_cons_succ]
    apply wpG_eq
    · intro W hW hs
      have dc0 := (hW.cell (p := ⟨g, o, none⟩) hg).trans c0
      have dc2 := (hW.cell (p := ⟨g, o + 2, none⟩) hg).trans c2
      have dce := (hW.cell (p := ⟨be, 0, none⟩) he).trans ce
      unfold opG
      go_simp
      first | exact resG_eq_mk _ _ _ | rfl
    simp only [Act.put, List.setIfInBounds_toArray, List.set_cons_zero, List.set_cons_succ]
    apply wpG_eq
    · intro W hW hs
      have dc0 := (hW.cell (p := ⟨g, o, none⟩) hg).trans c0
      have dc2 := (hW.cell (p := ⟨g, o + 2, none⟩) hg).trans c2
      have dce := (hW.cell (p := ⟨be, 0, none⟩) he).trans ce
      unfold opG
      go_simp
      first | exact resG_eq_mk _ _ _ | rfl
    simp only [Act.put, List.setIfInBounds_toArray, List.set_cons_zero, List.set_cons_succ]
    apply wpG_eq
    · intro W hW hs
      have dc0 := (hW.cell (p := ⟨g, o, none⟩) hg).trans c0
      have dc2 := (hW.cell (p := ⟨g, o + 2, none⟩) hg).trans c2
      have dce := (hW.cell (p := ⟨be, 0, none⟩) he).trans ce
      unfold opG
      go_simp
      first | exact resG_eq_mk _ _ _ | rfl
    simp only [Act.put, List.setIfInBounds_toArray, List.set_cons_zero, List.set_cons_succ]
    apply wpG_eq
    · intro W hW hs
      have dc0 := (hW.cell (p := ⟨g, o, none⟩) hg).trans c0
      have dc2 := (hW.cell (p := ⟨g, o + 2, none⟩) hg).trans c2
      have dce := (hW.cell (p := ⟨be, 0, none⟩) he).trans ce
      unfold opG
      go_simp
      first | exact resG_eq_mk _ _ _ | rfl
    simp only [Act.put, List.setIfInBounds_toArray, List.set_cons_zero, List.set_cons_succ]
    apply wpG_eq
    · intro W hW hs
      have dc0 := (hW.cell (p := ⟨g, o, none⟩) hg).trans c0
      have dc2 := (hW.cell (p := ⟨g, o + 2, none⟩) hg).trans c2
      have dce := (hW.cell (p := ⟨be, 0, none⟩) he).trans ce
      unfold opG
      go_simp
      first | exact resG_eq_mk _ _ _ | rfl
    simp only [Act.put, List.setIfInBounds_toArray, List.set_cons_zero, List.set_cons_succ]
    apply wpG_eq
    · intro W hW hs
      have dc0 := (hW.cell (p := ⟨g, o, none⟩) hg).trans c0
      have dc2 := (hW.cell (p := ⟨g, o + 2, none⟩) hg).trans c2
      have dce := (hW.cell (p := ⟨be, 0, none⟩) he).trans ce
      unfold opG
      go_simp
      first | exact resG_eq_mk _ _ _ | rfl
    simp only [Act.put, List.setIfInBounds_toArray, List.set_cons_zero, List.set_cons_succ]
    apply wpG_eq
    · intro W hW hs
      have dc0 := (hW.cell (p := ⟨g, o, none⟩) hg).trans c0
      have dc2 := (hW.cell (p := ⟨g, o + 2, none⟩) hg).trans c2
      have dce := (hW.cell (p := ⟨be, 0, none⟩) he).trans ce
      unfold opG
      go_simp
      first | exact resG_eq_mk _ _ _ | rfl
    simp only [Act.put, List.setIfInBounds_toArray, List.set_cons_zero, List.set_cons_succ]
    apply wpG_nil
    intro W9 hW9 hsAll
    go_wp2
    go_ret
    exact ⟨rfl, (Gr.refl w).drew.trans hW9⟩
theorem out1_ok (w : World) (g o be bv e : Nat) (V : Value) (v : List Nat) (c0 : w.cell? ⟨g, o, none⟩ = some (.int .u64 (e : Int))) (c2 : w.cell? ⟨g, o + 2, none⟩ = some (.bool true)) (ce : w.cell? ⟨be, 0, none⟩ = some (.int .u64 (e : Int))) (cv : w.cell? ⟨bv, 0, none⟩ = some V)
    (sv : Sl w V (nums v)) (lv : v.length ≤ 1000000) (c1 : (w.cell? ⟨g, o + 1, none⟩).isSome = true) (c3 : (w.cell? ⟨g, o + 3, none⟩).isSome = true) (hfz : ∀ i, w.frozen? ⟨g, i, none⟩ = false) :
    Calls Try.prog 27 #[.pointer (some ⟨g, o, none⟩), .pointer (some ⟨be, 0, none⟩), .pointer (some ⟨bv, 0, none⟩)] w fun en w' =>
      en = .returned (.int .i64 0) ∧ ∃ nv w1, Own w1 w.heap.size 27 nv (nums v) ∧ Gr w w1 ∧ w' = Set4 w1 g o (.int .u64 (e : Int)) nv (.bool false) (.bool true) := by
  have hg := cell_block_lt c0
  have he := cell_block_lt ce
  have hv := cell_block_lt cv
  obtain ⟨y1, c1⟩ := Option.isSome_iff_exists.1 c1
  obtain ⟨y3, c3⟩ := Option.isSome_iff_exists.1 c3
  go_enter Try.func27, Try.ntmps27
  go_wp2
  apply wp_region_draw_grow (.eq _ :: .eq _ :: .eq _ :: .eq _ :: .eq _ :: .eq _ :: .eq _ :: .eq _ :: .eq _ :: .eq _ :: .eq _ :: .eq _ :: .eq _ :: []) (by kernel_rfl) (by kernel_rfl) trivial
  apply wpG_eq
  · intro W hW hs
    have dc0 := (hW.cell (p := ⟨g, o, none⟩) hg).trans c0
    have dc2 := (hW.cell (p := ⟨g, o + 2, none⟩) hg).trans c2
    have dce := (hW.cell (p := ⟨be, 0, none⟩) he).trans ce
    unfold opG
    go_simp
    first | exact resG_eq_mk _ _ _ | rfl
  simp only [Act.put, List.setIfInBounds_toArray, List.set_cons_zero, List.set_cons_succ]
  apply wpG_eq
  · intro W hW hs
    have dc0 := (hW.cell (p := ⟨g, o, none⟩) hg).trans c0
    have dc2 := (hW.cell (p := ⟨g, o + 2, none⟩) hg).trans c2
    have dce := (hW.cell (p := ⟨be, 0, none⟩) he).trans ce
    unfold opG
    go_simp
    first | exact resG_eq_mk _ _ _ | rfl
  simp only [Act.put, List.setIfInBounds_toArray, List.set_cons_zero, List.set_cons_succ]
  apply wpG_eq
  · intro W hW hs
    have dc0 := (hW.cell (p := ⟨g, o, none⟩) hg).trans c0
    have dc2 := (hW.cell (p := ⟨g, o + 2, none⟩) hg).trans c2
    have dce := (hW.cell (p := ⟨be, 0, none⟩) he).trans ce
    unfold opG
    go_simp
    first | exact resG_eq_mk _ _ _ | rfl
  simp only [Act.put, List.setIfInBounds_toArray, List.set_cons_zero, List.set_cons_succ]
  apply wpG_eq
  · intro W hW hs
    have dc0 := (hW.cell (p := ⟨g, o, none⟩) hg).trans c0
    have dc2 := (hW.cell (p := ⟨g, o + 2, none⟩) hg).trans c2
    have dce := (hW.cell (p := ⟨be, 0, none⟩) he).trans ce
    unfold opG
    go_simp
    first | exact resG_eq_mk _ _ _ | rfl
  simp only [Act.put, List.setIfInBounds_toArray, List.set_cons_zero, List.set_cons_succ]
  apply wpG_eq
  · intro W hW hs
    have dc0 := (hW.cell (p := ⟨g, o, none⟩) hg).trans c0
    have dc2 := (hW.cell (p := ⟨g, o + 2, none⟩) hg).trans c2
    have dce := (hW.cell (p := ⟨be, 0, none⟩) he).trans ce
    unfold opG
    go_simp
    first | exact resG_eq_mk _ _ _ | rfl
  simp only [Act.put, List.setIfInBounds_toArray, List.set_cons_zero, List.set_cons_succ]
  apply wpG_eq
  · intro W hW hs
    have dc0 := (hW.cell (p := ⟨g, o, none⟩) hg).trans c0
    have dc2 := (hW.cell (p := ⟨g, o + 2, none⟩) hg).trans c2
    have dce := (hW.cell (p := ⟨be, 0, none⟩) he).trans ce
    unfold opG
    go_simp
    first | exact resG_eq_mk _ _ _ | rfl
  simp only [Act.put, List.setIfInBounds_toArray, List.set_cons_zero, List.set_cons_succ]
  apply wpG_eq
  · intro W hW hs
    have dc0 := (hW.cell (p := ⟨g, o, none⟩) hg).trans c0
    have dc2 := (hW.cell (p := ⟨g, o + 2, none⟩) hg).trans c2
    have dce := (hW.cell (p := ⟨be, 0, none⟩) he).trans ce
    unfold opG
    go_simp
    first | exact resG_eq_mk _ _ _ | rfl
  simp only [Act.put, List.setIfInBounds_toArray, List.set_cons_zero, List.set_cons_succ]
  apply wpG_eq
  · intro W hW hs
    have dc0 := (hW.cell (p := ⟨g, o, none⟩) hg).trans c0
    have dc2 := (hW.cell (p := ⟨g, o + 2, none⟩) hg).trans c2
    have dce := (hW.cell (p := ⟨be, 0, none⟩) he).trans ce
    unfold opG
    go_simp
    first | exact resG_eq_mk _ _ _ | rfl
  simp only [Act.put, List.setIfInBounds_toArray, List.set_cons_zero, List.set_cons_succ]
  apply wpG_eq
  · intro W hW hs
    have dc0 := (hW.cell (p := ⟨g, o, none⟩) hg).trans c0
    have dc2 := (hW.cell (p := ⟨g, o + 2, none⟩) hg).trans c2
    have dce := (hW.cell (p := ⟨be, 0, none⟩) he).trans ce
    unfold opG
    go_simp
    first | exact resG_eq_mk _ _ _ | rfl
  simp only [Act.put, List.setIfInBounds_toArray, List.set_cons_zero, List.set_cons_succ]
  apply wpG_eq
  · intro W hW hs
    have dc0 := (hW.cell (p := ⟨g, o, none⟩) hg).trans c0
    have dc2 := (hW.cell (p := ⟨g, o + 2, none⟩) hg).trans c2
    have dce := (hW.cell (p := ⟨be, 0, none⟩) he).trans ce
    unfold opG
    go_simp
    first | exact resG_eq_mk _ _ _ | rfl
  simp only [Act.put, List.setIfInBounds_toArray, List.set_cons_zero, List.set_cons_succ]
  apply wpG_eq
  · intro W hW hs
    have dc0 := (hW.cell (p := ⟨g, o, none⟩) hg).trans c0
    have dc2 := (hW.cell (p := ⟨g, o + 2, none⟩) hg).trans c2
    have dce := (hW.cell (p := ⟨be, 0, none⟩) he).trans ce
    unfold opG
    go_simp
    first | exact resG_eq_mk _ _ _ | rfl
  simp only [Act.put, List.setIfInBounds_toArray, List.set_cons_zero, List.set_cons_succ]
  apply wpG_eq
  · intro W hW hs
    have dc0 := (hW.cell (p := ⟨g, o, none⟩) hg).trans c0
    have dc2 := (hW.cell (p := ⟨g, o + 2, none⟩) hg).trans c2
    have dce := (hW.cell (p := ⟨be, 0, none⟩) he).trans ce
    unfold opG
    go_simp
    first | exact resG_eq_mk _ _ _ | rfl
  simp only [Act.put, List.setIfInBounds_toArray, List.set_cons_zero, List.set_cons_succ]
  apply wpG_eq
  · intro W hW hs
    have dc0 := (hW.cell (p := ⟨g, o, none⟩) hg).trans c0
    have dc2 := (hW.cell (p := ⟨g, o + 2, none⟩) hg).trans c2
    have dce := (hW.cell (p := ⟨be, 0, none⟩) he).trans ce
    unfold opG
    go_simp
    first | exact resG_eq_mk _ _ _ | rfl
  simp only [Act.put, List.setIfInBounds_toArray, List.set_cons_zero, List.set_cons_succ]
  apply wpG_nil
  intro W9 hW9 hsAll
  have g2 : Gr w W9 := (Gr.refl w).drew.trans hW9
  clear hW9
  go_wp2
  have ce := (g2.cell (p := ⟨be, 0, none⟩) he).trans ce
  have cv := (g2.cell (p := ⟨bv, 0, none⟩) hv).trans cv
  have sv := sv.below g2
  have he2 : be < W9.drew.heap.size := Nat.lt_of_lt_of_le he g2.size
  have hv2 : bv < W9.drew.heap.size := Nat.lt_of_lt_of_le hv g2.size
  apply wp_region_draw_tail 6 (.eq _ :: .eq _ :: .eq _ :: .ok (fun u W => Own W W9.heap.size 27 u (nums v)) :: .ok (fun u W => ∃ nv, u = .agg #[.int .u64 (e : Int), nv, .bool false, .bool true] ∧ Own W W9.heap.size 27 nv (nums v)) :: .eq _ :: []) (by kernel_rfl) (by kernel_rfl) ⟨mono_own _ _ _, (fun _ _ _ hg ⟨nv, h1, h2⟩ => ⟨nv, h1, h2.gr hg⟩), trivial⟩
  simp only [List.take_succ_cons, List.take_zero, List.drop_succ_cons, List.drop_zero]
  apply wpG_eq
  · intro W hW hs
    unfold opG
    go_simp
    first | exact resG_eq_mk _ _ _ | rfl
  simp only [Act.put, List.setIfInBounds_toArray, List.set_cons_zero, List.set_cons_succ]
  apply wpG_eq
  · intro W hW hs
    have d := (hW.cell (p := ⟨be, 0, none⟩) he2).trans ce
    unfold opG
    go_simp
    first | exact resG_eq_mk _ _ _ | rfl
  simp only [Act.put, List.setIfInBounds_toArray, List.set_cons_zero, List.set_cons_succ]
  apply wpG_eq
  · intro W hW hs
    have d := (hW.cell (p := ⟨bv, 0, none⟩) hv2).trans cv
    unfold opG
    go_simp
    first | exact resG_eq_mk _ _ _ | rfl
  simp only [Act.put, List.setIfInBounds_toArray, List.set_cons_zero, List.set_cons_succ]
  apply wpG_ok
  · intro W hW hs
    unfold opG
    go_simp
    refine resG_call ((clone_n _ v _ (sv.below ((Gr.refl W9).drew.trans hW)) lv).mono ?_)
    rintro e W2 ⟨nv, rfl, ho, hb⟩
    exact ⟨nv, rfl, hb, ho.mono ((Gr.refl W9).drew.trans hW).size⟩
  intro nv
  simp only [Act.put, List.setIfInBounds_toArray, List.set_cons_zero, List.set_cons_succ]
  apply wpG_ok
  · intro W hW hs
    have ho := hs _ (List.mem_cons_self ..) rfl
    obtain ⟨na, nc, rfl⟩ := ho.shape
    unfold opG
    go_simp
    refine resG_mk (Gr.refl _) ?_
    exact ⟨_, rfl, ho⟩
  intro ag
  simp only [Act.put, List.setIfInBounds_toArray, List.set_cons_zero, List.set_cons_succ]
  apply wpG_eq
  · intro W hW hs
    unfold opG
    go_simp
    first | exact resG_eq_mk _ _ _ | rfl
  simp only [Act.put, List.setIfInBounds_toArray, List.set_cons_zero, List.set_cons_succ]
  apply wpG_nil
  intro W8 hW8 hsAll
  obtain ⟨nv, rfl, ho⟩ := hsAll _ (List.mem_cons_self ..)
  have g8 : Gr w W8 := g2.trans ((Gr.refl W9).drew.trans hW8)
  have k0 := (g8.cell (p := ⟨g, o, none⟩) hg).trans c0
  have k1 := (g8.cell (p := ⟨g, o + 1, none⟩) hg).trans c1
  have k2 := (g8.cell (p := ⟨g, o + 2, none⟩) hg).trans c2
  have k3 := (g8.cell (p := ⟨g, o + 3, none⟩) hg).trans c3
  have z0 := (g8.frozen (p := ⟨g, o, none⟩) hg).trans (hfz o)
  have z1 := (g8.frozen (p := ⟨g, o + 1, none⟩) hg).trans (hfz _)
  have z2 := (g8.frozen (p := ⟨g, o + 2, none⟩) hg).trans (hfz _)
  have z3 := (g8.frozen (p := ⟨g, o + 3, none⟩) hg).trans (hfz _)
  have ho := ho.mono (base' := w.heap.size) g2.size
  obtain ⟨na, nc, rfl⟩ := ho.shape
  have HO := Lib.hid ho
  have G8 := Lib.hid g8
  clear ho g8 hsAll hW8 g2 c0 c1 c2 c3 ce cv hfz
  go_wp2
  go_ret
  exact ⟨rfl, _, _, HO.out, G8.out, rfl⟩
def LRho (be bf bo k : Nat) : Prop := k = be ∨ k = bf ∨ k = bo
def LastS (B be bf bo ep : Nat) (f : List Nat) (out : Bool) (k : Nat) (W : World) : Prop :=
  (∃ y1 y2 y3, W.cell? ⟨be, 0, none⟩ = some y1 ∧ W.cell? ⟨bf, 0, none⟩ = some y2 ∧ W.cell? ⟨bo, 0, none⟩ = some y3 ∧ (1 ≤ k → y1 = .int .u64 (ep : Int)) ∧ (2 ≤ k → ∃ na nc, y2 = .slice na f.length nc ∧ Own W B 27 (.slice na f.length nc) (nums f)) ∧ (3 ≤ k → y3 = .bool out)) ∧
    W.frozen? ⟨be, 0, none⟩ = false ∧ W.frozen? ⟨bf, 0, none⟩ = false ∧ W.frozen? ⟨bo, 0, none⟩ = false ∧ be < W.heap.size ∧ bf < W.heap.size ∧ bo < W.heap.size
theorem LastS.gr {B be bf bo ep : Nat} {f : List Nat} {out : Bool} (k : Nat) (W W' : World) (hg : Gr W W') (h : LastS B be bf bo ep f out k W) : LastS B be bf bo ep f out k W' := by
  obtain ⟨⟨y1, y2, y3, a1, a2, a3, a4, a5, a6⟩, z1, z2, z3, l1, l2, l3⟩ := h
  exact ⟨⟨y1, y2, y3, (hg.cell (p := ⟨be, 0, none⟩) l1).trans a1, (hg.cell (p := ⟨bf, 0, none⟩) l2).trans a2, (hg.cell (p := ⟨bo, 0, none⟩) l3).trans a3, a4, fun h => by obtain ⟨na, nc, e1, e2⟩ := a5 h; exact ⟨na, nc, e1, e2.gr hg⟩, a6⟩,
    (hg.frozen (p := ⟨be, 0, none⟩) l1).trans z1, (hg.frozen (p := ⟨bf, 0, none⟩) l2).trans z2, (hg.frozen (p := ⟨bo, 0, none⟩) l3).trans z3, Nat.lt_of_lt_of_le l1 hg.size, Nat.lt_of_lt_of_le l2 hg.size, Nat.lt_of_lt_of_le l3 hg.size⟩
theorem cell_ne (w : World) (b c : Nat) (u : Value) (h : b ≠ c) : (w.setCell ⟨b, 0, none⟩ u).cell? ⟨c, 0, none⟩ = w.cell? ⟨c, 0, none⟩ := World.cell?_of_block (Below.heap_setCell w ⟨b, 0, none⟩ u c (fun e => h e.symm))
theorem frozen_set (w : World) (b c : Nat) (u : Value) : (w.setCell ⟨b, 0, none⟩ u).frozen? ⟨c, 0, none⟩ = w.frozen? ⟨c, 0, none⟩ := by simp
theorem Own.set_lt {w : World} {B b : Nat} {e : TypeId} {v u : Value} {xs : List Value} (h : Own w B e v xs) (hb : b < B) : Own (w.setCell ⟨b, 0, none⟩ u) B e v xs := by
  refine World.ownsRow.kept h (row := some b) ⟨rfl, rfl, rfl, by simp, fun k hk hne => Below.heap_setCell w ⟨b, 0, none⟩ u k (fun e => hne (by rw [e]))⟩ ?_
  cases hv : v.ownBlock with
  | none => exact .inl rfl
  | some k => right; intro e; injection e with e; have := (World.ownsRow.lt h k hv).1; omega
theorem LastS.st1 {B be bf bo ep : Nat} {f : List Nat} {out : Bool} {W : World} (h12 : be ≠ bf) (h13 : be ≠ bo) (h : LastS B be bf bo ep f out 0 W) : LastS B be bf bo ep f out 1 (W.setCell ⟨be, 0, none⟩ (.int .u64 (ep : Int))) := by
  obtain ⟨⟨y1, y2, y3, a1, a2, a3, _, _, _⟩, z1, z2, z3, l1, l2, l3⟩ := h
  exact ⟨⟨_, y2, y3, World.cell?_setCell_same' _ _ _ (by rw [a1]; rfl), (cell_ne _ _ _ _ h12).trans a2, (cell_ne _ _ _ _ h13).trans a3, fun _ => rfl, fun h => absurd h (by decide), fun h => absurd h (by decide)⟩,
    (frozen_set _ _ _ _).trans z1, (frozen_set _ _ _ _).trans z2, (frozen_set _ _ _ _).trans z3, by simpa using l1, by simpa using l2, by simpa using l3⟩
theorem LastS.st2 {B be bf bo ep : Nat} {f : List Nat} {out : Bool} {W : World} {na : Option Addr} {nc : Nat} (h12 : be ≠ bf) (h23 : bf ≠ bo) (hb : bf < B) (h : LastS B be bf bo ep f out 1 W) (ho : Own W B 27 (.slice na f.length nc) (nums f)) :
    LastS B be bf bo ep f out 2 (W.setCell ⟨bf, 0, none⟩ (.slice na f.length nc)) := by
  obtain ⟨⟨y1, y2, y3, a1, a2, a3, a4, _, _⟩, z1, z2, z3, l1, l2, l3⟩ := h
  exact ⟨⟨y1, _, y3, (cell_ne _ _ _ _ (Ne.symm h12)).trans a1, World.cell?_setCell_same' _ _ _ (by rw [a2]; rfl), (cell_ne _ _ _ _ h23).trans a3, fun _ => a4 (Nat.le_refl _), fun _ => ⟨na, nc, rfl, ho.set_lt hb⟩, fun h => absurd h (by decide)⟩,
    (frozen_set _ _ _ _).trans z1, (frozen_set _ _ _ _).trans z2, (frozen_set _ _ _ _).trans z3, by simpa using l1, by simpa using l2, by simpa using l3⟩
theorem LastS.st3 {B be bf bo ep : Nat} {f : List Nat} {out : Bool} {W : World} (h13 : be ≠ bo) (h23 : bf ≠ bo) (hb : bo < B) (h : LastS B be bf bo ep f out 2 W) :
    LastS B be bf bo ep f out 3 (W.setCell ⟨bo, 0, none⟩ (.bool out)) := by
  obtain ⟨⟨y1, y2, y3, a1, a2, a3, a4, a5, _⟩, z1, z2, z3, l1, l2, l3⟩ := h
  obtain ⟨na, nc, e1, e2⟩ := a5 (Nat.le_refl _)
  exact ⟨⟨y1, y2, _, (cell_ne _ _ _ _ (Ne.symm h13)).trans a1, (cell_ne _ _ _ _ (Ne.symm h23)).trans a2, World.cell?_setCell_same' _ _ _ (by rw [a3]; rfl), fun _ => a4 (by decide), fun _ => ⟨na, nc, e1, e2.set_lt hb⟩, fun _ => rfl⟩,
    (frozen_set _ _ _ _).trans z1, (frozen_set _ _ _ _).trans z2, (frozen_set _ _ _ _).trans z3, by simpa using l1, by simpa using l2, by simpa using l3⟩
theorem ch_set {ρ : Nat → Prop} (W : World) (b : Nat) (u : Value) (h : ρ b) : Ch ρ W (W.setCell ⟨b, 0, none⟩ u) :=
  ⟨rfl, rfl, rfl, by simp, fun k _ hn => Below.heap_setCell W ⟨b, 0, none⟩ u k (fun e => hn (by rw [e]; exact h))⟩
set_option maxHeartbeats 1000000 in
theorem last1_any (w : World) (g o be bf bo ep : Nat) (F : Value) (f : List Nat) (out : Bool) (c0 : w.cell? ⟨g, o, none⟩ = some (.int .u64 (ep : Int))) (c1 : w.cell? ⟨g, o + 1, none⟩ = some F) (c3 : w.cell? ⟨g, o + 3, none⟩ = some (.bool out))
    (sf : Sl w F (nums f)) (lf : f.length ≤ 1000000) (hs : LastS w.heap.size be bf bo ep f out 0 w) (h1 : be ≠ bf) (h2 : be ≠ bo) (h3 : bf ≠ bo) (hgr : ¬ LRho be bf bo g) (hn : ∀ k, F.ownBlock = some k → ¬ LRho be bf bo k) :
    Calls Try.prog 23 #[.pointer (some ⟨g, o, none⟩), .pointer (some ⟨be, 0, none⟩), .pointer (some ⟨bf, 0, none⟩), .pointer (some ⟨bo, 0, none⟩)] w fun en w' =>
      en = .returned (.int .i64 0) ∧ LastS w.heap.size be bf bo ep f out 3 w' ∧ Ch (LRho be bf bo) w w' := by
  have hg := cell_block_lt c0
  obtain ⟨lb1, lb2, lb3⟩ := hs.2.2.2.2
  obtain ⟨Fa, Fc, rfl⟩ := sf.oneCells
  have own_t : ∀ (xs : List Value), MonoT (LRho be bf bo) (fun v W => Own W w.heap.size 27 v xs) := by
    intro xs v W W' hc h
    refine ⟨h.1, h.2.imp id fun ⟨g, cap, cur, e1, e2, e3, e4⟩ => ⟨g, cap, cur, e1, e2, (hc.block g (Array.getElem?_eq_some_iff.1 e3).1 ?_).trans e3, e4⟩⟩
    rintro (h | h | h) <;> omega
  have sgr : ∀ {W : World}, Ch (LRho be bf bo) w.drew W → Sl W (.slice Fa (nums f).length Fc) (nums f) := fun hW => sf.ch (w := w) ((Ch.of_gr (Gr.refl w).drew).trans hW) (fun k hk => hn k hk)
  have HS := Lib.hid (LastS.gr 0 w w.drew (Gr.refl w).drew hs)
  clear hs hn
  go_enter Try.func23, Try.ntmps23
  go_wp2
  apply wp_region_draw_turn (LRho be bf bo) (LastS w.heap.size be bf bo ep f out) (.eq _ :: .eq _ :: .eq _ :: .eq _ :: .eq _ :: .eq _ :: .eq _ :: .eq _ :: .ok (fun u W => Own W w.heap.size 27 u (nums f)) :: .eq _ :: .eq _ :: .eq _ :: .eq _ :: .useEq _ :: .useEq _ :: .useEq _ :: []) (by kernel_rfl) (by kernel_rfl) (by kernel_rfl) ⟨own_t _, trivial⟩ LastS.gr HS.out
  apply wpT_eq
  · intro W hW _
    unfold opT
    go_simp
    exact resT_eq_mk _ _ _
  simp only [Act.put, List.setIfInBounds_toArray, List.set_cons_zero, List.set_cons_succ]
  apply wpT_eq
  · intro W hW _
    unfold opT
    go_simp
    exact resT_eq_mk _ _ _
  simp only [Act.put, List.setIfInBounds_toArray, List.set_cons_zero, List.set_cons_succ]
  apply wpT_eq
  · intro W hW _
    unfold opT
    go_simp
    exact resT_eq_mk _ _ _
  simp only [Act.put, List.setIfInBounds_toArray, List.set_cons_zero, List.set_cons_succ]
  apply wpT_eq
  · intro W hW _
    have d := (hW.cell (p := ⟨g, o, none⟩) hg hgr).trans c0
    unfold opT
    go_simp
    exact resT_eq_mk _ _ _
  simp only [Act.put, List.setIfInBounds_toArray, List.set_cons_zero, List.set_cons_succ]
  apply wpT_eq
  · intro W hW _
    unfold opT
    go_simp
    exact resT_eq_mk _ _ _
  simp only [Act.put, List.setIfInBounds_toArray, List.set_cons_zero, List.set_cons_succ]
  apply wpT_eq
  · intro W hW _
    unfold opT
    go_simp
    exact resT_eq_mk _ _ _
  simp only [Act.put, List.setIfInBounds_toArray, List.set_cons_zero, List.set_cons_succ]
  apply wpT_eq
  · intro W hW _
    unfold opT
    go_simp
    exact resT_eq_mk _ _ _
  simp only [Act.put, List.setIfInBounds_toArray, List.set_cons_zero, List.set_cons_succ]
  apply wpT_eq
  · intro W hW _
    have d := (hW.cell (p := ⟨g, o + 1, none⟩) hg hgr).trans c1
    unfold opT
    go_simp
    exact resT_eq_mk _ _ _
  simp only [Act.put, List.setIfInBounds_toArray, List.set_cons_zero, List.set_cons_succ]
  apply wpT_ok
  · intro W hW hs
    unfold opT
    go_simp
    refine resT_call ((clone_n _ f _ (sgr hW) lf).mono ?_)
    rintro e W2 ⟨nv, rfl, ho, hb⟩
    exact ⟨nv, rfl, hb, ho.mono hW.size⟩
  intro nv
  simp only [Act.put, List.setIfInBounds_toArray, List.set_cons_zero, List.set_cons_succ]
  apply wpT_eq
  · intro W hW _
    unfold opT
    go_simp
    exact resT_eq_mk _ _ _
  simp only [Act.put, List.setIfInBounds_toArray, List.set_cons_zero, List.set_cons_succ]
  apply wpT_eq
  · intro W hW _
    unfold opT
    go_simp
    exact resT_eq_mk _ _ _
  simp only [Act.put, List.setIfInBounds_toArray, List.set_cons_zero, List.set_cons_succ]
  apply wpT_eq
  · intro W hW _
    unfold opT
    go_simp
    exact resT_eq_mk _ _ _
  simp only [Act.put, List.setIfInBounds_toArray, List.set_cons_zero, List.set_cons_succ]
  apply wpT_eq
  · intro W hW _
    have d := (hW.cell (p := ⟨g, o + 3, none⟩) hg hgr).trans c3
    unfold opT
    go_simp
    exact resT_eq_mk _ _ _
  simp only [Act.put, List.setIfInBounds_toArray, List.set_cons_zero, List.set_cons_succ]
  apply wpT_useEq
  · intro W hW hS hs
    have hS0 := hS
    obtain ⟨⟨y1, y2, y3, a1, a2, a3, _, _, _⟩, z1, z2, z3, _⟩ := hS
    have HS0 := Lib.hid hS0
    clear hS0
    unfold opT
    go_simp
    exact ⟨⟨ch_set _ _ _ (.inl rfl), HS0.out.st1 h1 h2⟩, rfl⟩
  simp only [Act.put]
  apply wpT_useEq
  · intro W hW hS hs
    have hS0 := hS
    obtain ⟨⟨y1, y2, y3, a1, a2, a3, _, _, _⟩, z1, z2, z3, _⟩ := hS
    have ho := hs _ (List.mem_cons_self ..) rfl
    obtain ⟨na, nc, rfl⟩ := ho.shape
    have ho : Own W w.heap.size 27 (.slice na (nums f).length nc) (nums f) := ho
    rw [nums_length] at ho ⊢
    have HO := Lib.hid ho
    clear ho
    have HS0 := Lib.hid hS0
    clear hS0
    unfold opT
    go_simp
    exact ⟨⟨ch_set _ _ _ (.inr (.inl rfl)), HS0.out.st2 h1 h3 lb2 HO.out⟩, rfl⟩
  simp only [Act.put]
  apply wpT_useEq
  · intro W hW hS hs
    have hS0 := hS
    obtain ⟨⟨y1, y2, y3, a1, a2, a3, _, _, _⟩, z1, z2, z3, _⟩ := hS
    have HS0 := Lib.hid hS0
    clear hS0
    unfold opT
    go_simp
    exact ⟨⟨ch_set _ _ _ (.inr (.inr rfl)), HS0.out.st3 h2 h3 lb3⟩, rfl⟩
  simp only [Act.put]
  apply wpT_nil
  intro W8 hW8 hS8 hsAll
  have HS8 := Lib.hid hS8
  have HC8 := Lib.hid hW8
  clear hS8 hW8 hsAll
  go_wp2
  go_ret
  exact ⟨rfl, HS8.out, (Ch.of_gr (Gr.refl w).drew).trans HC8.out⟩
end Go.Proofs.Ythckedmfjmbopaa
