/-
  The document's Apply.
-/
import Derived.Test.YtpcpijecibiibaaGreatZRfA
set_option linter.unusedVariables false
set_option linter.unusedSimpArgs false
set_option maxRecDepth 100000
namespace Go.Proofs.YtpcpijecibiibaaGreat
open Go.RowKit
/-- What is known of a call's arguments. -/
structure RArg (W : World) (g : Nat) (sites : Int) (a : Option Addr) (n c : Nat) (E : List Value) (rg st : Int) : Prop where
  k : CellsAt W g [.int .i64 sites, .slice a n c] 85
  len : E.length = 23
  e19 : E[19]? = some (.int .i64 st)
  e20 : E[20]? = some (.int .i64 rg)
set_option maxHeartbeats 4000000 in
theorem rapply_out (W : World) (g : Nat) (sites : Int) (a : Option Addr) (n c : Nat) (E : List Value) (rg st : Int) (h : RArg W g sites a n c E rg st) (ho : rg < 0 ∨ (n : Int) ≤ rg ∨ st < 0 ∨ sites ≤ st) :
    Calls Tryz.prog 21 #[.pointer (some ⟨g, 0, none⟩), .agg E.toArray] W fun e W' => e = .returned (.tuple #[]) ∧ Gr W W' := by
  have KG := Lib.hid h.k
  have EN := Lib.hid h.len
  have E19 := Lib.hid h.e19
  have E20 := Lib.hid h.e20
  clear h
  by_cases h1 : rg < 0
  · have t1 : (rg < 0) = True := by simp only [eq_iff_iff, iff_true]; exact h1
    clear ho h1
    go_enter Tryz.func21, Tryz.ntmps21
    go_wp2_with (first | (refine wpList_boxE _ rfl rfl rfl ?_) | fail)
    intro w1 k1 g1 n1
    obtain ⟨b1, hb1⟩ : ∃ b1, b1 = W.heap.size := ⟨_, rfl⟩
    rw [← hb1] at k1 ⊢
    have K1 := Lib.hid k1
    have G1 := Lib.hid g1
    have HB1 := Lib.hid hb1
    have CX : Hid (∀ W', Gr w1 W' → W'.cell? ⟨b1, 20, none⟩ = some (.int .i64 rg) ∧ W'.cell? ⟨b1, 19, none⟩ = some (.int .i64 st) ∧ W'.cell? ⟨g, 0, none⟩ = some (.int .i64 sites) ∧ W'.cell? ⟨g, 1, none⟩ = some (.slice a n c)) := Lib.hid fun W' hW' => ⟨by rw [(k1.gr hW').cell]; exact E20.out, by rw [(k1.gr hW').cell]; exact E19.out, ((KG.out.gr g1).gr hW').cell 1 |> fun _ => ((KG.out.gr g1).gr hW').cell 0, ((KG.out.gr g1).gr hW').cell 1⟩
    clear k1 g1 n1 hb1
    have GD := Lib.hid ((Gr.refl w1).drew)
    go_wp2_with fail
    apply wp_region_draw_grow (.eq _ :: .eq _ :: .eq _ :: .eq _ :: .eq _ :: .eq _ :: .eq _ :: .eq _ :: .eq _ :: .eq _ :: .eq _ :: .eq _ :: .eq _ :: .eq _ :: .eq _ :: .eq _ :: .eq _ :: .eq _ :: .eq _ :: .eq _ :: .eq _ :: .eq _ :: .eq _ :: .eq _ :: .eq _ :: .eq _ :: .eq _ :: []) (by kernel_rfl) (by kernel_rfl) trivial
    iterate 27
     apply wpG_eq
     · intro W hW hs
       obtain ⟨y0, y1, y2, y3⟩ := CX.out W (GD.out.trans hW)
       unfold opG
       go_simp
       first | exact resG_eq_mk _ _ _ | rfl
     simp only [Act.put, pt1, pt2, pt3]
    apply wpG_nil
    intro w2 hW2 hsAll
    clear hsAll
    have G2 := Lib.hid (GD.out.trans hW2)
    clear hW2 GD
    clear CX
    go_wp2
    exact bodyPost_ret (results_none rfl _ _ _) rfl ⟨rfl, G1.out.trans G2.out⟩
  have t1 : (rg < 0) = False := by simp only [eq_iff_iff, iff_false]; omega
  by_cases h2 : (n : Int) ≤ rg
  · have t2 : ((n : Int) ≤ rg) = True := by simp only [eq_iff_iff, iff_true]; exact h2
    clear ho h1 h2
    go_enter Tryz.func21, Tryz.ntmps21
    go_wp2_with (first | (refine wpList_boxE _ rfl rfl rfl ?_) | fail)
    intro w1 k1 g1 n1
    obtain ⟨b1, hb1⟩ : ∃ b1, b1 = W.heap.size := ⟨_, rfl⟩
    rw [← hb1] at k1 ⊢
    have K1 := Lib.hid k1
    have G1 := Lib.hid g1
    have HB1 := Lib.hid hb1
    have CX : Hid (∀ W', Gr w1 W' → W'.cell? ⟨b1, 20, none⟩ = some (.int .i64 rg) ∧ W'.cell? ⟨b1, 19, none⟩ = some (.int .i64 st) ∧ W'.cell? ⟨g, 0, none⟩ = some (.int .i64 sites) ∧ W'.cell? ⟨g, 1, none⟩ = some (.slice a n c)) := Lib.hid fun W' hW' => ⟨by rw [(k1.gr hW').cell]; exact E20.out, by rw [(k1.gr hW').cell]; exact E19.out, ((KG.out.gr g1).gr hW').cell 1 |> fun _ => ((KG.out.gr g1).gr hW').cell 0, ((KG.out.gr g1).gr hW').cell 1⟩
    clear k1 g1 n1 hb1
    have GD := Lib.hid ((Gr.refl w1).drew)
    go_wp2_with fail
    apply wp_region_draw_grow (.eq _ :: .eq _ :: .eq _ :: .eq _ :: .eq _ :: .eq _ :: .eq _ :: .eq _ :: .eq _ :: .eq _ :: .eq _ :: .eq _ :: .eq _ :: .eq _ :: .eq _ :: .eq _ :: .eq _ :: .eq _ :: .eq _ :: .eq _ :: .eq _ :: .eq _ :: .eq _ :: .eq _ :: .eq _ :: .eq _ :: .eq _ :: []) (by kernel_rfl) (by kernel_rfl) trivial
    iterate 27
     apply wpG_eq
     · intro W hW hs
       obtain ⟨y0, y1, y2, y3⟩ := CX.out W (GD.out.trans hW)
       unfold opG
       go_simp
       first | exact resG_eq_mk _ _ _ | rfl
     simp only [Act.put, pt1, pt2, pt3]
    apply wpG_nil
    intro w2 hW2 hsAll
    clear hsAll
    have G2 := Lib.hid (GD.out.trans hW2)
    clear hW2 GD
    clear CX
    go_wp2
    exact bodyPost_ret (results_none rfl _ _ _) rfl ⟨rfl, G1.out.trans G2.out⟩
  have t2 : ((n : Int) ≤ rg) = False := by simp only [eq_iff_iff, iff_false]; exact h2
  by_cases h3 : st < 0
  · have t3 : (st < 0) = True := by simp only [eq_iff_iff, iff_true]; exact h3
    clear ho h1 h2 h3
    go_enter Tryz.func21, Tryz.ntmps21
    go_wp2_with (first | (refine wpList_boxE _ rfl rfl rfl ?_) | fail)
    intro w1 k1 g1 n1
    obtain ⟨b1, hb1⟩ : ∃ b1, b1 = W.heap.size := ⟨_, rfl⟩
    rw [← hb1] at k1 ⊢
    have K1 := Lib.hid k1
    have G1 := Lib.hid g1
    have HB1 := Lib.hid hb1
    have CX : Hid (∀ W', Gr w1 W' → W'.cell? ⟨b1, 20, none⟩ = some (.int .i64 rg) ∧ W'.cell? ⟨b1, 19, none⟩ = some (.int .i64 st) ∧ W'.cell? ⟨g, 0, none⟩ = some (.int .i64 sites) ∧ W'.cell? ⟨g, 1, none⟩ = some (.slice a n c)) := Lib.hid fun W' hW' => ⟨by rw [(k1.gr hW').cell]; exact E20.out, by rw [(k1.gr hW').cell]; exact E19.out, ((KG.out.gr g1).gr hW').cell 1 |> fun _ => ((KG.out.gr g1).gr hW').cell 0, ((KG.out.gr g1).gr hW').cell 1⟩
    clear k1 g1 n1 hb1
    have GD := Lib.hid ((Gr.refl w1).drew)
    go_wp2_with fail
    apply wp_region_draw_grow (.eq _ :: .eq _ :: .eq _ :: .eq _ :: .eq _ :: .eq _ :: .eq _ :: .eq _ :: .eq _ :: .eq _ :: .eq _ :: .eq _ :: .eq _ :: .eq _ :: .eq _ :: .eq _ :: .eq _ :: .eq _ :: .eq _ :: .eq _ :: .eq _ :: .eq _ :: .eq _ :: .eq _ :: .eq _ :: .eq _ :: .eq _ :: []) (by kernel_rfl) (by kernel_rfl) trivial
    iterate 27
     apply wpG_eq
     · intro W hW hs
       obtain ⟨y0, y1, y2, y3⟩ := CX.out W (GD.out.trans hW)
       unfold opG
       go_simp
       first | exact resG_eq_mk _ _ _ | rfl
     simp only [Act.put, pt1, pt2, pt3]
    apply wpG_nil
    intro w2 hW2 hsAll
    clear hsAll
    have G2 := Lib.hid (GD.out.trans hW2)
    clear hW2 GD
    clear CX
    go_wp2
    exact bodyPost_ret (results_none rfl _ _ _) rfl ⟨rfl, G1.out.trans G2.out⟩
  have t3 : (st < 0) = False := by simp only [eq_iff_iff, iff_false]; exact h3
  have t4 : (sites ≤ st) = True := by simp only [eq_iff_iff, iff_true]; omega
  clear ho h1 h2 h3
  go_enter Tryz.func21, Tryz.ntmps21
  go_wp2_with (first | (refine wpList_boxE _ rfl rfl rfl ?_) | fail)
  intro w1 k1 g1 n1
  obtain ⟨b1, hb1⟩ : ∃ b1, b1 = W.heap.size := ⟨_, rfl⟩
  rw [← hb1] at k1 ⊢
  have K1 := Lib.hid k1
  have G1 := Lib.hid g1
  have HB1 := Lib.hid hb1
  have CX : Hid (∀ W', Gr w1 W' → W'.cell? ⟨b1, 20, none⟩ = some (.int .i64 rg) ∧ W'.cell? ⟨b1, 19, none⟩ = some (.int .i64 st) ∧ W'.cell? ⟨g, 0, none⟩ = some (.int .i64 sites) ∧ W'.cell? ⟨g, 1, none⟩ = some (.slice a n c)) := Lib.hid fun W' hW' => ⟨by rw [(k1.gr hW').cell]; exact E20.out, by rw [(k1.gr hW').cell]; exact E19.out, ((KG.out.gr g1).gr hW').cell 1 |> fun _ => ((KG.out.gr g1).gr hW').cell 0, ((KG.out.gr g1).gr hW').cell 1⟩
  clear k1 g1 n1 hb1
  have GD := Lib.hid ((Gr.refl w1).drew)
  go_wp2_with fail
  apply wp_region_draw_grow (.eq _ :: .eq _ :: .eq _ :: .eq _ :: .eq _ :: .eq _ :: .eq _ :: .eq _ :: .eq _ :: .eq _ :: .eq _ :: .eq _ :: .eq _ :: .eq _ :: .eq _ :: .eq _ :: .eq _ :: .eq _ :: .eq _ :: .eq _ :: .eq _ :: .eq _ :: .eq _ :: .eq _ :: .eq _ :: .eq _ :: .eq _ :: []) (by kernel_rfl) (by kernel_rfl) trivial
  iterate 27
   apply wpG_eq
   · intro W hW hs
     obtain ⟨y0, y1, y2, y3⟩ := CX.out W (GD.out.trans hW)
     unfold opG
     go_simp
     first | exact resG_eq_mk _ _ _ | rfl
   simp only [Act.put, pt1, pt2, pt3]
  apply wpG_nil
  intro w2 hW2 hsAll
  clear hsAll
  have G2 := Lib.hid (GD.out.trans hW2)
  clear hW2 GD
  clear CX
  go_wp2
  exact bodyPost_ret (results_none rfl _ _ _) rfl ⟨rfl, G1.out.trans G2.out⟩
end Go.Proofs.YtpcpijecibiibaaGreat
