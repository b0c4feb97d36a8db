/-
  Items in rows, one by one; the document's Same, All: of the same items, true.
-/
import Derived.Test.YtpdninnnpoiblaaSSame
import Derived.Test.YtpdninnnpoiblaaSGoes
set_option linter.unusedVariables false
namespace Go.Proofs.Ytpdninnnpoiblaa
open Go.RowKit

/-- A row of items of the call's own is a slice of items. -/
theorem ItemsR.items {w : World} {B : Nat} {v : Value} {xs : List ItemD} (h : ItemsR w B v xs) (hok : ∀ x ∈ xs, ItemOk x) : Items w v xs := by
  obtain ⟨rs, h1, h2, h3⟩ := h
  refine ⟨_, by rw [← h2]; exact h1.rows, fun i hi => ⟨hok _ (List.getElem_mem hi), ?_⟩⟩
  obtain ⟨sv, ev, q1, q2⟩ := h3 i hi
  refine ⟨sv, ev, fun j u hu => ?_, q2.r.is⟩
  have e : rs.getD i [] = (itemCells xs[i] sv ev).toList := by rw [List.getD_eq_getElem?_getD, q1]; rfl
  show (rs.getD i []).getD j (.bool false) = u
  rw [e, List.getD_eq_getElem?_getD, Array.getElem?_toList, hu]
  rfl
/-- One of them. -/
theorem Items.at {w : World} {a : Option Addr} {len cap : Nat} {xs : List ItemD} (h : Items w (.slice a len cap) xs) (k : Nat) (hk : k < xs.length) :
    ∃ B o sv ev, a = some ⟨B, o, Option.none⟩ ∧ B < w.heap.size ∧ w.cell? ⟨B, o + k * 7, Option.none⟩ = some (.int .i64 xs[k].origin) ∧ w.cell? ⟨B, o + k * 7 + 1, Option.none⟩ = some (.int .u64 (xs[k].seq : Int)) ∧ w.cell? ⟨B, o + k * 7 + 2, Option.none⟩ = some (.int .i64 xs[k].region) ∧
      w.cell? ⟨B, o + k * 7 + 3, Option.none⟩ = some (.int .u64 (xs[k].epoch : Int)) ∧ w.cell? ⟨B, o + k * 7 + 4, Option.none⟩ = some sv ∧ w.cell? ⟨B, o + k * 7 + 5, Option.none⟩ = some ev ∧ w.cell? ⟨B, o + k * 7 + 6, Option.none⟩ = some (.int .u32 (xs[k].closed : Int)) ∧
      ItemIs w xs[k] sv ev ∧ ItemOk xs[k] := by
  obtain ⟨R, h1, h2⟩ := h
  obtain ⟨B, o, rfl, hB, hc⟩ := rows_at h1 k hk
  obtain ⟨ok, sv, ev, q1, q2⟩ := h2 k hk
  have c : ∀ j u, j < 7 → (itemCells xs[k] sv ev)[j]? = some u → w.cell? ⟨B, o + k * 7 + j, Option.none⟩ = some u := fun j u hj hu => by rw [hc j hj, q1 j u hu]
  exact ⟨B, o, sv, ev, rfl, hB, c 0 _ (by decide) rfl, c 1 _ (by decide) rfl, c 2 _ (by decide) rfl, c 3 _ (by decide) rfl, c 4 _ (by decide) rfl, c 5 _ (by decide) rfl, c 6 _ (by decide) rfl, q2, ok⟩

set_option maxHeartbeats 2000000 in
theorem same_true (w : World) (x : ItemD) (sv ev sv' ev' : Value) (h : ItemIs w x sv ev) (h' : ItemIs w x sv' ev') (hf : Forms x.effs) (hs : x.stamp.length ≤ 1000000) (he : x.effs.length ≤ 1000000) :
    Calls Try.prog 20 #[.agg (itemCells x sv ev), .agg (itemCells x sv' ev')] w fun en w' => en = .returned (.bool true) ∧ Gr w w' := by
  obtain ⟨w1, hw1⟩ : ∃ w1, w1 = w.alloc (.cells (itemCells x sv ev) 33) := ⟨_, rfl⟩
  obtain ⟨w2, hw2⟩ : ∃ w2, w2 = w1.alloc (.cells (itemCells x sv' ev') 33) := ⟨_, rfl⟩
  have e1 : w1.heap.size = w.heap.size + 1 := by rw [hw1]; simp
  have g1 : Gr w w1 := by rw [hw1]; exact (Gr.refl w).alloc _
  have g2 : Gr w1 w2 := by rw [hw2]; exact (Gr.refl w1).alloc _
  have k1 : CellsAt w2 w.heap.size (itemCells x sv ev) 33 := CellsAt.gr (by rw [hw1]; exact CellsAt.new _ _ _) g2
  have k2 : CellsAt w2 (w.heap.size + 1) (itemCells x sv' ev') 33 := by rw [hw2, ← e1]; exact CellsAt.new _ _ _
  have I1 := Lib.hid (h.below (Gr.trans g1 g2))
  have I2 := Lib.hid (h'.below (Gr.trans g1 g2))
  have HW1 := Lib.hid hw1
  have HW2 := Lib.hid hw2
  have HG := Lib.hid (Gr.trans g1 g2)
  have T : Hid (∀ W, Gr w2 W → (W.cell? ⟨w.heap.size, 0, none⟩ = some (.int .i64 x.origin) ∧ W.cell? ⟨w.heap.size, 1, none⟩ = some (.int .u64 (x.seq : Int)) ∧ W.cell? ⟨w.heap.size, 2, none⟩ = some (.int .i64 x.region) ∧ W.cell? ⟨w.heap.size, 3, none⟩ = some (.int .u64 (x.epoch : Int)) ∧ W.cell? ⟨w.heap.size, 4, none⟩ = some (sv) ∧ W.cell? ⟨w.heap.size, 5, none⟩ = some (ev) ∧ W.cell? ⟨w.heap.size, 6, none⟩ = some (.int .u32 (x.closed : Int))) ∧ (W.cell? ⟨w.heap.size + 1, 0, none⟩ = some (.int .i64 x.origin) ∧ W.cell? ⟨w.heap.size + 1, 1, none⟩ = some (.int .u64 (x.seq : Int)) ∧ W.cell? ⟨w.heap.size + 1, 2, none⟩ = some (.int .i64 x.region) ∧ W.cell? ⟨w.heap.size + 1, 3, none⟩ = some (.int .u64 (x.epoch : Int)) ∧ W.cell? ⟨w.heap.size + 1, 4, none⟩ = some (sv') ∧ W.cell? ⟨w.heap.size + 1, 5, none⟩ = some (ev') ∧ W.cell? ⟨w.heap.size + 1, 6, none⟩ = some (.int .u32 (x.closed : Int)))) := Lib.hid fun W hW => by
    have c1 := k1.gr hW
    have c2 := k2.gr hW
    exact ⟨⟨c1.cell 0, c1.cell 1, c1.cell 2, c1.cell 3, c1.cell 4, c1.cell 5, c1.cell 6⟩, ⟨c2.cell 0, c2.cell 1, c2.cell 2, c2.cell 3, c2.cell 4, c2.cell 5, c2.cell 6⟩⟩
  clear hw1 hw2 g1 g2 h h' k1 k2 e1
  unfold itemCells at HW1 HW2 ⊢
  go_enter Try.func20, Try.ntmps20
  go_upto_region 1 with fail
  rw [← HW1.out, ← HW2.out]
  obtain ⟨⟨x0, x1, x2, x3, x4, x5, x6⟩, ⟨y0, y1, y2, y3, y4, y5, y6⟩⟩ := T.out w2 (Gr.refl _)
  go_wp2_with fail
  clear x0 x1 x2 x3 x4 x5 x6 y0 y1 y2 y3 y4 y5 y6
  refine (same_any w2 sv sv' x.stamp x.stamp I1.out.1 I2.out.1 hs hs).mono ?_
  rintro e w3 ⟨rfl, g3⟩
  rw [sameV_self]
  have G3 : Hid (Gr w2 w3) := Lib.hid g3
  clear g3
  obtain ⟨⟨x0, x1, x2, x3, x4, x5, x6⟩, ⟨y0, y1, y2, y3, y4, y5, y6⟩⟩ := T.out w3 G3.out
  go_wp2_with fail
  clear x0 x1 x2 x3 x4 x5 x6 y0 y1 y2 y3 y4 y5 y6
  refine (effs_true w3 ev ev' x.effs (I1.out.2.below G3.out) (I2.out.2.below G3.out) hf he).mono ?_
  rintro e w4 ⟨rfl, g4⟩
  have G4 := Lib.hid g4
  clear g4
  go_wp2
  go_ret
  exact ⟨rfl, Gr.trans HG.out (Gr.trans G3.out G4.out)⟩

/-- Items with effects of such forms. -/
def AllForms (xs : List ItemD) : Prop := ∀ x ∈ xs, Forms x.effs
set_option maxHeartbeats 2000000 in
theorem all_true (w : World) (v v' : Value) (xs : List ItemD) (h : Items w v xs) (h' : Items w v' xs) (hf : AllForms xs) (hl : xs.length ≤ 100000) :
    Calls Try.prog 9 #[v, v'] w fun en w' => en = .returned (.bool true) ∧ Gr w w' := by
  obtain ⟨a1, c1, rfl⟩ : ∃ a c, v = .slice a xs.length c := by obtain ⟨R, ⟨a, c, e, _⟩, _⟩ := h; exact ⟨a, c, e⟩
  obtain ⟨a2, c2, rfl⟩ : ∃ a c, v' = .slice a xs.length c := by obtain ⟨R, ⟨a, c, e, _⟩, _⟩ := h'; exact ⟨a, c, e⟩
  obtain ⟨n, hn⟩ : ∃ n, n = xs.length := ⟨_, rfl⟩
  have H1 := Lib.hid h
  have H2 := Lib.hid h'
  have HF := Lib.hid hf
  rw [← hn] at H1 H2 hl ⊢
  have HN := Lib.hid hn
  clear h h' hf hn
  go_enter Try.func9, Try.ntmps9
  go_wp2
  go_loopw [5] (fun i wr => ∃ k : Nat, k ≤ n ∧ i = .int .i64 k ∧ Gr w wr) (fun i _ => n - (intOf i).toNat)
  case atStart => exact ⟨0, Nat.zero_le _, rfl, Gr.refl _⟩
  case round =>
    obtain ⟨k, hk, rfl, hg⟩ := hrel
    have HG := Lib.hid hg
    clear hg
    by_cases hlt : k < n
    · obtain ⟨B1, o1, sv1, ev1, rfl, hB1, p0, p1, p2, p3, p4, p5, p6, i1, ok1⟩ := H1.out.at k (by rw [← HN.out]; exact hlt)
      obtain ⟨B2, o2, sv2, ev2, rfl, hB2, q0, q1, q2, q3, q4, q5, q6, i2, ok2⟩ := H2.out.at k (by rw [← HN.out]; exact hlt)
      have hfx : Forms (xs[k]'(by rw [← HN.out]; exact hlt)).effs := HF.out _ (List.getElem_mem _)
      obtain ⟨x, hx⟩ : ∃ x, x = xs[k]'(by rw [← HN.out]; exact hlt) := ⟨_, rfl⟩
      rw [← hx] at p0 p1 p2 p3 p6 i1 ok1 q0 q1 q2 q3 q6 i2 ok2 hfx
      clear hx
      have T : Hid (∀ W, Gr w W → (W.cell? ⟨B1, o1 + k * 7, Option.none⟩ = some (.int .i64 x.origin) ∧ W.cell? ⟨B1, o1 + k * 7 + 1, Option.none⟩ = some (.int .u64 (x.seq : Int)) ∧ W.cell? ⟨B1, o1 + k * 7 + 2, Option.none⟩ = some (.int .i64 x.region) ∧ W.cell? ⟨B1, o1 + k * 7 + 3, Option.none⟩ = some (.int .u64 (x.epoch : Int)) ∧ W.cell? ⟨B1, o1 + k * 7 + 4, Option.none⟩ = some (sv1) ∧ W.cell? ⟨B1, o1 + k * 7 + 5, Option.none⟩ = some (ev1) ∧ W.cell? ⟨B1, o1 + k * 7 + 6, Option.none⟩ = some (.int .u32 (x.closed : Int))) ∧ (W.cell? ⟨B2, o2 + k * 7, Option.none⟩ = some (.int .i64 x.origin) ∧ W.cell? ⟨B2, o2 + k * 7 + 1, Option.none⟩ = some (.int .u64 (x.seq : Int)) ∧ W.cell? ⟨B2, o2 + k * 7 + 2, Option.none⟩ = some (.int .i64 x.region) ∧ W.cell? ⟨B2, o2 + k * 7 + 3, Option.none⟩ = some (.int .u64 (x.epoch : Int)) ∧ W.cell? ⟨B2, o2 + k * 7 + 4, Option.none⟩ = some (sv2) ∧ W.cell? ⟨B2, o2 + k * 7 + 5, Option.none⟩ = some (ev2) ∧ W.cell? ⟨B2, o2 + k * 7 + 6, Option.none⟩ = some (.int .u32 (x.closed : Int)))) := Lib.hid fun W hW =>
        ⟨⟨(hW.cell (p := ⟨B1, o1 + k * 7, Option.none⟩) hB1).trans p0, (hW.cell (p := ⟨B1, o1 + k * 7 + 1, Option.none⟩) hB1).trans p1, (hW.cell (p := ⟨B1, o1 + k * 7 + 2, Option.none⟩) hB1).trans p2, (hW.cell (p := ⟨B1, o1 + k * 7 + 3, Option.none⟩) hB1).trans p3, (hW.cell (p := ⟨B1, o1 + k * 7 + 4, Option.none⟩) hB1).trans p4, (hW.cell (p := ⟨B1, o1 + k * 7 + 5, Option.none⟩) hB1).trans p5, (hW.cell (p := ⟨B1, o1 + k * 7 + 6, Option.none⟩) hB1).trans p6⟩, ⟨(hW.cell (p := ⟨B2, o2 + k * 7, Option.none⟩) hB2).trans q0, (hW.cell (p := ⟨B2, o2 + k * 7 + 1, Option.none⟩) hB2).trans q1, (hW.cell (p := ⟨B2, o2 + k * 7 + 2, Option.none⟩) hB2).trans q2, (hW.cell (p := ⟨B2, o2 + k * 7 + 3, Option.none⟩) hB2).trans q3, (hW.cell (p := ⟨B2, o2 + k * 7 + 4, Option.none⟩) hB2).trans q4, (hW.cell (p := ⟨B2, o2 + k * 7 + 5, Option.none⟩) hB2).trans q5, (hW.cell (p := ⟨B2, o2 + k * 7 + 6, Option.none⟩) hB2).trans q6⟩⟩
      have S := Lib.hid (And.intro i1 (And.intro i2 (And.intro hfx ok1)))
      clear p0 p1 p2 p3 p4 p5 p6 q0 q1 q2 q3 q4 q5 q6 i1 i2 hfx ok1 ok2
      have hg2 : Gr w wr.drew := HG.out.trans (below_drewN (Below.refl _ wr) 1)
      have HG2 := Lib.hid hg2
      clear hg2
      have hk0 : (0 : Int) ≤ (k : Int) := by omega
      have hk1 : (k : Int) < (n : Int) := by omega
      go_wp2
      apply wp_region_draw_grow (.eq _ :: .eq _ :: .eq _ :: .eq _ :: .eq _ :: .eq _ :: .eq _ :: .eq _ :: .eq _ :: .eq _ :: []) (by kernel_rfl) (by kernel_rfl) trivial
      repeat
        apply wpG_eq
        · intro W hW _
          obtain ⟨⟨x0, x1, x2, x3, x4, x5, x6⟩, ⟨y0, y1, y2, y3, y4, y5, y6⟩⟩ := T.out W (HG2.out.trans hW)
          unfold opG
          go_simp
          exact resG_eq_mk _ _ _
        simp only [Act.put, List.setIfInBounds_toArray, List.set_cons_zero, List.set_cons_succ]
      apply wpG_eq
      · intro W hW hs
        have gW := HG2.out.trans hW
        unfold opG
        go_simp
        refine resG_call ((same_true W x sv1 ev1 sv2 ev2 (S.out.1.below gW) (S.out.2.1.below gW) S.out.2.2.1 (Nat.le_trans S.out.2.2.2.1 (by decide)) (Nat.le_trans S.out.2.2.2.2 (by decide))).mono ?_)
        rintro e W2 ⟨rfl, g2⟩
        exact ⟨_, rfl, g2, rfl⟩
      simp only [Act.put, List.setIfInBounds_toArray, List.set_cons_zero, List.set_cons_succ]
      repeat
        apply wpG_eq
        · intro W hW _
          unfold opG
          go_simp
          exact resG_eq_mk _ _ _
        simp only [Act.put, List.setIfInBounds_toArray, List.set_cons_zero, List.set_cons_succ]
      apply wpG_nil
      intro W9 hW9 hsAll
      go_wp2
      go_roundw
      case rel => exact ⟨k + 1, by omega, by go_num, HG2.out.trans hW9⟩
      case measure => simp [intOf]; omega
    · obtain rfl : k = n := by omega
      go_wp2
      go_ret
      exact ⟨rfl, HG.out⟩
end Go.Proofs.Ytpdninnnpoiblaa
