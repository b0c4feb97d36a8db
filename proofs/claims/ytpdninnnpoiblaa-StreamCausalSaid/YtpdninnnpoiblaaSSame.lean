/-
  The document's Node, Effects, Same, All: of what is the same, true.
-/
import Derived.Test.YtpdninnnpoiblaaSOpenW
import Derived.Test.YtpdninnnpoiblaaRefLeq
import Derived.Deep.DeepCutAuto
set_option linter.unusedVariables false
namespace Go.Proofs.Ytpdninnnpoiblaa
open Go.RowKit

def CellsAt (w : World) (b : Nat) (cs : Array Value) (t : TypeId) : Prop := w.heap[b]? = some (.cells cs t (0, 0))
theorem CellsAt.new (w : World) (cs : Array Value) (t : TypeId) : CellsAt (w.alloc (.cells cs t)) w.heap.size cs t := heap_alloc_new w _
theorem CellsAt.lt {w : World} {b : Nat} {cs : Array Value} {t : TypeId} (h : CellsAt w b cs t) : b < w.heap.size := (Array.getElem?_eq_some_iff.1 h).1
theorem CellsAt.gr {w w' : World} {b : Nat} {cs : Array Value} {t : TypeId} (h : CellsAt w b cs t) (g : Gr w w') : CellsAt w' b cs t := (g.block _ h.lt).trans h
theorem CellsAt.cell {w : World} {b : Nat} {cs : Array Value} {t : TypeId} (h : CellsAt w b cs t) (j : Nat) : w.cell? ⟨b, j, none⟩ = cs[j]? := by
  unfold CellsAt at h
  simp [World.cell?, h]

set_option maxHeartbeats 2000000 in
theorem node_true (w : World) (dv dv' : Value) (l : List UInt8) (a b c : Nat) (d : Int) (e f g h : Nat) (h1 : Sl w dv (bytes l)) (h2 : Sl w dv' (bytes l)) :
    Calls Try.prog 33 #[.agg #[dv, .int .u32 (a : Int), .int .u32 (b : Int), .int .u32 (c : Int), .int .i64 d, .int .u32 (e : Int), .int .u64 (f : Int), .int .u64 (g : Int), .int .u64 (h : Int)], .agg #[dv', .int .u32 (a : Int), .int .u32 (b : Int), .int .u32 (c : Int), .int .i64 d, .int .u32 (e : Int), .int .u64 (f : Int), .int .u64 (g : Int), .int .u64 (h : Int)]] w fun en w' => en = .returned (.bool true) ∧ Gr w w' := by
  obtain ⟨a1, c1, rfl, _⟩ := h1.bytes
  obtain ⟨a2, c2, rfl, _⟩ := h2.bytes
  obtain ⟨w1, hw1⟩ : ∃ w1, w1 = w.alloc (.cells #[.slice a1 l.length c1, .int .u32 (a : Int), .int .u32 (b : Int), .int .u32 (c : Int), .int .i64 d, .int .u32 (e : Int), .int .u64 (f : Int), .int .u64 (g : Int), .int .u64 (h : Int)] 43) := ⟨_, rfl⟩
  obtain ⟨w2, hw2⟩ : ∃ w2, w2 = w1.alloc (.cells #[.slice a2 l.length c2, .int .u32 (a : Int), .int .u32 (b : Int), .int .u32 (c : Int), .int .i64 d, .int .u32 (e : Int), .int .u64 (f : Int), .int .u64 (g : Int), .int .u64 (h : Int)] 43) := ⟨_, rfl⟩
  have e1 : w1.heap.size = w.heap.size + 1 := by rw [hw1]; simp
  have g1 : Gr w w1 := by rw [hw1]; exact (Gr.refl w).alloc _
  have g2 : Gr w1 w2 := by rw [hw2]; exact (Gr.refl w1).alloc _
  have k1 : CellsAt w2 w.heap.size #[.slice a1 l.length c1, .int .u32 (a : Int), .int .u32 (b : Int), .int .u32 (c : Int), .int .i64 d, .int .u32 (e : Int), .int .u64 (f : Int), .int .u64 (g : Int), .int .u64 (h : Int)] 43 := CellsAt.gr (by rw [hw1]; exact CellsAt.new _ _ _) g2
  have k2 : CellsAt w2 (w.heap.size + 1) #[.slice a2 l.length c2, .int .u32 (a : Int), .int .u32 (b : Int), .int .u32 (c : Int), .int .i64 d, .int .u32 (e : Int), .int .u64 (f : Int), .int .u64 (g : Int), .int .u64 (h : Int)] 43 := by rw [hw2, ← e1]; exact CellsAt.new _ _ _
  have s1 := run_string_sl (P := Try.prog) 39 5 9 Try.underlying39 Try.underlying5 Try.underlying9 (h1.below (Gr.trans g1 g2))
  have s2 := run_string_sl (P := Try.prog) 39 5 9 Try.underlying39 Try.underlying5 Try.underlying9 (h2.below (Gr.trans g1 g2))
  have HW1 := Lib.hid hw1
  have HW2 := Lib.hid hw2
  have HG := Lib.hid (Gr.trans g1 g2)
  clear hw1 hw2 g1 g2 h1 h2 e1
  go_enter Try.func33, Try.ntmps33
  go_upto_region 1 with fail
  rw [← HW1.out, ← HW2.out]
  have x0 := k1.cell 0
  have x1 := k1.cell 1
  have x2 := k1.cell 2
  have x3 := k1.cell 3
  have x4 := k1.cell 4
  have x5 := k1.cell 5
  have x6 := k1.cell 6
  have x7 := k1.cell 7
  have x8 := k1.cell 8
  have y0 := k2.cell 0
  have y1 := k2.cell 1
  have y2 := k2.cell 2
  have y3 := k2.cell 3
  have y4 := k2.cell 4
  have y5 := k2.cell 5
  have y6 := k2.cell 6
  have y7 := k2.cell 7
  have y8 := k2.cell 8
  clear k1 k2
  go_wp2
  go_ret
  exact ⟨rfl, HG.out⟩

/-- Effects whose last cells are numbers. -/
def Forms (es : List EffD) : Prop := ∀ x ∈ es, EffF x
theorem Forms.at {es : List EffD} (h : Forms es) (k : Nat) (hk : k < es.length) : EffF es[k] := h _ (List.getElem_mem hk)
theorem Effs.at {w : World} {v : Value} {es : List EffD} (h : Effs w v es) (k : Nat) (hk : k < es.length) : ∃ B o dv, (∃ c, v = .slice (some ⟨B, o, none⟩) es.length c) ∧ B < w.heap.size ∧ Sl w dv (bytes es[k].data) ∧ ∀ j u, j < 11 → (effRow es[k] dv)[j]? = some u → w.cell? ⟨B, o + k * 11 + j, none⟩ = some u := by
  obtain ⟨R, ⟨a, cap, rfl, hcap, hr⟩, h2⟩ := h
  obtain ⟨B, o, rfl, hB, hc⟩ := hr.resolve_left (by omega)
  exact ⟨B, o, R k 2, ⟨cap, rfl⟩, hB, (h2 k hk).2.1, fun j u hj hu => by rw [hc k hk j hj, (h2 k hk).2.2 j u hu]⟩

set_option maxHeartbeats 4000000 in
theorem effs_true (w : World) (v v' : Value) (es : List EffD) (h : Effs w v es) (h' : Effs w v' es) (hf : Forms es) (hl : es.length ≤ 1000000) :
    Calls Try.prog 28 #[v, v'] w fun en w' => en = .returned (.bool true) ∧ Gr w w' := by
  obtain ⟨a1, c1, rfl⟩ := h.shape
  obtain ⟨a2, c2, rfl⟩ := h'.shape
  obtain ⟨n, hn⟩ : ∃ n, n = es.length := ⟨_, rfl⟩
  have H1 := Lib.hid h
  have H2 := Lib.hid h'
  have HF := Lib.hid hf
  rw [← hn] at H1 H2 hl ⊢
  have HN := Lib.hid hn
  clear h h' hf hn
  go_enter Try.func28, Try.ntmps28
  go_wp2
  go_loopw [5] (fun i wr => ∃ k : Nat, k ≤ n ∧ i = .int .i64 k ∧ Gr w wr) (fun i _ => n - (intOf i).toNat)
  case atStart => exact ⟨0, Nat.zero_le _, rfl, Gr.refl _⟩
  case round =>
    obtain ⟨k, hk, rfl, hg⟩ := hrel
    have HG := Lib.hid hg
    clear hg
    by_cases hlt : k < n
    · obtain ⟨B1, o1, d1, ⟨_, e1⟩, hB1, s1, t1⟩ := H1.out.at k (by rw [← HN.out]; exact hlt)
      obtain ⟨B2, o2, d2, ⟨_, e2⟩, hB2, s2, t2⟩ := H2.out.at k (by rw [← HN.out]; exact hlt)
      obtain ⟨x, hx⟩ : ∃ x, x = es[k]'(by rw [← HN.out]; exact hlt) := ⟨_, rfl⟩
      rw [← hx] at s1 s2 t1 t2
      have hfx : EffF x := by rw [hx]; exact HF.out.at k _
      clear hx
      injection e1 with e1 _ _
      injection e2 with e2 _ _
      subst e1 e2
      obtain ⟨p, gone, l, rest⟩ := x
      obtain ⟨a, b, c, d, e, f, g, h, hrest⟩ := hfx
      dsimp only at hrest s1 s2 t1 t2
      subst hrest
      have T : Hid (∀ W, Gr w W → (W.cell? ⟨B1, o1 + k * 11, none⟩ = some (.string ⟨p.toArray⟩) ∧ W.cell? ⟨B1, o1 + k * 11 + 1, none⟩ = some (.bool gone) ∧ W.cell? ⟨B1, o1 + k * 11 + 2, none⟩ = some (d1) ∧ W.cell? ⟨B1, o1 + k * 11 + 3, none⟩ = some (.int .u32 (a : Int)) ∧ W.cell? ⟨B1, o1 + k * 11 + 4, none⟩ = some (.int .u32 (b : Int)) ∧ W.cell? ⟨B1, o1 + k * 11 + 5, none⟩ = some (.int .u32 (c : Int)) ∧ W.cell? ⟨B1, o1 + k * 11 + 6, none⟩ = some (.int .i64 d) ∧ W.cell? ⟨B1, o1 + k * 11 + 7, none⟩ = some (.int .u32 (e : Int)) ∧ W.cell? ⟨B1, o1 + k * 11 + 8, none⟩ = some (.int .u64 (f : Int)) ∧ W.cell? ⟨B1, o1 + k * 11 + 9, none⟩ = some (.int .u64 (g : Int)) ∧ W.cell? ⟨B1, o1 + k * 11 + 10, none⟩ = some (.int .u64 (h : Int))) ∧ (W.cell? ⟨B2, o2 + k * 11, none⟩ = some (.string ⟨p.toArray⟩) ∧ W.cell? ⟨B2, o2 + k * 11 + 1, none⟩ = some (.bool gone) ∧ W.cell? ⟨B2, o2 + k * 11 + 2, none⟩ = some (d2) ∧ W.cell? ⟨B2, o2 + k * 11 + 3, none⟩ = some (.int .u32 (a : Int)) ∧ W.cell? ⟨B2, o2 + k * 11 + 4, none⟩ = some (.int .u32 (b : Int)) ∧ W.cell? ⟨B2, o2 + k * 11 + 5, none⟩ = some (.int .u32 (c : Int)) ∧ W.cell? ⟨B2, o2 + k * 11 + 6, none⟩ = some (.int .i64 d) ∧ W.cell? ⟨B2, o2 + k * 11 + 7, none⟩ = some (.int .u32 (e : Int)) ∧ W.cell? ⟨B2, o2 + k * 11 + 8, none⟩ = some (.int .u64 (f : Int)) ∧ W.cell? ⟨B2, o2 + k * 11 + 9, none⟩ = some (.int .u64 (g : Int)) ∧ W.cell? ⟨B2, o2 + k * 11 + 10, none⟩ = some (.int .u64 (h : Int)))) := Lib.hid fun W hW => by
        have c1 : ∀ j u, j < 11 → (effRow ⟨p, gone, l, [.int .u32 (a : Int), .int .u32 (b : Int), .int .u32 (c : Int), .int .i64 d, .int .u32 (e : Int), .int .u64 (f : Int), .int .u64 (g : Int), .int .u64 (h : Int)]⟩ d1)[j]? = some u → W.cell? ⟨B1, o1 + k * 11 + j, none⟩ = some u := fun j u hj hu => (hW.cell (p := ⟨B1, o1 + k * 11 + j, none⟩) hB1).trans (t1 j u hj hu)
        have c2 : ∀ j u, j < 11 → (effRow ⟨p, gone, l, [.int .u32 (a : Int), .int .u32 (b : Int), .int .u32 (c : Int), .int .i64 d, .int .u32 (e : Int), .int .u64 (f : Int), .int .u64 (g : Int), .int .u64 (h : Int)]⟩ d2)[j]? = some u → W.cell? ⟨B2, o2 + k * 11 + j, none⟩ = some u := fun j u hj hu => (hW.cell (p := ⟨B2, o2 + k * 11 + j, none⟩) hB2).trans (t2 j u hj hu)
        exact ⟨⟨c1 0 _ (by decide) rfl, c1 1 _ (by decide) rfl, c1 2 _ (by decide) rfl, c1 3 _ (by decide) rfl, c1 4 _ (by decide) rfl, c1 5 _ (by decide) rfl, c1 6 _ (by decide) rfl, c1 7 _ (by decide) rfl, c1 8 _ (by decide) rfl, c1 9 _ (by decide) rfl, c1 10 _ (by decide) rfl⟩, ⟨c2 0 _ (by decide) rfl, c2 1 _ (by decide) rfl, c2 2 _ (by decide) rfl, c2 3 _ (by decide) rfl, c2 4 _ (by decide) rfl, c2 5 _ (by decide) rfl, c2 6 _ (by decide) rfl, c2 7 _ (by decide) rfl, c2 8 _ (by decide) rfl, c2 9 _ (by decide) rfl, c2 10 _ (by decide) rfl⟩⟩
      have S := Lib.hid (And.intro s1 s2)
      clear s1 s2 t1 t2
      have hg2 : Gr w wr.drew := HG.out.trans (below_drewN (Below.refl _ wr) 1)
      have HG2 := Lib.hid hg2
      clear hg2
      have hk0 : (0 : Int) ≤ (k : Int) := by omega
      have hk1 : (k : Int) < (n : Int) := by omega
      go_wp2
      apply wp_region_draw_grow (.eq _ :: .eq _ :: .eq _ :: .eq _ :: .eq _ :: .eq _ :: .eq _ :: .eq _ :: .eq _ :: .eq _ :: .eq _ :: .eq _ :: .eq _ :: .eq _ :: .eq _ :: .eq _ :: .eq _ :: .eq _ :: .eq _ :: .eq _ :: .eq _ :: .eq _ :: .eq _ :: .eq _ :: .eq _ :: .eq _ :: .eq _ :: .eq _ :: .eq _ :: .eq _ :: .eq _ :: .eq _ :: .eq _ :: .eq _ :: .eq _ :: .eq _ :: .eq _ :: .eq _ :: []) (by kernel_rfl) (by kernel_rfl) trivial
      repeat
        apply wpG_eq
        · intro W hW _
          obtain ⟨⟨x0, x1, x2, x3, x4, x5, x6, x7, x8, x9, x10⟩, ⟨y0, y1, y2, y3, y4, y5, y6, y7, y8, y9, y10⟩⟩ := T.out W (HG2.out.trans hW)
          unfold opG
          go_simp
          exact resG_eq_mk _ _ _
        simp only [Act.put, List.setIfInBounds_toArray, List.set_cons_zero, List.set_cons_succ]
      apply wpG_eq
      · intro W hW hs
        obtain ⟨s1, s2⟩ := S.out
        have gW := HG2.out.trans hW
        unfold opG
        go_simp
        refine resG_call ((node_true W d1 d2 l a b c d e f g h (s1.below gW) (s2.below gW)).mono ?_)
        rintro e W2 ⟨rfl, g2⟩
        exact ⟨_, rfl, g2, rfl⟩
      simp only [Act.put, List.setIfInBounds_toArray, List.set_cons_zero, List.set_cons_succ]
      repeat
        apply wpG_eq
        · intro W hW _
          unfold opG
          go_simp
          exact resG_eq_mk _ _ _
        simp only [Act.put, List.setIfInBounds_toArray, List.set_cons_zero, List.set_cons_succ]
      apply wpG_nil
      intro W9 hW9 hsAll
      go_wp2
      go_roundw
      case rel => exact ⟨k + 1, by omega, by go_num, HG2.out.trans hW9⟩
      case measure => simp [intOf]; omega
    · obtain rfl : k = n := by omega
      go_wp2
      go_ret
      exact ⟨rfl, HG.out⟩
end Go.Proofs.Ytpdninnnpoiblaa
