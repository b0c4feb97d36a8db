/-
  The document's tokens: In, Go of one by value; a row of them.
-/
import Derived.Test.YthckedmfjmbopaaTokActs
set_option linter.unusedVariables false
namespace Go.Proofs.Ythckedmfjmbopaa
open Go.RowKit

/-- A token as a value. -/
def tokV (t : Tok) (fv : Value) : Value := .agg #[.int .u64 (t.e : Int), fv, .bool t.held, .bool t.out]
/-- What the call answers: a token that reads as x, its stamp the old one or new. -/
def RefRet (w : World) (fv : Value) (x : Tok × Int) (en : Ending) (w' : World) : Prop :=
  ∃ u, en = .returned (.tuple #[.agg #[.int .u64 (x.1.e : Int), u, .bool x.1.held, .bool x.1.out], .int .i64 x.2]) ∧ Sl w' u (nums x.1.f) ∧ (∀ k, u.ownBlock = some k → fv.ownBlock = some k ∨ w.heap.size ≤ k ∧ k < w'.heap.size) ∧ Gr w w'

theorem run_append_new (W : World) (y : Value) (l : List Nat) (hy : Sl W y (nums l)) (hl : l.length ≤ 1000000) :
    ∃ v' w', (Builtin.append_ #[28, 28] 28 #[.slice (some ⟨W.heap.size, 0, none⟩) 0 0, y]).run Try.prog (W.alloc (.cells #[] 27)) = .ok v' w' ∧ Own w' W.heap.size 27 v' (nums l) ∧ Gr W w' := by
  obtain ⟨v', w', h1, h2, h3⟩ := run_append_n (W.alloc (.cells #[] 27)) W.heap.size (.slice (some ⟨W.heap.size, 0, none⟩) 0 0) y [] l (Own.nil_lit _ _ (Nat.le_refl _)) (hy.below (below_a _ _)) (by simp; omega) (by simp)
  exact ⟨v', w', h1, by rw [List.nil_append] at h2; exact h2, (below_a W _).grown h3 (by simp) (fun k hk => by simp [Value.ownBlock] at hk; omega)⟩
theorem ret_ref (w w' : World) (u fv : Value) (x : Tok × Int) (h1 : Sl w' u (nums x.1.f)) (h2 : ∀ k, u.ownBlock = some k → fv.ownBlock = some k ∨ w.heap.size ≤ k ∧ k < w'.heap.size) (h3 : Gr w w') :
    RefRet w fv x (.returned (.tuple #[.agg #[.int .u64 (x.1.e : Int), u, .bool x.1.held, .bool x.1.out], .int .i64 x.2])) w' := ⟨u, rfl, h1, h2, h3⟩

theorem set4_block {w : World} {B : Nat} {t : TypeId} {x0 x1 x2 x3 : Value} (h : w.heap[B]? = some (.cells #[x0, x1, x2, x3] t (0, 0))) (a b c d : Value) :
    ((((w.setCell ⟨B, 0, none⟩ a).setCell ⟨B, 1, none⟩ b).setCell ⟨B, 2, none⟩ c).setCell ⟨B, 3, none⟩ d).heap[B]? = some (.cells #[a, b, c, d] t (0, 0)) := by
  simp [World.setCell, Array.getElem?_modify, h]
theorem set4_cells {W : World} {B : Nat} {t : TypeId} {a b c d : Value} (h : W.heap[B]? = some (.cells #[a, b, c, d] t (0, 0))) :
    W.cell? ⟨B, 0, none⟩ = some a ∧ W.cell? ⟨B, 1, none⟩ = some b ∧ W.cell? ⟨B, 2, none⟩ = some c ∧ W.cell? ⟨B, 3, none⟩ = some d ∧ ∀ i, W.frozen? ⟨B, i, none⟩ = false :=
  ⟨by simp [World.cell?, h], by simp [World.cell?, h], by simp [World.cell?, h], by simp [World.cell?, h], fun i => by simp [World.frozen?, h]⟩
theorem set4_gr {w w1 : World} {B : Nat} (hg : Gr w w1) (hB : w.heap.size ≤ B) (a b c d : Value) : Gr w ((((w1.setCell ⟨B, 0, none⟩ a).setCell ⟨B, 1, none⟩ b).setCell ⟨B, 2, none⟩ c).setCell ⟨B, 3, none⟩ d) :=
  (((Below.setCell (p := ⟨B, 0, none⟩) hg hB a).setCell (p := ⟨B, 1, none⟩) hB b).setCell (p := ⟨B, 2, none⟩) hB c).setCell (p := ⟨B, 3, none⟩) hB d
theorem set4_ch (w1 : World) (B : Nat) (a b c d : Value) : Ch (fun k => k = B) w1 ((((w1.setCell ⟨B, 0, none⟩ a).setCell ⟨B, 1, none⟩ b).setCell ⟨B, 2, none⟩ c).setCell ⟨B, 3, none⟩ d) := by
  refine ⟨rfl, rfl, rfl, by simp, fun k _ hn => ?_⟩
  rw [Below.heap_setCell _ ⟨B, _, none⟩ _ k (fun e => hn e), Below.heap_setCell _ ⟨B, _, none⟩ _ k (fun e => hn e), Below.heap_setCell _ ⟨B, _, none⟩ _ k (fun e => hn e), Below.heap_setCell _ ⟨B, _, none⟩ _ k (fun e => hn e)]
/-- Two boxes that have just been laid, the world then grown. -/
theorem box2 {w w1 : World} (A B : Array Value) (t : TypeId) (hb : Below ((w.alloc (.cells A t)).alloc (.cells B t)).heap.size ((w.alloc (.cells A t)).alloc (.cells B t)) w1) :
    w1.heap[w.heap.size]? = some (.cells A t (0, 0)) ∧ w1.heap[w.heap.size + 1]? = some (.cells B t (0, 0)) := by
  constructor
  · rw [hb.block _ (by simp; omega)]
    show ((w.heap.push _).push _)[w.heap.size]? = _
    rw [Array.getElem?_push_lt (by simp)]; simp
  · rw [hb.block _ (by simp)]
    show ((w.heap.push _).push _)[w.heap.size + 1]? = _
    rw [show w.heap.size + 1 = (w.heap.push (Obj.cells A t)).size from by simp]
    exact Array.getElem?_push_size

set_option maxHeartbeats 400000 in
theorem refin_any (w : World) (t : Tok) (e : Nat) (fv F V : Value) (f v : List Nat) (st : Sl w fv (nums t.f)) (sf : Sl w F (nums f)) (sv : Sl w V (nums v)) (lf : f.length ≤ 1000000) (lv : v.length ≤ 1000000) :
    Calls Try.prog 11 #[.agg #[.int .u64 (t.e : Int), fv, .bool t.held, .bool t.out], .int .u64 (e : Int), F, V] w (RefRet w fv (inTok e f v t)) := by
  obtain ⟨ta, tc, rfl⟩ := st.oneCells
  obtain ⟨Fa, Fc, rfl⟩ := sf.oneCells
  obtain ⟨Va, Vc, rfl⟩ := sv.oneCells
  obtain ⟨te, tl, th, to⟩ := t
  simp only at st ⊢
  simp only [nums_length] at st sf sv ⊢
  have gA : ∀ A B : Obj, Gr w ((w.alloc A).alloc B) := fun A B => ((Gr.refl w).alloc A).alloc B
  have SA : ∀ A B : Obj, Sl ((w.alloc A).alloc B) (.slice ta tl.length tc) (nums tl) := fun A B => st.below (gA A B)
  by_cases h1 : th = true ∨ e ≤ te
  · have ei : inTok e f v ⟨te, tl, th, to⟩ = (⟨te, tl, th, to⟩, 61) := by unfold inTok; rw [if_pos h1]
    rw [ei]
    cases th with
    | true =>
      go_enter Try.func11, Try.ntmps11
      go_wp2
      refine bodyPost_ret (v := .tuple #[.agg #[.int .u64 (te : Int), .slice ta tl.length tc, .bool true, .bool to], .int .i64 61]) (by simp [results, Try.f11, go_sem]) rfl ?_
      exact ret_ref w _ _ _ (⟨te, tl, true, to⟩, 61) (SA _ _) (fun k hk => .inl hk) (gA _ _)
    | false =>
      have hle : (e : Int) ≤ (te : Int) := by rcases h1 with h | h <;> simp_all
      clear h1
      go_enter Try.func11, Try.ntmps11
      go_wp2
      refine bodyPost_ret (v := .tuple #[.agg #[.int .u64 (te : Int), .slice ta tl.length tc, .bool false, .bool to], .int .i64 61]) (by simp [results, Try.f11, go_sem]) rfl ?_
      exact ret_ref w _ _ _ (⟨te, tl, false, to⟩, 61) (SA _ _) (fun k hk => .inl hk) (gA _ _)
  · have hf : th = false := by cases th <;> simp_all
    subst hf
    have hlt : (te : Int) < (e : Int) := by have : te < e := by omega
                                            omega
    cases hl : leqV f v with
    | false =>
      have ei : inTok e f v ⟨te, tl, false, to⟩ = (⟨te, tl, false, to⟩, 62) := by unfold inTok; rw [if_neg h1, if_pos hl]
      rw [ei]
      clear h1
      go_enter Try.func11, Try.ntmps11
      go_wp2_with fail
      refine (refleq_any _ _ _ f v (sf.below (gA _ _)) (sv.below (gA _ _)) lf lv).mono ?_
      rintro en w1 ⟨rfl, b1⟩
      rw [hl]
      obtain ⟨HB1, HB2⟩ := box2 _ _ _ b1
      obtain ⟨c0, c1, c2, c3, _⟩ := set4_cells HB1
      obtain ⟨k0, k1, k2, k3, kz⟩ := set4_cells HB2
      have z0 := kz 0
      have z1 := kz 1
      have z2 := kz 2
      have z3 := kz 3
      clear kz
      have HB2 := Lib.hid HB2
      have g1 := Lib.hid ((gA _ _).trans b1)
      clear HB1 b1 SA gA
      go_wp2
      have hb := set4_block HB2.out (.int .u64 (te : Int)) (.slice ta tl.length tc) (.bool false) (.bool to)
      have hgr := set4_gr g1.out (Nat.le_succ _) (.int .u64 (te : Int)) (.slice ta tl.length tc) (.bool false) (.bool to)
      have hcc := set4_ch w1 (w.heap.size + 1) (.int .u64 (te : Int)) (.slice ta tl.length tc) (.bool false) (.bool to)
      generalize ((((w1.setCell ⟨w.heap.size + 1, 0, none⟩ (.int .u64 (te : Int))).setCell ⟨w.heap.size + 1, 1, none⟩ (.slice ta tl.length tc)).setCell ⟨w.heap.size + 1, 2, none⟩ (.bool false)).setCell ⟨w.heap.size + 1, 3, none⟩ (.bool to)) = Wf at *
      obtain ⟨f0, f1, f2, f3, _⟩ := set4_cells hb
      refine bodyPost_ret (v := .tuple #[.agg #[.int .u64 (te : Int), (.slice ta tl.length tc), .bool false, .bool to], .int .i64 62]) (by simp [results, Try.f11, go_sem, f0, f1, f2, f3]) rfl ?_
      exact ret_ref w Wf _ _ (⟨te, tl, false, to⟩, 62) (st.below hgr) (fun k hk => .inl hk) hgr
    | true =>
      have ei : inTok e f v ⟨te, tl, false, to⟩ = (⟨e, f, true, false⟩, 0) := by unfold inTok; rw [if_neg h1, if_neg (by simp [hl])]
      rw [ei]
      clear h1
      go_enter Try.func11, Try.ntmps11
      go_wp2_with fail
      refine (refleq_any _ _ _ f v (sf.below (gA _ _)) (sv.below (gA _ _)) lf lv).mono ?_
      rintro en w1 ⟨rfl, b1⟩
      rw [hl]
      have hsz : w.heap.size + 1 < w1.heap.size := by have := b1.size; simp at this; omega
      have g1 : Gr w w1 := (gA _ _).trans b1
      obtain ⟨nv, w2, hrun, ho, g2⟩ := run_append_new w1 _ f (sf.below g1) lf
      obtain ⟨na, nc, rfl⟩ := ho.shape
      rw [nums_length] at ho hrun
      have HRUN := Lib.hid hrun
      clear hrun
      have b1 := step0 b1 g2
      obtain ⟨HB1, HB2⟩ := box2 _ _ _ b1
      obtain ⟨k0, k1, k2, k3, kz⟩ := set4_cells HB2
      have z0 := kz 0
      have z1 := kz 1
      have z2 := kz 2
      have z3 := kz 3
      clear kz
      have HB2 := Lib.hid HB2
      have HO := Lib.hid ho
      have g3 := Lib.hid (g1.trans g2)
      have G1 := Lib.hid g1
      clear HB1 b1 SA gA ho g1 g2
      go_wp2_with (at_builtin; refine wpList_run_append HRUN.out rfl _ _ rfl rfl rfl ?_)
      have hb := set4_block HB2.out (.int .u64 (e : Int)) (.slice na f.length nc) (.bool true) (.bool false)
      have hgr := set4_gr g3.out (Nat.le_succ _) (.int .u64 (e : Int)) (.slice na f.length nc) (.bool true) (.bool false)
      have hcc := set4_ch w2 (w.heap.size + 1) (.int .u64 (e : Int)) (.slice na f.length nc) (.bool true) (.bool false)
      have hsf : ((((w2.setCell ⟨w.heap.size + 1, 0, none⟩ (.int .u64 (e : Int))).setCell ⟨w.heap.size + 1, 1, none⟩ (.slice na f.length nc)).setCell ⟨w.heap.size + 1, 2, none⟩ (.bool true)).setCell ⟨w.heap.size + 1, 3, none⟩ (.bool false)).heap.size = w2.heap.size := by simp
      generalize ((((w2.setCell ⟨w.heap.size + 1, 0, none⟩ (.int .u64 (e : Int))).setCell ⟨w.heap.size + 1, 1, none⟩ (.slice na f.length nc)).setCell ⟨w.heap.size + 1, 2, none⟩ (.bool true)).setCell ⟨w.heap.size + 1, 3, none⟩ (.bool false)) = Wf at *
      obtain ⟨f0, f1, f2, f3, _⟩ := set4_cells hb
      refine bodyPost_ret (v := .tuple #[.agg #[.int .u64 (e : Int), (.slice na f.length nc), .bool true, .bool false], .int .i64 0]) (by simp [results, Try.f11, go_sem, f0, f1, f2, f3]) rfl ?_
      refine ret_ref w Wf _ _ (⟨e, f, true, false⟩, 0) (HO.out.sl.ch hcc (fun k hk e => ?_)) (fun k hk => .inr ?_) hgr
      · have := (World.ownsRow.lt HO.out k hk).1; omega
      · have := World.ownsRow.lt HO.out k hk; have h3 := G1.out.size; omega

set_option maxHeartbeats 400000 in
theorem refgo_any (w : World) (t : Tok) (e : Nat) (fv V : Value) (v : List Nat) (st : Sl w fv (nums t.f)) (sv : Sl w V (nums v)) (lv : v.length ≤ 1000000) :
    Calls Try.prog 12 #[.agg #[.int .u64 (t.e : Int), fv, .bool t.held, .bool t.out], .int .u64 (e : Int), V] w (RefRet w fv (outTok e v t)) := by
  obtain ⟨ta, tc, rfl⟩ := st.oneCells
  obtain ⟨Va, Vc, rfl⟩ := sv.oneCells
  obtain ⟨te, tl, th, to⟩ := t
  simp only at st ⊢
  simp only [nums_length] at st sv ⊢
  have gA : ∀ A B : Obj, Gr w ((w.alloc A).alloc B) := fun A B => ((Gr.refl w).alloc A).alloc B
  have SA : ∀ A B : Obj, Sl ((w.alloc A).alloc B) (.slice ta tl.length tc) (nums tl) := fun A B => st.below (gA A B)
  by_cases h1 : th = false ∨ te ≠ e
  · have ei : outTok e v ⟨te, tl, th, to⟩ = (⟨te, tl, th, to⟩, 61) := by unfold outTok; rw [if_pos h1]
    rw [ei]
    cases th with
    | false =>
      go_enter Try.func12, Try.ntmps12
      go_wp2
      refine bodyPost_ret (v := .tuple #[.agg #[.int .u64 (te : Int), .slice ta tl.length tc, .bool false, .bool to], .int .i64 61]) (by simp [results, Try.f12, go_sem]) rfl ?_
      exact ret_ref w _ _ _ (⟨te, tl, false, to⟩, 61) (SA _ _) (fun k hk => .inl hk) (gA _ _)
    | true =>
      have hne : ((te : Int) != (e : Int)) = true := by rcases h1 with h | h <;> simp_all <;> omega
      have hne2 : ((te : Int) == (e : Int)) = false := by rcases h1 with h | h <;> simp_all <;> omega
      clear h1
      go_enter Try.func12, Try.ntmps12
      go_wp2
      refine bodyPost_ret (v := .tuple #[.agg #[.int .u64 (te : Int), .slice ta tl.length tc, .bool true, .bool to], .int .i64 61]) (by simp [results, Try.f12, go_sem]) rfl ?_
      exact ret_ref w _ _ _ (⟨te, tl, true, to⟩, 61) (SA _ _) (fun k hk => .inl hk) (gA _ _)
  · have hf : th = true := by cases th <;> simp_all
    have he : te = e := by cases th <;> simp_all
    subst hf he
    have ei : outTok te v ⟨te, tl, true, to⟩ = (⟨te, v, false, true⟩, 0) := by unfold outTok; rw [if_neg h1]
    rw [ei]
    clear h1
    obtain ⟨W0, hW0⟩ : ∃ W0, W0 = (w.alloc (.cells #[.int .u64 (te : Int), .slice ta tl.length tc, .bool true, .bool to] 34)).alloc (.cells #[.int .u64 0, .slice none 0 0, .bool false, .bool false] 34) := ⟨_, rfl⟩
    have g1 : Gr w W0 := by rw [hW0]; exact gA _ _
    have hsz : W0.heap.size = w.heap.size + 1 + 1 := by rw [hW0]; simp
    obtain ⟨nv, w2, hrun, ho, g2⟩ := run_append_new W0 _ v (sv.below g1) lv
    obtain ⟨na, nc, rfl⟩ := ho.shape
    rw [nums_length] at ho hrun
    obtain ⟨HB1, HB2⟩ := box2 (w := w) (w1 := w2) #[.int .u64 (te : Int), .slice ta tl.length tc, .bool true, .bool to] #[.int .u64 0, .slice none 0 0, .bool false, .bool false] 34 (by rw [← hW0]; exact g2)
    rw [hW0, World.size_alloc, World.size_alloc] at hrun
    have HRUN := Lib.hid hrun
    clear hrun
    obtain ⟨k0, k1, k2, k3, kz⟩ := set4_cells HB2
    have z0 := kz 0
    have z1 := kz 1
    have z2 := kz 2
    have z3 := kz 3
    clear kz
    have HB2 := Lib.hid HB2
    have HO := Lib.hid ho
    have g3 := Lib.hid (g1.trans g2)
    have G1 := Lib.hid (show w.heap.size + 1 < W0.heap.size by omega)
    clear HB1 SA gA ho g1 g2 hsz hW0
    go_enter Try.func12, Try.ntmps12
    go_wp2_with (at_builtin; refine wpList_run_append HRUN.out rfl _ _ rfl rfl rfl ?_)
    have hb := set4_block HB2.out (.int .u64 (te : Int)) (.slice na v.length nc) (.bool false) (.bool true)
    have hgr := set4_gr g3.out (Nat.le_succ _) (.int .u64 (te : Int)) (.slice na v.length nc) (.bool false) (.bool true)
    have hcc := set4_ch w2 (w.heap.size + 1) (.int .u64 (te : Int)) (.slice na v.length nc) (.bool false) (.bool true)
    have hsf : ((((w2.setCell ⟨w.heap.size + 1, 0, none⟩ (.int .u64 (te : Int))).setCell ⟨w.heap.size + 1, 1, none⟩ (.slice na v.length nc)).setCell ⟨w.heap.size + 1, 2, none⟩ (.bool false)).setCell ⟨w.heap.size + 1, 3, none⟩ (.bool true)).heap.size = w2.heap.size := by simp
    generalize ((((w2.setCell ⟨w.heap.size + 1, 0, none⟩ (.int .u64 (te : Int))).setCell ⟨w.heap.size + 1, 1, none⟩ (.slice na v.length nc)).setCell ⟨w.heap.size + 1, 2, none⟩ (.bool false)).setCell ⟨w.heap.size + 1, 3, none⟩ (.bool true)) = Wf at *
    obtain ⟨f0, f1, f2, f3, _⟩ := set4_cells hb
    refine bodyPost_ret (v := .tuple #[.agg #[.int .u64 (te : Int), (.slice na v.length nc), .bool false, .bool true], .int .i64 0]) (by simp [results, Try.f12, go_sem, f0, f1, f2, f3]) rfl ?_
    refine ret_ref w Wf _ _ (⟨te, v, false, true⟩, 0) (HO.out.sl.ch hcc (fun k hk e => ?_)) (fun k hk => .inr ?_) hgr
    · have := (World.ownsRow.lt HO.out k hk).1; have h3 := G1.out; omega
    · have := World.ownsRow.lt HO.out k hk; have h3 := G1.out; omega
end Go.Proofs.Ythckedmfjmbopaa
