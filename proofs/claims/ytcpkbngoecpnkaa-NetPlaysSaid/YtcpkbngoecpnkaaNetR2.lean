/-
  The document's net in memory; Cuts.
-/
import Derived.Test.YtcpkbngoecpnkaaNetR1
set_option linter.unusedVariables false
namespace Go.Proofs.Ytcpkbngoecpnkaa
open Go.RowKit

def rowC (p : AdD × AdD) : List Value := [.int .i64 p.1.1, .int .i64 p.1.2, .int .i64 p.2.1, .int .i64 p.2.2]
/-- The document's net: made behind w0. -/
structure RNet (w0 w : World) (Q : Nat) (sv lv cv : Value) (ps : List (LetD × Value)) (cuts : List (AdD × AdD)) (sizes : List Int) : Prop where
  obj : CellsAt w Q #[sv, lv, cv] 57
  szs : Sl w0 sv (ints sizes)
  szl : sizes.length ≤ 4
  lets : LetsR w w0.heap.size lv ps
  cuts : OwnR w w0.heap.size 76 4 cv (cuts.map rowC)
  bQ : w0.heap.size ≤ Q
  gr : Gr w0 w
def refB (Q : Nat) (lv cv : Value) (j : Nat) : Prop := j = Q ∨ lv.ownBlock = some j ∨ cv.ownBlock = some j
def cutsR (cuts : List (AdD × AdD)) (a b : AdD) : Bool := cuts.any fun p => decide (p.1 = a) && decide (p.2 = b) || decide (p.1 = b) && decide (p.2 = a)
theorem OwnR.cellsC {w : World} {base k : Nat} {e : TypeId} {v : Value} {rs : List (List Value)} (h : OwnR w base e k v rs) : ∀ j, v.ownBlock = some j → ∃ cs, w.heap[j]? = some (.cells cs e (0, 0)) := by
  intro j hj
  rcases h.2 with ⟨rfl, _⟩ | ⟨g, cap, cur, rfl, _, h2, _⟩
  · cases hj
  · injection hj with hj; subst hj; exact ⟨cur, h2⟩
section
variable {w0 w w' : World} {Q : Nat} {sv lv cv : Value} {ps : List (LetD × Value)} {cuts : List (AdD × AdD)} {sizes : List Int}
theorem RNet.ltB (h : RNet w0 w Q sv lv cv ps cuts sizes) (j : Nat) (hj : refB Q lv cv j) : w0.heap.size ≤ j ∧ j < w.heap.size := by
  rcases hj with rfl | hj | hj
  · exact ⟨h.bQ, h.obj.lt⟩
  · exact h.lets.lt j hj
  · exact h.cuts.lt j hj
theorem RNet.keep (h : RNet w0 w Q sv lv cv ps cuts sizes) (hk : Kb w w') (hb : ∀ j, refB Q lv cv j → w'.heap[j]? = w.heap[j]?) (g : Gr w0 w') : RNet w0 w' Q sv lv cv ps cuts sizes :=
  ⟨h.obj.block (hb Q (.inl rfl)), h.szs, h.szl, h.lets.keep hk (fun j hj => hb j (.inr (.inl hj))), h.cuts.block (fun j hj => hb j (.inr (.inr hj))), h.bQ, g⟩
theorem RNet.go (h : RNet w0 w Q sv lv cv ps cuts sizes) (g : Gr w w') : RNet w0 w' Q sv lv cv ps cuts sizes :=
  h.keep (Kb.gr g) (fun j hj => g.block j (h.ltB j hj).2) (Below.trans h.gr (g.mono h.gr.size))
theorem RNet.nb (h : RNet w0 w Q sv lv cv ps cuts sizes) : ∀ (j : Nat) (cs : Array Value) (t : TypeId) (fr : Nat × Nat), refB Q lv cv j → w.heap[j]? = some (.cells cs t fr) → t ≠ 5 ∧ t ≠ 3 := by
  intro j cs t fr hj hc
  rcases hj with rfl | hj | hj
  · rw [cells_type hc h.obj]
    exact ⟨by decide, by decide⟩
  · obtain ⟨cs', hc'⟩ := h.lets.cells j hj
    rw [cells_type hc hc']
    exact ⟨by decide, by decide⟩
  · obtain ⟨cs', hc'⟩ := h.cuts.cellsC j hj
    rw [cells_type hc hc']
    exact ⟨by decide, by decide⟩
theorem RNet.capC (h : RNet w0 w Q sv lv cv ps cuts sizes) : ∃ a cap, cv = .slice a cuts.length cap := by
  have := h.cuts.shape; rwa [List.length_map] at this
end

set_option maxHeartbeats 0 in
set_option maxRecDepth 100000 in
/-- the document's Cuts -/
theorem refcuts_any {w0 w : World} {Q : Nat} {sv lv cv : Value} {ps : List (LetD × Value)} {cuts : List (AdD × AdD)} {sizes : List Int} (h : RNet w0 w Q sv lv cv ps cuts sizes) (hl : cuts.length ≤ 100000) (a b : AdD) :
    Calls Try.prog 25 #[.pointer (some ⟨Q, 0, Option.none⟩), adV a, adV b] w fun e w' => e = .returned (.bool (cutsR cuts a b)) ∧ Gr w w' := by
  obtain ⟨a1, a2⟩ := a
  obtain ⟨b1, b2⟩ := b
  obtain ⟨ac, cc, rfl⟩ := h.capC
  obtain ⟨wb, hwb⟩ : ∃ wb, wb = (w.alloc (.cells #[.int .i64 a1, .int .i64 a2] 33)).alloc (.cells #[.int .i64 b1, .int .i64 b2] 33) := ⟨_, rfl⟩
  have gb : Gr w wb := by rw [hwb]; exact ((Gr.refl w).alloc _).alloc _
  have cA : CellsAt wb w.heap.size #[.int .i64 a1, .int .i64 a2] 33 := by rw [hwb]; exact (CellsAt.new _ _ _).gr ((Gr.refl _).alloc _)
  have cB : CellsAt wb (w.heap.size + 1) #[.int .i64 b1, .int .i64 b2] 33 := by rw [hwb]; exact CellsAt.newAt (w.alloc (.cells #[.int .i64 a1, .int .i64 a2] 33)) _ _ (by simp)
  have H := Lib.hid (h.go gb)
  obtain ⟨L, hL⟩ : ∃ L, L = cuts.length := ⟨_, rfl⟩
  rw [← hL] at H hl
  have HL := Lib.hid hL
  have TB : Hid (∀ W, Gr wb W → W.cell? ⟨w.heap.size, 0, Option.none⟩ = some (.int .i64 a1) ∧ W.cell? ⟨w.heap.size, 1, Option.none⟩ = some (.int .i64 a2) ∧ W.cell? ⟨w.heap.size + 1, 0, Option.none⟩ = some (.int .i64 b1) ∧ W.cell? ⟨w.heap.size + 1, 1, Option.none⟩ = some (.int .i64 b2) ∧ W.cell? ⟨Q, 2, Option.none⟩ = some (.slice ac L cc)) :=
    Lib.hid fun W g => ⟨(cA.gr g).cell 0, (cA.gr g).cell 1, (cB.gr g).cell 0, (cB.gr g).cell 1, (H.out.obj.gr g).cell 2⟩
  have GB := Lib.hid gb
  obtain ⟨rr, hrr⟩ : ∃ rr, rr = cutsR cuts (a1, a2) (b1, b2) := ⟨_, rfl⟩
  rw [← hrr]
  have HRR := Lib.hid hrr
  unfold adV
  clear h hL cA cB gb hrr
  go_enter Try.func25, Try.ntmps25
  go_upto_region 1 with fail
  rw [← hwb]
  clear hwb
  go_wp2
  go_loopw [7] (fun i W => ∃ k : Nat, k ≤ L ∧ i = .int .i64 k ∧ cutsR (cuts.take k) (a1, a2) (b1, b2) = false ∧ Gr wb W) (fun i _ => L - (intOf i).toNat)
  case atStart => exact ⟨0, Nat.zero_le _, rfl, rfl, Gr.refl _⟩
  case round =>
    obtain ⟨k, hk, rfl, hno, hg⟩ := hrel
    have HNO := Lib.hid hno
    have HG := Lib.hid hg
    clear hno hg
    obtain ⟨b1', b2', b3', b4', b5'⟩ := TB.out _ HG.out
    by_cases hlt : k < L
    · skip
      have hkc : k < cuts.length := by rw [← HL.out]; exact hlt
      have hkr : k < (cuts.map rowC).length := by rw [List.length_map]; exact hkc
      obtain ⟨g, cap, e9, _, hgl, _, hcell⟩ := H.out.cuts.formN (by omega)
      injection e9 with e1 e2 e3
      subst e1 e3
      clear e2
      obtain ⟨x, hx⟩ : ∃ x, x = cuts[k] := ⟨_, rfl⟩
      have hr : (cuts.map rowC)[k] = rowC x := by rw [hx]; simp
      have hcc : ∀ j (hj : j < 4), wb.cell? ⟨g, k * 4 + j, none⟩ = (rowC x)[j]? := fun j hj => by
        rw [hcell k hkr j (by rw [hr]; exact hj), ← List.getElem?_eq_getElem, hr]
      have HX := Lib.hid hx
      clear hx hr hcell
      obtain ⟨⟨x1, x2⟩, ⟨x3, x4⟩⟩ := x
      have TP : Hid (∀ W, Gr wr W → W.cell? ⟨g, k * 4, Option.none⟩ = some (.int .i64 x1) ∧ W.cell? ⟨g, k * 4 + 1, Option.none⟩ = some (.int .i64 x2) ∧ W.cell? ⟨g, k * 4 + 2, Option.none⟩ = some (.int .i64 x3) ∧ W.cell? ⟨g, k * 4 + 3, Option.none⟩ = some (.int .i64 x4)) :=
        Lib.hid fun W gW => ⟨(Gr.trans HG.out gW).cellT (hcc 0 (by decide)), (Gr.trans HG.out gW).cellT (hcc 1 (by decide)), (Gr.trans HG.out gW).cellT (hcc 2 (by decide)), (Gr.trans HG.out gW).cellT (hcc 3 (by decide))⟩
      clear hcc
      obtain ⟨e1, he1⟩ : ∃ r, r = decide (((x1, x2) : AdD) = (a1, a2)) := ⟨_, rfl⟩
      have HE1 : Hid (∀ W : World, (if x1 = a1 then if x2 = a2 then Result.ok (Next.value (Value.bool true)) W else Result.ok (Next.value (Value.bool false)) W else Result.ok (Next.value (Value.bool false)) W) = Result.ok (Next.value (.bool e1)) W) := Lib.hid fun W => by
        rw [he1]
        by_cases e1 : x1 = a1 <;> by_cases e2 : x2 = a2 <;> simp_all
      obtain ⟨e2, he2⟩ : ∃ r, r = decide (((x3, x4) : AdD) = (b1, b2)) := ⟨_, rfl⟩
      have HE2 : Hid (∀ W : World, (if x3 = b1 then if x4 = b2 then Result.ok (Next.value (Value.bool true)) W else Result.ok (Next.value (Value.bool false)) W else Result.ok (Next.value (Value.bool false)) W) = Result.ok (Next.value (.bool e2)) W) := Lib.hid fun W => by
        rw [he2]
        by_cases e1 : x3 = b1 <;> by_cases e2 : x4 = b2 <;> simp_all
      obtain ⟨e3, he3⟩ : ∃ r, r = decide (((x1, x2) : AdD) = (b1, b2)) := ⟨_, rfl⟩
      have HE3 : Hid (∀ W : World, (if x1 = b1 then if x2 = b2 then Result.ok (Next.value (Value.bool true)) W else Result.ok (Next.value (Value.bool false)) W else Result.ok (Next.value (Value.bool false)) W) = Result.ok (Next.value (.bool e3)) W) := Lib.hid fun W => by
        rw [he3]
        by_cases e1 : x1 = b1 <;> by_cases e2 : x2 = b2 <;> simp_all
      obtain ⟨e4, he4⟩ : ∃ r, r = decide (((x3, x4) : AdD) = (a1, a2)) := ⟨_, rfl⟩
      have HE4 : Hid (∀ W : World, (if x3 = a1 then if x4 = a2 then Result.ok (Next.value (Value.bool true)) W else Result.ok (Next.value (Value.bool false)) W else Result.ok (Next.value (Value.bool false)) W) = Result.ok (Next.value (.bool e4)) W) := Lib.hid fun W => by
        rw [he4]
        by_cases e1 : x3 = a1 <;> by_cases e2 : x4 = a2 <;> simp_all
      obtain ⟨r, hr⟩ : ∃ r, r = (e1 && e2 || e3 && e4) := ⟨_, rfl⟩
      have HR := Lib.hid hr
      have HON : Hid (cutsR (cuts.take (k + 1)) (a1, a2) (b1, b2) = r ∧ (r = true → cutsR cuts (a1, a2) (b1, b2) = true)) := Lib.hid (by
        have h8 : (decide ((cuts[k]).1 = ((a1, a2) : AdD)) && decide ((cuts[k]).2 = ((b1, b2) : AdD)) || decide ((cuts[k]).1 = ((b1, b2) : AdD)) && decide ((cuts[k]).2 = ((a1, a2) : AdD))) = r := by rw [hr, he1, he2, he3, he4, ← HX.out]
        refine ⟨?_, fun e => ?_⟩
        · have h9 := HNO.out
          unfold cutsR at h9 ⊢
          rw [List.take_add_one, List.getElem?_eq_getElem hkc, Option.toList_some, List.any_append, h9, Bool.false_or]
          simp only [List.any_cons, List.any_nil, Bool.or_false]
          exact h8
        · unfold cutsR
          rw [List.any_eq_true]
          exact ⟨cuts[k], List.getElem_mem _, by rw [h8, e]⟩)
      clear hr he1 he2 he3 he4
      have hk0 : (0 : Int) ≤ (k : Int) := by omega
      have hk1 : (k : Int) < (L : Int) := by omega
      go_upto_region 4 with fail
      clear b1' b2' b3' b4' b5'
      go_cut [62] (fun s62 wx => s62 = .bool r ∧ Gr wr wx)
      case first =>
        cases e1 with
        | true =>
          cases e2 with
          | true =>
            apply wp_region_draw_grow (.eq _ :: .eq _ :: .eq _ :: .eq _ :: .eq _ :: .eq _ :: .eq _ :: .eq _ :: .eq _ :: .eq _ :: .eq _ :: .eq _ :: .eq _ :: .eq _ :: .eq _ :: .eq _ :: .eq _ :: .eq _ :: .eq _ :: .eq _ :: .eq _ :: .eq _ :: .eq _ :: .eq _ :: .eq _ :: .eq _ :: .eq _ :: .eq _ :: .eq _ :: .eq _ :: .eq _ :: .eq _ :: .eq _ :: .eq _ :: .eq _ :: .eq _ :: .eq _ :: .eq _ :: .eq _ :: .eq _ :: .eq _ :: .eq _ :: .eq _ :: .eq _ :: .eq _ :: .eq _ :: []) (by kernel_rfl) (by kernel_rfl) trivial
            apply wpG_eq
            · intro W hW hs
              unfold opG
              go_simp
              first | exact resG_eq_mk _ _ _ | rfl
            simp only [Act.put, List.setIfInBounds_toArray, List.set_cons_zero, List.set_cons_succ]
            apply wpG_eq
            · intro W hW hs
              unfold opG
              go_simp
              first | exact resG_eq_mk _ _ _ | rfl
            simp only [Act.put, List.setIfInBounds_toArray, List.set_cons_zero, List.set_cons_succ]
            apply wpG_eq
            · intro W hW hs
              unfold opG
              go_simp
              first | exact resG_eq_mk _ _ _ | rfl
            simp only [Act.put, List.setIfInBounds_toArray, List.set_cons_zero, List.set_cons_succ]
            apply wpG_eq
            · intro W hW hs
              obtain ⟨t0, t1, t2, t3, t4⟩ := TB.out W (Gr.trans HG.out (Gr.trans ((Gr.refl wr).drew) hW))
              unfold opG
              go_simp
              first | exact resG_eq_mk _ _ _ | rfl
            simp only [Act.put, List.setIfInBounds_toArray, List.set_cons_zero, List.set_cons_succ]
            apply wpG_eq
            · intro W hW hs
              unfold opG
              go_simp
              first | exact resG_eq_mk _ _ _ | rfl
            simp only [Act.put, List.setIfInBounds_toArray, List.set_cons_zero, List.set_cons_succ]
            apply wpG_eq
            · intro W hW hs
              unfold opG
              go_simp
              first | exact resG_eq_mk _ _ _ | rfl
            simp only [Act.put, List.setIfInBounds_toArray, List.set_cons_zero, List.set_cons_succ]
            apply wpG_eq
            · intro W hW hs
              unfold opG
              go_simp
              first | exact resG_eq_mk _ _ _ | rfl
            simp only [Act.put, List.setIfInBounds_toArray, List.set_cons_zero, List.set_cons_succ]
            apply wpG_eq
            · intro W hW hs
              obtain ⟨t0, t1, t2, t3⟩ := TP.out W (Gr.trans ((Gr.refl wr).drew) hW)
              unfold opG
              go_simp
              first | exact resG_eq_mk _ _ _ | rfl
            simp only [Act.put, List.setIfInBounds_toArray, List.set_cons_zero, List.set_cons_succ]
            apply wpG_eq
            · intro W hW hs
              obtain ⟨t0, t1, t2, t3, t4⟩ := TB.out W (Gr.trans HG.out (Gr.trans ((Gr.refl wr).drew) hW))
              unfold opG
              go_simp
              first | exact resG_eq_mk _ _ _ | rfl
            simp only [Act.put, List.setIfInBounds_toArray, List.set_cons_zero, List.set_cons_succ]
            apply wpG_eq
            · intro W hW hs
              unfold opG
              go_simp
              rw [HE1.out W]
              exact ⟨Gr.refl _, rfl⟩
            simp only [Act.put, List.setIfInBounds_toArray, List.set_cons_zero, List.set_cons_succ]
            apply wpG_eq
            · intro W hW hs
              unfold opG
              go_simp
              first | exact resG_eq_mk _ _ _ | rfl
            simp only [Act.put, List.setIfInBounds_toArray, List.set_cons_zero, List.set_cons_succ]
            apply wpG_eq
            · intro W hW hs
              unfold opG
              go_simp
              first | exact resG_eq_mk _ _ _ | rfl
            simp only [Act.put, List.setIfInBounds_toArray, List.set_cons_zero, List.set_cons_succ]
            apply wpG_eq
            · intro W hW hs
              unfold opG
              go_simp
              first | exact resG_eq_mk _ _ _ | rfl
            simp only [Act.put, List.setIfInBounds_toArray, List.set_cons_zero, List.set_cons_succ]
            apply wpG_eq
            · intro W hW hs
              unfold opG
              go_simp
              first | exact resG_eq_mk _ _ _ | rfl
            simp only [Act.put, List.setIfInBounds_toArray, List.set_cons_zero, List.set_cons_succ]
            apply wpG_eq
            · intro W hW hs
              obtain ⟨t0, t1, t2, t3, t4⟩ := TB.out W (Gr.trans HG.out (Gr.trans ((Gr.refl wr).drew) hW))
              unfold opG
              go_simp
              first | exact resG_eq_mk _ _ _ | rfl
            simp only [Act.put, List.setIfInBounds_toArray, List.set_cons_zero, List.set_cons_succ]
            apply wpG_eq
            · intro W hW hs
              unfold opG
              go_simp
              first | exact resG_eq_mk _ _ _ | rfl
            simp only [Act.put, List.setIfInBounds_toArray, List.set_cons_zero, List.set_cons_succ]
            apply wpG_eq
            · intro W hW hs
              unfold opG
              go_simp
              first | exact resG_eq_mk _ _ _ | rfl
            simp only [Act.put, List.setIfInBounds_toArray, List.set_cons_zero, List.set_cons_succ]
            apply wpG_eq
            · intro W hW hs
              unfold opG
              go_simp
              first | exact resG_eq_mk _ _ _ | rfl
            simp only [Act.put, List.setIfInBounds_toArray, List.set_cons_zero, List.set_cons_succ]
            apply wpG_eq
            · intro W hW hs
              obtain ⟨t0, t1, t2, t3⟩ := TP.out W (Gr.trans ((Gr.refl wr).drew) hW)
              unfold opG
              go_simp
              first | exact resG_eq_mk _ _ _ | rfl
            simp only [Act.put, List.setIfInBounds_toArray, List.set_cons_zero, List.set_cons_succ]
            apply wpG_eq
            · intro W hW hs
              obtain ⟨t0, t1, t2, t3, t4⟩ := TB.out W (Gr.trans HG.out (Gr.trans ((Gr.refl wr).drew) hW))
              unfold opG
              go_simp
              first | exact resG_eq_mk _ _ _ | rfl
            simp only [Act.put, List.setIfInBounds_toArray, List.set_cons_zero, List.set_cons_succ]
            apply wpG_eq
            · intro W hW hs
              unfold opG
              go_simp
              rw [HE2.out W]
              exact ⟨Gr.refl _, rfl⟩
            simp only [Act.put, List.setIfInBounds_toArray, List.set_cons_zero, List.set_cons_succ]
            apply wpG_eq
            · intro W hW hs
              unfold opG
              go_simp
              first | exact resG_eq_mk _ _ _ | rfl
            simp only [Act.put, List.setIfInBounds_toArray, List.set_cons_zero, List.set_cons_succ]
            apply wpG_eq
            · intro W hW hs
              unfold opG
              go_simp
              first | exact resG_eq_mk _ _ _ | rfl
            simp only [Act.put, List.setIfInBounds_toArray, List.set_cons_zero, List.set_cons_succ]
            apply wpG_eq
            · intro W hW hs
              unfold opG
              go_simp
              first | exact resG_eq_mk _ _ _ | rfl
            simp only [Act.put, List.setIfInBounds_toArray, List.set_cons_zero, List.set_cons_succ]
            apply wpG_eq
            · intro W hW hs
              unfold opG
              go_simp
              first | exact resG_eq_mk _ _ _ | rfl
            simp only [Act.put, List.setIfInBounds_toArray, List.set_cons_zero, List.set_cons_succ]
            apply wpG_eq
            · intro W hW hs
              unfold opG
              go_simp
              first | exact resG_eq_mk _ _ _ | rfl
            simp only [Act.put, List.setIfInBounds_toArray, List.set_cons_zero, List.set_cons_succ]
            apply wpG_eq
            · intro W hW hs
              unfold opG
              go_simp
              first | exact resG_eq_mk _ _ _ | rfl
            simp only [Act.put, List.setIfInBounds_toArray, List.set_cons_zero, List.set_cons_succ]
            apply wpG_eq
            · intro W hW hs
              unfold opG
              go_simp
              first | exact resG_eq_mk _ _ _ | rfl
            simp only [Act.put, List.setIfInBounds_toArray, List.set_cons_zero, List.set_cons_succ]
            apply wpG_eq
            · intro W hW hs
              unfold opG
              go_simp
              first | exact resG_eq_mk _ _ _ | rfl
            simp only [Act.put, List.setIfInBounds_toArray, List.set_cons_zero, List.set_cons_succ]
            apply wpG_eq
            · intro W hW hs
              unfold opG
              go_simp
              first | exact resG_eq_mk _ _ _ | rfl
            simp only [Act.put, List.setIfInBounds_toArray, List.set_cons_zero, List.set_cons_succ]
            apply wpG_eq
            · intro W hW hs
              unfold opG
              go_simp
              first | exact resG_eq_mk _ _ _ | rfl
            simp only [Act.put, List.setIfInBounds_toArray, List.set_cons_zero, List.set_cons_succ]
            apply wpG_eq
            · intro W hW hs
              unfold opG
              go_simp
              first | exact resG_eq_mk _ _ _ | rfl
            simp only [Act.put, List.setIfInBounds_toArray, List.set_cons_zero, List.set_cons_succ]
            apply wpG_eq
            · intro W hW hs
              unfold opG
              go_simp
              first | exact resG_eq_mk _ _ _ | rfl
            simp only [Act.put, List.setIfInBounds_toArray, List.set_cons_zero, List.set_cons_succ]
            apply wpG_eq
            · intro W hW hs
              unfold opG
              go_simp
              first | exact resG_eq_mk _ _ _ | rfl
            simp only [Act.put, List.setIfInBounds_toArray, List.set_cons_zero, List.set_cons_succ]
            apply wpG_eq
            · intro W hW hs
              unfold opG
              go_simp
              first | exact resG_eq_mk _ _ _ | rfl
            simp only [Act.put, List.setIfInBounds_toArray, List.set_cons_zero, List.set_cons_succ]
            apply wpG_eq
            · intro W hW hs
              unfold opG
              go_simp
              first | exact resG_eq_mk _ _ _ | rfl
            simp only [Act.put, List.setIfInBounds_toArray, List.set_cons_zero, List.set_cons_succ]
            apply wpG_eq
            · intro W hW hs
              unfold opG
              go_simp
              first | exact resG_eq_mk _ _ _ | rfl
            simp only [Act.put, List.setIfInBounds_toArray, List.set_cons_zero, List.set_cons_succ]
            apply wpG_eq
            · intro W hW hs
              unfold opG
              go_simp
              first | exact resG_eq_mk _ _ _ | rfl
            simp only [Act.put, List.setIfInBounds_toArray, List.set_cons_zero, List.set_cons_succ]
            apply wpG_eq
            · intro W hW hs
              unfold opG
              go_simp
              first | exact resG_eq_mk _ _ _ | rfl
            simp only [Act.put, List.setIfInBounds_toArray, List.set_cons_zero, List.set_cons_succ]
            apply wpG_eq
            · intro W hW hs
              unfold opG
              go_simp
              first | exact resG_eq_mk _ _ _ | rfl
            simp only [Act.put, List.setIfInBounds_toArray, List.set_cons_zero, List.set_cons_succ]
            apply wpG_eq
            · intro W hW hs
              unfold opG
              go_simp
              first | exact resG_eq_mk _ _ _ | rfl
            simp only [Act.put, List.setIfInBounds_toArray, List.set_cons_zero, List.set_cons_succ]
            apply wpG_eq
            · intro W hW hs
              unfold opG
              go_simp
              first | exact resG_eq_mk _ _ _ | rfl
            simp only [Act.put, List.setIfInBounds_toArray, List.set_cons_zero, List.set_cons_succ]
            apply wpG_eq
            · intro W hW hs
              unfold opG
              go_simp
              first | exact resG_eq_mk _ _ _ | rfl
            simp only [Act.put, List.setIfInBounds_toArray, List.set_cons_zero, List.set_cons_succ]
            apply wpG_eq
            · intro W hW hs
              unfold opG
              go_simp
              first | exact resG_eq_mk _ _ _ | rfl
            simp only [Act.put, List.setIfInBounds_toArray, List.set_cons_zero, List.set_cons_succ]
            apply wpG_eq
            · intro W hW hs
              unfold opG
              go_simp
              first | exact resG_eq_mk _ _ _ | rfl
            simp only [Act.put, List.setIfInBounds_toArray, List.set_cons_zero, List.set_cons_succ]
            apply wpG_eq
            · intro W hW hs
              unfold opG
              go_simp
              first | exact resG_eq_mk _ _ _ | rfl
            simp only [Act.put, List.setIfInBounds_toArray, List.set_cons_zero, List.set_cons_succ]
            apply wpG_nil
            intro wq hWq hsAll
            have gq : Gr wr wq := Gr.trans ((Gr.refl wr).drew) hWq
            clear hsAll hWq
            (try go_wp2)
            go_meet
            exact ⟨by rw [HR.out]; rfl, gq⟩
          | false =>
            cases e3 with
            | true =>
              cases e4 with
              | true =>
                apply wp_region_draw_grow (.eq _ :: .eq _ :: .eq _ :: .eq _ :: .eq _ :: .eq _ :: .eq _ :: .eq _ :: .eq _ :: .eq _ :: .eq _ :: .eq _ :: .eq _ :: .eq _ :: .eq _ :: .eq _ :: .eq _ :: .eq _ :: .eq _ :: .eq _ :: .eq _ :: .eq _ :: .eq _ :: .eq _ :: .eq _ :: .eq _ :: .eq _ :: .eq _ :: .eq _ :: .eq _ :: .eq _ :: .eq _ :: .eq _ :: .eq _ :: .eq _ :: .eq _ :: .eq _ :: .eq _ :: .eq _ :: .eq _ :: .eq _ :: .eq _ :: .eq _ :: .eq _ :: .eq _ :: .eq _ :: []) (by kernel_rfl) (by kernel_rfl) trivial
                apply wpG_eq
                · intro W hW hs
                  unfold opG
                  go_simp
                  first | exact resG_eq_mk _ _ _ | rfl
                simp only [Act.put, List.setIfInBounds_toArray, List.set_cons_zero, List.set_cons_succ]
                apply wpG_eq
                · intro W hW hs
                  unfold opG
                  go_simp
                  first | exact resG_eq_mk _ _ _ | rfl
                simp only [Act.put, List.setIfInBounds_toArray, List.set_cons_zero, List.set_cons_succ]
                apply wpG_eq
                · intro W hW hs
                  unfold opG
                  go_simp
                  first | exact resG_eq_mk _ _ _ | rfl
                simp only [Act.put, List.setIfInBounds_toArray, List.set_cons_zero, List.set_cons_succ]
                apply wpG_eq
                · intro W hW hs
                  obtain ⟨t0, t1, t2, t3, t4⟩ := TB.out W (Gr.trans HG.out (Gr.trans ((Gr.refl wr).drew) hW))
                  unfold opG
                  go_simp
                  first | exact resG_eq_mk _ _ _ | rfl
                simp only [Act.put, List.setIfInBounds_toArray, List.set_cons_zero, List.set_cons_succ]
                apply wpG_eq
                · intro W hW hs
                  unfold opG
                  go_simp
                  first | exact resG_eq_mk _ _ _ | rfl
                simp only [Act.put, List.setIfInBounds_toArray, List.set_cons_zero, List.set_cons_succ]
                apply wpG_eq
                · intro W hW hs
                  unfold opG
                  go_simp
                  first | exact resG_eq_mk _ _ _ | rfl
                simp only [Act.put, List.setIfInBounds_toArray, List.set_cons_zero, List.set_cons_succ]
                apply wpG_eq
                · intro W hW hs
                  unfold opG
                  go_simp
                  first | exact resG_eq_mk _ _ _ | rfl
                simp only [Act.put, List.setIfInBounds_toArray, List.set_cons_zero, List.set_cons_succ]
                apply wpG_eq
                · intro W hW hs
                  obtain ⟨t0, t1, t2, t3⟩ := TP.out W (Gr.trans ((Gr.refl wr).drew) hW)
                  unfold opG
                  go_simp
                  first | exact resG_eq_mk _ _ _ | rfl
                simp only [Act.put, List.setIfInBounds_toArray, List.set_cons_zero, List.set_cons_succ]
                apply wpG_eq
                · intro W hW hs
                  obtain ⟨t0, t1, t2, t3, t4⟩ := TB.out W (Gr.trans HG.out (Gr.trans ((Gr.refl wr).drew) hW))
                  unfold opG
                  go_simp
                  first | exact resG_eq_mk _ _ _ | rfl
                simp only [Act.put, List.setIfInBounds_toArray, List.set_cons_zero, List.set_cons_succ]
                apply wpG_eq
                · intro W hW hs
                  unfold opG
                  go_simp
                  rw [HE1.out W]
                  exact ⟨Gr.refl _, rfl⟩
                simp only [Act.put, List.setIfInBounds_toArray, List.set_cons_zero, List.set_cons_succ]
                apply wpG_eq
                · intro W hW hs
                  unfold opG
                  go_simp
                  first | exact resG_eq_mk _ _ _ | rfl
                simp only [Act.put, List.setIfInBounds_toArray, List.set_cons_zero, List.set_cons_succ]
                apply wpG_eq
                · intro W hW hs
                  unfold opG
                  go_simp
                  first | exact resG_eq_mk _ _ _ | rfl
                simp only [Act.put, List.setIfInBounds_toArray, List.set_cons_zero, List.set_cons_succ]
                apply wpG_eq
                · intro W hW hs
                  unfold opG
                  go_simp
                  first | exact resG_eq_mk _ _ _ | rfl
                simp only [Act.put, List.setIfInBounds_toArray, List.set_cons_zero, List.set_cons_succ]
                apply wpG_eq
                · intro W hW hs
                  unfold opG
                  go_simp
                  first | exact resG_eq_mk _ _ _ | rfl
                simp only [Act.put, List.setIfInBounds_toArray, List.set_cons_zero, List.set_cons_succ]
                apply wpG_eq
                · intro W hW hs
                  obtain ⟨t0, t1, t2, t3, t4⟩ := TB.out W (Gr.trans HG.out (Gr.trans ((Gr.refl wr).drew) hW))
                  unfold opG
                  go_simp
                  first | exact resG_eq_mk _ _ _ | rfl
                simp only [Act.put, List.setIfInBounds_toArray, List.set_cons_zero, List.set_cons_succ]
                apply wpG_eq
                · intro W hW hs
                  unfold opG
                  go_simp
                  first | exact resG_eq_mk _ _ _ | rfl
                simp only [Act.put, List.setIfInBounds_toArray, List.set_cons_zero, List.set_cons_succ]
                apply wpG_eq
                · intro W hW hs
                  unfold opG
                  go_simp
                  first | exact resG_eq_mk _ _ _ | rfl
                simp only [Act.put, List.setIfInBounds_toArray, List.set_cons_zero, List.set_cons_succ]
                apply wpG_eq
                · intro W hW hs
                  unfold opG
                  go_simp
                  first | exact resG_eq_mk _ _ _ | rfl
                simp only [Act.put, List.setIfInBounds_toArray, List.set_cons_zero, List.set_cons_succ]
                apply wpG_eq
                · intro W hW hs
                  obtain ⟨t0, t1, t2, t3⟩ := TP.out W (Gr.trans ((Gr.refl wr).drew) hW)
                  unfold opG
                  go_simp
                  first | exact resG_eq_mk _ _ _ | rfl
                simp only [Act.put, List.setIfInBounds_toArray, List.set_cons_zero, List.set_cons_succ]
                apply wpG_eq
                · intro W hW hs
                  obtain ⟨t0, t1, t2, t3, t4⟩ := TB.out W (Gr.trans HG.out (Gr.trans ((Gr.refl wr).drew) hW))
                  unfold opG
                  go_simp
                  first | exact resG_eq_mk _ _ _ | rfl
                simp only [Act.put, List.setIfInBounds_toArray, List.set_cons_zero, List.set_cons_succ]
                apply wpG_eq
                · intro W hW hs
                  unfold opG
                  go_simp
                  rw [HE2.out W]
                  exact ⟨Gr.refl _, rfl⟩
                simp only [Act.put, List.setIfInBounds_toArray, List.set_cons_zero, List.set_cons_succ]
                apply wpG_eq
                · intro W hW hs
                  unfold opG
                  go_simp
                  first | exact resG_eq_mk _ _ _ | rfl
                simp only [Act.put, List.setIfInBounds_toArray, List.set_cons_zero, List.set_cons_succ]
                apply wpG_eq
                · intro W hW hs
                  unfold opG
                  go_simp
                  first | exact resG_eq_mk _ _ _ | rfl
                simp only [Act.put, List.setIfInBounds_toArray, List.set_cons_zero, List.set_cons_succ]
                apply wpG_eq
                · intro W hW hs
                  unfold opG
                  go_simp
                  first | exact resG_eq_mk _ _ _ | rfl
                simp only [Act.put, List.setIfInBounds_toArray, List.set_cons_zero, List.set_cons_succ]
                apply wpG_eq
                · intro W hW hs
                  unfold opG
                  go_simp
                  first | exact resG_eq_mk _ _ _ | rfl
                simp only [Act.put, List.setIfInBounds_toArray, List.set_cons_zero, List.set_cons_succ]
                apply wpG_eq
                · intro W hW hs
                  unfold opG
                  go_simp
                  first | exact resG_eq_mk _ _ _ | rfl
                simp only [Act.put, List.setIfInBounds_toArray, List.set_cons_zero, List.set_cons_succ]
                apply wpG_eq
                · intro W hW hs
                  obtain ⟨t0, t1, t2, t3, t4⟩ := TB.out W (Gr.trans HG.out (Gr.trans ((Gr.refl wr).drew) hW))
                  unfold opG
                  go_simp
                  first | exact resG_eq_mk _ _ _ | rfl
                simp only [Act.put, List.setIfInBounds_toArray, List.set_cons_zero, List.set_cons_succ]
                apply wpG_eq
                · intro W hW hs
                  unfold opG
                  go_simp
                  first | exact resG_eq_mk _ _ _ | rfl
                simp only [Act.put, List.setIfInBounds_toArray, List.set_cons_zero, List.set_cons_succ]
                apply wpG_eq
                · intro W hW hs
                  unfold opG
                  go_simp
                  first | exact resG_eq_mk _ _ _ | rfl
                simp only [Act.put, List.setIfInBounds_toArray, List.set_cons_zero, List.set_cons_succ]
                apply wpG_eq
                · intro W hW hs
                  unfold opG
                  go_simp
                  first | exact resG_eq_mk _ _ _ | rfl
                simp only [Act.put, List.setIfInBounds_toArray, List.set_cons_zero, List.set_cons_succ]
                apply wpG_eq
                · intro W hW hs
                  obtain ⟨t0, t1, t2, t3⟩ := TP.out W (Gr.trans ((Gr.refl wr).drew) hW)
                  unfold opG
                  go_simp
                  first | exact resG_eq_mk _ _ _ | rfl
                simp only [Act.put, List.setIfInBounds_toArray, List.set_cons_zero, List.set_cons_succ]
                apply wpG_eq
                · intro W hW hs
                  obtain ⟨t0, t1, t2, t3, t4⟩ := TB.out W (Gr.trans HG.out (Gr.trans ((Gr.refl wr).drew) hW))
                  unfold opG
                  go_simp
                  first | exact resG_eq_mk _ _ _ | rfl
                simp only [Act.put, List.setIfInBounds_toArray, List.set_cons_zero, List.set_cons_succ]
                apply wpG_eq
                · intro W hW hs
                  unfold opG
                  go_simp
                  rw [HE3.out W]
                  exact ⟨Gr.refl _, rfl⟩
                simp only [Act.put, List.setIfInBounds_toArray, List.set_cons_zero, List.set_cons_succ]
                apply wpG_eq
                · intro W hW hs
                  unfold opG
                  go_simp
                  first | exact resG_eq_mk _ _ _ | rfl
                simp only [Act.put, List.setIfInBounds_toArray, List.set_cons_zero, List.set_cons_succ]
                apply wpG_eq
                · intro W hW hs
                  unfold opG
                  go_simp
                  first | exact resG_eq_mk _ _ _ | rfl
                simp only [Act.put, List.setIfInBounds_toArray, List.set_cons_zero, List.set_cons_succ]
                apply wpG_eq
                · intro W hW hs
                  unfold opG
                  go_simp
                  first | exact resG_eq_mk _ _ _ | rfl
                simp only [Act.put, List.setIfInBounds_toArray, List.set_cons_zero, List.set_cons_succ]
                apply wpG_eq
                · intro W hW hs
                  unfold opG
                  go_simp
                  first | exact resG_eq_mk _ _ _ | rfl
                simp only [Act.put, List.setIfInBounds_toArray, List.set_cons_zero, List.set_cons_succ]
                apply wpG_eq
                · intro W hW hs
                  obtain ⟨t0, t1, t2, t3, t4⟩ := TB.out W (Gr.trans HG.out (Gr.trans ((Gr.refl wr).drew) hW))
                  unfold opG
                  go_simp
                  first | exact resG_eq_mk _ _ _ | rfl
                simp only [Act.put, List.setIfInBounds_toArray, List.set_cons_zero, List.set_cons_succ]
                apply wpG_eq
                · intro W hW hs
                  unfold opG
                  go_simp
                  first | exact resG_eq_mk _ _ _ | rfl
                simp only [Act.put, List.setIfInBounds_toArray, List.set_cons_zero, List.set_cons_succ]
                apply wpG_eq
                · intro W hW hs
                  unfold opG
                  go_simp
                  first | exact resG_eq_mk _ _ _ | rfl
                simp only [Act.put, List.setIfInBounds_toArray, List.set_cons_zero, List.set_cons_succ]
                apply wpG_eq
                · intro W hW hs
                  unfold opG
                  go_simp
                  first | exact resG_eq_mk _ _ _ | rfl
                simp only [Act.put, List.setIfInBounds_toArray, List.set_cons_zero, List.set_cons_succ]
                apply wpG_eq
                · intro W hW hs
                  obtain ⟨t0, t1, t2, t3⟩ := TP.out W (Gr.trans ((Gr.refl wr).drew) hW)
                  unfold opG
                  go_simp
                  first | exact resG_eq_mk _ _ _ | rfl
                simp only [Act.put, List.setIfInBounds_toArray, List.set_cons_zero, List.set_cons_succ]
                apply wpG_eq
                · intro W hW hs
                  obtain ⟨t0, t1, t2, t3, t4⟩ := TB.out W (Gr.trans HG.out (Gr.trans ((Gr.refl wr).drew) hW))
                  unfold opG
                  go_simp
                  first | exact resG_eq_mk _ _ _ | rfl
                simp only [Act.put, List.setIfInBounds_toArray, List.set_cons_zero, List.set_cons_succ]
                apply wpG_eq
                · intro W hW hs
                  unfold opG
                  go_simp
                  rw [HE4.out W]
                  exact ⟨Gr.refl _, rfl⟩
                simp only [Act.put, List.setIfInBounds_toArray, List.set_cons_zero, List.set_cons_succ]
                apply wpG_eq
                · intro W hW hs
                  unfold opG
                  go_simp
                  first | exact resG_eq_mk _ _ _ | rfl
                simp only [Act.put, List.setIfInBounds_toArray, List.set_cons_zero, List.set_cons_succ]
                apply wpG_eq
                · intro W hW hs
                  unfold opG
                  go_simp
                  first | exact resG_eq_mk _ _ _ | rfl
                simp only [Act.put, List.setIfInBounds_toArray, List.set_cons_zero, List.set_cons_succ]
                apply wpG_nil
                intro wq hWq hsAll
                have gq : Gr wr wq := Gr.trans ((Gr.refl wr).drew) hWq
                clear hsAll hWq
                (try go_wp2)
                go_meet
                exact ⟨by rw [HR.out]; rfl, gq⟩
              | false =>
                apply wp_region_draw_grow (.eq _ :: .eq _ :: .eq _ :: .eq _ :: .eq _ :: .eq _ :: .eq _ :: .eq _ :: .eq _ :: .eq _ :: .eq _ :: .eq _ :: .eq _ :: .eq _ :: .eq _ :: .eq _ :: .eq _ :: .eq _ :: .eq _ :: .eq _ :: .eq _ :: .eq _ :: .eq _ :: .eq _ :: .eq _ :: .eq _ :: .eq _ :: .eq _ :: .eq _ :: .eq _ :: .eq _ :: .eq _ :: .eq _ :: .eq _ :: .eq _ :: .eq _ :: .eq _ :: .eq _ :: .eq _ :: .eq _ :: .eq _ :: .eq _ :: .eq _ :: .eq _ :: .eq _ :: .eq _ :: []) (by kernel_rfl) (by kernel_rfl) trivial
                apply wpG_eq
                · intro W hW hs
                  unfold opG
                  go_simp
                  first | exact resG_eq_mk _ _ _ | rfl
                simp only [Act.put, List.setIfInBounds_toArray, List.set_cons_zero, List.set_cons_succ]
                apply wpG_eq
                · intro W hW hs
                  unfold opG
                  go_simp
                  first | exact resG_eq_mk _ _ _ | rfl
                simp only [Act.put, List.setIfInBounds_toArray, List.set_cons_zero, List.set_cons_succ]
                apply wpG_eq
                · intro W hW hs
                  unfold opG
                  go_simp
                  first | exact resG_eq_mk _ _ _ | rfl
                simp only [Act.put, List.setIfInBounds_toArray, List.set_cons_zero, List.set_cons_succ]
                apply wpG_eq
                · intro W hW hs
                  obtain ⟨t0, t1, t2, t3, t4⟩ := TB.out W (Gr.trans HG.out (Gr.trans ((Gr.refl wr).drew) hW))
                  unfold opG
                  go_simp
                  first | exact resG_eq_mk _ _ _ | rfl
                simp only [Act.put, List.setIfInBounds_toArray, List.set_cons_zero, List.set_cons_succ]
                apply wpG_eq
                · intro W hW hs
                  unfold opG
                  go_simp
                  first | exact resG_eq_mk _ _ _ | rfl
                simp only [Act.put, List.setIfInBounds_toArray, List.set_cons_zero, List.set_cons_succ]
                apply wpG_eq
                · intro W hW hs
                  unfold opG
                  go_simp
                  first | exact resG_eq_mk _ _ _ | rfl
                simp only [Act.put, List.setIfInBounds_toArray, List.set_cons_zero, List.set_cons_succ]
                apply wpG_eq
                · intro W hW hs
                  unfold opG
                  go_simp
                  first | exact resG_eq_mk _ _ _ | rfl
                simp only [Act.put, List.setIfInBounds_toArray, List.set_cons_zero, List.set_cons_succ]
                apply wpG_eq
                · intro W hW hs
                  obtain ⟨t0, t1, t2, t3⟩ := TP.out W (Gr.trans ((Gr.refl wr).drew) hW)
                  unfold opG
                  go_simp
                  first | exact resG_eq_mk _ _ _ | rfl
                simp only [Act.put, List.setIfInBounds_toArray, List.set_cons_zero, List.set_cons_succ]
                apply wpG_eq
                · intro W hW hs
                  obtain ⟨t0, t1, t2, t3, t4⟩ := TB.out W (Gr.trans HG.out (Gr.trans ((Gr.refl wr).drew) hW))
                  unfold opG
                  go_simp
                  first | exact resG_eq_mk _ _ _ | rfl
                simp only [Act.put, List.setIfInBounds_toArray, List.set_cons_zero, List.set_cons_succ]
                apply wpG_eq
                · intro W hW hs
                  unfold opG
                  go_simp
                  rw [HE1.out W]
                  exact ⟨Gr.refl _, rfl⟩
                simp only [Act.put, List.setIfInBounds_toArray, List.set_cons_zero, List.set_cons_succ]
                apply wpG_eq
                · intro W hW hs
                  unfold opG
                  go_simp
                  first | exact resG_eq_mk _ _ _ | rfl
                simp only [Act.put, List.setIfInBounds_toArray, List.set_cons_zero, List.set_cons_succ]
                apply wpG_eq
                · intro W hW hs
                  unfold opG
                  go_simp
                  first | exact resG_eq_mk _ _ _ | rfl
                simp only [Act.put, List.setIfInBounds_toArray, List.set_cons_zero, List.set_cons_succ]
                apply wpG_eq
                · intro W hW hs
                  unfold opG
                  go_simp
                  first | exact resG_eq_mk _ _ _ | rfl
                simp only [Act.put, List.setIfInBounds_toArray, List.set_cons_zero, List.set_cons_succ]
                apply wpG_eq
                · intro W hW hs
                  unfold opG
                  go_simp
                  first | exact resG_eq_mk _ _ _ | rfl
                simp only [Act.put, List.setIfInBounds_toArray, List.set_cons_zero, List.set_cons_succ]
                apply wpG_eq
                · intro W hW hs
                  obtain ⟨t0, t1, t2, t3, t4⟩ := TB.out W (Gr.trans HG.out (Gr.trans ((Gr.refl wr).drew) hW))
                  unfold opG
                  go_simp
                  first | exact resG_eq_mk _ _ _ | rfl
                simp only [Act.put, List.setIfInBounds_toArray, List.set_cons_zero, List.set_cons_succ]
                apply wpG_eq
                · intro W hW hs
                  unfold opG
                  go_simp
                  first | exact resG_eq_mk _ _ _ | rfl
                simp only [Act.put, List.setIfInBounds_toArray, List.set_cons_zero, List.set_cons_succ]
                apply wpG_eq
                · intro W hW hs
                  unfold opG
                  go_simp
                  first | exact resG_eq_mk _ _ _ | rfl
                simp only [Act.put, List.setIfInBounds_toArray, List.set_cons_zero, List.set_cons_succ]
                apply wpG_eq
                · intro W hW hs
                  unfold opG
                  go_simp
                  first | exact resG_eq_mk _ _ _ | rfl
                simp only [Act.put, List.setIfInBounds_toArray, List.set_cons_zero, List.set_cons_succ]
                apply wpG_eq
                · intro W hW hs
                  obtain ⟨t0, t1, t2, t3⟩ := TP.out W (Gr.trans ((Gr.refl wr).drew) hW)
                  unfold opG
                  go_simp
                  first | exact resG_eq_mk _ _ _ | rfl
                simp only [Act.put, List.setIfInBounds_toArray, List.set_cons_zero, List.set_cons_succ]
                apply wpG_eq
                · intro W hW hs
                  obtain ⟨t0, t1, t2, t3, t4⟩ := TB.out W (Gr.trans HG.out (Gr.trans ((Gr.refl wr).drew) hW))
                  unfold opG
                  go_simp
                  first | exact resG_eq_mk _ _ _ | rfl
                simp only [Act.put, List.setIfInBounds_toArray, List.set_cons_zero, List.set_cons_succ]
                apply wpG_eq
                · intro W hW hs
                  unfold opG
                  go_simp
                  rw [HE2.out W]
                  exact ⟨Gr.refl _, rfl⟩
                simp only [Act.put, List.setIfInBounds_toArray, List.set_cons_zero, List.set_cons_succ]
                apply wpG_eq
                · intro W hW hs
                  unfold opG
                  go_simp
                  first | exact resG_eq_mk _ _ _ | rfl
                simp only [Act.put, List.setIfInBounds_toArray, List.set_cons_zero, List.set_cons_succ]
                apply wpG_eq
                · intro W hW hs
                  unfold opG
                  go_simp
                  first | exact resG_eq_mk _ _ _ | rfl
                simp only [Act.put, List.setIfInBounds_toArray, List.set_cons_zero, List.set_cons_succ]
                apply wpG_eq
                · intro W hW hs
                  unfold opG
                  go_simp
                  first | exact resG_eq_mk _ _ _ | rfl
                simp only [Act.put, List.setIfInBounds_toArray, List.set_cons_zero, List.set_cons_succ]
                apply wpG_eq
                · intro W hW hs
                  unfold opG
                  go_simp
                  first | exact resG_eq_mk _ _ _ | rfl
                simp only [Act.put, List.setIfInBounds_toArray, List.set_cons_zero, List.set_cons_succ]
                apply wpG_eq
                · intro W hW hs
                  unfold opG
                  go_simp
                  first | exact resG_eq_mk _ _ _ | rfl
                simp only [Act.put, List.setIfInBounds_toArray, List.set_cons_zero, List.set_cons_succ]
                apply wpG_eq
                · intro W hW hs
                  obtain ⟨t0, t1, t2, t3, t4⟩ := TB.out W (Gr.trans HG.out (Gr.trans ((Gr.refl wr).drew) hW))
                  unfold opG
                  go_simp
                  first | exact resG_eq_mk _ _ _ | rfl
                simp only [Act.put, List.setIfInBounds_toArray, List.set_cons_zero, List.set_cons_succ]
                apply wpG_eq
                · intro W hW hs
                  unfold opG
                  go_simp
                  first | exact resG_eq_mk _ _ _ | rfl
                simp only [Act.put, List.setIfInBounds_toArray, List.set_cons_zero, List.set_cons_succ]
                apply wpG_eq
                · intro W hW hs
                  unfold opG
                  go_simp
                  first | exact resG_eq_mk _ _ _ | rfl
                simp only [Act.put, List.setIfInBounds_toArray, List.set_cons_zero, List.set_cons_succ]
                apply wpG_eq
                · intro W hW hs
                  unfold opG
                  go_simp
                  first | exact resG_eq_mk _ _ _ | rfl
                simp only [Act.put, List.setIfInBounds_toArray, List.set_cons_zero, List.set_cons_succ]
                apply wpG_eq
                · intro W hW hs
                  obtain ⟨t0, t1, t2, t3⟩ := TP.out W (Gr.trans ((Gr.refl wr).drew) hW)
                  unfold opG
                  go_simp
                  first | exact resG_eq_mk _ _ _ | rfl
                simp only [Act.put, List.setIfInBounds_toArray, List.set_cons_zero, List.set_cons_succ]
                apply wpG_eq
                · intro W hW hs
                  obtain ⟨t0, t1, t2, t3, t4⟩ := TB.out W (Gr.trans HG.out (Gr.trans ((Gr.refl wr).drew) hW))
                  unfold opG
                  go_simp
                  first | exact resG_eq_mk _ _ _ | rfl
                simp only [Act.put, List.setIfInBounds_toArray, List.set_cons_zero, List.set_cons_succ]
                apply wpG_eq
                · intro W hW hs
                  unfold opG
                  go_simp
                  rw [HE3.out W]
                  exact ⟨Gr.refl _, rfl⟩
                simp only [Act.put, List.setIfInBounds_toArray, List.set_cons_zero, List.set_cons_succ]
                apply wpG_eq
                · intro W hW hs
                  unfold opG
                  go_simp
                  first | exact resG_eq_mk _ _ _ | rfl
                simp only [Act.put, List.setIfInBounds_toArray, List.set_cons_zero, List.set_cons_succ]
                apply wpG_eq
                · intro W hW hs
                  unfold opG
                  go_simp
                  first | exact resG_eq_mk _ _ _ | rfl
                simp only [Act.put, List.setIfInBounds_toArray, List.set_cons_zero, List.set_cons_succ]
                apply wpG_eq
                · intro W hW hs
                  unfold opG
                  go_simp
                  first | exact resG_eq_mk _ _ _ | rfl
                simp only [Act.put, List.setIfInBounds_toArray, List.set_cons_zero, List.set_cons_succ]
                apply wpG_eq
                · intro W hW hs
                  unfold opG
                  go_simp
                  first | exact resG_eq_mk _ _ _ | rfl
                simp only [Act.put, List.setIfInBounds_toArray, List.set_cons_zero, List.set_cons_succ]
                apply wpG_eq
                · intro W hW hs
                  obtain ⟨t0, t1, t2, t3, t4⟩ := TB.out W (Gr.trans HG.out (Gr.trans ((Gr.refl wr).drew) hW))
                  unfold opG
                  go_simp
                  first | exact resG_eq_mk _ _ _ | rfl
                simp only [Act.put, List.setIfInBounds_toArray, List.set_cons_zero, List.set_cons_succ]
                apply wpG_eq
                · intro W hW hs
                  unfold opG
                  go_simp
                  first | exact resG_eq_mk _ _ _ | rfl
                simp only [Act.put, List.setIfInBounds_toArray, List.set_cons_zero, List.set_cons_succ]
                apply wpG_eq
                · intro W hW hs
                  unfold opG
                  go_simp
                  first | exact resG_eq_mk _ _ _ | rfl
                simp only [Act.put, List.setIfInBounds_toArray, List.set_cons_zero, List.set_cons_succ]
                apply wpG_eq
                · intro W hW hs
                  unfold opG
                  go_simp
                  first | exact resG_eq_mk _ _ _ | rfl
                simp only [Act.put, List.setIfInBounds_toArray, List.set_cons_zero, List.set_cons_succ]
                apply wpG_eq
                · intro W hW hs
                  obtain ⟨t0, t1, t2, t3⟩ := TP.out W (Gr.trans ((Gr.refl wr).drew) hW)
                  unfold opG
                  go_simp
                  first | exact resG_eq_mk _ _ _ | rfl
                simp only [Act.put, List.setIfInBounds_toArray, List.set_cons_zero, List.set_cons_succ]
                apply wpG_eq
                · intro W hW hs
                  obtain ⟨t0, t1, t2, t3, t4⟩ := TB.out W (Gr.trans HG.out (Gr.trans ((Gr.refl wr).drew) hW))
                  unfold opG
                  go_simp
                  first | exact resG_eq_mk _ _ _ | rfl
                simp only [Act.put, List.setIfInBounds_toArray, List.set_cons_zero, List.set_cons_succ]
                apply wpG_eq
                · intro W hW hs
                  unfold opG
                  go_simp
                  rw [HE4.out W]
                  exact ⟨Gr.refl _, rfl⟩
                simp only [Act.put, List.setIfInBounds_toArray, List.set_cons_zero, List.set_cons_succ]
                apply wpG_eq
                · intro W hW hs
                  unfold opG
                  go_simp
                  first | exact resG_eq_mk _ _ _ | rfl
                simp only [Act.put, List.setIfInBounds_toArray, List.set_cons_zero, List.set_cons_succ]
                apply wpG_eq
                · intro W hW hs
                  unfold opG
                  go_simp
                  first | exact resG_eq_mk _ _ _ | rfl
                simp only [Act.put, List.setIfInBounds_toArray, List.set_cons_zero, List.set_cons_succ]
                apply wpG_nil
                intro wq hWq hsAll
                have gq : Gr wr wq := Gr.trans ((Gr.refl wr).drew) hWq
                clear hsAll hWq
                (try go_wp2)
                go_meet
                exact ⟨by rw [HR.out]; rfl, gq⟩
            | false =>
              apply wp_region_draw_grow (.eq _ :: .eq _ :: .eq _ :: .eq _ :: .eq _ :: .eq _ :: .eq _ :: .eq _ :: .eq _ :: .eq _ :: .eq _ :: .eq _ :: .eq _ :: .eq _ :: .eq _ :: .eq _ :: .eq _ :: .eq _ :: .eq _ :: .eq _ :: .eq _ :: .eq _ :: .eq _ :: .eq _ :: .eq _ :: .eq _ :: .eq _ :: .eq _ :: .eq _ :: .eq _ :: .eq _ :: .eq _ :: .eq _ :: .eq _ :: .eq _ :: .eq _ :: .eq _ :: .eq _ :: .eq _ :: .eq _ :: .eq _ :: .eq _ :: .eq _ :: .eq _ :: .eq _ :: .eq _ :: []) (by kernel_rfl) (by kernel_rfl) trivial
              apply wpG_eq
              · intro W hW hs
                unfold opG
                go_simp
                first | exact resG_eq_mk _ _ _ | rfl
              simp only [Act.put, List.setIfInBounds_toArray, List.set_cons_zero, List.set_cons_succ]
              apply wpG_eq
              · intro W hW hs
                unfold opG
                go_simp
                first | exact resG_eq_mk _ _ _ | rfl
              simp only [Act.put, List.setIfInBounds_toArray, List.set_cons_zero, List.set_cons_succ]
              apply wpG_eq
              · intro W hW hs
                unfold opG
                go_simp
                first | exact resG_eq_mk _ _ _ | rfl
              simp only [Act.put, List.setIfInBounds_toArray, List.set_cons_zero, List.set_cons_succ]
              apply wpG_eq
              · intro W hW hs
                obtain ⟨t0, t1, t2, t3, t4⟩ := TB.out W (Gr.trans HG.out (Gr.trans ((Gr.refl wr).drew) hW))
                unfold opG
                go_simp
                first | exact resG_eq_mk _ _ _ | rfl
              simp only [Act.put, List.setIfInBounds_toArray, List.set_cons_zero, List.set_cons_succ]
              apply wpG_eq
              · intro W hW hs
                unfold opG
                go_simp
                first | exact resG_eq_mk _ _ _ | rfl
              simp only [Act.put, List.setIfInBounds_toArray, List.set_cons_zero, List.set_cons_succ]
              apply wpG_eq
              · intro W hW hs
                unfold opG
                go_simp
                first | exact resG_eq_mk _ _ _ | rfl
              simp only [Act.put, List.setIfInBounds_toArray, List.set_cons_zero, List.set_cons_succ]
              apply wpG_eq
              · intro W hW hs
                unfold opG
                go_simp
                first | exact resG_eq_mk _ _ _ | rfl
              simp only [Act.put, List.setIfInBounds_toArray, List.set_cons_zero, List.set_cons_succ]
              apply wpG_eq
              · intro W hW hs
                obtain ⟨t0, t1, t2, t3⟩ := TP.out W (Gr.trans ((Gr.refl wr).drew) hW)
                unfold opG
                go_simp
                first | exact resG_eq_mk _ _ _ | rfl
              simp only [Act.put, List.setIfInBounds_toArray, List.set_cons_zero, List.set_cons_succ]
              apply wpG_eq
              · intro W hW hs
                obtain ⟨t0, t1, t2, t3, t4⟩ := TB.out W (Gr.trans HG.out (Gr.trans ((Gr.refl wr).drew) hW))
                unfold opG
                go_simp
                first | exact resG_eq_mk _ _ _ | rfl
              simp only [Act.put, List.setIfInBounds_toArray, List.set_cons_zero, List.set_cons_succ]
              apply wpG_eq
              · intro W hW hs
                unfold opG
                go_simp
                rw [HE1.out W]
                exact ⟨Gr.refl _, rfl⟩
              simp only [Act.put, List.setIfInBounds_toArray, List.set_cons_zero, List.set_cons_succ]
              apply wpG_eq
              · intro W hW hs
                unfold opG
                go_simp
                first | exact resG_eq_mk _ _ _ | rfl
              simp only [Act.put, List.setIfInBounds_toArray, List.set_cons_zero, List.set_cons_succ]
              apply wpG_eq
              · intro W hW hs
                unfold opG
                go_simp
                first | exact resG_eq_mk _ _ _ | rfl
              simp only [Act.put, List.setIfInBounds_toArray, List.set_cons_zero, List.set_cons_succ]
              apply wpG_eq
              · intro W hW hs
                unfold opG
                go_simp
                first | exact resG_eq_mk _ _ _ | rfl
              simp only [Act.put, List.setIfInBounds_toArray, List.set_cons_zero, List.set_cons_succ]
              apply wpG_eq
              · intro W hW hs
                unfold opG
                go_simp
                first | exact resG_eq_mk _ _ _ | rfl
              simp only [Act.put, List.setIfInBounds_toArray, List.set_cons_zero, List.set_cons_succ]
              apply wpG_eq
              · intro W hW hs
                obtain ⟨t0, t1, t2, t3, t4⟩ := TB.out W (Gr.trans HG.out (Gr.trans ((Gr.refl wr).drew) hW))
                unfold opG
                go_simp
                first | exact resG_eq_mk _ _ _ | rfl
              simp only [Act.put, List.setIfInBounds_toArray, List.set_cons_zero, List.set_cons_succ]
              apply wpG_eq
              · intro W hW hs
                unfold opG
                go_simp
                first | exact resG_eq_mk _ _ _ | rfl
              simp only [Act.put, List.setIfInBounds_toArray, List.set_cons_zero, List.set_cons_succ]
              apply wpG_eq
              · intro W hW hs
                unfold opG
                go_simp
                first | exact resG_eq_mk _ _ _ | rfl
              simp only [Act.put, List.setIfInBounds_toArray, List.set_cons_zero, List.set_cons_succ]
              apply wpG_eq
              · intro W hW hs
                unfold opG
                go_simp
                first | exact resG_eq_mk _ _ _ | rfl
              simp only [Act.put, List.setIfInBounds_toArray, List.set_cons_zero, List.set_cons_succ]
              apply wpG_eq
              · intro W hW hs
                obtain ⟨t0, t1, t2, t3⟩ := TP.out W (Gr.trans ((Gr.refl wr).drew) hW)
                unfold opG
                go_simp
                first | exact resG_eq_mk _ _ _ | rfl
              simp only [Act.put, List.setIfInBounds_toArray, List.set_cons_zero, List.set_cons_succ]
              apply wpG_eq
              · intro W hW hs
                obtain ⟨t0, t1, t2, t3, t4⟩ := TB.out W (Gr.trans HG.out (Gr.trans ((Gr.refl wr).drew) hW))
                unfold opG
                go_simp
                first | exact resG_eq_mk _ _ _ | rfl
              simp only [Act.put, List.setIfInBounds_toArray, List.set_cons_zero, List.set_cons_succ]
              apply wpG_eq
              · intro W hW hs
                unfold opG
                go_simp
                rw [HE2.out W]
                exact ⟨Gr.refl _, rfl⟩
              simp only [Act.put, List.setIfInBounds_toArray, List.set_cons_zero, List.set_cons_succ]
              apply wpG_eq
              · intro W hW hs
                unfold opG
                go_simp
                first | exact resG_eq_mk _ _ _ | rfl
              simp only [Act.put, List.setIfInBounds_toArray, List.set_cons_zero, List.set_cons_succ]
              apply wpG_eq
              · intro W hW hs
                unfold opG
                go_simp
                first | exact resG_eq_mk _ _ _ | rfl
              simp only [Act.put, List.setIfInBounds_toArray, List.set_cons_zero, List.set_cons_succ]
              apply wpG_eq
              · intro W hW hs
                unfold opG
                go_simp
                first | exact resG_eq_mk _ _ _ | rfl
              simp only [Act.put, List.setIfInBounds_toArray, List.set_cons_zero, List.set_cons_succ]
              apply wpG_eq
              · intro W hW hs
                unfold opG
                go_simp
                first | exact resG_eq_mk _ _ _ | rfl
              simp only [Act.put, List.setIfInBounds_toArray, List.set_cons_zero, List.set_cons_succ]
              apply wpG_eq
              · intro W hW hs
                unfold opG
                go_simp
                first | exact resG_eq_mk _ _ _ | rfl
              simp only [Act.put, List.setIfInBounds_toArray, List.set_cons_zero, List.set_cons_succ]
              apply wpG_eq
              · intro W hW hs
                obtain ⟨t0, t1, t2, t3, t4⟩ := TB.out W (Gr.trans HG.out (Gr.trans ((Gr.refl wr).drew) hW))
                unfold opG
                go_simp
                first | exact resG_eq_mk _ _ _ | rfl
              simp only [Act.put, List.setIfInBounds_toArray, List.set_cons_zero, List.set_cons_succ]
              apply wpG_eq
              · intro W hW hs
                unfold opG
                go_simp
                first | exact resG_eq_mk _ _ _ | rfl
              simp only [Act.put, List.setIfInBounds_toArray, List.set_cons_zero, List.set_cons_succ]
              apply wpG_eq
              · intro W hW hs
                unfold opG
                go_simp
                first | exact resG_eq_mk _ _ _ | rfl
              simp only [Act.put, List.setIfInBounds_toArray, List.set_cons_zero, List.set_cons_succ]
              apply wpG_eq
              · intro W hW hs
                unfold opG
                go_simp
                first | exact resG_eq_mk _ _ _ | rfl
              simp only [Act.put, List.setIfInBounds_toArray, List.set_cons_zero, List.set_cons_succ]
              apply wpG_eq
              · intro W hW hs
                obtain ⟨t0, t1, t2, t3⟩ := TP.out W (Gr.trans ((Gr.refl wr).drew) hW)
                unfold opG
                go_simp
                first | exact resG_eq_mk _ _ _ | rfl
              simp only [Act.put, List.setIfInBounds_toArray, List.set_cons_zero, List.set_cons_succ]
              apply wpG_eq
              · intro W hW hs
                obtain ⟨t0, t1, t2, t3, t4⟩ := TB.out W (Gr.trans HG.out (Gr.trans ((Gr.refl wr).drew) hW))
                unfold opG
                go_simp
                first | exact resG_eq_mk _ _ _ | rfl
              simp only [Act.put, List.setIfInBounds_toArray, List.set_cons_zero, List.set_cons_succ]
              apply wpG_eq
              · intro W hW hs
                unfold opG
                go_simp
                rw [HE3.out W]
                exact ⟨Gr.refl _, rfl⟩
              simp only [Act.put, List.setIfInBounds_toArray, List.set_cons_zero, List.set_cons_succ]
              apply wpG_eq
              · intro W hW hs
                unfold opG
                go_simp
                first | exact resG_eq_mk _ _ _ | rfl
              simp only [Act.put, List.setIfInBounds_toArray, List.set_cons_zero, List.set_cons_succ]
              apply wpG_eq
              · intro W hW hs
                unfold opG
                go_simp
                first | exact resG_eq_mk _ _ _ | rfl
              simp only [Act.put, List.setIfInBounds_toArray, List.set_cons_zero, List.set_cons_succ]
              apply wpG_eq
              · intro W hW hs
                unfold opG
                go_simp
                first | exact resG_eq_mk _ _ _ | rfl
              simp only [Act.put, List.setIfInBounds_toArray, List.set_cons_zero, List.set_cons_succ]
              apply wpG_eq
              · intro W hW hs
                unfold opG
                go_simp
                first | exact resG_eq_mk _ _ _ | rfl
              simp only [Act.put, List.setIfInBounds_toArray, List.set_cons_zero, List.set_cons_succ]
              apply wpG_eq
              · intro W hW hs
                unfold opG
                go_simp
                first | exact resG_eq_mk _ _ _ | rfl
              simp only [Act.put, List.setIfInBounds_toArray, List.set_cons_zero, List.set_cons_succ]
              apply wpG_eq
              · intro W hW hs
                unfold opG
                go_simp
                first | exact resG_eq_mk _ _ _ | rfl
              simp only [Act.put, List.setIfInBounds_toArray, List.set_cons_zero, List.set_cons_succ]
              apply wpG_eq
              · intro W hW hs
                unfold opG
                go_simp
                first | exact resG_eq_mk _ _ _ | rfl
              simp only [Act.put, List.setIfInBounds_toArray, List.set_cons_zero, List.set_cons_succ]
              apply wpG_eq
              · intro W hW hs
                unfold opG
                go_simp
                first | exact resG_eq_mk _ _ _ | rfl
              simp only [Act.put, List.setIfInBounds_toArray, List.set_cons_zero, List.set_cons_succ]
              apply wpG_eq
              · intro W hW hs
                unfold opG
                go_simp
                first | exact resG_eq_mk _ _ _ | rfl
              simp only [Act.put, List.setIfInBounds_toArray, List.set_cons_zero, List.set_cons_succ]
              apply wpG_eq
              · intro W hW hs
                unfold opG
                go_simp
                first | exact resG_eq_mk _ _ _ | rfl
              simp only [Act.put, List.setIfInBounds_toArray, List.set_cons_zero, List.set_cons_succ]
              apply wpG_eq
              · intro W hW hs
                unfold opG
                go_simp
                first | exact resG_eq_mk _ _ _ | rfl
              simp only [Act.put, List.setIfInBounds_toArray, List.set_cons_zero, List.set_cons_succ]
              apply wpG_eq
              · intro W hW hs
                unfold opG
                go_simp
                first | exact resG_eq_mk _ _ _ | rfl
              simp only [Act.put, List.setIfInBounds_toArray, List.set_cons_zero, List.set_cons_succ]
              apply wpG_eq
              · intro W hW hs
                unfold opG
                go_simp
                first | exact resG_eq_mk _ _ _ | rfl
              simp only [Act.put, List.setIfInBounds_toArray, List.set_cons_zero, List.set_cons_succ]
              apply wpG_nil
              intro wq hWq hsAll
              have gq : Gr wr wq := Gr.trans ((Gr.refl wr).drew) hWq
              clear hsAll hWq
              (try go_wp2)
              go_meet
              exact ⟨by rw [HR.out]; rfl, gq⟩
        | false =>
          cases e3 with
          | true =>
            cases e4 with
            | true =>
              apply wp_region_draw_grow (.eq _ :: .eq _ :: .eq _ :: .eq _ :: .eq _ :: .eq _ :: .eq _ :: .eq _ :: .eq _ :: .eq _ :: .eq _ :: .eq _ :: .eq _ :: .eq _ :: .eq _ :: .eq _ :: .eq _ :: .eq _ :: .eq _ :: .eq _ :: .eq _ :: .eq _ :: .eq _ :: .eq _ :: .eq _ :: .eq _ :: .eq _ :: .eq _ :: .eq _ :: .eq _ :: .eq _ :: .eq _ :: .eq _ :: .eq _ :: .eq _ :: .eq _ :: .eq _ :: .eq _ :: .eq _ :: .eq _ :: .eq _ :: .eq _ :: .eq _ :: .eq _ :: .eq _ :: .eq _ :: []) (by kernel_rfl) (by kernel_rfl) trivial
              apply wpG_eq
              · intro W hW hs
                unfold opG
                go_simp
                first | exact resG_eq_mk _ _ _ | rfl
              simp only [Act.put, List.setIfInBounds_toArray, List.set_cons_zero, List.set_cons_succ]
              apply wpG_eq
              · intro W hW hs
                unfold opG
                go_simp
                first | exact resG_eq_mk _ _ _ | rfl
              simp only [Act.put, List.setIfInBounds_toArray, List.set_cons_zero, List.set_cons_succ]
              apply wpG_eq
              · intro W hW hs
                unfold opG
                go_simp
                first | exact resG_eq_mk _ _ _ | rfl
              simp only [Act.put, List.setIfInBounds_toArray, List.set_cons_zero, List.set_cons_succ]
              apply wpG_eq
              · intro W hW hs
                obtain ⟨t0, t1, t2, t3, t4⟩ := TB.out W (Gr.trans HG.out (Gr.trans ((Gr.refl wr).drew) hW))
                unfold opG
                go_simp
                first | exact resG_eq_mk _ _ _ | rfl
              simp only [Act.put, List.setIfInBounds_toArray, List.set_cons_zero, List.set_cons_succ]
              apply wpG_eq
              · intro W hW hs
                unfold opG
                go_simp
                first | exact resG_eq_mk _ _ _ | rfl
              simp only [Act.put, List.setIfInBounds_toArray, List.set_cons_zero, List.set_cons_succ]
              apply wpG_eq
              · intro W hW hs
                unfold opG
                go_simp
                first | exact resG_eq_mk _ _ _ | rfl
              simp only [Act.put, List.setIfInBounds_toArray, List.set_cons_zero, List.set_cons_succ]
              apply wpG_eq
              · intro W hW hs
                unfold opG
                go_simp
                first | exact resG_eq_mk _ _ _ | rfl
              simp only [Act.put, List.setIfInBounds_toArray, List.set_cons_zero, List.set_cons_succ]
              apply wpG_eq
              · intro W hW hs
                obtain ⟨t0, t1, t2, t3⟩ := TP.out W (Gr.trans ((Gr.refl wr).drew) hW)
                unfold opG
                go_simp
                first | exact resG_eq_mk _ _ _ | rfl
              simp only [Act.put, List.setIfInBounds_toArray, List.set_cons_zero, List.set_cons_succ]
              apply wpG_eq
              · intro W hW hs
                obtain ⟨t0, t1, t2, t3, t4⟩ := TB.out W (Gr.trans HG.out (Gr.trans ((Gr.refl wr).drew) hW))
                unfold opG
                go_simp
                first | exact resG_eq_mk _ _ _ | rfl
              simp only [Act.put, List.setIfInBounds_toArray, List.set_cons_zero, List.set_cons_succ]
              apply wpG_eq
              · intro W hW hs
                unfold opG
                go_simp
                rw [HE1.out W]
                exact ⟨Gr.refl _, rfl⟩
              simp only [Act.put, List.setIfInBounds_toArray, List.set_cons_zero, List.set_cons_succ]
              apply wpG_eq
              · intro W hW hs
                unfold opG
                go_simp
                first | exact resG_eq_mk _ _ _ | rfl
              simp only [Act.put, List.setIfInBounds_toArray, List.set_cons_zero, List.set_cons_succ]
              apply wpG_eq
              · intro W hW hs
                unfold opG
                go_simp
                first | exact resG_eq_mk _ _ _ | rfl
              simp only [Act.put, List.setIfInBounds_toArray, List.set_cons_zero, List.set_cons_succ]
              apply wpG_eq
              · intro W hW hs
                unfold opG
                go_simp
                first | exact resG_eq_mk _ _ _ | rfl
              simp only [Act.put, List.setIfInBounds_toArray, List.set_cons_zero, List.set_cons_succ]
              apply wpG_eq
              · intro W hW hs
                unfold opG
                go_simp
                first | exact resG_eq_mk _ _ _ | rfl
              simp only [Act.put, List.setIfInBounds_toArray, List.set_cons_zero, List.set_cons_succ]
              apply wpG_eq
              · intro W hW hs
                unfold opG
                go_simp
                first | exact resG_eq_mk _ _ _ | rfl
              simp only [Act.put, List.setIfInBounds_toArray, List.set_cons_zero, List.set_cons_succ]
              apply wpG_eq
              · intro W hW hs
                unfold opG
                go_simp
                first | exact resG_eq_mk _ _ _ | rfl
              simp only [Act.put, List.setIfInBounds_toArray, List.set_cons_zero, List.set_cons_succ]
              apply wpG_eq
              · intro W hW hs
                unfold opG
                go_simp
                first | exact resG_eq_mk _ _ _ | rfl
              simp only [Act.put, List.setIfInBounds_toArray, List.set_cons_zero, List.set_cons_succ]
              apply wpG_eq
              · intro W hW hs
                unfold opG
                go_simp
                first | exact resG_eq_mk _ _ _ | rfl
              simp only [Act.put, List.setIfInBounds_toArray, List.set_cons_zero, List.set_cons_succ]
              apply wpG_eq
              · intro W hW hs
                unfold opG
                go_simp
                first | exact resG_eq_mk _ _ _ | rfl
              simp only [Act.put, List.setIfInBounds_toArray, List.set_cons_zero, List.set_cons_succ]
              apply wpG_eq
              · intro W hW hs
                unfold opG
                go_simp
                first | exact resG_eq_mk _ _ _ | rfl
              simp only [Act.put, List.setIfInBounds_toArray, List.set_cons_zero, List.set_cons_succ]
              apply wpG_eq
              · intro W hW hs
                unfold opG
                go_simp
                first | exact resG_eq_mk _ _ _ | rfl
              simp only [Act.put, List.setIfInBounds_toArray, List.set_cons_zero, List.set_cons_succ]
              apply wpG_eq
              · intro W hW hs
                unfold opG
                go_simp
                first | exact resG_eq_mk _ _ _ | rfl
              simp only [Act.put, List.setIfInBounds_toArray, List.set_cons_zero, List.set_cons_succ]
              apply wpG_eq
              · intro W hW hs
                unfold opG
                go_simp
                first | exact resG_eq_mk _ _ _ | rfl
              simp only [Act.put, List.setIfInBounds_toArray, List.set_cons_zero, List.set_cons_succ]
              apply wpG_eq
              · intro W hW hs
                unfold opG
                go_simp
                first | exact resG_eq_mk _ _ _ | rfl
              simp only [Act.put, List.setIfInBounds_toArray, List.set_cons_zero, List.set_cons_succ]
              apply wpG_eq
              · intro W hW hs
                unfold opG
                go_simp
                first | exact resG_eq_mk _ _ _ | rfl
              simp only [Act.put, List.setIfInBounds_toArray, List.set_cons_zero, List.set_cons_succ]
              apply wpG_eq
              · intro W hW hs
                unfold opG
                go_simp
                first | exact resG_eq_mk _ _ _ | rfl
              simp only [Act.put, List.setIfInBounds_toArray, List.set_cons_zero, List.set_cons_succ]
              apply wpG_eq
              · intro W hW hs
                obtain ⟨t0, t1, t2, t3, t4⟩ := TB.out W (Gr.trans HG.out (Gr.trans ((Gr.refl wr).drew) hW))
                unfold opG
                go_simp
                first | exact resG_eq_mk _ _ _ | rfl
              simp only [Act.put, List.setIfInBounds_toArray, List.set_cons_zero, List.set_cons_succ]
              apply wpG_eq
              · intro W hW hs
                unfold opG
                go_simp
                first | exact resG_eq_mk _ _ _ | rfl
              simp only [Act.put, List.setIfInBounds_toArray, List.set_cons_zero, List.set_cons_succ]
              apply wpG_eq
              · intro W hW hs
                unfold opG
                go_simp
                first | exact resG_eq_mk _ _ _ | rfl
              simp only [Act.put, List.setIfInBounds_toArray, List.set_cons_zero, List.set_cons_succ]
              apply wpG_eq
              · intro W hW hs
                unfold opG
                go_simp
                first | exact resG_eq_mk _ _ _ | rfl
              simp only [Act.put, List.setIfInBounds_toArray, List.set_cons_zero, List.set_cons_succ]
              apply wpG_eq
              · intro W hW hs
                obtain ⟨t0, t1, t2, t3⟩ := TP.out W (Gr.trans ((Gr.refl wr).drew) hW)
                unfold opG
                go_simp
                first | exact resG_eq_mk _ _ _ | rfl
              simp only [Act.put, List.setIfInBounds_toArray, List.set_cons_zero, List.set_cons_succ]
              apply wpG_eq
              · intro W hW hs
                obtain ⟨t0, t1, t2, t3, t4⟩ := TB.out W (Gr.trans HG.out (Gr.trans ((Gr.refl wr).drew) hW))
                unfold opG
                go_simp
                first | exact resG_eq_mk _ _ _ | rfl
              simp only [Act.put, List.setIfInBounds_toArray, List.set_cons_zero, List.set_cons_succ]
              apply wpG_eq
              · intro W hW hs
                unfold opG
                go_simp
                rw [HE3.out W]
                exact ⟨Gr.refl _, rfl⟩
              simp only [Act.put, List.setIfInBounds_toArray, List.set_cons_zero, List.set_cons_succ]
              apply wpG_eq
              · intro W hW hs
                unfold opG
                go_simp
                first | exact resG_eq_mk _ _ _ | rfl
              simp only [Act.put, List.setIfInBounds_toArray, List.set_cons_zero, List.set_cons_succ]
              apply wpG_eq
              · intro W hW hs
                unfold opG
                go_simp
                first | exact resG_eq_mk _ _ _ | rfl
              simp only [Act.put, List.setIfInBounds_toArray, List.set_cons_zero, List.set_cons_succ]
              apply wpG_eq
              · intro W hW hs
                unfold opG
                go_simp
                first | exact resG_eq_mk _ _ _ | rfl
              simp only [Act.put, List.setIfInBounds_toArray, List.set_cons_zero, List.set_cons_succ]
              apply wpG_eq
              · intro W hW hs
                unfold opG
                go_simp
                first | exact resG_eq_mk _ _ _ | rfl
              simp only [Act.put, List.setIfInBounds_toArray, List.set_cons_zero, List.set_cons_succ]
              apply wpG_eq
              · intro W hW hs
                obtain ⟨t0, t1, t2, t3, t4⟩ := TB.out W (Gr.trans HG.out (Gr.trans ((Gr.refl wr).drew) hW))
                unfold opG
                go_simp
                first | exact resG_eq_mk _ _ _ | rfl
              simp only [Act.put, List.setIfInBounds_toArray, List.set_cons_zero, List.set_cons_succ]
              apply wpG_eq
              · intro W hW hs
                unfold opG
                go_simp
                first | exact resG_eq_mk _ _ _ | rfl
              simp only [Act.put, List.setIfInBounds_toArray, List.set_cons_zero, List.set_cons_succ]
              apply wpG_eq
              · intro W hW hs
                unfold opG
                go_simp
                first | exact resG_eq_mk _ _ _ | rfl
              simp only [Act.put, List.setIfInBounds_toArray, List.set_cons_zero, List.set_cons_succ]
              apply wpG_eq
              · intro W hW hs
                unfold opG
                go_simp
                first | exact resG_eq_mk _ _ _ | rfl
              simp only [Act.put, List.setIfInBounds_toArray, List.set_cons_zero, List.set_cons_succ]
              apply wpG_eq
              · intro W hW hs
                obtain ⟨t0, t1, t2, t3⟩ := TP.out W (Gr.trans ((Gr.refl wr).drew) hW)
                unfold opG
                go_simp
                first | exact resG_eq_mk _ _ _ | rfl
              simp only [Act.put, List.setIfInBounds_toArray, List.set_cons_zero, List.set_cons_succ]
              apply wpG_eq
              · intro W hW hs
                obtain ⟨t0, t1, t2, t3, t4⟩ := TB.out W (Gr.trans HG.out (Gr.trans ((Gr.refl wr).drew) hW))
                unfold opG
                go_simp
                first | exact resG_eq_mk _ _ _ | rfl
              simp only [Act.put, List.setIfInBounds_toArray, List.set_cons_zero, List.set_cons_succ]
              apply wpG_eq
              · intro W hW hs
                unfold opG
                go_simp
                rw [HE4.out W]
                exact ⟨Gr.refl _, rfl⟩
              simp only [Act.put, List.setIfInBounds_toArray, List.set_cons_zero, List.set_cons_succ]
              apply wpG_eq
              · intro W hW hs
                unfold opG
                go_simp
                first | exact resG_eq_mk _ _ _ | rfl
              simp only [Act.put, List.setIfInBounds_toArray, List.set_cons_zero, List.set_cons_succ]
              apply wpG_eq
              · intro W hW hs
                unfold opG
                go_simp
                first | exact resG_eq_mk _ _ _ | rfl
              simp only [Act.put, List.setIfInBounds_toArray, List.set_cons_zero, List.set_cons_succ]
              apply wpG_nil
              intro wq hWq hsAll
              have gq : Gr wr wq := Gr.trans ((Gr.refl wr).drew) hWq
              clear hsAll hWq
              (try go_wp2)
              go_meet
              exact ⟨by rw [HR.out]; rfl, gq⟩
            | false =>
              apply wp_region_draw_grow (.eq _ :: .eq _ :: .eq _ :: .eq _ :: .eq _ :: .eq _ :: .eq _ :: .eq _ :: .eq _ :: .eq _ :: .eq _ :: .eq _ :: .eq _ :: .eq _ :: .eq _ :: .eq _ :: .eq _ :: .eq _ :: .eq _ :: .eq _ :: .eq _ :: .eq _ :: .eq _ :: .eq _ :: .eq _ :: .eq _ :: .eq _ :: .eq _ :: .eq _ :: .eq _ :: .eq _ :: .eq _ :: .eq _ :: .eq _ :: .eq _ :: .eq _ :: .eq _ :: .eq _ :: .eq _ :: .eq _ :: .eq _ :: .eq _ :: .eq _ :: .eq _ :: .eq _ :: .eq _ :: []) (by kernel_rfl) (by kernel_rfl) trivial
              apply wpG_eq
              · intro W hW hs
                unfold opG
                go_simp
                first | exact resG_eq_mk _ _ _ | rfl
              simp only [Act.put, List.setIfInBounds_toArray, List.set_cons_zero, List.set_cons_succ]
              apply wpG_eq
              · intro W hW hs
                unfold opG
                go_simp
                first | exact resG_eq_mk _ _ _ | rfl
              simp only [Act.put, List.setIfInBounds_toArray, List.set_cons_zero, List.set_cons_succ]
              apply wpG_eq
              · intro W hW hs
                unfold opG
                go_simp
                first | exact resG_eq_mk _ _ _ | rfl
              simp only [Act.put, List.setIfInBounds_toArray, List.set_cons_zero, List.set_cons_succ]
              apply wpG_eq
              · intro W hW hs
                obtain ⟨t0, t1, t2, t3, t4⟩ := TB.out W (Gr.trans HG.out (Gr.trans ((Gr.refl wr).drew) hW))
                unfold opG
                go_simp
                first | exact resG_eq_mk _ _ _ | rfl
              simp only [Act.put, List.setIfInBounds_toArray, List.set_cons_zero, List.set_cons_succ]
              apply wpG_eq
              · intro W hW hs
                unfold opG
                go_simp
                first | exact resG_eq_mk _ _ _ | rfl
              simp only [Act.put, List.setIfInBounds_toArray, List.set_cons_zero, List.set_cons_succ]
              apply wpG_eq
              · intro W hW hs
                unfold opG
                go_simp
                first | exact resG_eq_mk _ _ _ | rfl
              simp only [Act.put, List.setIfInBounds_toArray, List.set_cons_zero, List.set_cons_succ]
              apply wpG_eq
              · intro W hW hs
                unfold opG
                go_simp
                first | exact resG_eq_mk _ _ _ | rfl
              simp only [Act.put, List.setIfInBounds_toArray, List.set_cons_zero, List.set_cons_succ]
              apply wpG_eq
              · intro W hW hs
                obtain ⟨t0, t1, t2, t3⟩ := TP.out W (Gr.trans ((Gr.refl wr).drew) hW)
                unfold opG
                go_simp
                first | exact resG_eq_mk _ _ _ | rfl
              simp only [Act.put, List.setIfInBounds_toArray, List.set_cons_zero, List.set_cons_succ]
              apply wpG_eq
              · intro W hW hs
                obtain ⟨t0, t1, t2, t3, t4⟩ := TB.out W (Gr.trans HG.out (Gr.trans ((Gr.refl wr).drew) hW))
                unfold opG
                go_simp
                first | exact resG_eq_mk _ _ _ | rfl
              simp only [Act.put, List.setIfInBounds_toArray, List.set_cons_zero, List.set_cons_succ]
              apply wpG_eq
              · intro W hW hs
                unfold opG
                go_simp
                rw [HE1.out W]
                exact ⟨Gr.refl _, rfl⟩
              simp only [Act.put, List.setIfInBounds_toArray, List.set_cons_zero, List.set_cons_succ]
              apply wpG_eq
              · intro W hW hs
                unfold opG
                go_simp
                first | exact resG_eq_mk _ _ _ | rfl
              simp only [Act.put, List.setIfInBounds_toArray, List.set_cons_zero, List.set_cons_succ]
              apply wpG_eq
              · intro W hW hs
                unfold opG
                go_simp
                first | exact resG_eq_mk _ _ _ | rfl
              simp only [Act.put, List.setIfInBounds_toArray, List.set_cons_zero, List.set_cons_succ]
              apply wpG_eq
              · intro W hW hs
                unfold opG
                go_simp
                first | exact resG_eq_mk _ _ _ | rfl
              simp only [Act.put, List.setIfInBounds_toArray, List.set_cons_zero, List.set_cons_succ]
              apply wpG_eq
              · intro W hW hs
                unfold opG
                go_simp
                first | exact resG_eq_mk _ _ _ | rfl
              simp only [Act.put, List.setIfInBounds_toArray, List.set_cons_zero, List.set_cons_succ]
              apply wpG_eq
              · intro W hW hs
                unfold opG
                go_simp
                first | exact resG_eq_mk _ _ _ | rfl
              simp only [Act.put, List.setIfInBounds_toArray, List.set_cons_zero, List.set_cons_succ]
              apply wpG_eq
              · intro W hW hs
                unfold opG
                go_simp
                first | exact resG_eq_mk _ _ _ | rfl
              simp only [Act.put, List.setIfInBounds_toArray, List.set_cons_zero, List.set_cons_succ]
              apply wpG_eq
              · intro W hW hs
                unfold opG
                go_simp
                first | exact resG_eq_mk _ _ _ | rfl
              simp only [Act.put, List.setIfInBounds_toArray, List.set_cons_zero, List.set_cons_succ]
              apply wpG_eq
              · intro W hW hs
                unfold opG
                go_simp
                first | exact resG_eq_mk _ _ _ | rfl
              simp only [Act.put, List.setIfInBounds_toArray, List.set_cons_zero, List.set_cons_succ]
              apply wpG_eq
              · intro W hW hs
                unfold opG
                go_simp
                first | exact resG_eq_mk _ _ _ | rfl
              simp only [Act.put, List.setIfInBounds_toArray, List.set_cons_zero, List.set_cons_succ]
              apply wpG_eq
              · intro W hW hs
                unfold opG
                go_simp
                first | exact resG_eq_mk _ _ _ | rfl
              simp only [Act.put, List.setIfInBounds_toArray, List.set_cons_zero, List.set_cons_succ]
              apply wpG_eq
              · intro W hW hs
                unfold opG
                go_simp
                first | exact resG_eq_mk _ _ _ | rfl
              simp only [Act.put, List.setIfInBounds_toArray, List.set_cons_zero, List.set_cons_succ]
              apply wpG_eq
              · intro W hW hs
                unfold opG
                go_simp
                first | exact resG_eq_mk _ _ _ | rfl
              simp only [Act.put, List.setIfInBounds_toArray, List.set_cons_zero, List.set_cons_succ]
              apply wpG_eq
              · intro W hW hs
                unfold opG
                go_simp
                first | exact resG_eq_mk _ _ _ | rfl
              simp only [Act.put, List.setIfInBounds_toArray, List.set_cons_zero, List.set_cons_succ]
              apply wpG_eq
              · intro W hW hs
                unfold opG
                go_simp
                first | exact resG_eq_mk _ _ _ | rfl
              simp only [Act.put, List.setIfInBounds_toArray, List.set_cons_zero, List.set_cons_succ]
              apply wpG_eq
              · intro W hW hs
                unfold opG
                go_simp
                first | exact resG_eq_mk _ _ _ | rfl
              simp only [Act.put, List.setIfInBounds_toArray, List.set_cons_zero, List.set_cons_succ]
              apply wpG_eq
              · intro W hW hs
                unfold opG
                go_simp
                first | exact resG_eq_mk _ _ _ | rfl
              simp only [Act.put, List.setIfInBounds_toArray, List.set_cons_zero, List.set_cons_succ]
              apply wpG_eq
              · intro W hW hs
                obtain ⟨t0, t1, t2, t3, t4⟩ := TB.out W (Gr.trans HG.out (Gr.trans ((Gr.refl wr).drew) hW))
                unfold opG
                go_simp
                first | exact resG_eq_mk _ _ _ | rfl
              simp only [Act.put, List.setIfInBounds_toArray, List.set_cons_zero, List.set_cons_succ]
              apply wpG_eq
              · intro W hW hs
                unfold opG
                go_simp
                first | exact resG_eq_mk _ _ _ | rfl
              simp only [Act.put, List.setIfInBounds_toArray, List.set_cons_zero, List.set_cons_succ]
              apply wpG_eq
              · intro W hW hs
                unfold opG
                go_simp
                first | exact resG_eq_mk _ _ _ | rfl
              simp only [Act.put, List.setIfInBounds_toArray, List.set_cons_zero, List.set_cons_succ]
              apply wpG_eq
              · intro W hW hs
                unfold opG
                go_simp
                first | exact resG_eq_mk _ _ _ | rfl
              simp only [Act.put, List.setIfInBounds_toArray, List.set_cons_zero, List.set_cons_succ]
              apply wpG_eq
              · intro W hW hs
                obtain ⟨t0, t1, t2, t3⟩ := TP.out W (Gr.trans ((Gr.refl wr).drew) hW)
                unfold opG
                go_simp
                first | exact resG_eq_mk _ _ _ | rfl
              simp only [Act.put, List.setIfInBounds_toArray, List.set_cons_zero, List.set_cons_succ]
              apply wpG_eq
              · intro W hW hs
                obtain ⟨t0, t1, t2, t3, t4⟩ := TB.out W (Gr.trans HG.out (Gr.trans ((Gr.refl wr).drew) hW))
                unfold opG
                go_simp
                first | exact resG_eq_mk _ _ _ | rfl
              simp only [Act.put, List.setIfInBounds_toArray, List.set_cons_zero, List.set_cons_succ]
              apply wpG_eq
              · intro W hW hs
                unfold opG
                go_simp
                rw [HE3.out W]
                exact ⟨Gr.refl _, rfl⟩
              simp only [Act.put, List.setIfInBounds_toArray, List.set_cons_zero, List.set_cons_succ]
              apply wpG_eq
              · intro W hW hs
                unfold opG
                go_simp
                first | exact resG_eq_mk _ _ _ | rfl
              simp only [Act.put, List.setIfInBounds_toArray, List.set_cons_zero, List.set_cons_succ]
              apply wpG_eq
              · intro W hW hs
                unfold opG
                go_simp
                first | exact resG_eq_mk _ _ _ | rfl
              simp only [Act.put, List.setIfInBounds_toArray, List.set_cons_zero, List.set_cons_succ]
              apply wpG_eq
              · intro W hW hs
                unfold opG
                go_simp
                first | exact resG_eq_mk _ _ _ | rfl
              simp only [Act.put, List.setIfInBounds_toArray, List.set_cons_zero, List.set_cons_succ]
              apply wpG_eq
              · intro W hW hs
                unfold opG
                go_simp
                first | exact resG_eq_mk _ _ _ | rfl
              simp only [Act.put, List.setIfInBounds_toArray, List.set_cons_zero, List.set_cons_succ]
              apply wpG_eq
              · intro W hW hs
                obtain ⟨t0, t1, t2, t3, t4⟩ := TB.out W (Gr.trans HG.out (Gr.trans ((Gr.refl wr).drew) hW))
                unfold opG
                go_simp
                first | exact resG_eq_mk _ _ _ | rfl
              simp only [Act.put, List.setIfInBounds_toArray, List.set_cons_zero, List.set_cons_succ]
              apply wpG_eq
              · intro W hW hs
                unfold opG
                go_simp
                first | exact resG_eq_mk _ _ _ | rfl
              simp only [Act.put, List.setIfInBounds_toArray, List.set_cons_zero, List.set_cons_succ]
              apply wpG_eq
              · intro W hW hs
                unfold opG
                go_simp
                first | exact resG_eq_mk _ _ _ | rfl
              simp only [Act.put, List.setIfInBounds_toArray, List.set_cons_zero, List.set_cons_succ]
              apply wpG_eq
              · intro W hW hs
                unfold opG
                go_simp
                first | exact resG_eq_mk _ _ _ | rfl
              simp only [Act.put, List.setIfInBounds_toArray, List.set_cons_zero, List.set_cons_succ]
              apply wpG_eq
              · intro W hW hs
                obtain ⟨t0, t1, t2, t3⟩ := TP.out W (Gr.trans ((Gr.refl wr).drew) hW)
                unfold opG
                go_simp
                first | exact resG_eq_mk _ _ _ | rfl
              simp only [Act.put, List.setIfInBounds_toArray, List.set_cons_zero, List.set_cons_succ]
              apply wpG_eq
              · intro W hW hs
                obtain ⟨t0, t1, t2, t3, t4⟩ := TB.out W (Gr.trans HG.out (Gr.trans ((Gr.refl wr).drew) hW))
                unfold opG
                go_simp
                first | exact resG_eq_mk _ _ _ | rfl
              simp only [Act.put, List.setIfInBounds_toArray, List.set_cons_zero, List.set_cons_succ]
              apply wpG_eq
              · intro W hW hs
                unfold opG
                go_simp
                rw [HE4.out W]
                exact ⟨Gr.refl _, rfl⟩
              simp only [Act.put, List.setIfInBounds_toArray, List.set_cons_zero, List.set_cons_succ]
              apply wpG_eq
              · intro W hW hs
                unfold opG
                go_simp
                first | exact resG_eq_mk _ _ _ | rfl
              simp only [Act.put, List.setIfInBounds_toArray, List.set_cons_zero, List.set_cons_succ]
              apply wpG_eq
              · intro W hW hs
                unfold opG
                go_simp
                first | exact resG_eq_mk _ _ _ | rfl
              simp only [Act.put, List.setIfInBounds_toArray, List.set_cons_zero, List.set_cons_succ]
              apply wpG_nil
              intro wq hWq hsAll
              have gq : Gr wr wq := Gr.trans ((Gr.refl wr).drew) hWq
              clear hsAll hWq
              (try go_wp2)
              go_meet
              exact ⟨by rw [HR.out]; rfl, gq⟩
          | false =>
            apply wp_region_draw_grow (.eq _ :: .eq _ :: .eq _ :: .eq _ :: .eq _ :: .eq _ :: .eq _ :: .eq _ :: .eq _ :: .eq _ :: .eq _ :: .eq _ :: .eq _ :: .eq _ :: .eq _ :: .eq _ :: .eq _ :: .eq _ :: .eq _ :: .eq _ :: .eq _ :: .eq _ :: .eq _ :: .eq _ :: .eq _ :: .eq _ :: .eq _ :: .eq _ :: .eq _ :: .eq _ :: .eq _ :: .eq _ :: .eq _ :: .eq _ :: .eq _ :: .eq _ :: .eq _ :: .eq _ :: .eq _ :: .eq _ :: .eq _ :: .eq _ :: .eq _ :: .eq _ :: .eq _ :: .eq _ :: []) (by kernel_rfl) (by kernel_rfl) trivial
            apply wpG_eq
            · intro W hW hs
              unfold opG
              go_simp
              first | exact resG_eq_mk _ _ _ | rfl
            simp only [Act.put, List.setIfInBounds_toArray, List.set_cons_zero, List.set_cons_succ]
            apply wpG_eq
            · intro W hW hs
              unfold opG
              go_simp
              first | exact resG_eq_mk _ _ _ | rfl
            simp only [Act.put, List.setIfInBounds_toArray, List.set_cons_zero, List.set_cons_succ]
            apply wpG_eq
            · intro W hW hs
              unfold opG
              go_simp
              first | exact resG_eq_mk _ _ _ | rfl
            simp only [Act.put, List.setIfInBounds_toArray, List.set_cons_zero, List.set_cons_succ]
            apply wpG_eq
            · intro W hW hs
              obtain ⟨t0, t1, t2, t3, t4⟩ := TB.out W (Gr.trans HG.out (Gr.trans ((Gr.refl wr).drew) hW))
              unfold opG
              go_simp
              first | exact resG_eq_mk _ _ _ | rfl
            simp only [Act.put, List.setIfInBounds_toArray, List.set_cons_zero, List.set_cons_succ]
            apply wpG_eq
            · intro W hW hs
              unfold opG
              go_simp
              first | exact resG_eq_mk _ _ _ | rfl
            simp only [Act.put, List.setIfInBounds_toArray, List.set_cons_zero, List.set_cons_succ]
            apply wpG_eq
            · intro W hW hs
              unfold opG
              go_simp
              first | exact resG_eq_mk _ _ _ | rfl
            simp only [Act.put, List.setIfInBounds_toArray, List.set_cons_zero, List.set_cons_succ]
            apply wpG_eq
            · intro W hW hs
              unfold opG
              go_simp
              first | exact resG_eq_mk _ _ _ | rfl
            simp only [Act.put, List.setIfInBounds_toArray, List.set_cons_zero, List.set_cons_succ]
            apply wpG_eq
            · intro W hW hs
              obtain ⟨t0, t1, t2, t3⟩ := TP.out W (Gr.trans ((Gr.refl wr).drew) hW)
              unfold opG
              go_simp
              first | exact resG_eq_mk _ _ _ | rfl
            simp only [Act.put, List.setIfInBounds_toArray, List.set_cons_zero, List.set_cons_succ]
            apply wpG_eq
            · intro W hW hs
              obtain ⟨t0, t1, t2, t3, t4⟩ := TB.out W (Gr.trans HG.out (Gr.trans ((Gr.refl wr).drew) hW))
              unfold opG
              go_simp
              first | exact resG_eq_mk _ _ _ | rfl
            simp only [Act.put, List.setIfInBounds_toArray, List.set_cons_zero, List.set_cons_succ]
            apply wpG_eq
            · intro W hW hs
              unfold opG
              go_simp
              rw [HE1.out W]
              exact ⟨Gr.refl _, rfl⟩
            simp only [Act.put, List.setIfInBounds_toArray, List.set_cons_zero, List.set_cons_succ]
            apply wpG_eq
            · intro W hW hs
              unfold opG
              go_simp
              first | exact resG_eq_mk _ _ _ | rfl
            simp only [Act.put, List.setIfInBounds_toArray, List.set_cons_zero, List.set_cons_succ]
            apply wpG_eq
            · intro W hW hs
              unfold opG
              go_simp
              first | exact resG_eq_mk _ _ _ | rfl
            simp only [Act.put, List.setIfInBounds_toArray, List.set_cons_zero, List.set_cons_succ]
            apply wpG_eq
            · intro W hW hs
              unfold opG
              go_simp
              first | exact resG_eq_mk _ _ _ | rfl
            simp only [Act.put, List.setIfInBounds_toArray, List.set_cons_zero, List.set_cons_succ]
            apply wpG_eq
            · intro W hW hs
              unfold opG
              go_simp
              first | exact resG_eq_mk _ _ _ | rfl
            simp only [Act.put, List.setIfInBounds_toArray, List.set_cons_zero, List.set_cons_succ]
            apply wpG_eq
            · intro W hW hs
              unfold opG
              go_simp
              first | exact resG_eq_mk _ _ _ | rfl
            simp only [Act.put, List.setIfInBounds_toArray, List.set_cons_zero, List.set_cons_succ]
            apply wpG_eq
            · intro W hW hs
              unfold opG
              go_simp
              first | exact resG_eq_mk _ _ _ | rfl
            simp only [Act.put, List.setIfInBounds_toArray, List.set_cons_zero, List.set_cons_succ]
            apply wpG_eq
            · intro W hW hs
              unfold opG
              go_simp
              first | exact resG_eq_mk _ _ _ | rfl
            simp only [Act.put, List.setIfInBounds_toArray, List.set_cons_zero, List.set_cons_succ]
            apply wpG_eq
            · intro W hW hs
              unfold opG
              go_simp
              first | exact resG_eq_mk _ _ _ | rfl
            simp only [Act.put, List.setIfInBounds_toArray, List.set_cons_zero, List.set_cons_succ]
            apply wpG_eq
            · intro W hW hs
              unfold opG
              go_simp
              first | exact resG_eq_mk _ _ _ | rfl
            simp only [Act.put, List.setIfInBounds_toArray, List.set_cons_zero, List.set_cons_succ]
            apply wpG_eq
            · intro W hW hs
              unfold opG
              go_simp
              first | exact resG_eq_mk _ _ _ | rfl
            simp only [Act.put, List.setIfInBounds_toArray, List.set_cons_zero, List.set_cons_succ]
            apply wpG_eq
            · intro W hW hs
              unfold opG
              go_simp
              first | exact resG_eq_mk _ _ _ | rfl
            simp only [Act.put, List.setIfInBounds_toArray, List.set_cons_zero, List.set_cons_succ]
            apply wpG_eq
            · intro W hW hs
              unfold opG
              go_simp
              first | exact resG_eq_mk _ _ _ | rfl
            simp only [Act.put, List.setIfInBounds_toArray, List.set_cons_zero, List.set_cons_succ]
            apply wpG_eq
            · intro W hW hs
              unfold opG
              go_simp
              first | exact resG_eq_mk _ _ _ | rfl
            simp only [Act.put, List.setIfInBounds_toArray, List.set_cons_zero, List.set_cons_succ]
            apply wpG_eq
            · intro W hW hs
              unfold opG
              go_simp
              first | exact resG_eq_mk _ _ _ | rfl
            simp only [Act.put, List.setIfInBounds_toArray, List.set_cons_zero, List.set_cons_succ]
            apply wpG_eq
            · intro W hW hs
              unfold opG
              go_simp
              first | exact resG_eq_mk _ _ _ | rfl
            simp only [Act.put, List.setIfInBounds_toArray, List.set_cons_zero, List.set_cons_succ]
            apply wpG_eq
            · intro W hW hs
              unfold opG
              go_simp
              first | exact resG_eq_mk _ _ _ | rfl
            simp only [Act.put, List.setIfInBounds_toArray, List.set_cons_zero, List.set_cons_succ]
            apply wpG_eq
            · intro W hW hs
              obtain ⟨t0, t1, t2, t3, t4⟩ := TB.out W (Gr.trans HG.out (Gr.trans ((Gr.refl wr).drew) hW))
              unfold opG
              go_simp
              first | exact resG_eq_mk _ _ _ | rfl
            simp only [Act.put, List.setIfInBounds_toArray, List.set_cons_zero, List.set_cons_succ]
            apply wpG_eq
            · intro W hW hs
              unfold opG
              go_simp
              first | exact resG_eq_mk _ _ _ | rfl
            simp only [Act.put, List.setIfInBounds_toArray, List.set_cons_zero, List.set_cons_succ]
            apply wpG_eq
            · intro W hW hs
              unfold opG
              go_simp
              first | exact resG_eq_mk _ _ _ | rfl
            simp only [Act.put, List.setIfInBounds_toArray, List.set_cons_zero, List.set_cons_succ]
            apply wpG_eq
            · intro W hW hs
              unfold opG
              go_simp
              first | exact resG_eq_mk _ _ _ | rfl
            simp only [Act.put, List.setIfInBounds_toArray, List.set_cons_zero, List.set_cons_succ]
            apply wpG_eq
            · intro W hW hs
              obtain ⟨t0, t1, t2, t3⟩ := TP.out W (Gr.trans ((Gr.refl wr).drew) hW)
              unfold opG
              go_simp
              first | exact resG_eq_mk _ _ _ | rfl
            simp only [Act.put, List.setIfInBounds_toArray, List.set_cons_zero, List.set_cons_succ]
            apply wpG_eq
            · intro W hW hs
              obtain ⟨t0, t1, t2, t3, t4⟩ := TB.out W (Gr.trans HG.out (Gr.trans ((Gr.refl wr).drew) hW))
              unfold opG
              go_simp
              first | exact resG_eq_mk _ _ _ | rfl
            simp only [Act.put, List.setIfInBounds_toArray, List.set_cons_zero, List.set_cons_succ]
            apply wpG_eq
            · intro W hW hs
              unfold opG
              go_simp
              rw [HE3.out W]
              exact ⟨Gr.refl _, rfl⟩
            simp only [Act.put, List.setIfInBounds_toArray, List.set_cons_zero, List.set_cons_succ]
            apply wpG_eq
            · intro W hW hs
              unfold opG
              go_simp
              first | exact resG_eq_mk _ _ _ | rfl
            simp only [Act.put, List.setIfInBounds_toArray, List.set_cons_zero, List.set_cons_succ]
            apply wpG_eq
            · intro W hW hs
              unfold opG
              go_simp
              first | exact resG_eq_mk _ _ _ | rfl
            simp only [Act.put, List.setIfInBounds_toArray, List.set_cons_zero, List.set_cons_succ]
            apply wpG_eq
            · intro W hW hs
              unfold opG
              go_simp
              first | exact resG_eq_mk _ _ _ | rfl
            simp only [Act.put, List.setIfInBounds_toArray, List.set_cons_zero, List.set_cons_succ]
            apply wpG_eq
            · intro W hW hs
              unfold opG
              go_simp
              first | exact resG_eq_mk _ _ _ | rfl
            simp only [Act.put, List.setIfInBounds_toArray, List.set_cons_zero, List.set_cons_succ]
            apply wpG_eq
            · intro W hW hs
              unfold opG
              go_simp
              first | exact resG_eq_mk _ _ _ | rfl
            simp only [Act.put, List.setIfInBounds_toArray, List.set_cons_zero, List.set_cons_succ]
            apply wpG_eq
            · intro W hW hs
              unfold opG
              go_simp
              first | exact resG_eq_mk _ _ _ | rfl
            simp only [Act.put, List.setIfInBounds_toArray, List.set_cons_zero, List.set_cons_succ]
            apply wpG_eq
            · intro W hW hs
              unfold opG
              go_simp
              first | exact resG_eq_mk _ _ _ | rfl
            simp only [Act.put, List.setIfInBounds_toArray, List.set_cons_zero, List.set_cons_succ]
            apply wpG_eq
            · intro W hW hs
              unfold opG
              go_simp
              first | exact resG_eq_mk _ _ _ | rfl
            simp only [Act.put, List.setIfInBounds_toArray, List.set_cons_zero, List.set_cons_succ]
            apply wpG_eq
            · intro W hW hs
              unfold opG
              go_simp
              first | exact resG_eq_mk _ _ _ | rfl
            simp only [Act.put, List.setIfInBounds_toArray, List.set_cons_zero, List.set_cons_succ]
            apply wpG_eq
            · intro W hW hs
              unfold opG
              go_simp
              first | exact resG_eq_mk _ _ _ | rfl
            simp only [Act.put, List.setIfInBounds_toArray, List.set_cons_zero, List.set_cons_succ]
            apply wpG_eq
            · intro W hW hs
              unfold opG
              go_simp
              first | exact resG_eq_mk _ _ _ | rfl
            simp only [Act.put, List.setIfInBounds_toArray, List.set_cons_zero, List.set_cons_succ]
            apply wpG_eq
            · intro W hW hs
              unfold opG
              go_simp
              first | exact resG_eq_mk _ _ _ | rfl
            simp only [Act.put, List.setIfInBounds_toArray, List.set_cons_zero, List.set_cons_succ]
            apply wpG_eq
            · intro W hW hs
              unfold opG
              go_simp
              first | exact resG_eq_mk _ _ _ | rfl
            simp only [Act.put, List.setIfInBounds_toArray, List.set_cons_zero, List.set_cons_succ]
            apply wpG_nil
            intro wq hWq hsAll
            have gq : Gr wr wq := Gr.trans ((Gr.refl wr).drew) hWq
            clear hsAll hWq
            (try go_wp2)
            go_meet
            exact ⟨by rw [HR.out]; rfl, gq⟩
      case rest =>
        obtain ⟨rfl, hcut⟩ := hcut
        have HG2 := Lib.hid (Gr.trans HG.out hcut)
        clear hcut HG TP HE1 HE2 HE3 HE4 HR
        cases r with
        | true =>
          have HTR := Lib.hid (HON.out.2 rfl)
          clear HON
          go_wp2
          go_ret
          exact ⟨ret_bool (by rw [HRR.out, HTR.out]), Gr.trans GB.out HG2.out⟩
        | false =>
          have HNX := HON.out.1
          go_wp2
          exact ⟨⟨k + 1, by omega, by go_num, HNX, HG2.out⟩, by simp [intOf]; omega⟩
    · obtain rfl : k = L := by omega
      have hall : cutsR cuts (a1, a2) (b1, b2) = false := by have h9 := HNO.out; rw [HL.out, List.take_length] at h9; exact h9
      have HALL := Lib.hid hall
      clear hall
      go_wp2
      go_ret
      exact ⟨ret_bool (by rw [HRR.out, HALL.out]), Gr.trans GB.out HG.out⟩
end Go.Proofs.Ytcpkbngoecpnkaa
