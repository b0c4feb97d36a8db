/-
  StreamKnown: the chapter's examples; what may not be; new memory. Closed; no conditions.
-/
import Derived.Test.YtpdninnnpoiblaaSAll
import Derived.Lib.SlBytesConst
set_option linter.unusedVariables false
namespace Go.Proofs.Ytpdninnnpoiblaa
open Go.RowKit

def effK : EffD := ⟨[47, 97], false, [120], restZ⟩
def itemK : ItemD := ⟨1, 1, 1, 2, [1, 0], [effK], 0⟩
def itemL : ItemD := ⟨0, 3, -1, 0, [2, 5], [], 7⟩
def itemZ : ItemD := ⟨0, 0, 0, 0, [], [], 0⟩
theorem effK_ok : EffOk effK := ⟨rfl, by decide, by decide⟩
theorem itemK_ok : ItemOk itemK := ⟨by decide, by decide⟩
theorem itemK_n : NumOk itemK := ⟨by decide, by decide, by decide⟩
theorem itemL_ok : ItemOk itemL := ⟨by decide, by decide⟩
theorem itemL_n : NumOk itemL := ⟨by decide, by decide, by decide⟩
theorem itemZ_ok : ItemOk itemZ := ⟨by decide, by decide⟩
theorem itemZ_n : NumOk itemZ := ⟨by decide, by decide, by decide⟩
/-- Items laid one behind the other in one block. -/
theorem items_many (w : World) (B : Nat) (L : List (ItemD × Value × Value)) (cs : Array Value) (fr : Nat × Nat) (n : Nat) (h : w.heap[B]? = some (.cells cs 33 fr)) (hn : n = L.length) (hc : cs.toList = (L.map fun p => (itemCells p.1 p.2.1 p.2.2).toList).flatten)
    (hok : ∀ p ∈ L, ItemOk p.1 ∧ ItemIs w p.1 p.2.1 p.2.2) : Items w (.slice (some ⟨B, 0, none⟩) n n) (L.map (·.1)) := by
  subst hn
  have hB : B < w.heap.size := (Array.getElem?_eq_some_iff.1 h).1
  have hk : ∀ r ∈ (L.map fun p => (itemCells p.1 p.2.1 p.2.2).toList), r.length = 7 := fun r hr => by
    obtain ⟨p, _, rfl⟩ := List.mem_map.1 hr
    rfl
  have cell : ∀ i (hi : i < L.length) j (hj : j < 7), w.cell? ⟨B, 0 + i * 7 + j, none⟩ = (itemCells L[i].1 L[i].2.1 L[i].2.2)[j]? := fun i hi j hj => by
    have hi' : i < (L.map fun p => (itemCells p.1 p.2.1 p.2.2).toList).length := by simpa using hi
    have hlen := hk _ (List.getElem_mem hi')
    have := flatten_get hk i hi' j (by omega)
    rw [← hc] at this
    have h1 : w.cell? ⟨B, 0 + i * 7 + j, none⟩ = cs[0 + i * 7 + j]? := by simp [World.cell?, h]
    rw [h1, Nat.zero_add, ← Array.getElem?_toList, this, ← List.getElem?_eq_getElem]
    simp
  refine ⟨fun i j => ((L[i]?).bind fun p => (itemCells p.1 p.2.1 p.2.2)[j]?).getD (.bool false), ⟨some ⟨B, 0, none⟩, L.length, by rw [List.length_map], by rw [List.length_map]; exact Nat.le_refl _, ?_⟩, fun i hi => ?_⟩
  · by_cases h0 : L.length = 0
    · left; simpa using h0
    · refine .inr ⟨B, 0, rfl, hB, fun i hi j hj => ?_⟩
      have hi' : i < L.length := by simpa using hi
      rw [cell i hi' j hj]
      have : j < (itemCells L[i].1 L[i].2.1 L[i].2.2).size := hj
      dsimp only
      rw [List.getElem?_eq_getElem hi', Option.bind_some, Array.getElem?_eq_getElem this]; rfl
  · have hi' : i < L.length := by simpa using hi
    obtain ⟨q1, q2⟩ := hok _ (List.getElem_mem hi')
    simp only [List.getElem_map]
    refine ⟨q1, L[i].2.1, L[i].2.2, fun j u hu => ?_, q2⟩
    simp only [List.getElem?_eq_getElem hi', Option.bind_some, hu, Option.getD_some]
/-- A row of the call's own with one item. -/
theorem ItemsR.one {w : World} {B : Nat} {v : Value} {x : ItemD} (h : ItemsR w B v [x]) : ∃ g cap sv ev, v = .slice (some ⟨g, 0, Option.none⟩) 1 cap ∧ B ≤ g ∧ g < w.heap.size ∧ w.cell? ⟨g, 4, Option.none⟩ = some sv ∧ w.cell? ⟨g, 5, Option.none⟩ = some ev ∧ ItemR w B x sv ev := by
  obtain ⟨rs, h1, h2, h3⟩ := h
  obtain ⟨sv, ev, q1, q2⟩ := h3 0 (by simp)
  have h2' : rs.length = 1 := h2
  obtain ⟨g, cap, e, hb, hg, _, hc⟩ := h1.formN (by omega)
  have hr : rs[0]'(by omega) = (itemCells x sv ev).toList := by rw [List.getElem?_eq_getElem (by omega)] at q1; exact Option.some.inj q1
  have hl : (rs[0]'(by omega)).length = 7 := by rw [hr]; rfl
  have c4 := hc 0 (by omega) 4 (by omega)
  have c5 := hc 0 (by omega) 5 (by omega)
  have e4 : (rs[0]'(by omega))[4]'(by omega) = sv := by
    have : (rs[0]'(by omega))[4]? = some sv := by rw [hr]; rfl
    rw [List.getElem?_eq_getElem (by omega)] at this; exact Option.some.inj this
  have e5 : (rs[0]'(by omega))[5]'(by omega) = ev := by
    have : (rs[0]'(by omega))[5]? = some ev := by rw [hr]; rfl
    rw [List.getElem?_eq_getElem (by omega)] at this; exact Option.some.inj this
  rw [e4] at c4
  rw [e5] at c5
  exact ⟨g, cap, sv, ev, by rw [e, h2'], hb, hg, c4, c5, q2.r⟩
/-- The known item, all its own. -/
theorem itemK_own {w : World} {B : Nat} {sv ev : Value} (h : ItemR w B itemK sv ev) : ∃ gs cs ge ce a c, gs ≠ ge ∧ sv = .slice (some ⟨gs, 0, Option.none⟩) 2 cs ∧ ev = .slice (some ⟨ge, 0, Option.none⟩) 1 ce ∧ B ≤ gs ∧ gs < w.heap.size ∧ B ≤ ge ∧ ge < w.heap.size ∧
    w.cell? ⟨gs, 0, Option.none⟩ = some (.int .u64 1) ∧ w.frozen? ⟨gs, 0, Option.none⟩ = false ∧ w.cell? ⟨ge, 0, Option.none⟩ = some (.string ⟨#[47, 97]⟩) ∧ w.frozen? ⟨ge, 0, Option.none⟩ = false ∧ w.cell? ⟨ge, 2, Option.none⟩ = some (.slice a 1 c) := by
  obtain ⟨ho, rs, q1, q2, q3⟩ := h
  have ho' : Own w B 23 sv (nums [1, 0]) := ho
  obtain ⟨gs, cs, rfl, b1, b2, b3⟩ := ho'.formN (by decide)
  have c1 := ho'.cellN 0 1 rfl
  have f1 := ho'.frozenN 0
  have q2' : rs.length = 1 := q2
  obtain ⟨ok, dv, p1, p2, _⟩ := q3 0 (by decide)
  obtain ⟨hd, _⟩ := p2 (by decide)
  obtain ⟨a, c, e⟩ := hd.shape
  obtain ⟨ge, ce, rfl, hb, hg, hf, hc⟩ := q1.formN (by omega)
  have hr : rs[0]'(by omega) = effRow effK dv := by rw [List.getElem?_eq_getElem (by omega)] at p1; exact Option.some.inj p1
  have hl : (rs[0]'(by omega)).length = 11 := by rw [hr]; rfl
  have c4 := hc 0 (by omega) 0 (by omega)
  have c5 := hc 0 (by omega) 2 (by omega)
  have e4 : (rs[0]'(by omega))[0]'(by omega) = .string ⟨#[47, 97]⟩ := by
    have : (rs[0]'(by omega))[0]? = some (.string ⟨#[47, 97]⟩) := by rw [hr]; rfl
    rw [List.getElem?_eq_getElem (by omega)] at this; exact Option.some.inj this
  have e5 : (rs[0]'(by omega))[2]'(by omega) = dv := by
    have : (rs[0]'(by omega))[2]? = some dv := by rw [hr]; rfl
    rw [List.getElem?_eq_getElem (by omega)] at this; exact Option.some.inj this
  rw [e4] at c4
  rw [e5, e] at c5
  have hne : gs ≠ ge := by
    rintro rfl
    rcases q1.2 with ⟨hv, _⟩ | ⟨g', cap', cur', hv, _, hg', _⟩
    · cases hv
    · injection hv with hv _ _
      injection hv with hv
      injection hv with hv
      subst hv
      rcases ho'.2 with ⟨hv, _⟩ | ⟨g'', cap'', cur'', hv, _, hg'', _⟩
      · cases hv
      · injection hv with hv _ _
        injection hv with hv
        injection hv with hv
        subst hv
        rw [hg'] at hg''
        simp at hg''
  exact ⟨gs, cs, ge, ce, a, c, hne, rfl, by rw [q2'], b1, b2, hb, hg, c1, f1, c4, hf _, c5⟩
def badD : List ItemD := [{ itemK with origin := 2 }, { itemK with seq := 2 }, { itemK with epoch := 0 }, { itemK with effs := [] }, { itemK with closed := 1 }, { itemL with closed := 0 }, { itemL with epoch := 1 }, { itemL with effs := [effK] }, { itemK with region := -1 }]
theorem bad_all : ∀ x ∈ badD, checkV x 2 2 = 1 ∧ ItemOk x ∧ NumOk x := by
  intro x hx
  simp only [badD, List.mem_cons, List.not_mem_nil, or_false] at hx
  rcases hx with rfl | rfl | rfl | rfl | rfl | rfl | rfl | rfl | rfl <;> exact ⟨rfl, ⟨by decide, by decide⟩, by decide, by decide, by decide⟩
set_option maxRecDepth 100000 in
set_option maxHeartbeats 4000000 in
theorem known_walk (w : World) : Calls Try.prog 5 #[] w fun e w' => e = .returned (.bool true) ∧ Below w.heap.size w w' := by
  have kc : (convert 39 39 (.slice (some ⟨w.heap.size + 1, 0, none⟩) 1 1)).run Try.prog ((w.alloc (.cells #[.int .u64 1, .int .u64 0] 23)).alloc (.cells #[.int .u8 120] 5)) = .ok (.slice (some ⟨w.heap.size + 1, 0, none⟩) 1 1) ((w.alloc (.cells #[.int .u64 1, .int .u64 0] 23)).alloc (.cells #[.int .u8 120] 5 (1, 2))) := by
    have := Lib.run_convert_bytes_const (P := Try.prog) (w.alloc (.cells #[.int .u64 1, .int .u64 0] 23)) 39 5 #[.int .u8 120] 1 1 Try.underlying39 Try.underlying5
    have hs : (w.alloc (.cells #[.int .u64 1, .int .u64 0] 23)).heap.size = w.heap.size + 1 := by simp
    rw [hs] at this
    exact this
  go_enter Try.func5, Try.ntmps5
  go_upto_region 3 with fail
  clear kc
  obtain ⟨w1, hw1⟩ : ∃ w1, w1 = w.alloc (.cells #[.int .u64 1, .int .u64 0] 23) := ⟨_, rfl⟩
  have e1 : w1.heap.size = w.heap.size + 1 := by rw [hw1]; simp
  obtain ⟨w2, hw2⟩ : ∃ w2, w2 = w1.alloc (.cells #[.int .u8 120] 5 (1, 2)) := ⟨_, rfl⟩
  have e2 : w2.heap.size = w.heap.size + 1 + 1 := by rw [hw2]; simp [e1]
  obtain ⟨w3, hw3⟩ : ∃ w3, w3 = w2.alloc (.cells #[.string ⟨#[47, 97]⟩, .bool false, .slice (some ⟨w.heap.size + 1, 0, none⟩) 1 1, .int .u32 0, .int .u32 0, .int .u32 0, .int .i64 0, .int .u32 0, .int .u64 0, .int .u64 0, .int .u64 0] 45) := ⟨_, rfl⟩
  have e3 : w3.heap.size = w.heap.size + 1 + 1 + 1 := by rw [hw3]; simp [e2]
  obtain ⟨w4, hw4⟩ : ∃ w4, w4 = w3.alloc (.cells #[.int .i64 1, .int .u64 1, .int .i64 1, .int .u64 2, .slice (some ⟨w.heap.size, 0, none⟩) 2 2, .slice (some ⟨w.heap.size + 1 + 1, 0, none⟩) 1 1, .int .u32 0] 33) := ⟨_, rfl⟩
  have e4 : w4.heap.size = w.heap.size + 1 + 1 + 1 + 1 := by rw [hw4]; simp [e3]
  obtain ⟨w5, hw5⟩ : ∃ w5, w5 = w4.alloc (.cells #[.int .u64 2, .int .u64 5] 23) := ⟨_, rfl⟩
  have e5 : w5.heap.size = w.heap.size + 1 + 1 + 1 + 1 + 1 := by rw [hw5]; simp [e4]
  obtain ⟨w6, hw6⟩ : ∃ w6, w6 = w5.alloc (.cells #[.int .i64 0, .int .u64 3, .int .i64 (-1), .int .u64 0, .slice (some ⟨w.heap.size + 1 + 1 + 1 + 1, 0, none⟩) 2 2, .slice none 0 0, .int .u32 7] 33) := ⟨_, rfl⟩
  rw [← hw1, ← hw2, ← hw3, ← hw4, ← hw5, ← hw6]
  have g1 : Gr w w1 := by rw [hw1]; exact (Gr.refl _).alloc _
  have g2 : Gr w1 w2 := by rw [hw2]; exact (Gr.refl _).alloc _
  have g3 : Gr w2 w3 := by rw [hw3]; exact (Gr.refl _).alloc _
  have g4 : Gr w3 w4 := by rw [hw4]; exact (Gr.refl _).alloc _
  have g5 : Gr w4 w5 := by rw [hw5]; exact (Gr.refl _).alloc _
  have g6 : Gr w5 w6 := by rw [hw6]; exact (Gr.refl _).alloc _
  have g36 : Gr w3 w6 := Gr.trans g4 (Gr.trans g5 g6)
  have s1 : Sl w6 (.slice (some ⟨w.heap.size, 0, none⟩) 2 2) (nums [1, 0]) := Sl.below (by rw [hw1]; exact Sl.new w _ _ _ 2 2 rfl (by decide)) (Gr.trans g2 (Gr.trans g3 g36))
  have sb : Sl w2 (.slice (some ⟨w.heap.size + 1, 0, none⟩) 1 1) (bytes [120]) := by rw [hw2, ← e1]; exact Sl.new w1 _ _ _ 1 1 rfl (by decide)
  have b2 : w3.heap[w.heap.size + 1 + 1]? = some (.cells (effRow effK (.slice (some ⟨w.heap.size + 1, 0, none⟩) 1 1)).toArray 45 (0, 0)) := by rw [hw3, ← e2]; exact heap_alloc_new w2 _
  have s2 : Effs w6 (.slice (some ⟨w.heap.size + 1 + 1, 0, none⟩) 1 1) [effK] := (effs_one w3 _ effK _ _ b2 effK_ok (sb.below g3)).below g36
  have s3 : Sl w6 (.slice (some ⟨w.heap.size + 1 + 1 + 1 + 1, 0, none⟩) 2 2) (nums [2, 5]) := Sl.below (by rw [hw5, ← e4]; exact Sl.new w4 _ _ _ 2 2 rfl (by decide)) g6
  have b3 : ItemAt w6 (w.heap.size + 1 + 1 + 1) (itemCells itemK (.slice (some ⟨w.heap.size, 0, none⟩) 2 2) (.slice (some ⟨w.heap.size + 1 + 1, 0, none⟩) 1 1)) := by unfold ItemAt; rw [(Gr.trans g5 g6).block _ (by omega), hw4, ← e3]; exact heap_alloc_new w3 _
  have b5 : ItemAt w6 (w.heap.size + 1 + 1 + 1 + 1 + 1) (itemCells itemL (.slice (some ⟨w.heap.size + 1 + 1 + 1 + 1, 0, none⟩) 2 2) (.slice none 0 0)) := by unfold ItemAt; rw [hw6, ← e5]; exact heap_alloc_new w5 _
  have l3 := b3.lt
  have l5 := b5.lt
  have TG : Hid (∀ W, Gr w6 W → W.cell? ⟨w.heap.size + 1 + 1 + 1, 0, none⟩ = some (.int .i64 1) ∧ W.cell? ⟨w.heap.size + 1 + 1 + 1, 1, none⟩ = some (.int .u64 1) ∧ W.cell? ⟨w.heap.size + 1 + 1 + 1, 2, none⟩ = some (.int .i64 1) ∧ W.cell? ⟨w.heap.size + 1 + 1 + 1, 3, none⟩ = some (.int .u64 2) ∧ W.cell? ⟨w.heap.size + 1 + 1 + 1, 4, none⟩ = some (.slice (some ⟨w.heap.size, 0, none⟩) 2 2) ∧ W.cell? ⟨w.heap.size + 1 + 1 + 1, 5, none⟩ = some (.slice (some ⟨w.heap.size + 1 + 1, 0, none⟩) 1 1) ∧ W.cell? ⟨w.heap.size + 1 + 1 + 1, 6, none⟩ = some (.int .u32 0)) := Lib.hid fun W hW => by
    have hb := b3.block (hW.block _ l3)
    exact ⟨hb.cell 0, hb.cell 1, hb.cell 2, hb.cell 3, hb.cell 4, hb.cell 5, hb.cell 6⟩
  have TL : Hid (∀ W, Gr w6 W → W.cell? ⟨w.heap.size + 1 + 1 + 1 + 1 + 1, 0, none⟩ = some (.int .i64 0) ∧ W.cell? ⟨w.heap.size + 1 + 1 + 1 + 1 + 1, 1, none⟩ = some (.int .u64 3) ∧ W.cell? ⟨w.heap.size + 1 + 1 + 1 + 1 + 1, 2, none⟩ = some (.int .i64 (-1)) ∧ W.cell? ⟨w.heap.size + 1 + 1 + 1 + 1 + 1, 3, none⟩ = some (.int .u64 0) ∧ W.cell? ⟨w.heap.size + 1 + 1 + 1 + 1 + 1, 4, none⟩ = some (.slice (some ⟨w.heap.size + 1 + 1 + 1 + 1, 0, none⟩) 2 2) ∧ W.cell? ⟨w.heap.size + 1 + 1 + 1 + 1 + 1, 5, none⟩ = some (.slice none 0 0) ∧ W.cell? ⟨w.heap.size + 1 + 1 + 1 + 1 + 1, 6, none⟩ = some (.int .u32 7)) := Lib.hid fun W hW => by
    have hb := b5.block (hW.block _ l5)
    exact ⟨hb.cell 0, hb.cell 1, hb.cell 2, hb.cell 3, hb.cell 4, hb.cell 5, hb.cell 6⟩
  have hIK : ItemIs w6 itemK (.slice (some ⟨w.heap.size, 0, none⟩) 2 2) (.slice (some ⟨w.heap.size + 1 + 1, 0, none⟩) 1 1) := ⟨s1, s2⟩
  have hIL : ItemIs w6 itemL (.slice (some ⟨w.heap.size + 1 + 1 + 1 + 1, 0, none⟩) 2 2) (.slice none 0 0) := ⟨s3, Effs.nil _ _ _⟩
  have IK := Lib.hid hIK
  have IL := Lib.hid hIL
  have HG6 := Lib.hid (Gr.trans g1 (Gr.trans g2 (Gr.trans g3 g36)))
  have hl : w.heap.size + 6 = w6.heap.size := by have : w6.heap.size = w5.heap.size + 1 := by rw [hw6]; simp
                                                 omega
  have HL := Lib.hid hl
  clear hw1 hw2 hw3 hw4 hw5 hw6 g1 g2 g3 g4 g5 g6 g36 s1 sb b2 s2 s3 b3 b5 l3 l5 hIK hIL e1 e2 e3 e4 e5 hl
  have G0 := Lib.hid (Gr.refl w6)
  obtain ⟨t0, t1, t2, t3, t4, t5, t6⟩ := TG.out _ G0.out
  go_wp2_with fail
  clear t0 t1 t2 t3 t4 t5 t6
  refine (check_any _ itemK _ _ 2 2 (IK.out.below G0.out) itemK_ok itemK_n (by decide)).mono ?_
  rintro e W1 ⟨rfl, g⟩
  rw [show checkV itemK 2 2 = 0 by rfl]
  have G1 := Lib.hid (Gr.trans G0.out g)
  clear g
  obtain ⟨u0, u1, u2, u3, u4, u5, u6⟩ := TL.out _ G1.out
  go_wp2_with fail
  clear u0 u1 u2 u3 u4 u5 u6
  refine (check_any _ itemL _ _ 2 0 (IL.out.below G1.out) itemL_ok itemL_n (by decide)).mono ?_
  rintro e W2 ⟨rfl, g⟩
  rw [show checkV itemL 2 0 = 0 by rfl]
  have G2 := Lib.hid (Gr.trans G1.out g)
  clear g
  obtain ⟨t0, t1, t2, t3, t4, t5, t6⟩ := TG.out _ G2.out
  go_wp2_with fail
  clear t0 t1 t2 t3 t4 t5 t6
  refine (check_any _ itemK _ _ 2 1 (IK.out.below G2.out) itemK_ok itemK_n (by decide)).mono ?_
  rintro e W3 ⟨rfl, g⟩
  rw [show checkV itemK 2 1 = 1 by rfl]
  have G3 := Lib.hid (Gr.trans G2.out g)
  clear g
  go_wp2_with fail
  refine (check_any _ itemZ (.slice none 0 0) (.slice none 0 0) 1 1 ⟨Sl.nil _ _ _, Effs.nil _ _ _⟩ itemZ_ok itemZ_n (by decide)).mono ?_
  rintro e W4 ⟨rfl, g⟩
  rw [show checkV itemZ 1 1 = 1 by rfl]
  have G4 := Lib.hid (Gr.trans G3.out g)
  clear g
  obtain ⟨t0, t1, t2, t3, t4, t5, t6⟩ := TG.out _ G4.out
  obtain ⟨u0, u1, u2, u3, u4, u5, u6⟩ := TL.out _ G4.out
  have hsz : w.heap.size + 1 + 1 + 1 < W4.heap.size := by have := G4.out.size; have := HL.out; omega
  go_upto_region 15 with fail
  clear t0 t1 t2 t3 t4 t5 t6 u0 u1 u2 u3 u4 u5 u6
  obtain ⟨w7, hw7⟩ : ∃ w7, w7 = W4.alloc (.cells (.int .i64 2 :: .int .u64 1 :: .int .i64 1 :: .int .u64 2 :: .slice (some ⟨w.heap.size, 0, none⟩) 2 2 :: .slice (some ⟨w.heap.size + 1 + 1, 0, none⟩) 1 1 :: .int .u32 0 :: .int .i64 1 :: .int .u64 2 :: .int .i64 1 :: .int .u64 2 :: .slice (some ⟨w.heap.size, 0, none⟩) 2 2 :: .slice (some ⟨w.heap.size + 1 + 1, 0, none⟩) 1 1 :: .int .u32 0 :: .int .i64 1 :: .int .u64 1 :: .int .i64 1 :: .int .u64 0 :: .slice (some ⟨w.heap.size, 0, none⟩) 2 2 :: .slice (some ⟨w.heap.size + 1 + 1, 0, none⟩) 1 1 :: .int .u32 0 :: .int .i64 1 :: .int .u64 1 :: .int .i64 1 :: .int .u64 2 :: .slice (some ⟨w.heap.size, 0, none⟩) 2 2 :: .slice none 0 0 :: .int .u32 0 :: .int .i64 1 :: .int .u64 1 :: .int .i64 1 :: .int .u64 2 :: .slice (some ⟨w.heap.size, 0, none⟩) 2 2 :: .slice (some ⟨w.heap.size + 1 + 1, 0, none⟩) 1 1 :: .int .u32 1 :: .int .i64 0 :: .int .u64 3 :: .int .i64 (-1) :: .int .u64 0 :: .slice (some ⟨w.heap.size + 1 + 1 + 1 + 1, 0, none⟩) 2 2 :: .slice none 0 0 :: .int .u32 0 :: .int .i64 0 :: .int .u64 3 :: .int .i64 (-1) :: .int .u64 1 :: .slice (some ⟨w.heap.size + 1 + 1 + 1 + 1, 0, none⟩) 2 2 :: .slice none 0 0 :: .int .u32 7 :: .int .i64 0 :: .int .u64 3 :: .int .i64 (-1) :: .int .u64 0 :: .slice (some ⟨w.heap.size + 1 + 1 + 1 + 1, 0, none⟩) 2 2 :: .slice (some ⟨w.heap.size + 1 + 1, 0, none⟩) 1 1 :: .int .u32 7 :: .int .i64 1 :: .int .u64 1 :: .int .i64 (-1) :: .int .u64 2 :: .slice (some ⟨w.heap.size, 0, none⟩) 2 2 :: .slice (some ⟨w.heap.size + 1 + 1, 0, none⟩) 1 1 :: .int .u32 0 :: []).toArray 33) := ⟨_, rfl⟩
  rw [← hw7]
  have g7 : Gr W4 w7 := by rw [hw7]; exact (Gr.refl _).alloc _
  have hits : Items w7 (.slice (some ⟨W4.heap.size, 0, none⟩) 9 9) badD := by
    refine items_many w7 W4.heap.size [({ itemK with origin := 2 }, (.slice (some ⟨w.heap.size, 0, none⟩) 2 2), (.slice (some ⟨w.heap.size + 1 + 1, 0, none⟩) 1 1)), ({ itemK with seq := 2 }, (.slice (some ⟨w.heap.size, 0, none⟩) 2 2), (.slice (some ⟨w.heap.size + 1 + 1, 0, none⟩) 1 1)), ({ itemK with epoch := 0 }, (.slice (some ⟨w.heap.size, 0, none⟩) 2 2), (.slice (some ⟨w.heap.size + 1 + 1, 0, none⟩) 1 1)), ({ itemK with effs := [] }, (.slice (some ⟨w.heap.size, 0, none⟩) 2 2), (.slice none 0 0)), ({ itemK with closed := 1 }, (.slice (some ⟨w.heap.size, 0, none⟩) 2 2), (.slice (some ⟨w.heap.size + 1 + 1, 0, none⟩) 1 1)), ({ itemL with closed := 0 }, (.slice (some ⟨w.heap.size + 1 + 1 + 1 + 1, 0, none⟩) 2 2), (.slice none 0 0)), ({ itemL with epoch := 1 }, (.slice (some ⟨w.heap.size + 1 + 1 + 1 + 1, 0, none⟩) 2 2), (.slice none 0 0)), ({ itemL with effs := [effK] }, (.slice (some ⟨w.heap.size + 1 + 1 + 1 + 1, 0, none⟩) 2 2), (.slice (some ⟨w.heap.size + 1 + 1, 0, none⟩) 1 1)), ({ itemK with region := -1 }, (.slice (some ⟨w.heap.size, 0, none⟩) 2 2), (.slice (some ⟨w.heap.size + 1 + 1, 0, none⟩) 1 1))] (.int .i64 2 :: .int .u64 1 :: .int .i64 1 :: .int .u64 2 :: .slice (some ⟨w.heap.size, 0, none⟩) 2 2 :: .slice (some ⟨w.heap.size + 1 + 1, 0, none⟩) 1 1 :: .int .u32 0 :: .int .i64 1 :: .int .u64 2 :: .int .i64 1 :: .int .u64 2 :: .slice (some ⟨w.heap.size, 0, none⟩) 2 2 :: .slice (some ⟨w.heap.size + 1 + 1, 0, none⟩) 1 1 :: .int .u32 0 :: .int .i64 1 :: .int .u64 1 :: .int .i64 1 :: .int .u64 0 :: .slice (some ⟨w.heap.size, 0, none⟩) 2 2 :: .slice (some ⟨w.heap.size + 1 + 1, 0, none⟩) 1 1 :: .int .u32 0 :: .int .i64 1 :: .int .u64 1 :: .int .i64 1 :: .int .u64 2 :: .slice (some ⟨w.heap.size, 0, none⟩) 2 2 :: .slice none 0 0 :: .int .u32 0 :: .int .i64 1 :: .int .u64 1 :: .int .i64 1 :: .int .u64 2 :: .slice (some ⟨w.heap.size, 0, none⟩) 2 2 :: .slice (some ⟨w.heap.size + 1 + 1, 0, none⟩) 1 1 :: .int .u32 1 :: .int .i64 0 :: .int .u64 3 :: .int .i64 (-1) :: .int .u64 0 :: .slice (some ⟨w.heap.size + 1 + 1 + 1 + 1, 0, none⟩) 2 2 :: .slice none 0 0 :: .int .u32 0 :: .int .i64 0 :: .int .u64 3 :: .int .i64 (-1) :: .int .u64 1 :: .slice (some ⟨w.heap.size + 1 + 1 + 1 + 1, 0, none⟩) 2 2 :: .slice none 0 0 :: .int .u32 7 :: .int .i64 0 :: .int .u64 3 :: .int .i64 (-1) :: .int .u64 0 :: .slice (some ⟨w.heap.size + 1 + 1 + 1 + 1, 0, none⟩) 2 2 :: .slice (some ⟨w.heap.size + 1 + 1, 0, none⟩) 1 1 :: .int .u32 7 :: .int .i64 1 :: .int .u64 1 :: .int .i64 (-1) :: .int .u64 2 :: .slice (some ⟨w.heap.size, 0, none⟩) 2 2 :: .slice (some ⟨w.heap.size + 1 + 1, 0, none⟩) 1 1 :: .int .u32 0 :: []).toArray (0, 0) 9 (by rw [hw7]; exact heap_alloc_new W4 _) rfl rfl ?_
    have k : ItemIs w7 itemK (.slice (some ⟨w.heap.size, 0, none⟩) 2 2) (.slice (some ⟨w.heap.size + 1 + 1, 0, none⟩) 1 1) := IK.out.below (Gr.trans G4.out g7)
    have l : ItemIs w7 itemL (.slice (some ⟨w.heap.size + 1 + 1 + 1 + 1, 0, none⟩) 2 2) (.slice none 0 0) := IL.out.below (Gr.trans G4.out g7)
    intro p hp
    simp only [List.mem_cons, List.not_mem_nil, or_false] at hp
    rcases hp with rfl | rfl | rfl | rfl | rfl | rfl | rfl | rfl | rfl
    · exact ⟨⟨of_decide_eq_true rfl, of_decide_eq_true rfl⟩, k.1, k.2⟩
    · exact ⟨⟨of_decide_eq_true rfl, of_decide_eq_true rfl⟩, k.1, k.2⟩
    · exact ⟨⟨of_decide_eq_true rfl, of_decide_eq_true rfl⟩, k.1, k.2⟩
    · exact ⟨⟨of_decide_eq_true rfl, of_decide_eq_true rfl⟩, k.1, Effs.nil _ _ _⟩
    · exact ⟨⟨of_decide_eq_true rfl, of_decide_eq_true rfl⟩, k.1, k.2⟩
    · exact ⟨⟨of_decide_eq_true rfl, of_decide_eq_true rfl⟩, l.1, l.2⟩
    · exact ⟨⟨of_decide_eq_true rfl, of_decide_eq_true rfl⟩, l.1, l.2⟩
    · exact ⟨⟨of_decide_eq_true rfl, of_decide_eq_true rfl⟩, l.1, k.2⟩
    · exact ⟨⟨of_decide_eq_true rfl, of_decide_eq_true rfl⟩, k.1, k.2⟩
  have HIT := Lib.hid hits
  have G7 := Lib.hid (Gr.trans G4.out g7)
  clear hits hw7 g7
  clear hsz
  go_wp2
  go_loopw [4] (fun i W => ∃ k : Nat, k ≤ 9 ∧ i = .int .i64 k ∧ Gr w7 W) (fun i _ => 9 - (intOf i).toNat)
  case atStart => exact ⟨0, Nat.zero_le _, rfl, Gr.refl _⟩
  case round =>
    obtain ⟨k, hk, rfl, hg⟩ := hrel
    have HG := Lib.hid hg
    clear hg
    by_cases hlt : k < 9
    · obtain ⟨B1, o1, sv1, ev1, hb, hB1, p0, p1, p2, p3, p4, p5, p6, i1, ok1⟩ := HIT.out.at k hlt
      injection hb with hb
      injection hb with hb1 hb2
      subst hb1 hb2
      have hbad := bad_all _ (List.getElem_mem (l := badD) (n := k) hlt)
      obtain ⟨x, hx⟩ : ∃ x, x = badD[k]'hlt := ⟨_, rfl⟩
      rw [← hx] at p0 p1 p2 p3 p6 i1 ok1 hbad
      clear hx
      have S := Lib.hid (And.intro i1 hbad)
      replace p0 := (HG.out.cell (p := ⟨W4.heap.size, 0 + k * 7, none⟩) hB1).trans p0
      replace p1 := (HG.out.cell (p := ⟨W4.heap.size, 0 + k * 7 + 1, none⟩) hB1).trans p1
      replace p2 := (HG.out.cell (p := ⟨W4.heap.size, 0 + k * 7 + 2, none⟩) hB1).trans p2
      replace p3 := (HG.out.cell (p := ⟨W4.heap.size, 0 + k * 7 + 3, none⟩) hB1).trans p3
      replace p4 := (HG.out.cell (p := ⟨W4.heap.size, 0 + k * 7 + 4, none⟩) hB1).trans p4
      replace p5 := (HG.out.cell (p := ⟨W4.heap.size, 0 + k * 7 + 5, none⟩) hB1).trans p5
      replace p6 := (HG.out.cell (p := ⟨W4.heap.size, 0 + k * 7 + 6, none⟩) hB1).trans p6
      rw [Nat.zero_add] at p0 p1 p2 p3 p4 p5 p6
      clear i1 hbad ok1
      go_wp2_with fail
      clear p0 p1 p2 p3 p4 p5 p6
      refine (check_any _ x sv1 ev1 2 2 (S.out.1.below HG.out) S.out.2.2.1 S.out.2.2.2 (by decide)).mono ?_
      rintro e W9 ⟨rfl, g⟩
      rw [S.out.2.1]
      have G9 := Lib.hid (Gr.trans HG.out g)
      clear g
      go_wp2
      go_roundw
      case rel => exact ⟨k + 1, by omega, by go_num, G9.out⟩
      case measure => simp [intOf]; omega
    · obtain rfl : k = 9 := by omega
      have G9 := Lib.hid (Gr.trans G7.out HG.out)
      clear HG
      obtain ⟨t0, t1, t2, t3, t4, t5, t6⟩ := TG.out _ G9.out
      go_wp2_with fail
      clear t0 t1 t2 t3 t4 t5 t6
      refine (next_any _ _ 0 [itemK] (items_one _ _ itemK (.slice (some ⟨w.heap.size, 0, none⟩) 2 2) (.slice (some ⟨w.heap.size + 1 + 1, 0, none⟩) 1 1) _ (heap_alloc_new _ _) itemK_ok (IK.out.below (Gr.alloc G9.out _))) (by decide) (by decide)).mono ?_
      rintro e W10 ⟨v5, rfl, hr, g⟩
      have hr1 : ItemsR W10 _ v5 [itemK] := hr
      obtain ⟨gl, cl, sv5, ev5, rfl, b1, b2, c4, c5, hit⟩ := hr1.one
      obtain ⟨gs, cs5, ge, ce5, a5, c55, hne, rfl, rfl, b3, b4, b5, b6, d1, d2, d3, d4, d5⟩ := itemK_own hit
      have G10 := Lib.hid (Gr.trans (Gr.alloc G9.out _) g)
      have hbs : w6.heap.size ≤ gs := Nat.le_trans (Gr.alloc G9.out _).size b3
      have hbe : w6.heap.size ≤ ge := Nat.le_trans (Gr.alloc G9.out _).size b5
      have HBS := Lib.hid (And.intro hbs hbe)
      have hne2 : ge ≠ gs := fun e => hne e.symm
      clear hr hr1 hit g b1 b3 b5 hbs hbe
      go_upto_region 25 with fail
      clear b2 c4 c5 b4 b6 d1 d2 d3 d4 d5 hne hne2
      obtain ⟨w11, hw11⟩ : ∃ w11, w11 = ((W10.setCell ⟨gs, 0, none⟩ (.int .u64 9)).setCell ⟨ge, 0, none⟩ (.string ⟨#[47, 98]⟩)) := ⟨_, rfl⟩
      rw [← hw11]
      have G11 : Hid (Gr w6 w11) := Lib.hid (by rw [hw11]; exact Below.setCell (Below.setCell G10.out HBS.out.1 _) HBS.out.2 _)
      clear hw11 HBS G10
      obtain ⟨t0, t1, t2, t3, t4, t5, t6⟩ := TG.out _ G11.out
      go_wp2_with fail
      clear t0 t1 t2 t3 t4 t5 t6
      refine (next_any _ _ 0 [itemK] (items_one _ _ itemK (.slice (some ⟨w.heap.size, 0, none⟩) 2 2) (.slice (some ⟨w.heap.size + 1 + 1, 0, none⟩) 1 1) _ (heap_alloc_new _ _) itemK_ok (IK.out.below (Gr.alloc G11.out _))) (by decide) (by decide)).mono ?_
      rintro e W12 ⟨v6, rfl, hr, g⟩
      have hr1 : ItemsR W12 _ v6 [itemK] := hr
      obtain ⟨gm, cm, sv6, ev6, rfl, b1, b2, c4, c5, hit⟩ := hr1.one
      obtain ⟨gs, cs6, ge, ce6, a6, c66, hne, rfl, rfl, b3, b4, b5, b6, d1, d2, d3, d4, d5⟩ := itemK_own hit
      have G12 := Lib.hid (Gr.trans (Gr.alloc G11.out _) g)
      clear hr hr1 hit g b1 b3 b5 d2 d4 d5 hne
      obtain ⟨t0, t1, t2, t3, t4, t5, t6⟩ := TG.out _ G12.out
      go_wp2_with fail
      clear t0 t1 t2 t3 t4 t5 t6 b2 c4 c5 b4 b6 d1 d3
      refine (ready_any _ itemK _ _ _ [0, 0] (IK.out.below (Gr.alloc G12.out _)) (Sl.new _ _ _ _ _ _ rfl (by decide)) itemK_ok itemK_n (by decide)).mono ?_
      rintro e W13 ⟨rfl, g⟩
      rw [show readyV itemK [0, 0] = false by rfl]
      have G13 := Lib.hid (Gr.trans (Gr.alloc G12.out _) g)
      clear g
      obtain ⟨t0, t1, t2, t3, t4, t5, t6⟩ := TG.out _ G13.out
      go_wp2_with fail
      clear t0 t1 t2 t3 t4 t5 t6
      refine (ready_any _ itemK _ _ _ [1, 0] (IK.out.below (Gr.alloc G13.out _)) (Sl.new _ _ _ _ _ _ rfl (by decide)) itemK_ok itemK_n (by decide)).mono ?_
      rintro e W14 ⟨rfl, g⟩
      rw [show readyV itemK [1, 0] = true by rfl]
      have G14 := Lib.hid (Gr.trans (Gr.alloc G13.out _) g)
      clear g
      obtain ⟨t0, t1, t2, t3, t4, t5, t6⟩ := TG.out _ G14.out
      go_wp2_with fail
      clear t0 t1 t2 t3 t4 t5 t6
      refine (ready_any _ itemK _ _ _ [1] (IK.out.below (Gr.alloc G14.out _)) (Sl.new _ _ _ _ _ _ rfl (by decide)) itemK_ok itemK_n (by decide)).mono ?_
      rintro e W15 ⟨rfl, g⟩
      rw [show readyV itemK [1] = false by rfl]
      have G15 := Lib.hid (Gr.trans (Gr.alloc G14.out _) g)
      clear g
      obtain ⟨t0, t1, t2, t3, t4, t5, t6⟩ := TG.out _ G15.out
      go_wp2_with fail
      clear t0 t1 t2 t3 t4 t5 t6
      refine (ready_any _ itemK _ _ _ [] (IK.out.below G15.out) (Sl.nil _ _ _) itemK_ok itemK_n (by decide)).mono ?_
      rintro e W16 ⟨rfl, g⟩
      rw [show readyV itemK [] = false by rfl]
      have G16 := Lib.hid (Gr.trans G15.out g)
      clear g
      go_wp2_with fail
      refine (goes_any _).mono ?_
      rintro e W17 ⟨rfl, g⟩
      have G17 := Lib.hid (Gr.trans G16.out g)
      clear g
      go_wp2
      go_ret
      exact ⟨rfl, Gr.trans HG6.out G17.out⟩

open Go.ChangeShapes Go.WideShapes Go.ChangeAt Go.RowKit
open Go.ChangeMaps (open_string shut_string)
theorem own_streamKnown : ownKnob Try.prog.godebug = none := by kernel_rfl
theorem laidOut_streamKnown : laidOutB Try.prog = true := by kernel_rfl
set_option maxRecDepth 100000 in
theorem lifted_streamKnown (os : Os) (started : os.Started) (H : Type) (enc : TypeId × Value → H) :
    ReturnsInHanded {} Try.checked os 5 .any (Rows.streamKnownSpec.pre6 enc Try.prog Try.f5 Rows.streamKnownRow.domain false) (Rows.streamKnownSpec.post enc Try.prog Try.f5 false true false false) := by
  refine returnsInHanded_of_change (C := Try.checked) own_streamKnown started (by kernel_rfl) Try.func5
    (ChangeSpec.witness6 (enc := enc) (C := Try.checked) false ⟨#[], #[], []⟩ 8 (by kernel_rfl) (by kernel_rfl) (by kernel_rfl) (by kernel_rfl)) ?_
  intro W base args ds gs before hval0 hW hcnd _
  have hval : ∀ (j : Nat) t v, Try.f5.params[j]? = some t → args[j]? = some v → Value.okWide Try.prog W .any base t v := hval0
  have hW' := hW
  obtain ⟨p, q, hA0, hV, rfl, hfz, hnd⟩ := hW
  have hA : DataW.TrodAll enc Try.prog W 0 (fun _ => true) true Try.f5.params.toList args.toList ds p := hA0
  rw [Try.params5] at hA hval
  obtain ⟨rfl, rfl, rfl⟩ := trodAll_none hA
  obtain ⟨rfl, rfl⟩ := trodVars_none hV
  clear hA0 hval0
  simp only [List.append_nil] at hW'
  refine (known_walk W ).mono fun e W' ⟨he, bel⟩ => ?_
  subst he
  exact ⟨_, rfl, _, _, _, [], _, [], hW', trodAll_mk1 (shut_bool Try.underlying4 _), trodAll_mk0, rfl, bel.frame _, fun h => by cases h⟩

theorem over_streamKnown : Rows.streamKnownRow.holds Try.pinned (OpenSpec.ofChange Rows.streamKnownSpec) :=
  OpenClaim.holds_of_wide 5 Try.f5 rfl rfl rfl rfl rfl rfl rfl ⟨rfl, rfl, rfl, rfl, rfl⟩ rfl rfl rfl rfl rfl (by kernel_rfl) Try.func5 (by kernel_rfl)
    (of_decide_eq_true (by kernel_rfl)) (by unfold Func.isWrapper; first | (rw [if_pos (by decide +kernel)]; kernel_rfl) | (rw [if_neg (by decide +kernel)]; exact ⟨rfl, rfl⟩))
    (fun os started H enc _ => lifted_streamKnown os started H enc)

theorem streamKnown_proved : Rows.StreamKnownSaid := over_streamKnown
#print axioms streamKnown_proved
end Go.Proofs.Ytpdninnnpoiblaa
