/-
  What is too great for the statements of the streams; their example.
-/
import Derived.Test.YtpdninnnpoiblaaSCheck
set_option linter.unusedVariables false
namespace Go.Proofs.Ytpdninnnpoiblaa
open Go.RowKit

def greatV (n : Nat) (f g : Nat → Nat) : Bool := decide (40 < n) || (List.range n).any fun i => decide (10 < f i) || decide (10 < g i)
theorem greatV_small {n : Nat} {f g : Nat → Nat} (h : greatV n f g = false) : n ≤ 40 ∧ ∀ i, i < n → f i ≤ 10 ∧ g i ≤ 10 := by
  unfold greatV at h
  rw [Bool.or_eq_false_iff, List.any_eq_false] at h
  refine ⟨by have := h.1; simpa using this, fun i hi => ?_⟩
  have := h.2 i (List.mem_range.2 hi)
  simpa using this
theorem rows_at {w : World} {a : Option Addr} {n len cap k : Nat} {R : Nat → Nat → Value} (h : Rows w (.slice a len cap) n k R) (i : Nat) (hi : i < n) :
    ∃ B o, a = some ⟨B, o, none⟩ ∧ B < w.heap.size ∧ ∀ j, j < k → w.cell? ⟨B, o + i * k + j, none⟩ = some (R i j) := by
  obtain ⟨a', cap', he, _, hr⟩ := h
  injection he with e1 e2 e3
  subst e1
  obtain ⟨B, o, rfl, hB, hcell⟩ := hr.resolve_left (by omega)
  exact ⟨B, o, rfl, hB, fun j hj => hcell i hi j hj⟩
set_option maxHeartbeats 400000 in
theorem great_any (w : World) (v : Value) (n : Nat) (f g : Nat → Nat) (R : Nat → Nat → Value) (h : Rows w v n 7 R) (hf : ∀ i, i < n → ∃ a c, R i 4 = .slice a (f i) c) (hg : ∀ i, i < n → ∃ a c, R i 5 = .slice a (g i) c) (hl : n ≤ maxLen) :
    Calls Try.prog 8 #[v] w fun e w' => e = .returned (.bool (greatV n f g)) ∧ w = w' := by
  unfold maxLen at hl
  obtain ⟨a, cap, rfl⟩ : ∃ a cap, v = .slice a n cap := by obtain ⟨a, cap, e, _⟩ := h; exact ⟨a, cap, e⟩
  by_cases h100 : 40 < n
  · have e : greatV n f g = true := by unfold greatV; simp [h100]
    rw [e]
    go_enter Try.func8, Try.ntmps8
    go_wp2
    go_ret
    exact ⟨rfl, rfl⟩
  · have H := Lib.hid h
    have HF := Lib.hid hf
    have HG := Lib.hid hg
    clear h hf hg
    go_enter Try.func8, Try.ntmps8
    go_wp2
    go_loop [3] (fun i => ∃ k : Nat, k ≤ n ∧ i = .int .i64 k ∧ ∀ j (hj : j < k), f j ≤ 10 ∧ g j ≤ 10) (fun i => n - (intOf i).toNat)
    case atStart => exact ⟨0, Nat.zero_le _, rfl, fun j hj => absurd hj (Nat.not_lt_zero _)⟩
    case round =>
      obtain ⟨k, hk, rfl, hall⟩ := hrel
      have HALL := Lib.hid hall
      clear hall
      by_cases hlt : k < n
      · obtain ⟨B, o, rfl, hB, hcell⟩ := rows_at H.out k hlt
        obtain ⟨fa, fc, e4⟩ := HF.out k hlt
        obtain ⟨va, vc, e5⟩ := HG.out k hlt
        have g4 := hcell 4 (by decide)
        have g5 := hcell 5 (by decide)
        rw [e4] at g4; rw [e5] at g5
        have hyes : 10 < f k ∨ 10 < g k → greatV n f g = true := by
          intro h
          unfold greatV
          rw [Bool.or_eq_true, List.any_eq_true]
          exact .inr ⟨k, List.mem_range.2 hlt, by simpa using h⟩
        have HY := Lib.hid hyes
        clear hyes hcell e4 e5
        generalize hF : f k = nf at *
        generalize hV : g k = nv at *
        have HF' := Lib.hid hF
        have HV := Lib.hid hV
        clear hF hV
        by_cases hf : 10 < nf
        · go_wp2
          go_ret
          exact ⟨by rw [HY.out (.inl hf)]; rfl, rfl⟩
        · by_cases hv : 10 < nv
          · go_wp2
            go_ret
            exact ⟨by rw [HY.out (.inr hv)]; rfl, rfl⟩
          · go_wp2
            go_round
            case rel =>
              refine ⟨k + 1, by omega, by go_num, fun j hj => ?_⟩
              rcases Nat.lt_or_ge j k with h | h
              · exact HALL.out j h
              · obtain rfl : j = k := by omega
                rw [HF'.out, HV.out]; omega
            case measure => simp [intOf]; omega
      · obtain rfl : k = n := by omega
        go_wp2
        go_ret
        refine ⟨?_, rfl⟩
        have : greatV k f g = false := by
          unfold greatV
          rw [Bool.or_eq_false_iff, List.any_eq_false]
          refine ⟨by simp; omega, fun x hx => ?_⟩
          have hx' := List.mem_range.1 hx
          have := HALL.out x (by omega)
          simp; omega
        rw [this]; rfl

/-! ### One item in a row -/
def restZ : List Value := [.int .u32 0, .int .u32 0, .int .u32 0, .int .i64 0, .int .u32 0, .int .u64 0, .int .u64 0, .int .u64 0]
theorem rows_one (w : World) (B k : Nat) (cs : Array Value) (t : TypeId) (fr : Nat × Nat) (h : w.heap[B]? = some (.cells cs t fr)) (hk : cs.size = k) : Rows w (.slice (some ⟨B, 0, none⟩) 1 1) 1 k (rowF cs) := by
  have hB : B < w.heap.size := (Array.getElem?_eq_some_iff.1 h).1
  refine ⟨_, 1, rfl, Nat.le_refl _, .inr ⟨B, 0, rfl, hB, fun i hi j hj => ?_⟩⟩
  obtain rfl : i = 0 := by omega
  rw [show (0 + 0 * k + j : Nat) = j by omega]
  have hj' : j < cs.size := by omega
  have h1 : w.cell? ⟨B, j, none⟩ = cs[j]? := by simp [World.cell?, h]
  rw [h1, Array.getElem?_eq_getElem hj']
  simp [rowF, hj']
theorem effs_one (w : World) (B : Nat) (e : EffD) (dv : Value) (fr : Nat × Nat) (h : w.heap[B]? = some (.cells (effRow e dv).toArray 45 fr)) (ok : EffOk e) (hs : Sl w dv (bytes e.data)) : Effs w (.slice (some ⟨B, 0, none⟩) 1 1) [e] := by
  have hr := rows_one w B 11 _ _ _ h (by simpa using effRow_length e dv ok)
  refine ⟨_, hr, fun i hi => ?_⟩
  obtain rfl : i = 0 := by simp at hi; omega
  have e2 : rowF (effRow e dv).toArray 0 2 = dv := rfl
  rw [e2]
  exact ⟨ok, hs, fun j u hu => by have : ((effRow e dv).toArray)[j]? = some u := by simpa using hu
                                  simp [rowF, this]⟩
theorem items_one (w : World) (B : Nat) (x : ItemD) (sv ev : Value) (fr : Nat × Nat) (h : w.heap[B]? = some (.cells (itemCells x sv ev) 33 fr)) (ok : ItemOk x) (hs : ItemIs w x sv ev) : Items w (.slice (some ⟨B, 0, none⟩) 1 1) [x] := by
  have hr := rows_one w B 7 _ _ _ h rfl
  refine ⟨_, hr, fun i hi => ?_⟩
  obtain rfl : i = 0 := by simp at hi; omega
  exact ⟨ok, sv, ev, fun j u hu => by show ((itemCells x sv ev)[j]?).getD (.bool false) = u; rw [show (itemCells x sv ev)[j]? = some u from hu]; rfl, hs⟩

/-! ### The example -/
def effG : EffD := ⟨[47], false, [], restZ⟩
def itemG : ItemD := ⟨0, 2, 0, 1, [1, 0], [effG], 0⟩
theorem effG_ok : EffOk effG := ⟨rfl, by decide, by decide⟩
theorem itemG_ok : ItemOk itemG := ⟨by decide, by decide⟩
theorem itemG_n : NumOk itemG := ⟨by decide, by decide, by decide⟩

set_option maxHeartbeats 2000000 in
theorem goes_any (w : World) : Calls Try.prog 16 #[] w fun e w' => e = .returned (.bool true) ∧ Gr w w' := by
  go_enter Try.func16, Try.ntmps16
  go_upto_region 2 with fail
  obtain ⟨w1, hw1⟩ : ∃ w1, w1 = w.alloc (.cells #[.int .u64 1, .int .u64 0] 23) := ⟨_, rfl⟩
  have e1 : w1.heap.size = w.heap.size + 1 := by rw [hw1]; simp
  obtain ⟨w2, hw2⟩ : ∃ w2, w2 = w1.alloc (.cells #[.string ⟨#[47]⟩, .bool false, .slice none 0 0, .int .u32 0, .int .u32 0, .int .u32 0, .int .i64 0, .int .u32 0, .int .u64 0, .int .u64 0, .int .u64 0] 45) := ⟨_, rfl⟩
  have e2 : w2.heap.size = w.heap.size + 2 := by rw [hw2]; simp [e1]
  obtain ⟨w3, hw3⟩ : ∃ w3, w3 = w2.alloc (.cells #[.int .i64 0, .int .u64 2, .int .i64 0, .int .u64 1, .slice (some ⟨w.heap.size, 0, none⟩) 2 2, .slice (some ⟨w.heap.size + 1, 0, none⟩) 1 1, .int .u32 0] 33) := ⟨_, rfl⟩
  have e3 : w3.heap.size = w.heap.size + 3 := by rw [hw3]; simp [e2]
  rw [← hw1, ← hw2, ← hw3]
  have g1 : Gr w w1 := by rw [hw1]; exact (Gr.refl w).alloc _
  have g2 : Gr w1 w2 := by rw [hw2]; exact (Gr.refl w1).alloc _
  have g3 : Gr w2 w3 := by rw [hw3]; exact (Gr.refl w2).alloc _
  have s1 : Sl w3 (.slice (some ⟨w.heap.size, 0, none⟩) 2 2) (nums [1, 0]) := Sl.below (by rw [hw1]; exact Sl.new w _ _ _ 2 2 rfl (by decide)) (Gr.trans g2 g3)
  have b2 : w2.heap[w.heap.size + 1]? = some (.cells (effRow effG (.slice none 0 0)).toArray 45 (0, 0)) := by rw [hw2, ← e1]; exact heap_alloc_new w1 _
  have s2 : Effs w3 (.slice (some ⟨w.heap.size + 1, 0, none⟩) 1 1) [effG] := (effs_one w2 _ effG _ _ b2 effG_ok (Sl.nil _ _ _)).below g3
  have b3 : ItemAt w3 (w.heap.size + 1 + 1) (itemCells itemG (.slice (some ⟨w.heap.size, 0, none⟩) 2 2) (.slice (some ⟨w.heap.size + 1, 0, none⟩) 1 1)) := by unfold ItemAt; rw [hw3, show w.heap.size + 1 + 1 = w2.heap.size by omega]; exact heap_alloc_new w2 _
  have hi : ItemIs w3 itemG (.slice (some ⟨w.heap.size, 0, none⟩) 2 2) (.slice (some ⟨w.heap.size + 1, 0, none⟩) 1 1) := ⟨s1, s2⟩
  have G3 := Gr.trans g1 (Gr.trans g2 g3)
  have hlt := b3.lt
  have TW : Hid (∀ W, Gr w3 W → W.cell? ⟨w.heap.size + 1 + 1, 0, none⟩ = some (.int .i64 0) ∧ W.cell? ⟨w.heap.size + 1 + 1, 1, none⟩ = some (.int .u64 2) ∧ W.cell? ⟨w.heap.size + 1 + 1, 2, none⟩ = some (.int .i64 0) ∧ W.cell? ⟨w.heap.size + 1 + 1, 3, none⟩ = some (.int .u64 1) ∧ W.cell? ⟨w.heap.size + 1 + 1, 4, none⟩ = some (.slice (some ⟨w.heap.size, 0, none⟩) 2 2) ∧ W.cell? ⟨w.heap.size + 1 + 1, 5, none⟩ = some (.slice (some ⟨w.heap.size + 1, 0, none⟩) 1 1) ∧ W.cell? ⟨w.heap.size + 1 + 1, 6, none⟩ = some (.int .u32 0)) := Lib.hid fun W hW => by
    have hb := b3.block (hW.block _ hlt)
    exact ⟨hb.cell 0, hb.cell 1, hb.cell 2, hb.cell 3, hb.cell 4, hb.cell 5, hb.cell 6⟩
  have HI := Lib.hid hi
  have HG3 := Lib.hid G3
  clear hw1 hw2 hw3 g1 g2 g3 s1 s2 b2 b3 hi G3 e1 e2 e3
  have G0 : Gr w3 w3 := Gr.refl _
  obtain ⟨t0, t1, t2, t3, t4, t5, t6⟩ := TW.out _ G0
  go_wp2_with fail
  clear t0 t1 t2 t3 t4 t5 t6
  refine (check_any _ itemG _ _ 2 1 (by have := HI.out; exact ⟨this.1.below G0, this.2.below G0⟩) itemG_ok itemG_n (by decide)).mono ?_
  rintro e w' ⟨rfl, g⟩
  rw [show checkV itemG 2 1 = 0 by rfl]
  have G1 := Gr.trans G0 g
  clear g
  obtain ⟨t0, t1, t2, t3, t4, t5, t6⟩ := TW.out _ G1
  go_wp2_with fail
  clear t0 t1 t2 t3 t4 t5 t6
  refine (check_any _ itemG _ _ 3 1 (by have := HI.out; exact ⟨this.1.below G1, this.2.below G1⟩) itemG_ok itemG_n (by decide)).mono ?_
  rintro e w' ⟨rfl, g⟩
  rw [show checkV itemG 3 1 = 1 by rfl]
  have G2 := Gr.trans G1 g
  clear g
  obtain ⟨t0, t1, t2, t3, t4, t5, t6⟩ := TW.out _ G2
  go_wp2_with fail
  clear t0 t1 t2 t3 t4 t5 t6
  have ga : ∀ W, Gr w3 W → Gr w3 (W.alloc (.cells #[.int .u64 1, .int .u64 0] 23)) := fun W g => Gr.alloc g _
  refine (ready_any _ itemG _ _ _ [1, 0] (by have := HI.out; exact ⟨this.1.below (ga _ G2), this.2.below (ga _ G2)⟩) (Sl.new _ _ _ _ 2 2 rfl (by decide)) itemG_ok itemG_n (by decide)).mono ?_
  rintro e w' ⟨rfl, g⟩
  rw [show readyV itemG [1, 0] = true by rfl]
  have G3 := Gr.trans (ga _ G2) g
  clear g ga
  obtain ⟨t0, t1, t2, t3, t4, t5, t6⟩ := TW.out _ G3
  go_wp2_with fail
  clear t0 t1 t2 t3 t4 t5 t6
  have ga : ∀ W, Gr w3 W → Gr w3 (W.alloc (.cells #[.int .u64 2, .int .u64 0] 23)) := fun W g => Gr.alloc g _
  refine (ready_any _ itemG _ _ _ [2, 0] (by have := HI.out; exact ⟨this.1.below (ga _ G3), this.2.below (ga _ G3)⟩) (Sl.new _ _ _ _ 2 2 rfl (by decide)) itemG_ok itemG_n (by decide)).mono ?_
  rintro e w' ⟨rfl, g⟩
  rw [show readyV itemG [2, 0] = false by rfl]
  have G4 := Gr.trans (ga _ G3) g
  clear g ga
  obtain ⟨t0, t1, t2, t3, t4, t5, t6⟩ := TW.out _ G4
  go_wp2_with fail
  clear t0 t1 t2 t3 t4 t5 t6
  have ga : ∀ W, Gr w3 W → Gr w3 (W.alloc (.cells (itemCells itemG (.slice (some ⟨w.heap.size, 0, none⟩) 2 2) (.slice (some ⟨w.heap.size + 1, 0, none⟩) 1 1)) 33)) := fun W g => Gr.alloc g _
  refine (next_any _ _ 1 [itemG] (items_one _ _ itemG (.slice (some ⟨w.heap.size, 0, none⟩) 2 2) (.slice (some ⟨w.heap.size + 1, 0, none⟩) 1 1) _ (heap_alloc_new _ _) itemG_ok (by have := HI.out; exact ⟨this.1.below (ga _ G4), this.2.below (ga _ G4)⟩)) (by decide) (by decide)).mono ?_
  rintro e w' ⟨v4, rfl, hr, g⟩
  obtain ⟨a4, c4, rfl⟩ := hr.shape
  rw [show (nextV 1 [itemG]).length = 1 by rfl]
  have G5 := Gr.trans (ga _ G4) g
  clear g ga hr
  obtain ⟨t0, t1, t2, t3, t4, t5, t6⟩ := TW.out _ G5
  go_wp2_with fail
  clear t0 t1 t2 t3 t4 t5 t6
  have ga : ∀ W, Gr w3 W → Gr w3 (W.alloc (.cells (itemCells itemG (.slice (some ⟨w.heap.size, 0, none⟩) 2 2) (.slice (some ⟨w.heap.size + 1, 0, none⟩) 1 1)) 33)) := fun W g => Gr.alloc g _
  refine (next_any _ _ 2 [itemG] (items_one _ _ itemG (.slice (some ⟨w.heap.size, 0, none⟩) 2 2) (.slice (some ⟨w.heap.size + 1, 0, none⟩) 1 1) _ (heap_alloc_new _ _) itemG_ok (by have := HI.out; exact ⟨this.1.below (ga _ G5), this.2.below (ga _ G5)⟩)) (by decide) (by decide)).mono ?_
  rintro e w' ⟨v5, rfl, hr, g⟩
  obtain ⟨a5, c5, rfl⟩ := hr.shape
  rw [show (nextV 2 [itemG]).length = 0 by rfl]
  have G6 := Gr.trans (ga _ G5) g
  clear g ga hr
  go_wp2
  go_ret
  exact ⟨rfl, Gr.trans HG3.out G6⟩
end Go.Proofs.Ytpdninnnpoiblaa
