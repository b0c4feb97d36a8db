/-
  Rows of items that share stamps and effects with memory that was there before; the document's Next.
-/
import Derived.Test.YtpdninnnpoiblaaSAll
set_option linter.unusedVariables false
namespace Go.Proofs.Ytpdninnnpoiblaa
open Go.RowKit

/-- A row of the call's own; its items' stamps and effects read so in w0. -/
def ItemsS (w0 W : World) (B : Nat) (v : Value) (xs : List ItemD) : Prop :=
  ∃ rs : List (List Value), OwnR W B 33 7 v rs ∧ rs.length = xs.length ∧ ∀ (i : Nat) (h : i < xs.length), ItemOk xs[i] ∧ ∃ sv ev, rs[i]? = some (itemCells xs[i] sv ev).toList ∧ ItemIs w0 xs[i] sv ev
theorem ItemsS.nil (w0 W : World) (B : Nat) : ItemsS w0 W B (.slice none 0 0) [] := ⟨[], OwnR.nil W B 33 7, rfl, fun i h => absurd h (Nat.not_lt_zero _)⟩
theorem ItemsS.shape {w0 W : World} {B : Nat} {v : Value} {xs : List ItemD} (h : ItemsS w0 W B v xs) : ∃ a cap, v = .slice a xs.length cap := by
  obtain ⟨rs, h1, h2, _⟩ := h; rw [← h2]; exact h1.shape
theorem ItemsS.lt {w0 W : World} {B : Nat} {v : Value} {xs : List ItemD} (h : ItemsS w0 W B v xs) : ∀ j, v.ownBlock = some j → B ≤ j ∧ j < W.heap.size := by
  obtain ⟨rs, h1, _⟩ := h; exact h1.lt
theorem ItemsS.block {w0 W W' : World} {B : Nat} {v : Value} {xs : List ItemD} (h : ItemsS w0 W B v xs) (hb : ∀ j, v.ownBlock = some j → W'.heap[j]? = W.heap[j]?) : ItemsS w0 W' B v xs := by
  obtain ⟨rs, h1, h2⟩ := h
  exact ⟨rs, h1.blockC fun j _ _ _ _ _ hv => hb j hv, h2⟩
theorem ItemsS.gr {w0 W W' : World} {B : Nat} {v : Value} {xs : List ItemD} (h : ItemsS w0 W B v xs) (g : Gr W W') : ItemsS w0 W' B v xs := h.block fun j hj => g.block j (h.lt j hj).2
theorem ItemsS.items {w0 W : World} {B : Nat} {v : Value} {xs : List ItemD} (h : ItemsS w0 W B v xs) (g : Gr w0 W) : Items W v xs := by
  obtain ⟨rs, h1, h2, h3⟩ := h
  refine ⟨_, by rw [← h2]; exact h1.rows, fun i hi => ?_⟩
  obtain ⟨ok, sv, ev, q1, q2⟩ := h3 i hi
  refine ⟨ok, sv, ev, fun j u hu => ?_, q2.below g⟩
  have e : rs.getD i [] = (itemCells xs[i] sv ev).toList := by rw [List.getD_eq_getElem?_getD, q1]; rfl
  show (rs.getD i []).getD j (.bool false) = u
  rw [e, List.getD_eq_getElem?_getD, Array.getElem?_toList, hu]
  rfl
theorem row7 {x : ItemD} {sv ev : Value} {R : Nat → Value} (h : ∀ j u, (itemCells x sv ev)[j]? = some u → R j = u) : (List.range 7).map R = (itemCells x sv ev).toList := by
  show [R 0, R 1, R 2, R 3, R 4, R 5, R 6] = _
  rw [h 0 _ rfl, h 1 _ rfl, h 2 _ rfl, h 3 _ rfl, h 4 _ rfl, h 5 _ rfl, h 6 _ rfl]
  rfl
/-- append(s, items...) -/
theorem run_append_items (w0 w : World) (B : Nat) (v y : Value) (xs ys : List ItemD) (h : ItemsS w0 w B v xs) (R : Nat → Nat → Value) (hy : Rows w y ys.length 7 R)
    (hR : ∀ i (h : i < ys.length), ItemOk ys[i] ∧ ∃ sv ev, (∀ j u, (itemCells ys[i] sv ev)[j]? = some u → R i j = u) ∧ ItemIs w0 ys[i] sv ev)
    (hl : xs.length + ys.length ≤ 100000) (hB : B ≤ w.heap.size) :
    ∃ a c w', (Builtin.append_ #[22, 22] 22 #[v, y]).run Try.prog w = .ok (.slice a (xs.length + ys.length) c) w' ∧ ItemsS w0 w' B (.slice a (xs.length + ys.length) c) (xs ++ ys) ∧ w.grownBy w' v.ownBlock := by
  obtain ⟨i0, hi0, hz0, hz1, hz2⟩ := info_parts info_item
  obtain ⟨rs, o1, o2, o3⟩ := h
  obtain ⟨news, hnews⟩ : ∃ news, news = (List.range ys.length).map fun i => (List.range 7).map (R i) := ⟨_, rfl⟩
  have hnl : news.length = ys.length := by rw [hnews]; simp
  have hat : ∀ i (hi : i < ys.length), news[i]? = some ((List.range 7).map (R i)) := fun i hi => by rw [hnews]; simp [hi]
  obtain ⟨v', w', hr, p1, p2, p3, _⟩ := run_append_rows (P := Try.prog) w B 22 22 33 i0 _ 7 88 Try.underlying22 hi0 hz0 hz1 hz2 (by rfl) v y rs news o1 R (by rw [hnl]; exact hy)
    (by
      intro i hi
      have e : news[i] = (List.range 7).map (R i) := by have := hat i (by omega); rw [List.getElem?_eq_getElem hi] at this; exact Option.some.inj this
      refine ⟨by rw [e]; simp, fun j hj => ?_⟩
      simp only [e]
      simp)
    (by
      intro r hr u hu
      rw [hnews] at hr
      obtain ⟨i, hi, rfl⟩ := List.mem_map.1 hr
      obtain ⟨ok, sv, ev, q1, q2⟩ := hR i (List.mem_range.1 hi)
      rw [row7 q1] at hu
      obtain ⟨a1, c1, rfl⟩ := q2.1.oneCells
      obtain ⟨a2, c2, rfl⟩ := q2.2.shape
      simp only [itemCells, List.mem_cons, List.not_mem_nil, or_false] at hu
      rcases hu with rfl | rfl | rfl | rfl | rfl | rfl | rfl <;> rfl)
    (by rw [o2, hnl]; unfold maxLen; omega) (by rw [o2, hnl]; omega) hB
  have hs : ItemsS w0 w' B v' (xs ++ ys) := by
    refine ⟨_, p1, by simp [o2, hnl], fun i hi => ?_⟩
    by_cases hlt : i < xs.length
    · obtain ⟨ok, su, eu, q1, q2⟩ := o3 i hlt
      rw [List.getElem_append_left hlt, List.getElem?_append_left (by omega)]
      exact ⟨ok, su, eu, q1, q2⟩
    · have hiy : i - xs.length < ys.length := by simp at hi; omega
      obtain ⟨ok, su, eu, q1, q2⟩ := hR _ hiy
      rw [List.getElem_append_right (by omega), List.getElem?_append_right (by omega), o2, hat _ hiy, row7 q1]
      exact ⟨ok, su, eu, rfl, q2⟩
  obtain ⟨a, c, rfl⟩ := hs.shape
  rw [List.length_append] at hr hs
  exact ⟨a, c, w', hr, hs, p2⟩
theorem nextV_step (hv k : Nat) (xs : List ItemD) (hk : k < xs.length) : nextV hv (xs.take (k + 1)) = if hv < xs[k].seq ∧ (nextV hv (xs.take k)).length < 8 then nextV hv (xs.take k) ++ [xs[k]] else nextV hv (xs.take k) := by
  have e : wanted hv (xs.take (k + 1)) = wanted hv (xs.take k) ++ if hv < xs[k].seq then [xs[k]] else [] := by
    rw [List.take_add_one, List.getElem?_eq_getElem hk]
    unfold wanted
    rw [List.filter_append]
    congr 1
    by_cases h : hv < xs[k].seq <;> simp [h]
  unfold nextV
  rw [e, List.take_append, List.length_take]
  by_cases h1 : hv < xs[k].seq
  · by_cases h2 : (wanted hv (xs.take k)).length < 8
    · rw [if_pos h1, if_pos ⟨h1, by omega⟩]
      congr 1
      rw [List.take_of_length_le (by simp; omega)]
    · rw [if_pos h1, if_neg (by omega), show 8 - (wanted hv (xs.take k)).length = 0 by omega]
      simp
  · rw [if_neg h1, if_neg (fun h => h1 h.1)]; simp
theorem nextV_le (hv : Nat) (xs : List ItemD) : (nextV hv xs).length ≤ 8 := by unfold nextV; rw [List.length_take]; omega
theorem nextV_mem {hv : Nat} {xs : List ItemD} {x : ItemD} (h : x ∈ nextV hv xs) : x ∈ xs := (List.mem_filter.1 (List.mem_of_mem_take h)).1
/-- One item loaded and appended. -/
theorem app_itemS (w W : World) (v : Value) (ys : List ItemD) (x : ItemD) (su eu : Value) (h : ItemsS w W w.heap.size v ys) (hok : ItemOk x) (hx : ItemIs w x su eu) (hb : Below w.heap.size w W) (hl : ys.length < 8) :
    ∃ a c w', (Builtin.append_ #[22, 22] 22 #[v, .slice (some ⟨W.heap.size, 0, Option.none⟩) 1 1]).run Try.prog (W.alloc (.cells (itemCells x su eu) 33)) = .ok (.slice a (ys.length + 1) c) w' ∧
      ItemsS w w' w.heap.size (.slice a (ys.length + 1) c) (ys ++ [x]) ∧ Below w.heap.size w w' := by
  have g1 : Gr W (W.alloc (.cells (itemCells x su eu) 33)) := (Gr.refl W).alloc _
  have hs := hb.size
  obtain ⟨a, c, w', hr, p1, p2⟩ := run_append_items w (W.alloc (.cells (itemCells x su eu) 33)) w.heap.size v (.slice (some ⟨W.heap.size, 0, Option.none⟩) 1 1) ys [x] (h.gr g1) (rowF (itemCells x su eu)) (rows_one _ _ 7 _ 33 (0, 0) (heap_alloc_new W _) rfl)
    (fun i hi => by
      obtain rfl : i = 0 := by simp at hi; omega
      exact ⟨hok, su, eu, fun j u hu => by show ((itemCells x su eu)[j]?).getD (.bool false) = u; rw [show (itemCells x su eu)[j]? = some u from hu]; rfl, hx⟩)
    (by simp; omega) (by have := g1.size; omega)
  exact ⟨a, c, w', hr, p1, (Below.trans hb (g1.mono hs)).grown p2 (by have := g1.size; omega) (fun j hj => (h.lt j hj).1)⟩
set_option maxHeartbeats 2000000 in
/-- The document's Next. -/
theorem refnext_any (w : World) (v : Value) (hv : Nat) (xs : List ItemD) (h : Items w v xs) (hl : xs.length ≤ 100000) (h64 : hv < 2 ^ 64) :
    Calls Try.prog 11 #[v, .int .u64 (hv : Int)] w fun e w' => ∃ v', e = .returned v' ∧ Items w' v' (nextV hv xs) ∧ Gr w w' := by
  obtain ⟨a1, c1, rfl⟩ : ∃ a c, v = .slice a xs.length c := by obtain ⟨R, ⟨a, c, e, _⟩, _⟩ := h; exact ⟨a, c, e⟩
  obtain ⟨n, hn⟩ : ∃ n, n = xs.length := ⟨_, rfl⟩
  have H1 := Lib.hid h
  rw [← hn] at H1 hl ⊢
  have HN := Lib.hid hn
  clear h hn
  go_enter Try.func11, Try.ntmps11
  go_wp2
  go_loopw [5, 6] (fun u i wr => ∃ k : Nat, k ≤ n ∧ i = .int .i64 k ∧ ∃ a c m ys, u = .slice a m c ∧ m = ys.length ∧ m ≤ 8 ∧ ys = nextV hv (xs.take k) ∧ ItemsS w wr w.heap.size u ys ∧ Below w.heap.size w wr) (fun _ i _ => n - (intOf i).toNat)
  case atStart => exact ⟨0, Nat.zero_le _, rfl, none, 0, 0, [], rfl, rfl, by decide, by simp [nextV, wanted], ItemsS.nil _ _ _, Below.refl _ _⟩
  case round =>
    obtain ⟨k, hk, rfl, a, c, m, ys, rfl, hm, hm8, hys, hr, hb⟩ := hrel
    have HY := Lib.hid hys
    have HM := Lib.hid hm
    have HR := Lib.hid hr
    have HB := Lib.hid hb
    clear hys hm hr hb
    by_cases hlt : k < n
    · obtain ⟨B1, o1, sv1, ev1, rfl, hB1, p0, p1, p2, p3, p4, p5, p6, i1, ok1⟩ := H1.out.at k (by rw [← HN.out]; exact hlt)
      have hstep := nextV_step hv k xs (by rw [← HN.out]; exact hlt)
      rw [← HY.out, ← HM.out] at hstep
      obtain ⟨x, hx⟩ : ∃ x, x = xs[k]'(by rw [← HN.out]; exact hlt) := ⟨_, rfl⟩
      rw [← hx] at p0 p1 p2 p3 p6 i1 ok1 hstep
      clear hx
      have S := Lib.hid (And.intro i1 ok1)
      have HS := Lib.hid hstep
      clear i1 ok1 hstep
      replace p0 := (HB.out.cell (p := ⟨B1, o1 + k * 7, none⟩) hB1).trans p0
      replace p1 := (HB.out.cell (p := ⟨B1, o1 + k * 7 + 1, none⟩) hB1).trans p1
      replace p2 := (HB.out.cell (p := ⟨B1, o1 + k * 7 + 2, none⟩) hB1).trans p2
      replace p3 := (HB.out.cell (p := ⟨B1, o1 + k * 7 + 3, none⟩) hB1).trans p3
      replace p4 := (HB.out.cell (p := ⟨B1, o1 + k * 7 + 4, none⟩) hB1).trans p4
      replace p5 := (HB.out.cell (p := ⟨B1, o1 + k * 7 + 5, none⟩) hB1).trans p5
      replace p6 := (HB.out.cell (p := ⟨B1, o1 + k * 7 + 6, none⟩) hB1).trans p6
      have hk0 : (0 : Int) ≤ (k : Int) := by omega
      have hk1 : (k : Int) < (n : Int) := by omega
      by_cases hc1 : hv < x.seq
      · by_cases hc2 : m < 8
        · obtain ⟨a2, c2, w2, hrun, q1, q2⟩ := app_itemS w wr _ ys x sv1 ev1 HR.out S.out.2 S.out.1 HB.out (by rw [← HM.out]; exact hc2)
          rw [← HM.out] at hrun q1
          unfold itemCells at hrun
          have hy2 : ys ++ [x] = nextV hv (xs.take (k + 1)) := by rw [HS.out, if_pos ⟨hc1, hc2⟩]
          have HY2 := Lib.hid hy2
          have HQ := Lib.hid (And.intro q1 q2)
          clear hy2 q1 q2
          go_wp2_with (at_builtin; refine wpList_run_append hrun rfl _ _ rfl rfl rfl ?_; clear hrun)
          go_roundw
          case rel => exact ⟨k + 1, by omega, by go_num, a2, c2, m + 1, _, by go_num, by simp [HM.out], by omega, HY2.out, HQ.out.1, HQ.out.2⟩
          case measure => simp [intOf]; omega
        · have hy2 : ys = nextV hv (xs.take (k + 1)) := by rw [HS.out, if_neg (fun h => hc2 h.2)]
          have HY2 := Lib.hid hy2
          clear hy2
          go_wp2_with fail
          go_roundw
          case rel => exact ⟨k + 1, by omega, by go_num, a, c, m, ys, rfl, HM.out, hm8, HY2.out, HR.out, HB.out⟩
          case measure => simp [intOf]; omega
      · have hy2 : ys = nextV hv (xs.take (k + 1)) := by rw [HS.out, if_neg (fun h => hc1 h.1)]
        have HY2 := Lib.hid hy2
        clear hy2
        go_wp2_with fail
        go_roundw
        case rel => exact ⟨k + 1, by omega, by go_num, a, c, m, ys, rfl, HM.out, hm8, HY2.out, HR.out, HB.out⟩
        case measure => simp [intOf]; omega
    · obtain rfl : k = n := by omega
      have hall : ys = nextV hv xs := by rw [HY.out, HN.out, List.take_length]
      have HA := Lib.hid hall
      clear hall
      go_wp2
      go_ret
      exact ⟨_, rfl, by rw [← HA.out]; exact HR.out.items HB.out, HB.out⟩
end Go.Proofs.Ytpdninnnpoiblaa
