/-
  A net and a row of wanted letters beside it.
-/
import Derived.Test.YtcpkbngoecpnkaaNetG
set_option linter.unusedVariables false
namespace Go.Proofs.Ytcpkbngoecpnkaa
open Go.RowKit

/-- Letters in a row of the call's own; their bytes were there at w. -/
structure WantR (w W : World) (v : Value) (qs : List (LetD × Value)) : Prop where
  rows : OwnR W w.heap.size 35 5 v (qs.map rowP)
  src : ∀ q ∈ qs, Sl w q.2 (bytes q.1.b)
  gr : Gr w W
section
variable {w W W' : World} {v : Value} {qs : List (LetD × Value)}
theorem WantR.nil (g : Gr w W) : WantR w W (.slice none 0 0) [] := ⟨OwnR.nil _ _ _ _, fun p hp => (by cases hp), g⟩
theorem WantR.shape (h : WantR w W v qs) : ∃ a cap, v = .slice a qs.length cap := by have := h.rows.shape; rwa [List.length_map] at this
theorem WantR.lt (h : WantR w W v qs) : ∀ j, v.ownBlock = some j → w.heap.size ≤ j ∧ j < W.heap.size := h.rows.lt
theorem WantR.cells (h : WantR w W v qs) : ∀ j, v.ownBlock = some j → ∃ cs, W.heap[j]? = some (.cells cs 35 (0, 0)) := h.rows.cells
theorem WantR.keep (h : WantR w W v qs) (g : Gr w W') (hb : ∀ j, v.ownBlock = some j → W'.heap[j]? = W.heap[j]?) : WantR w W' v qs := ⟨h.rows.block hb, h.src, g⟩
theorem WantR.go (h : WantR w W v qs) (g : Gr W W') : WantR w W' v qs := h.keep (Below.trans h.gr (g.mono h.gr.size)) (fun j hj => g.block j (h.lt j hj).2)
theorem WantR.reads (h : WantR w W v qs) : Lets W v (qs.map Prod.fst) := by
  obtain ⟨a, cap, e⟩ := h.shape
  refine ⟨fun i j => ((qs.map rowP).getD i []).getD j (.bool false), ?_, fun i hi => ?_⟩
  · have := h.rows.rows
    rw [List.length_map] at this ⊢
    exact this
  · have hi' : i < qs.length := by simpa using hi
    have hr : (qs.map rowP).getD i [] = rowP (qs[i]'hi') := by
      rw [List.getD_eq_getElem?_getD, List.getElem?_map, List.getElem?_eq_getElem hi']; rfl
    have hm : (qs.map Prod.fst)[i] = (qs[i]'hi').1 := by simp
    simp only [hm, hr]
    exact ⟨rfl, rfl, rfl, rfl, (h.src _ (List.getElem_mem hi')).below h.gr⟩
theorem WantR.at (h : WantR w W v qs) (k : Nat) (hk : k < qs.length) : ∃ g cap, v = .slice (some ⟨g, 0, none⟩) qs.length cap ∧ g < W.heap.size ∧ qs.length ≤ cap ∧
    W.cell? ⟨g, k * 5, none⟩ = some (.int .i64 (qs[k]'hk).1.src.1) ∧ W.cell? ⟨g, k * 5 + 1, none⟩ = some (.int .i64 (qs[k]'hk).1.src.2) ∧ W.cell? ⟨g, k * 5 + 2, none⟩ = some (.int .i64 (qs[k]'hk).1.dst.1) ∧ W.cell? ⟨g, k * 5 + 3, none⟩ = some (.int .i64 (qs[k]'hk).1.dst.2) ∧ W.cell? ⟨g, k * 5 + 4, none⟩ = some (qs[k]'hk).2 ∧
    Sl w (qs[k]'hk).2 (bytes (qs[k]'hk).1.b) := by
  obtain ⟨g, cap, e, hb, hlt, _, hc⟩ := h.rows.formN (by rw [List.length_map]; omega)
  rw [List.length_map] at e
  have hk' : k < (qs.map rowP).length := by rw [List.length_map]; exact hk
  have hr : (qs.map rowP)[k] = letRow (qs[k]'hk).1 (qs[k]'hk).2 := by simp [rowP]
  have hcc : ∀ j (hj : j < 5), W.cell? ⟨g, k * 5 + j, none⟩ = (letRow (qs[k]'hk).1 (qs[k]'hk).2)[j]? := fun j hj => by
    rw [hc k hk' j (by rw [hr]; exact hj)]
    rw [← List.getElem?_eq_getElem]
    rw [hr]
  have hcap : qs.length ≤ cap := by
    obtain ⟨_, c9, e9, h9, _⟩ := h.rows.rows
    rw [List.length_map] at h9
    rw [e] at e9
    injection e9 with _ _ e9
    omega
  exact ⟨g, cap, e, hlt, hcap, hcc 0 (by decide), hcc 1 (by decide), hcc 2 (by decide), hcc 3 (by decide), hcc 4 (by decide), h.src _ (List.getElem_mem hk)⟩
end
theorem Sl.sh {w : World} {v : Value} {xs : List Value} (h : Sl w v xs) : ∃ a n c, v = .slice a n c := by
  obtain ⟨a, c, e, _⟩ := h; exact ⟨a, _, c, e⟩
theorem run_append_want {w W : World} {v y : Value} {ps qs : List (LetD × Value)} (h : WantR w W v ps) (hy : Rows W y qs.length 5 (fun i j => ((qs.map rowP).getD i []).getD j (.bool false))) (hq : ∀ q ∈ qs, Sl w q.2 (bytes q.1.b))
    (hl : ps.length + qs.length ≤ 1000000) :
    ∃ v' w', (Builtin.append_ #[30, 30] 30 #[v, y]).run Try.prog W = .ok v' w' ∧ WantR w w' v' (ps ++ qs) ∧ w'.heap.size ≥ W.heap.size ∧ Ch (fun j => v.ownBlock = some j) W w' ∧ (v'.ownBlock = v.ownBlock ∨ ∃ j, v'.ownBlock = some j ∧ W.heap.size ≤ j) := by
  obtain ⟨i0, hi0, hz0, hz1, hz2⟩ := info_parts info_let
  obtain ⟨v', w', hr, h1, h2, h3, h4⟩ := run_append_rows (P := Try.prog) W w.heap.size 30 30 35 i0 _ 5 56 Try.underlying30 hi0 hz0 hz1 hz2 rfl v y (ps.map rowP) (qs.map rowP) h.rows
    (fun i j => ((qs.map rowP).getD i []).getD j (.bool false)) (by rw [List.length_map]; exact hy) (fun i hi => ⟨by simp [rowP, letRow], fun j hj => by rw [List.getD_eq_getElem?_getD, List.getD_eq_getElem?_getD, List.getElem?_eq_getElem hi, Option.getD_some, List.getElem?_eq_getElem hj, Option.getD_some]⟩)
    (fun r hr u hu => by
      obtain ⟨q, hq', rfl⟩ := List.mem_map.1 hr
      exact letRow_one q.1 q.2 ((hq q hq').sh) u hu)
    (by rw [List.length_map, List.length_map]; unfold maxLen; omega) (by rw [List.length_map, List.length_map]; omega) h.gr.size
  rw [← List.map_append] at h1
  have hc : Ch (fun j => v.ownBlock = some j) W w' := Ch.of_grownBy h2 (fun k hk => hk)
  have hg : Gr w w' := Below.trans h.gr (hc.below h.gr.size (fun k hk => (h.lt k hk).1))
  exact ⟨v', w', hr, ⟨h1, fun p hp => (List.mem_append.1 hp).elim (h.src p) (hq p), hg⟩, hc.size, hc, h3⟩
/-- The first k. -/
theorem WantR.take {w W : World} {g cap : Nat} {qs : List (LetD × Value)} (h : WantR w W (.slice (some ⟨g, 0, none⟩) qs.length cap) qs) (k c : Nat) (hk : k ≤ qs.length) (hc : k ≤ c) :
    Rows W (.slice (some ⟨g, 0, none⟩) k c) (qs.take k).length 5 (fun i j => (((qs.take k).map rowP).getD i []).getD j (.bool false)) := by
  have hd : (qs.take k).length = k := by rw [List.length_take]; omega
  refine ⟨_, c, by rw [hd], by omega, ?_⟩
  by_cases h0 : k = 0
  · exact .inl (by omega)
  · right
    obtain ⟨g', cap', e, _, hlt, _, hcell⟩ := h.rows.formN (by rw [List.length_map]; omega)
    injection e with e1 e2 e3
    injection e1 with e1
    injection e1 with e1
    subst e1
    refine ⟨g, 0, rfl, hlt, fun i hi j hj => ?_⟩
    have hi2 : i < (qs.map rowP).length := by rw [List.length_map]; omega
    have hr : (qs.map rowP)[i] = rowP (qs[i]'(by simpa using hi2)) := by simp
    have hc2 := hcell i hi2 j (by rw [hr]; simpa [rowP, letRow] using hj)
    rw [Nat.zero_add, hc2]
    show _ = some ((((qs.take k).map rowP).getD i []).getD j (.bool false))
    rw [List.getD_eq_getElem?_getD, List.getD_eq_getElem?_getD, List.getElem?_map, List.getElem?_take, if_pos (by omega), List.getElem?_eq_getElem (show i < qs.length by simpa using hi2), Option.map_some, Option.getD_some]
    simp only [hr]
    have hj5 : j < (rowP (qs[i]'(by simpa using hi2))).length := by simpa [rowP, letRow] using hj
    rw [List.getElem?_eq_getElem hj5, Option.getD_some]
theorem WantR.drop {w W : World} {g cap : Nat} {qs : List (LetD × Value)} (h : WantR w W (.slice (some ⟨g, 0, none⟩) qs.length cap) qs) (m c : Nat) (hm : m ≤ qs.length) (hc : qs.length - m ≤ c) (a : Option Addr) (ha : a = some ⟨g, m * 5, none⟩ ∨ qs.length = m) :
    Rows W (.slice a (qs.length - m) c) (qs.drop m).length 5 (fun i j => (((qs.drop m).map rowP).getD i []).getD j (.bool false)) := by
  have hd : (qs.drop m).length = qs.length - m := List.length_drop
  refine ⟨_, c, by rw [hd], by omega, ?_⟩
  by_cases h0 : qs.length - m = 0
  · exact .inl (by omega)
  · right
    obtain rfl := ha.resolve_right (by omega)
    obtain ⟨g', cap', e, _, hlt, _, hcell⟩ := h.rows.formN (by rw [List.length_map]; omega)
    injection e with e1 e2 e3
    injection e1 with e1
    injection e1 with e1
    subst e1
    refine ⟨g, m * 5, rfl, hlt, fun i hi j hj => ?_⟩
    have hi2 : m + i < (qs.map rowP).length := by rw [List.length_map]; omega
    have hr : (qs.map rowP)[m + i] = rowP (qs[m + i]'(by simpa using hi2)) := by simp
    have hc2 := hcell (m + i) hi2 j (by rw [hr]; simpa [rowP, letRow] using hj)
    rw [Nat.add_mul] at hc2
    rw [hc2]
    show _ = some ((((qs.drop m).map rowP).getD i []).getD j (.bool false))
    rw [List.getD_eq_getElem?_getD, List.getD_eq_getElem?_getD, List.getElem?_map, List.getElem?_drop, List.getElem?_eq_getElem (show m + i < qs.length by simpa using hi2), Option.map_some, Option.getD_some]
    simp only [hr]
    have hj5 : j < (rowP (qs[m + i]'(by simpa using hi2))).length := by simpa [rowP, letRow] using hj
    rw [List.getElem?_eq_getElem hj5, Option.getD_some]

/-- A net with letters ls, and a row v of letters ms beside it. -/
def Ord (w W : World) (N M : Nat) (v : Value) (ls ms : List LetD) : Prop :=
  ∃ lv ps qs, NetIs W w.heap.size N M 0 lv ps [2, 3, 1] (fun _ => false) ∧ WantR w W v qs ∧ ps.map Prod.fst = ls ∧ qs.map Prod.fst = ms ∧ ∀ j, v.ownBlock = some j → ¬ netB N M lv j
section
variable {w W W' : World} {N M : Nat} {v : Value} {ls ms : List LetD}
theorem Ord.go (h : Ord w W N M v ls ms) (g : Gr W W') : Ord w W' N M v ls ms := by
  obtain ⟨lv, ps, qs, h1, h2, h3, h4, h5⟩ := h
  exact ⟨lv, ps, qs, h1.gr g, h2.go g, h3, h4, h5⟩
theorem Ord.below (h : Ord w W N M v ls ms) : Gr w W := by obtain ⟨lv, ps, qs, h1, h2, h3, h4, h5⟩ := h; exact h2.gr
theorem Ord.shape (h : Ord w W N M v ls ms) : ∃ a cap, v = .slice a ms.length cap := by
  obtain ⟨lv, ps, qs, h1, h2, h3, h4, h5⟩ := h
  obtain ⟨a, c, e⟩ := h2.shape
  exact ⟨a, c, by rw [e, ← h4, List.length_map]⟩
theorem Ord.reads (h : Ord w W N M v ls ms) : Lets W v ms := by
  obtain ⟨lv, ps, qs, h1, h2, h3, h4, h5⟩ := h
  rw [← h4]; exact h2.reads
/-- A method was done beside the row. -/
theorem Ord.did {w W W' : World} {N M : Nat} {v lv : Value} {ls' ms : List LetD} {qs : List (LetD × Value)} {n : Nat} {ps : List (LetD × Value)} (h1 : NetIs W w.heap.size N M n lv ps [2, 3, 1] (fun _ => false)) (h2 : WantR w W v qs) (h4 : qs.map Prod.fst = ms) (h5 : ∀ j, v.ownBlock = some j → ¬ netB N M lv j)
    (hd : Did W w.heap.size N M 0 lv [2, 3, 1] (fun _ => false) ls' W') : Ord w W' N M v ls' ms := by
  obtain ⟨lv', ps', k1, k2, k3, k4⟩ := hd
  refine ⟨lv', ps', qs, k1, h2.keep (below_ch h2.gr h1 k3) (fun j hj => k3.block j (h2.lt j hj).2 (h5 j hj)), k2, h4, fun j hj => netB_step k4 (h2.lt j hj).2 (h5 j hj)⟩
theorem ord_send (h : Ord w W N M v ls ms) (l : LetD) (bv : Value) (hb : Sl W bv (bytes l.b)) (hl : l.b.length ≤ 140737488355328) (hlt : ∀ j, bv.ownBlock = some j → j < w.heap.size ∨ l.b = []) :
    Calls Try.prog 10 #[.pointer (some ⟨N, 0, Option.none⟩), letV l bv] W fun e w' => e = .returned (.int .i64 (sendE [2, 3, 1] ls.length l)) ∧ Ord w w' N M v (if sendE [2, 3, 1] ls.length l = 0 then ls ++ [l] else ls) ms := by
  obtain ⟨lv, ps, qs, h1, h2, h3, h4, h5⟩ := h
  refine (send_w h1 h3 l bv hb hl (fun hn j hj e => ?_) rfl rfl).mono ?_
  · have := (h1.lets.lt j e).1
    rcases hlt j hj with h9 | h9
    · omega
    · exact hn h9
  · rintro e w' ⟨rfl, hd⟩
    exact ⟨rfl, Ord.did h1 h2 h4 h5 hd⟩
theorem ord_hold (h : Ord w W N M v ls ms) (k : Nat) (hk : k < ls.length) :
    Calls Try.prog 11 #[.pointer (some ⟨N, 0, Option.none⟩), .int .i64 (k : Int)] W fun e w' => e = .returned (.int .i64 0) ∧ Ord w w' N M v (ls.eraseIdx k ++ [ls[k]]) ms := by
  obtain ⟨lv, ps, qs, h1, h2, h3, h4, h5⟩ := h
  have hm : mayV (k : Int) ls.length = 0 := by unfold mayV; rw [if_neg (by omega), if_neg (by omega)]
  have hh : holdL ls (k : Int) = ls.eraseIdx k ++ [ls[k]] := by unfold holdL; rw [if_pos hm]; simp [List.getElem?_eq_getElem hk]
  refine (hold_w h1 h3 (k : Int) hm hh).mono ?_
  rintro e w' ⟨rfl, hd⟩
  exact ⟨rfl, Ord.did h1 h2 h4 h5 hd⟩
theorem takeV_front (sizes : List Int) (l : LetD) (ls : List LetD) : takeV sizes (fun _ => false) (l :: ls) 0 = (l, 0, ls) := by
  have h0 : mayV 0 (l :: ls).length = 0 := by unfold mayV; rw [if_neg (by omega), if_neg (by simp)]
  unfold takeV
  rw [if_pos h0]
  simp [cutsV]
theorem ord_take (h : Ord w W N M v ls ms) (l : LetD) (ls' : List LetD) (e0 : ls = l :: ls') (hok : ∀ x ∈ ls, LetOk x) :
    Calls Try.prog 12 #[.pointer (some ⟨N, 0, Option.none⟩), .int .i64 0] W fun e w' => ∃ bv, e = .returned (.tuple #[letV l bv, .int .i64 0]) ∧ Sl w' bv (bytes l.b) ∧ Ord w w' N M v ls' ms := by
  obtain ⟨lv, ps, qs, h1, h2, h3, h4, h5⟩ := h
  refine (take_w h1 h3 hok 0 (r := (l, 0, ls')) (by rw [e0]; exact takeV_front _ _ _)).mono ?_
  rintro e w' ⟨bv, rfl, ho, hd⟩
  exact ⟨bv, rfl, ho.sl, Ord.did h1 h2 h4 h5 hd⟩
theorem ord_len (h : Ord w W N M v ls ms) : Calls Try.prog 14 #[.pointer (some ⟨N, 0, Option.none⟩)] W fun e w' => e = .returned (.int .i64 (ls.length : Int)) ∧ w' = W := by
  obtain ⟨lv, ps, qs, h1, h2, h3, h4, h5⟩ := h
  exact len_w h1 h3
/-- Something beside the net was written. -/
theorem NetIs.beside {W W' : World} {base N M n : Nat} {lv v : Value} {ps : List (LetD × Value)} {sizes : List Int} {cut : AdD × AdD → Bool} (h : NetIs W base N M n lv ps sizes cut) (hc : Ch (fun j => v.ownBlock = some j) W W')
    (h35 : ∀ j, v.ownBlock = some j → ∃ cs, W.heap[j]? = some (.cells cs 35 (0, 0))) (hn : ∀ j, v.ownBlock = some j → ¬ netB N M lv j) : NetIs W' base N M n lv ps sizes cut := by
  refine h.keep (Kb.ch hc (fun j cs t fr hj hcs => ?_)) (fun j hj => hc.block j (h.ltB j hj).2 (fun e => hn j e hj))
  obtain ⟨cs', h9⟩ := h35 j hj
  rw [cells_type hcs h9]
  exact ⟨by decide, by decide⟩
theorem ord_push (h : Ord w W N M v ls ms) (x : LetD) (bv : Value) (Y : Nat) (hc : CellsAt W Y #[.int .i64 x.src.1, .int .i64 x.src.2, .int .i64 x.dst.1, .int .i64 x.dst.2, bv] 35) (hs : Sl w bv (bytes x.b)) (hl : ms.length ≤ 1000) :
    ∃ v' w', (Builtin.append_ #[30, 30] 30 #[v, .slice (some ⟨Y, 0, none⟩) 1 1]).run Try.prog W = .ok v' w' ∧ Ord w w' N M v' ls (ms ++ [x]) := by
  obtain ⟨lv, ps, qs, h1, h2, h3, h4, h5⟩ := h
  have hql : qs.length = ms.length := by rw [← h4, List.length_map]
  obtain ⟨v', w', hr, k1, k2, k3, k4⟩ := run_append_want (qs := [(x, bv)]) h2 (rows_one (q := (x, bv)) hc) (fun q hq => by rw [List.mem_singleton.1 hq]; exact hs) (by simp; omega)
  refine ⟨v', w', hr, lv, ps, qs ++ [(x, bv)], h1.beside k3 h2.cells h5, k1, h3, by rw [List.map_append, h4]; rfl, fun j hj => ?_⟩
  rcases k4 with e | ⟨j', e, hj'⟩
  · exact h5 j (e ▸ hj)
  · rw [e] at hj
    injection hj with hj
    subst hj
    exact fresh_nb h1 hj'
/-- The row of the first k that was made anew. -/
def CutW (w : World) (N0 : Nat) (ms : List LetD) (r : Value) (W : World) : Prop := ∃ qs, WantR w W r qs ∧ qs.map Prod.fst = ms ∧ ∀ j, r.ownBlock = some j → N0 ≤ j
theorem CutW.mono (w : World) (N0 : Nat) (ms : List LetD) : MonoSp (CutW w N0 ms) := fun _ _ _ g ⟨qs, h1, h2, h3⟩ => ⟨qs, h1.go g, h2, h3⟩
/-- The word on an empty row. -/
def NoneW (N0 : Nat) (r : Value) (W : World) : Prop := ∃ Y, r = .slice (some ⟨Y, 0, Option.none⟩) 0 0 ∧ N0 ≤ Y ∧ CellsAt W Y #[] 35
theorem NoneW.mono (N0 : Nat) : MonoSp (NoneW N0) := fun _ _ _ g ⟨Y, h1, h2, h3⟩ => ⟨Y, h1, h2, h3.gr g⟩
theorem NoneW.want {w W : World} {N0 : Nat} {r : Value} (h : NoneW N0 r W) (hN : w.heap.size ≤ N0) (g : Gr w W) : CutW w N0 [] r W := by
  obtain ⟨Y, rfl, h1, h2⟩ := h
  refine ⟨[], ⟨⟨fun r hr => (by cases hr), .inr ⟨Y, 0, #[], rfl, by omega, h2, by simp, by decide, by simp, by simp⟩⟩, fun q hq => (by cases hq), g⟩, rfl, fun j hj => ?_⟩
  have hj' : some Y = some j := hj
  injection hj' with hj'
  omega
/-- append of the first k to the empty row. -/
theorem ord_cut1 {g cap : Nat} (h : Ord w W N M (.slice (some ⟨g, 0, none⟩) ms.length cap) ls ms) {N0 : Nat} {r : Value} (hr : NoneW N0 r W') (hW : Gr W W') (hN : N0 = W.heap.size) (k c : Nat) (hk : k ≤ ms.length) (hc : k ≤ c) (hl : ms.length ≤ 1000) :
    ∃ v' w', (Builtin.append_ #[30, 30] 30 #[r, .slice (some ⟨g, 0, none⟩) k c]).run Try.prog W' = .ok v' w' ∧ CutW w N0 (ms.take k) v' w' ∧ Gr W' w' := by
  have hg := h.below
  obtain ⟨lv, ps, qs, h1, h2, h3, h4, h5⟩ := h.go hW
  have hql : qs.length = ms.length := by rw [← h4, List.length_map]
  rw [← hql] at h2
  have hrw := h2.take k c (by omega) hc
  have hkl : (qs.take k).length = k := by rw [List.length_take]; omega
  have hm : (qs.take k).map Prod.fst = ms.take k := by rw [List.map_take, h4]
  obtain ⟨Y, rfl, n1, n2⟩ := hr
  have hwant : WantR w W' (.slice (some ⟨Y, 0, none⟩) 0 0) [] := ⟨⟨fun r hr => (by cases hr), .inr ⟨Y, 0, #[], rfl, by have := hg.size; omega, n2, by simp, by decide, by simp, by simp⟩⟩, fun q hq => (by cases hq), h2.gr⟩
  by_cases h0 : k = 0
  · subst h0
    exact ⟨_, W', run_append_none hwant.rows _ c, ⟨[], hwant, by simp, fun j hj => by have hj' : some Y = some j := hj; injection hj' with hj'; omega⟩, Gr.refl _⟩
  obtain ⟨i0, hi0, hz0, hz1, hz2⟩ := info_parts info_let
  obtain ⟨v', w', hrun, k1, k2, k3, k4⟩ := run_append_rows (P := Try.prog) W' w.heap.size 30 30 35 i0 _ 5 56 Try.underlying30 hi0 hz0 hz1 hz2 rfl (.slice (some ⟨Y, 0, none⟩) 0 0) _ [] ((qs.take k).map rowP) hwant.rows
    (fun i j => (((qs.take k).map rowP).getD i []).getD j (.bool false)) (by rw [List.length_map]; exact hrw) (fun i hi => ⟨by simp [rowP, letRow], fun j hj => by rw [List.getD_eq_getElem?_getD, List.getD_eq_getElem?_getD, List.getElem?_eq_getElem hi, Option.getD_some, List.getElem?_eq_getElem hj, Option.getD_some]⟩)
    (fun r hr u hu => by
      obtain ⟨q, hq', rfl⟩ := List.mem_map.1 hr
      exact letRow_one q.1 q.2 ((h2.src q (List.mem_of_mem_take hq')).sh) u hu)
    (by rw [List.length_map, hkl]; unfold maxLen; simp; omega) (by rw [List.length_map, hkl]; simp; omega) h2.gr.size
  rcases k4 (by rw [List.length_map, hkl]; omega) with ⟨g9, cap9, e9, hc9, _⟩ | ⟨_, hgr, j, hj, hjs⟩
  · injection e9 with _ _ e9
    subst e9
    rw [List.length_map, hkl] at hc9
    simp at hc9
    omega
  · have hgr2 : Gr W' w' := grownBy_below hgr (Nat.le_refl _) (by intro k hk; cases hk)
    refine ⟨v', w', hrun, ⟨qs.take k, ⟨by simpa using k1, fun q hq => h2.src q (List.mem_of_mem_take hq), Below.trans h2.gr (hgr2.mono h2.gr.size)⟩, hm, fun j' hj' => ?_⟩, hgr2⟩
    rw [hj] at hj'
    injection hj' with hj'
    have := hW.size
    omega
/-- append of what follows. -/
theorem ord_cut2 {g cap : Nat} (h : Ord w W N M (.slice (some ⟨g, 0, none⟩) ms.length cap) ls ms) {N0 : Nat} {r : Value} (k c : Nat) (hr : CutW w N0 (ms.take k) r W') (hW : Gr W W') (hN : N0 = W.heap.size) (hk : k < ms.length) (hc : ms.length - (k + 1) ≤ c) (hl : ms.length ≤ 1000) (a : Option Addr) (ha : a = some ⟨g, (k + 1) * 5, none⟩ ∨ ms.length = k + 1) :
    ∃ v' w', (Builtin.append_ #[30, 30] 30 #[r, .slice a (ms.length - (k + 1)) c]).run Try.prog W' = .ok v' w' ∧ Ord w w' N M v' ls (ms.eraseIdx k) ∧ Gr W w' := by
  obtain ⟨lv, ps, qs, h1, h2, h3, h4, h5⟩ := h
  have hql : qs.length = ms.length := by rw [← h4, List.length_map]
  have h2' := h2.go hW
  rw [← hql] at h2' ha hc ⊢
  have hrw := h2'.drop (k + 1) c (by omega) hc a ha
  obtain ⟨qr, r1, r2, r3⟩ := hr
  have hqr : qr.length ≤ qs.length := by rw [← List.length_map Prod.fst, r2, List.length_take]; omega
  obtain ⟨v', w', hrun, k1, k2, k3, k4⟩ := run_append_want r1 hrw (fun q hq => h2.src q (List.mem_of_mem_drop hq)) (by rw [List.length_drop]; omega)
  have hgW : Gr W w' := Below.trans hW (k3.below hW.size (fun j hj => by have := r3 j hj; omega))
  have hd : (qs.drop (k + 1)).length = qs.length - (k + 1) := List.length_drop
  refine ⟨v', w', hrun, ⟨lv, ps, qr ++ qs.drop (k + 1), h1.gr hgW, k1, h3, ?_, fun j hj => ?_⟩, hgW⟩
  · rw [List.map_append, r2, List.map_drop, h4, List.eraseIdx_eq_take_drop_succ]
  · rcases k4 with e | ⟨j', e, hj'⟩
    · exact fresh_nb h1 (hN ▸ r3 j (e ▸ hj))
    · rw [e] at hj
      injection hj with hj
      subst hj
      exact fresh_nb h1 (Nat.le_trans hW.size hj')
end
end Go.Proofs.Ytcpkbngoecpnkaa
