/-
  Package registry, plain: who asks for a token gets it in its turn.
-/
import Derived.Test.YtpcpijecibiibaaGreatZRgTwo
set_option linter.unusedVariables false
set_option linter.unusedSimpArgs false
set_option maxRecDepth 100000
namespace Go.Proofs.YtpcpijecibiibaaGreat
open Go.RowKit
/-- A registry of three sites and four tokens. -/
structure Reg34 (r : RegD) : Prop where
  ok : RegOk r
  s : r.sites = 3
  n : r.l.length = 4
theorem Reg34.new : Reg34 (newG 3 4) := ⟨newG_ok 3 4, rfl, rfl⟩
theorem Reg34.app {r : RegD} (h : Reg34 r) {x : EntD} (ok : EntOk x) (big : EntBig x) : Reg34 (applyG r (putV x).1) := by
  have := applyP_sites r ok big
  exact ⟨applyG_ok h.ok _, this.1.trans h.s, this.2.trans h.n⟩
theorem Reg34.fold {xs : List EntD} (ok : ∀ x ∈ xs, EntOk x ∧ EntBig x) : ∀ {r : RegD}, Reg34 r → Reg34 (foldP r xs) := by
  induction xs with
  | nil => exact fun h => h
  | cons x xs ih => exact fun h => ih (fun y hy => ok y (.tail _ hy)) (h.app (ok x (.head _)).1 (ok x (.head _)).2)
theorem Reg34.inG {r : RegD} (h : Reg34 r) {j : Int} (h0 : 0 ≤ j) (h1 : j < 4) : Go.Proofs.YtpcpijecibiibaaGreat.inG r j = true := by
  unfold Go.Proofs.YtpcpijecibiibaaGreat.inG
  simp only [Bool.and_eq_true, decide_eq_true_eq]
  have := h.n
  omega
theorem Reg34.tok {r : RegD} (h : Reg34 r) {j : Int} (h0 : 0 ≤ j) (h1 : j < 4) : TokOk 3 (atG r j) := h.s ▸ atG_ok h.ok (h.inG h0 h1)
/-- s has the token (p = 0), or is the p-th behind who has it. -/
def InTurn (t : Tok) (s : Int) (p : Nat) : Prop := 0 ≤ t.holder ∧ ((p = 0 ∧ t.holder = s) ∨ ∃ q, p = q + 1 ∧ t.queue[q]? = some s)
theorem queue_two {t : Tok} (h : TokOk 3 t) (h0 : 0 ≤ t.holder) : t.queue.length ≤ 2 := by
  have hn : (t.holder :: t.queue).Nodup := List.nodup_cons.2 ⟨h.notin, h.nodup⟩
  have := nodup_bound 3 (t.holder :: t.queue) hn (fun q hq => by
    rcases List.mem_cons.1 hq with rfl | hq
    · have := h.holder; omega
    · have := h.queue q hq; omega)
  simp at this
  omega
theorem want_at {r : RegD} (h : Reg34 r) {s j : Int} (hs : 0 ≤ s ∧ s ≤ 2) (hj : 0 ≤ j ∧ j ≤ 3) : atG (applyG r (putV (wantX s j)).1) j = afterT (wantT (atG r j) s) (atG r j) := by
  rw [applyW hs hj, applyX_at, if_pos ⟨rfl, h.inG hj.1 (by omega)⟩]
  unfold stepP
  rw [if_pos ⟨hs.1, by rw [h.s]; show s < 3; omega⟩]
  rfl
theorem want_in {r : RegD} (h : Reg34 r) {s j : Int} (hs : 0 ≤ s ∧ s ≤ 2) (hj : 0 ≤ j ∧ j ≤ 3) : ∃ p, p ≤ 2 ∧ InTurn (atG (applyG r (putV (wantX s j)).1) j) s p := by
  have ok' : Reg34 (applyG r (putV (wantX s j)).1) := h.app (wantX_ok (by unfold I64; omega) (by unfold I64; omega)) (wantX_big _ _)
  have t1 := ok'.tok hj.1 (by omega)
  have t0 := h.tok hj.1 (show j < 4 by omega)
  rw [want_at h hs hj] at t1 ⊢
  obtain ⟨t, ht⟩ : ∃ t, t = atG r j := ⟨_, rfl⟩
  rw [← ht] at t0 t1 ⊢
  have key : ∀ t', TokOk 3 t' → s ∈ t'.queue → 0 ≤ t'.holder → ∃ p, p ≤ 2 ∧ InTurn t' s p := fun t' ok hm h0 => by
    obtain ⟨q, hq, e⟩ := List.getElem_of_mem hm
    have := queue_two ok h0
    exact ⟨q + 1, by omega, h0, .inr ⟨q, rfl, by rw [List.getElem?_eq_getElem hq, e]⟩⟩
  unfold wantT at t1 ⊢
  by_cases hc : t.holder = s ∨ s ∈ t.queue
  · rw [if_pos hc] at t1 ⊢
    show ∃ p, p ≤ 2 ∧ InTurn t s p
    rcases hc with hc | hc
    · exact ⟨0, by omega, by omega, .inl ⟨rfl, hc⟩⟩
    · refine key t t0 hc ?_
      rcases Int.lt_or_le t.holder 0 with h1 | h1
      · rw [t0.free h1] at hc; cases hc
      · exact h1
  · rw [if_neg hc] at t1 ⊢
    replace t1 : TokOk 3 (nextT { t with queue := t.queue ++ [s] }) := t1
    show ∃ p, p ≤ 2 ∧ InTurn (nextT { t with queue := t.queue ++ [s] }) s p
    rcases Int.lt_or_le t.holder 0 with h1 | h1
    · rw [nextT_pos (t := { t with queue := t.queue ++ [s] }) h1 (by simp)]
      have hq := t0.free h1
      refine ⟨0, by omega, ?_, .inl ⟨rfl, ?_⟩⟩
      · show 0 ≤ (t.queue ++ [s]).headD 0
        rw [hq]; exact hs.1
      · show (t.queue ++ [s]).headD 0 = s
        rw [hq]; rfl
    · rw [nextT_neg (.inl (by show ¬ t.holder < 0; omega))] at t1 ⊢
      exact key _ t1 (by simp) h1
theorem want_stays {r : RegD} (h : Reg34 r) {u s j : Int} {p : Nat} (hu : 0 ≤ u ∧ u ≤ 2) (hj : 0 ≤ j ∧ j ≤ 3) (ht : InTurn (atG r j) s p) : InTurn (atG (applyG r (putV (wantX u j)).1) j) s p := by
  rw [want_at h hu hj]
  obtain ⟨t, e⟩ : ∃ t, t = atG r j := ⟨_, rfl⟩
  rw [← e] at ht ⊢
  unfold wantT
  by_cases hc : t.holder = u ∨ u ∈ t.queue
  · rw [if_pos hc]; exact ht
  · rw [if_neg hc]
    show InTurn (nextT { t with queue := t.queue ++ [u] }) s p
    have h1 := ht.1
    rw [nextT_neg (.inl (by show ¬ t.holder < 0; omega))]
    refine ⟨h1, ht.2.imp id fun ⟨q, e1, e2⟩ => ⟨q, e1, ?_⟩⟩
    show (t.queue ++ [u])[q]? = some s
    rw [List.getElem?_append_left (List.getElem?_eq_some_iff.1 e2).1]; exact e2
theorem want_keep {r : RegD} (h : Reg34 r) {u j : Int} (hu : 0 ≤ u ∧ u ≤ 2) (hj : 0 ≤ j ∧ j ≤ 3) (h0 : 0 ≤ (atG r j).holder) : (atG (applyG r (putV (wantX u j)).1) j).holder = (atG r j).holder ∧ (atG (applyG r (putV (wantX u j)).1) j).epoch = (atG r j).epoch := by
  rw [want_at h hu hj]
  obtain ⟨t, e⟩ : ∃ t, t = atG r j := ⟨_, rfl⟩
  rw [← e] at h0 ⊢
  unfold wantT
  by_cases hc : t.holder = u ∨ u ∈ t.queue
  · rw [if_pos hc]; exact ⟨rfl, rfl⟩
  · rw [if_neg hc]
    show (nextT { t with queue := t.queue ++ [u] }).holder = t.holder ∧ (nextT { t with queue := t.queue ++ [u] }).epoch = t.epoch
    rw [nextT_neg (.inl (by show ¬ t.holder < 0; omega))]
    exact ⟨rfl, rfl⟩
theorem back_turn {r : RegD} (h : Reg34 r) {s j : Int} {p : Nat} (hj : 0 ≤ j ∧ j ≤ 3) (ht : InTurn (atG r j) s p) (hne : (atG r j).holder ≠ s) : ∃ q, p = q + 1 ∧ InTurn (atG (applyG r (putV (backX (atG r j).holder j (atG r j).epoch [0, 0, 0])).1) j) s q := by
  have t0 := h.tok hj.1 (show j < 4 by omega)
  have hb : 0 ≤ (atG r j).holder ∧ (atG r j).holder ≤ 2 := by have := t0.holder; have := ht.1; omega
  rw [applyB hb hj t0.epoch (by simp) (by decide), applyX_at, if_pos ⟨rfl, h.inG hj.1 (by omega)⟩]
  unfold stepP
  rw [if_pos ⟨hb.1, by rw [h.s]; show (atG r j).holder < 3; omega⟩]
  show ∃ q, p = q + 1 ∧ InTurn (afterT (backT (atG r j) (atG r j).holder (atG r j).epoch [0, 0, 0]) (atG r j)) s q
  obtain ⟨t, e⟩ : ∃ t, t = atG r j := ⟨_, rfl⟩
  rw [← e] at ht t0 hne ⊢
  have hf : t.frontier.length = 3 := t0.front
  rw [backT_some rfl rfl (by rw [hf]; rfl)]
  obtain ⟨h0, hp | ⟨q, e1, e2⟩⟩ := ht
  · exact absurd hp.2 hne
  refine ⟨q, e1, ?_⟩
  have hlen : 0 < t.queue.length := by have := (List.getElem?_eq_some_iff.1 e2).1; omega
  show InTurn (nextT { t with holder := -1, frontier := maxV t.frontier [0, 0, 0] }) s q
  rw [nextT_pos (t := { t with holder := -1, frontier := maxV t.frontier [0, 0, 0] }) (by show (-1 : Int) < 0; omega) hlen]
  cases hq : t.queue with
  | nil => rw [hq] at hlen; cases hlen
  | cons a l =>
    rw [hq] at e2
    have ha := t0.queue a (by rw [hq]; exact .head _)
    refine ⟨ha.1, ?_⟩
    cases q with
    | zero => exact .inl ⟨rfl, by simpa using e2⟩
    | succ q => exact .inr ⟨q, rfl, by simpa using e2⟩
end Go.Proofs.YtpcpijecibiibaaGreat
