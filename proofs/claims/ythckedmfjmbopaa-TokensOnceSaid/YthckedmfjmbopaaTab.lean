/-
  Package tokens: a table's state, and what its methods do to it.
-/
import Derived.Test.YthckedmfjmbopaaRefLeq
import Derived.Test.YthckedmfjmbopaaTurn
import Derived.Laws.Rows
set_option linter.unusedVariables false
namespace Go.Proofs.Ythckedmfjmbopaa
open Go.RowKit

/-- A token. -/
structure Tok where
  e : Nat
  f : List Nat
  held : Bool
  out : Bool
def tok0 : Tok := ⟨0, [], false, false⟩
def updT (T : Nat → Tok) (r : Nat) (t : Tok) (j : Nat) : Tok := if j = r then t else T j

/-- Block g has the cells c. -/
def Tb (w : World) (g : Nat) (c : Array Value) : Prop := w.heap[g]? = some (.cells c 55 (0, 0))
theorem Tb.cell {w : World} {g : Nat} {c : Array Value} (h : Tb w g c) (i : Nat) : w.cell? ⟨g, i, none⟩ = c[i]? := by simp [World.cell?, show w.heap[g]? = _ from h]
theorem Tb.frozen {w : World} {g : Nat} {c : Array Value} (h : Tb w g c) (i : Nat) : w.frozen? ⟨g, i, none⟩ = false := by simp [World.frozen?, show w.heap[g]? = _ from h]
theorem Tb.lt {w : World} {g : Nat} {c : Array Value} (h : Tb w g c) : g < w.heap.size := (Array.getElem?_eq_some_iff.1 h).1
theorem Tb.set {w : World} {g : Nat} {c : Array Value} (h : Tb w g c) (i : Nat) (v : Value) : Tb (w.setCell ⟨g, i, none⟩ v) g (c.setIfInBounds i v) := by
  unfold Tb; simp [World.setCell, Array.getElem?_modify, show w.heap[g]? = _ from h]
theorem Tb.ch {w w' : World} {g : Nat} {c : Array Value} {ρ : Nat → Prop} (h : Tb w g c) (hc : Ch ρ w w') (hn : ¬ ρ g) : Tb w' g c := by
  unfold Tb; rw [hc.block g h.lt hn]; exact h

/-- The cells of token r. -/
def TokAt (w : World) (base : Nat → Prop) (c : Array Value) (r : Nat) (t : Tok) : Prop :=
  ∃ fv, c[1 + r * 4]? = some (.int .u64 (t.e : Int)) ∧ c[1 + r * 4 + 1]? = some fv ∧ c[1 + r * 4 + 2]? = some (.bool t.held) ∧ c[1 + r * 4 + 3]? = some (.bool t.out) ∧
    Sl w fv (nums t.f) ∧ (∀ k, fv.ownBlock = some k → base k) ∧ t.f.length ≤ 1000000 ∧ t.e < 2 ^ 64
/-- Block g is a table of n regions with the tokens T; what it holds lies where base says. -/
def Tab (w : World) (base : Nat → Prop) (g : Nat) (n : Int) (T : Nat → Tok) : Prop :=
  ¬ base g ∧ (∀ k, base k → k < w.heap.size) ∧ ∃ c, Tb w g c ∧ c.size = 17 ∧ c[0]? = some (.int .i64 n) ∧ ∀ r, r < 4 → TokAt w base c r (T r)

theorem Tab.lt {w : World} {base : Nat → Prop} {g : Nat} {n : Int} {T : Nat → Tok} (h : Tab w base g n T) : g < w.heap.size := by
  obtain ⟨_, _, c, hb, _⟩ := h; exact hb.lt
/-- A table stays while neither its struct nor its stamps are written. -/
theorem Tab.ch {w w' : World} {base : Nat → Prop} {g : Nat} {n : Int} {T : Nat → Tok} {ρ : Nat → Prop} (h : Tab w base g n T) (hc : Ch ρ w w') (hg : ¬ ρ g) (hb : ∀ k, base k → ¬ ρ k) : Tab w' base g n T := by
  obtain ⟨h0, h1, c, hT, hs, hn, ht⟩ := h
  refine ⟨h0, fun k hk => Nat.lt_of_lt_of_le (h1 k hk) hc.size, c, hT.ch hc hg, hs, hn, fun r hr => ?_⟩
  obtain ⟨fv, a1, a2, a3, a4, a5, a6, a7⟩ := ht r hr
  exact ⟨fv, a1, a2, a3, a4, a5.ch hc fun k hk => hb k (a6 k hk), a6, a7⟩
theorem Tab.below {w w' : World} {base : Nat → Prop} {g : Nat} {n : Int} {T : Nat → Tok} (h : Tab w base g n T) (hb : Below w.heap.size w w') : Tab w' base g n T :=
  h.ch (ρ := fun _ => False) (Ch.of_gr hb) (fun h => h) (fun _ _ h => h)

set_option maxHeartbeats 400000 in
theorem held1_any (w : World) (g o be bh e : Nat) (h : Bool) (c0 : w.cell? ⟨g, o, none⟩ = some (.int .u64 (e : Int))) (c2 : w.cell? ⟨g, o + 2, none⟩ = some (.bool h))
    (ce : (w.cell? ⟨be, 0, none⟩).isSome = true) (ch : (w.cell? ⟨bh, 0, none⟩).isSome = true) (fe : w.frozen? ⟨be, 0, none⟩ = false) (fh : w.frozen? ⟨bh, 0, none⟩ = false) (hbg : be ≠ bh) :
    Calls Try.prog 22 #[.pointer (some ⟨g, o, none⟩), .pointer (some ⟨be, 0, none⟩), .pointer (some ⟨bh, 0, none⟩)] w fun en w' =>
      en = .returned (.int .i64 0) ∧ w' = if h then (w.setCell ⟨be, 0, none⟩ (.int .u64 (e : Int))).setCell ⟨bh, 0, none⟩ (.bool true) else w := by
  obtain ⟨x, ce⟩ := Option.isSome_iff_exists.1 ce
  obtain ⟨y, ch⟩ := Option.isSome_iff_exists.1 ch
  cases h
  · go_enter Try.func22, Try.ntmps22
    go_wp2
    go_ret
    exact ⟨rfl, rfl⟩
  · go_enter Try.func22, Try.ntmps22
    go_wp2
    go_ret
    exact ⟨rfl, rfl⟩

/-- What is done at a region: the function's own contract. -/
theorem at_in (w : World) (g r fn : Nat) (n : Int) (caps : Array Value) (Q : Ending → World → Prop) (c0 : w.cell? ⟨g, 0, none⟩ = some (.int .i64 n)) (hr : (r : Int) < n) (hn : n ≤ 4)
    (hf : ∀ args W, (callFunc fn args).run Try.prog W = .ok (.enter fn args) W)
    (h : Calls Try.prog fn (#[.pointer (some ⟨g, 1 + r * 4, none⟩)] ++ caps) w fun e w' => ∃ k : Int, e = .returned (.int .i64 k) ∧ Q (.returned (.int .i64 k)) w') :
    Calls Try.prog 21 #[.pointer (some ⟨g, 0, none⟩), .int .i64 (r : Int), .func (.func fn) #[] caps] w Q := by
  have h0 : (0 : Int) ≤ (r : Int) := by omega
  have h4 : (r : Int) < 4 := by omega
  go_enter Try.func21, Try.ntmps21
  go_wp2_with fail
  refine h.mono ?_
  rintro e w' ⟨k, rfl, hq⟩
  have HQ := Lib.hid hq
  clear hq h
  go_wp2
  exact HQ.out
/-- At no region. -/
theorem at_out (w : World) (g : Nat) (r n : Int) (f : Value) (c0 : w.cell? ⟨g, 0, none⟩ = some (.int .i64 n)) (hr : r < 0 ∨ n ≤ r) :
    Calls Try.prog 21 #[.pointer (some ⟨g, 0, none⟩), .int .i64 r, f] w fun e w' => e = .returned (.int .i64 1) ∧ w' = w := by
  rcases Int.lt_or_le r 0 with h0 | h0
  · go_enter Try.func21, Try.ntmps21
    go_wp2
    all_goals (go_ret; exact ⟨rfl, rfl⟩)
  · have h1 : n ≤ r := by omega
    go_enter Try.func21, Try.ntmps21
    go_wp2
    all_goals (go_ret; exact ⟨rfl, rfl⟩)
theorem at_nil (w : World) (r : Int) (f : Value) :
    Calls Try.prog 21 #[.pointer none, .int .i64 r, f] w fun e w' => e = .returned (.int .i64 8) ∧ w' = w := by
  go_enter Try.func21, Try.ntmps21
  go_wp2
  go_ret
  exact ⟨rfl, rfl⟩
theorem enters_held (args : Array Value) (W : World) : (callFunc 22 args).run Try.prog W = .ok (.enter 22 args) W := by
  simp [go_sem]

/-- Held(r), of a table. -/
def heldOf (n : Int) (T : Nat → Tok) (r : Int) : Tok := if 0 ≤ r ∧ r < n then T r.toNat else tok0
set_option maxHeartbeats 400000 in
theorem held_any (w : World) (base : Nat → Prop) (g : Nat) (n r : Int) (T : Nat → Tok) (h : Tab w base g n T) (hn : n ≤ 4) :
    Calls Try.prog 13 #[.pointer (some ⟨g, 0, none⟩), .int .i64 r] w fun e w' =>
      e = .returned (.tuple #[.int .u64 (if (heldOf n T r).held then ((heldOf n T r).e : Int) else 0), .bool (heldOf n T r).held]) ∧ Below w.heap.size w w' := by
  obtain ⟨_, _, c, hT, hs, hc0, ht⟩ := h
  have hg := hT.lt
  have c0 : w.cell? ⟨g, 0, none⟩ = some (.int .i64 n) := by rw [hT.cell]; exact hc0
  have cA : ∀ A B : Obj, ((w.alloc A).alloc B).cell? ⟨g, 0, none⟩ = some (.int .i64 n) := fun A B => by
    rw [(((Below.refl w.heap.size w).alloc (Nat.le_refl _) A).alloc (by simp) B).cell (p := ⟨g, 0, none⟩) hg]; exact c0
  by_cases hin : 0 ≤ r ∧ r < n
  · have e0 : heldOf n T r = T r.toNat := by unfold heldOf; rw [if_pos hin]
    obtain ⟨k, rfl⟩ := Int.eq_ofNat_of_zero_le hin.1
    rw [e0, Int.toNat_natCast]
    obtain ⟨fv, a1, a2, a3, a4, _⟩ := ht k (by omega)
    have d0 : ∀ A B : Obj, ((w.alloc A).alloc B).cell? ⟨g, 1 + k * 4, none⟩ = some (.int .u64 ((T k).e : Int)) := fun A B => by
      rw [(((Below.refl w.heap.size w).alloc (Nat.le_refl _) A).alloc (by simp) B).cell (p := ⟨g, 1 + k * 4, none⟩) hg, hT.cell]; exact a1
    have d2 : ∀ A B : Obj, ((w.alloc A).alloc B).cell? ⟨g, 1 + k * 4 + 2, none⟩ = some (.bool (T k).held) := fun A B => by
      rw [(((Below.refl w.heap.size w).alloc (Nat.le_refl _) A).alloc (by simp) B).cell (p := ⟨g, 1 + k * 4 + 2, none⟩) hg, hT.cell]; exact a3
    have CA := Lib.hid cA
    have D0 := Lib.hid d0
    have D2 := Lib.hid d2
    clear cA d0 d2 c0 hc0 a1 a2 a3 a4 e0 ht hs
    generalize hte : (T k).e = te at *
    cases hh : (T k).held with
    | false =>
      rw [hh] at D2
      clear hte hh
      go_enter Try.func13, Try.ntmps13
      go_wp2_with fail
      refine at_in _ g k _ n _ _ (CA.out _ _) hin.2 hn enters_held ((held1_any _ g _ _ _ te false (D0.out _ _) (D2.out _ _) (by simp) (by simp) (by simp) (by simp) (by simp)).mono ?_)
      rintro e w' ⟨rfl, rfl⟩
      refine ⟨0, rfl, ?_⟩
      simp only [Bool.false_eq_true, if_false]
      go_wp2
      go_region
      go_wp2
      exact bodyPost_ret (v := .tuple #[.int .u64 0, .bool false]) (by simp [results, Try.f13, go_sem]) rfl ⟨by simp, (((Below.refl w.heap.size w).alloc (Nat.le_refl _) _).alloc (by simp) _).drew⟩
    | true =>
      rw [hh] at D2
      clear hte hh
      go_enter Try.func13, Try.ntmps13
      go_wp2_with fail
      refine at_in _ g k _ n _ _ (CA.out _ _) hin.2 hn enters_held ((held1_any _ g _ _ _ te true (D0.out _ _) (D2.out _ _) (by simp) (by simp) (by simp) (by simp) (by simp)).mono ?_)
      rintro e w' ⟨rfl, rfl⟩
      refine ⟨0, rfl, ?_⟩
      simp only [if_true]
      go_wp2
      go_region
      go_wp2
      exact bodyPost_ret (v := .tuple #[.int .u64 (te : Int), .bool true]) (by simp [results, Try.f13, go_sem]) rfl ⟨by simp, (((Below.refl w.heap.size w).alloc (Nat.le_refl _) _).alloc (by simp) _).drew⟩
  · have e0 : heldOf n T r = tok0 := by unfold heldOf; rw [if_neg hin]
    rw [e0]
    have CA := Lib.hid cA
    clear cA c0 hc0 e0 ht hs
    go_enter Try.func13, Try.ntmps13
    go_wp2_with fail
    refine (at_out _ g r n _ (CA.out _ _) (by omega)).mono ?_
    rintro e w' ⟨rfl, rfl⟩
    go_wp2
    go_region
    go_wp2
    exact bodyPost_ret (v := .tuple #[.int .u64 0, .bool false]) (by simp [results, Try.f13, go_sem]) rfl ⟨by simp, (((Below.refl w.heap.size w).alloc (Nat.le_refl _) _).alloc (by simp) _).drew⟩
end Go.Proofs.Ythckedmfjmbopaa
