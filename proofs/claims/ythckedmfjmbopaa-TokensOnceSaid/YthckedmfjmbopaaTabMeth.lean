/-
  Package tokens: the methods of a table, by its state.
-/
import Derived.Test.YthckedmfjmbopaaTabIn
set_option linter.unusedVariables false
namespace Go.Proofs.Ythckedmfjmbopaa
open Go.RowKit

theorem enters_last (args : Array Value) (W : World) : (callFunc 23 args).run Try.prog W = .ok (.enter 23 args) W := by
  simp [go_sem]
theorem enters_in (args : Array Value) (W : World) : (callFunc 26 args).run Try.prog W = .ok (.enter 26 args) W := by
  simp [go_sem]
theorem enters_out (args : Array Value) (W : World) : (callFunc 27 args).run Try.prog W = .ok (.enter 27 args) W := by
  simp [go_sem]

theorem LastS.start (w : World) (B ep : Nat) (f : List Nat) (out : Bool) : LastS B w.heap.size (w.heap.size + 1) (w.heap.size + 1 + 1) ep f out 0 (((w.alloc (.cells #[.int .u64 0] 27)).alloc (.cells #[.slice none 0 0] 28)).alloc (.cells #[.bool false] 4)) :=
  ⟨⟨.int .u64 0, .slice none 0 0, .bool false, by go_simp, by go_simp, by go_simp, fun h => absurd h (by decide), fun h => absurd h (by decide), fun h => absurd h (by decide)⟩, by go_simp, by go_simp, by go_simp, by simp; omega, by simp, by simp⟩

def RetLast (w : World) (t : Tok) (e : Ending) (w' : World) : Prop :=
  ∃ v, e = .returned (.tuple #[.int .u64 (t.e : Int), v, .bool t.out]) ∧ Own w' w.heap.size 27 v (nums t.f) ∧ Gr w w'
set_option maxHeartbeats 400000 in
theorem last_any (w : World) (base : Nat → Prop) (g : Nat) (n r : Int) (T : Nat → Tok) (h : Tab w base g n T) (hn : n ≤ 4) :
    Calls Try.prog 14 #[.pointer (some ⟨g, 0, none⟩), .int .i64 r] w (RetLast w (heldOf n T r)) := by
  obtain ⟨hb0, hbl, c, hT, hs, hc0, ht⟩ := h
  have hg := hT.lt
  have gA : ∀ A B C : Obj, Gr w (((w.alloc A).alloc B).alloc C) := fun A B C => (((Gr.refl w).alloc A).alloc B).alloc C
  have cA : ∀ (A B C : Obj) (o : Nat) (x : Value), c[o]? = some x → (((w.alloc A).alloc B).alloc C).cell? ⟨g, o, none⟩ = some x := fun A B C o x hx => by
    rw [(gA A B C).cell (p := ⟨g, o, none⟩) hg, hT.cell]; exact hx
  by_cases hin : 0 ≤ r ∧ r < n
  · have e0 : heldOf n T r = T r.toNat := by unfold heldOf; rw [if_pos hin]
    obtain ⟨k, rfl⟩ := Int.eq_ofNat_of_zero_le hin.1
    rw [e0, Int.toNat_natCast]
    obtain ⟨fv, a1, a2, a3, a4, a5, a6, a7, a8⟩ := ht k (by omega)
    generalize T k = t at *
    obtain ⟨te, tf', th, to⟩ := t
    simp only at a1 a2 a3 a4 a5 a6 a7 a8
    have SF : ∀ A B C : Obj, Sl (((w.alloc A).alloc B).alloc C) fv (nums tf') := fun A B C => a5.below (gA A B C)
    have CA := Lib.hid cA
    have HN : ∀ j, fv.ownBlock = some j → ¬ LRho w.heap.size (w.heap.size + 1) (w.heap.size + 1 + 1) j := fun j hj => by
      have := hbl j (a6 j hj)
      rintro (h | h | h) <;> omega
    have HG : ¬ LRho w.heap.size (w.heap.size + 1) (w.heap.size + 1 + 1) g := by rintro (h | h | h) <;> omega
    have A1 := Lib.hid a1
    have A2 := Lib.hid a2
    have A4 := Lib.hid a4
    have C0 := Lib.hid hc0
    clear cA a1 a2 a3 a4 a5 a6 e0 ht hs hc0
    go_enter Try.func14, Try.ntmps14
    go_wp2_with fail
    refine at_in _ g k _ n _ _ (CA.out _ _ _ _ _ C0.out) hin.2 hn enters_last ((last1_any _ g _ _ _ _ te fv tf' to (CA.out _ _ _ _ _ A1.out) (CA.out _ _ _ _ _ A2.out) (CA.out _ _ _ _ _ A4.out) (SF _ _ _) a7 (LastS.start _ _ _ _ _) (by simp) (by simp; omega) (by simp) HG HN).mono ?_)
    rintro e w' ⟨rfl, hL, hC⟩
    refine ⟨0, rfl, ?_⟩
    simp only [World.size_alloc] at hL
    have g1 : Gr w w' := Below.trans (gA _ _ _) (hC.below (by simp; omega) (by rintro j (h | h | h) <;> omega))
    · obtain ⟨⟨y1, y2, y3, b1, b2, b3, b4, b5, b6⟩, z1, z2, z3, _⟩ := hL
      obtain ⟨na, nc, rfl, ho⟩ := b5 (by decide)
      obtain rfl := b4 (by decide)
      obtain rfl := b6 (by decide)
      have HO := Lib.hid ho
      have G1 := Lib.hid g1
      clear ho g1 hC b4 b5 b6
      go_wp2
      go_region
      go_wp2
      have k1 : ((((w'.setCell ⟨w.heap.size, 0, none⟩ (.int .u64 (te : Int))).setCell ⟨w.heap.size + 1, 0, none⟩ (.slice na tf'.length nc)).setCell ⟨w.heap.size + 1 + 1, 0, none⟩ (.bool to)).drew).cell? ⟨w.heap.size, 0, none⟩ = some (.int .u64 (te : Int)) :=
        ((cell_ne _ _ _ _ (by omega)).trans (cell_ne _ _ _ _ (by omega))).trans (World.cell?_setCell_same' _ _ _ (by rw [b1]; rfl))
      have k2 : ((((w'.setCell ⟨w.heap.size, 0, none⟩ (.int .u64 (te : Int))).setCell ⟨w.heap.size + 1, 0, none⟩ (.slice na tf'.length nc)).setCell ⟨w.heap.size + 1 + 1, 0, none⟩ (.bool to)).drew).cell? ⟨w.heap.size + 1, 0, none⟩ = some (.slice na tf'.length nc) :=
        (cell_ne _ _ _ _ (by omega)).trans (World.cell?_setCell_same' _ _ _ (by rw [cell_ne _ _ _ _ (by omega), b2]; rfl))
      have k3 : ((((w'.setCell ⟨w.heap.size, 0, none⟩ (.int .u64 (te : Int))).setCell ⟨w.heap.size + 1, 0, none⟩ (.slice na tf'.length nc)).setCell ⟨w.heap.size + 1 + 1, 0, none⟩ (.bool to)).drew).cell? ⟨w.heap.size + 1 + 1, 0, none⟩ = some (.bool to) :=
        World.cell?_setCell_same' _ _ _ (by rw [cell_ne _ _ _ _ (by omega), cell_ne _ _ _ _ (by omega), b3]; rfl)
      have o3 := (((HO.out.set_lt (b := w.heap.size) (u := .int .u64 (te : Int)) (by omega)).set_lt (b := w.heap.size + 1) (u := .slice na tf'.length nc) (by omega)).set_lt (b := w.heap.size + 1 + 1) (u := .bool to) (by omega)).gr (Gr.refl _).drew
      have gf : Gr w _ := (((Below.setCell (p := ⟨w.heap.size, 0, none⟩) G1.out (Nat.le_refl _) (.int .u64 (te : Int))).setCell (p := ⟨w.heap.size + 1, 0, none⟩) (by simp) (.slice na tf'.length nc)).setCell (p := ⟨w.heap.size + 1 + 1, 0, none⟩) (by simp; omega) (.bool to)).drew
      generalize ((((w'.setCell ⟨w.heap.size, 0, none⟩ (.int .u64 (te : Int))).setCell ⟨w.heap.size + 1, 0, none⟩ (.slice na tf'.length nc)).setCell ⟨w.heap.size + 1 + 1, 0, none⟩ (.bool to)).drew) = Wf at *
      exact bodyPost_ret (v := .tuple #[.int .u64 (te : Int), .slice na tf'.length nc, .bool to]) (by simp [results, Try.f14, go_sem, k1, k2, k3]) rfl ⟨_, rfl, o3.mono (by omega), gf⟩
  · have e0 : heldOf n T r = tok0 := by unfold heldOf; rw [if_neg hin]
    rw [e0]
    have CA := Lib.hid cA
    have C0 := Lib.hid hc0
    clear cA hc0 e0 ht hs
    go_enter Try.func14, Try.ntmps14
    go_wp2_with fail
    refine (at_out _ g r n _ (CA.out _ _ _ _ _ C0.out) (by omega)).mono ?_
    rintro e w' ⟨rfl, rfl⟩
    go_wp2
    go_region
    go_wp2
    exact bodyPost_ret (v := .tuple #[.int .u64 0, .slice none 0 0, .bool false]) (by simp [results, Try.f14, go_sem]) rfl ⟨_, rfl, Own.nil0 _ _ _, (gA _ _ _).drew⟩

/-- In, Out of a token, plainly. -/
def inTok (e : Nat) (f v : List Nat) (t : Tok) : Tok × Int := if t.held = true ∨ e ≤ t.e then (t, 61) else if leqV f v = false then (t, 62) else (⟨e, f, true, false⟩, 0)
def outTok (e : Nat) (v : List Nat) (t : Tok) : Tok × Int := if t.held = false ∨ t.e ≠ e then (t, 61) else (⟨e, v, false, true⟩, 0)
def atR (n : Int) (T : Nat → Tok) (r : Int) (F : Tok → Tok × Int) : (Nat → Tok) × Int := if 0 ≤ r ∧ r < n then (updT T r.toNat (F (T r.toNat)).1, (F (T r.toNat)).2) else (T, 1)
theorem updT_self (T : Nat → Tok) (r : Nat) : updT T r (T r) = T := by funext j; unfold updT; by_cases h : j = r <;> simp [h]

theorem Tab.set4 {w w1 : World} {base : Nat → Prop} {g r B e : Nat} {n : Int} {T : Nat → Tok} {nv : Value} {f : List Nat} {a b : Bool} (h : Tab w base g n T) (hg1 : Gr w w1) (ho : Own w1 B 27 nv (nums f)) (hB : w.heap.size ≤ B) (hr : r < 4)
    (lf : f.length ≤ 1000000) (he : e < 2 ^ 64) :
    Ch (fun k => k = g) w (Set4 w1 g (1 + r * 4) (.int .u64 (e : Int)) nv (.bool a) (.bool b)) ∧
    ∃ base', Tab (Set4 w1 g (1 + r * 4) (.int .u64 (e : Int)) nv (.bool a) (.bool b)) base' g n (updT T r ⟨e, f, a, b⟩) ∧ ∀ k, base' k → base k ∨ w.heap.size ≤ k := by
  have hc : Ch (fun k => k = g) w1 (Set4 w1 g (1 + r * 4) (.int .u64 (e : Int)) nv (.bool a) (.bool b)) := by
    refine ⟨rfl, rfl, rfl, by simp [Set4], fun k _ hn => ?_⟩
    unfold Set4
    rw [Below.heap_setCell _ ⟨g, _, none⟩ _ k (fun e => hn e), Below.heap_setCell _ ⟨g, _, none⟩ _ k (fun e => hn e), Below.heap_setCell _ ⟨g, _, none⟩ _ k (fun e => hn e), Below.heap_setCell _ ⟨g, _, none⟩ _ k (fun e => hn e)]
  refine ⟨(Ch.of_gr hg1).trans hc, ?_⟩
  obtain ⟨h0, h1, c, hT, hs, hn, ht⟩ := h.below hg1
  have hgl := h.lt
  have hob : ∀ k, nv.ownBlock = some k → w.heap.size ≤ k ∧ k < w1.heap.size := fun k hk => by
    have := World.ownsRow.lt ho k hk; exact ⟨Nat.le_trans hB this.1, this.2⟩
  have hsz : (Set4 w1 g (1 + r * 4) (.int .u64 (e : Int)) nv (.bool a) (.bool b)).heap.size = w1.heap.size := by simp [Set4]
  refine ⟨fun k => base k ∨ nv.ownBlock = some k, ⟨?_, ?_, _, (((hT.set (1 + r * 4) (.int .u64 (e : Int))).set (1 + r * 4 + 1) nv).set (1 + r * 4 + 2) (.bool a)).set (1 + r * 4 + 3) (.bool b), by simpa using hs, ?_, fun j hj => ?_⟩, ?_⟩
  · rintro (hk | hk)
    · exact h0 hk
    · have := (hob g hk).1; omega
  · intro k hk
    rw [hsz]
    rcases hk with hk | hk
    · exact h1 k hk
    · exact (hob k hk).2
  · rw [Array.getElem?_setIfInBounds_ne (by omega), Array.getElem?_setIfInBounds_ne (by omega), Array.getElem?_setIfInBounds_ne (by omega), Array.getElem?_setIfInBounds_ne (by omega)]
    exact hn
  · by_cases hjr : j = r
    · subst hjr
      have eu : updT T j ⟨e, f, a, b⟩ j = ⟨e, f, a, b⟩ := by simp [updT]
      rw [eu]
      refine ⟨nv, ?_, ?_, ?_, ?_, ?_, fun k hk => .inr hk, lf, he⟩
      · rw [Array.getElem?_setIfInBounds_ne (by omega), Array.getElem?_setIfInBounds_ne (by omega), Array.getElem?_setIfInBounds_ne (by omega), Array.getElem?_setIfInBounds_self_of_lt (by omega)]
      · rw [Array.getElem?_setIfInBounds_ne (by omega), Array.getElem?_setIfInBounds_ne (by omega), Array.getElem?_setIfInBounds_self_of_lt (by simp; omega)]
      · rw [Array.getElem?_setIfInBounds_ne (by omega), Array.getElem?_setIfInBounds_self_of_lt (by simp; omega)]
      · rw [Array.getElem?_setIfInBounds_self_of_lt (by simp; omega)]
      · exact ho.sl.ch hc (fun k hk e => by have := (hob k hk).1; omega)
    · obtain ⟨fv, a1, a2, a3, a4, a5, a6, a7⟩ := ht j hj
      have eu : updT T r ⟨e, f, a, b⟩ j = T j := by simp [updT, hjr]
      rw [eu]
      refine ⟨fv, ?_, ?_, ?_, ?_, a5.ch hc (fun k hk e => by subst e; exact h0 (a6 _ hk)), fun k hk => .inl (a6 k hk), a7⟩
      all_goals rw [Array.getElem?_setIfInBounds_ne (by omega), Array.getElem?_setIfInBounds_ne (by omega), Array.getElem?_setIfInBounds_ne (by omega), Array.getElem?_setIfInBounds_ne (by omega)]; assumption
  · rintro k (hk | hk)
    · exact .inl hk
    · exact .inr (hob k hk).1

/-- What a call that acts on a table leaves. -/
def Acted (w : World) (base : Nat → Prop) (g : Nat) (n : Int) (x : (Nat → Tok) × Int) (en : Ending) (w' : World) : Prop :=
  en = .returned (.int .i64 x.2) ∧ Ch (fun k => k = g) w w' ∧ ∃ base', Tab w' base' g n x.1 ∧ ∀ k, base' k → base k ∨ w.heap.size ≤ k
theorem Acted.stay {w w' : World} {base : Nat → Prop} {g : Nat} {n : Int} {T : Nat → Tok} {c : Int} (h : Tab w base g n T) (hg : Gr w w') : Acted w base g n (T, c) (.returned (.int .i64 c)) w' :=
  ⟨rfl, Ch.of_gr hg, base, h.below hg, fun _ hk => .inl hk⟩
theorem Acted.after {w w1 w' : World} {base : Nat → Prop} {g : Nat} {n : Int} {x : (Nat → Tok) × Int} {en : Ending} (hg : Gr w w1) (h : Acted w1 base g n x en w') : Acted w base g n x en w' := by
  obtain ⟨h1, h2, base', h3, h4⟩ := h
  exact ⟨h1, (Ch.of_gr hg).trans h2, base', h3, fun k hk => (h4 k hk).imp id fun h => Nat.le_trans hg.size h⟩

set_option maxHeartbeats 800000 in
theorem in_any (w : World) (base : Nat → Prop) (g e : Nat) (n r : Int) (T : Nat → Tok) (F V : Value) (f v : List Nat) (h : Tab w base g n T) (hn : n ≤ 4) (sf : Sl w F (nums f)) (sv : Sl w V (nums v)) (lf : f.length ≤ 1000000) (lv : v.length ≤ 1000000) (he : e < 2 ^ 64) :
    Calls Try.prog 18 #[.pointer (some ⟨g, 0, none⟩), .int .i64 r, .int .u64 (e : Int), F, V] w (Acted w base g n (atR n T r (inTok e f v))) := by
  obtain ⟨Fa, Fc, rfl⟩ := sf.oneCells
  obtain ⟨Va, Vc, rfl⟩ := sv.oneCells
  obtain ⟨w3, hw3⟩ : ∃ w3, w3 = ((w.alloc (.cells #[.int .u64 (e : Int)] 27)).alloc (.cells #[.slice Fa (nums f).length Fc] 28)).alloc (.cells #[.slice Va (nums v).length Vc] 28) := ⟨_, rfl⟩
  have gA : Gr w w3 := by rw [hw3]; exact (((Gr.refl w).alloc _).alloc _).alloc _
  have ce : w3.cell? ⟨w.heap.size, 0, none⟩ = some (.int .u64 (e : Int)) := by rw [hw3]; go_simp
  have cf : w3.cell? ⟨w.heap.size + 1, 0, none⟩ = some (.slice Fa (nums f).length Fc) := by rw [hw3]; go_simp
  have cv : w3.cell? ⟨w.heap.size + 1 + 1, 0, none⟩ = some (.slice Va (nums v).length Vc) := by rw [hw3]; go_simp
  have h3 := h.below gA
  have sf3 := sf.below gA
  have sv3 := sv.below gA
  have key : ∀ k : Nat, (k : Int) < n → ∀ fv : Value, Calls Try.prog 26 #[.pointer (some ⟨g, 1 + k * 4, none⟩), .pointer (some ⟨w.heap.size, 0, none⟩), .pointer (some ⟨w.heap.size + 1, 0, none⟩), .pointer (some ⟨w.heap.size + 1 + 1, 0, none⟩)] w3
      (fun en w' => ∃ z : Int, en = .returned (.int .i64 z) ∧ Acted w3 base g n (updT T k (inTok e f v (T k)).1, (inTok e f v (T k)).2) (.returned (.int .i64 z)) w') := by
    intro k hk fv0
    obtain ⟨_, _, c, hT, hs, hc0, ht⟩ := h3
    obtain ⟨fv, a1, a2, a3, a4, a5, a6, a7, a8⟩ := ht k (by omega)
    rw [← hT.cell] at a1 a2 a3 a4
    by_cases h1 : (T k).held = true ∨ e ≤ (T k).e
    · have ei : inTok e f v (T k) = (T k, 61) := by unfold inTok; rw [if_pos h1]
      rw [ei]
      refine (in1_no w3 g _ _ _ _ (T k).e e (T k).held a1 a3 ce h1).mono ?_
      rintro en w' ⟨rfl, hg⟩
      exact ⟨61, rfl, by rw [updT_self]; exact Acted.stay (h.below gA) hg⟩
    · have hh : (T k).held = false := by cases hx : (T k).held <;> simp_all
      have hlt : (T k).e < e := by omega
      rw [hh] at a3
      cases hl : leqV f v with
      | false =>
        have ei : inTok e f v (T k) = (T k, 62) := by unfold inTok; rw [if_neg h1, if_pos hl]
        rw [ei]
        refine (in1_stale w3 g _ _ _ _ (T k).e e _ _ f v a1 a3 ce cf cv hlt sf3 sv3 lf lv hl).mono ?_
        rintro en w' ⟨rfl, hg⟩
        exact ⟨62, rfl, by rw [updT_self]; exact Acted.stay (h.below gA) hg⟩
      | true =>
        have ei : inTok e f v (T k) = (⟨e, f, true, false⟩, 0) := by unfold inTok; rw [if_neg h1, if_neg (by simp [hl])]
        rw [ei]
        refine (in1_ok w3 g _ _ _ _ (T k).e e _ _ f v a1 a3 ce cf cv hlt sf3 sv3 lf lv hl (by rw [a2]; rfl) (by rw [a4]; rfl) (fun i => hT.frozen i)).mono ?_
        rintro en w' ⟨rfl, nv, w1, ho, hg, rfl⟩
        obtain ⟨q1, base', q2, q3⟩ := Tab.set4 (h.below gA) hg ho (Nat.le_refl _) (show k < 4 by omega) lf he (a := true) (b := false)
        exact ⟨0, rfl, rfl, q1, base', q2, q3⟩
  have c0 : w3.cell? ⟨g, 0, none⟩ = some (.int .i64 n) := by
    obtain ⟨_, _, c, hT, hs, hc0, ht⟩ := h3
    rw [hT.cell]; exact hc0
  have KEY := Lib.hid key
  have GA := Lib.hid gA
  have H := Lib.hid h
  have C0 := Lib.hid c0
  have HW := Lib.hid hw3
  clear key gA h h3 c0 ce cf cv sf3 sv3 sf sv hw3
  by_cases hin : 0 ≤ r ∧ r < n
  · obtain ⟨k, rfl⟩ := Int.eq_ofNat_of_zero_le hin.1
    have ea : atR n T (k : Int) (inTok e f v) = (updT T k (inTok e f v (T k)).1, (inTok e f v (T k)).2) := by unfold atR; rw [if_pos hin, Int.toNat_natCast]
    rw [ea]
    go_enter Try.func18, Try.ntmps18
    go_wp2_with fail
    rw [← HW.out]
    refine at_in _ g k _ n _ _ C0.out hin.2 hn enters_in ((KEY.out k hin.2 .nilFunc).mono ?_)
    rintro en w' ⟨z, rfl, ha⟩
    have HA := Lib.hid (Acted.after GA.out ha)
    clear ha
    refine ⟨z, rfl, ?_⟩
    go_wp2
    go_ret
    exact HA.out
  · have ea : atR n T r (inTok e f v) = (T, 1) := by unfold atR; rw [if_neg hin]
    rw [ea]
    go_enter Try.func18, Try.ntmps18
    go_wp2_with fail
    rw [← HW.out]
    refine (at_out _ g r n _ C0.out (by omega)).mono ?_
    rintro en w' ⟨rfl, rfl⟩
    go_wp2
    go_ret
    exact Acted.stay H.out GA.out

set_option maxHeartbeats 800000 in
theorem out_any (w : World) (base : Nat → Prop) (g e : Nat) (n r : Int) (T : Nat → Tok) (V : Value) (v : List Nat) (h : Tab w base g n T) (hn : n ≤ 4) (sv : Sl w V (nums v)) (lv : v.length ≤ 1000000) (he : e < 2 ^ 64) :
    Calls Try.prog 19 #[.pointer (some ⟨g, 0, none⟩), .int .i64 r, .int .u64 (e : Int), V] w (Acted w base g n (atR n T r (outTok e v))) := by
  obtain ⟨Va, Vc, rfl⟩ := sv.oneCells
  obtain ⟨w3, hw3⟩ : ∃ w3, w3 = (w.alloc (.cells #[.int .u64 (e : Int)] 27)).alloc (.cells #[.slice Va (nums v).length Vc] 28) := ⟨_, rfl⟩
  have gA : Gr w w3 := by rw [hw3]; exact ((Gr.refl w).alloc _).alloc _
  have ce : w3.cell? ⟨w.heap.size, 0, none⟩ = some (.int .u64 (e : Int)) := by rw [hw3]; go_simp
  have cv : w3.cell? ⟨w.heap.size + 1, 0, none⟩ = some (.slice Va (nums v).length Vc) := by rw [hw3]; go_simp
  have h3 := h.below gA
  have sv3 := sv.below gA
  have key : ∀ k : Nat, (k : Int) < n → ∀ fv : Value, Calls Try.prog 27 #[.pointer (some ⟨g, 1 + k * 4, none⟩), .pointer (some ⟨w.heap.size, 0, none⟩), .pointer (some ⟨w.heap.size + 1, 0, none⟩)] w3
      (fun en w' => ∃ z : Int, en = .returned (.int .i64 z) ∧ Acted w3 base g n (updT T k (outTok e v (T k)).1, (outTok e v (T k)).2) (.returned (.int .i64 z)) w') := by
    intro k hk fv0
    obtain ⟨_, _, c, hT, hs, hc0, ht⟩ := h3
    obtain ⟨fv, a1, a2, a3, a4, a5, a6, a7, a8⟩ := ht k (by omega)
    rw [← hT.cell] at a1 a2 a3 a4
    by_cases h1 : (T k).held = false ∨ (T k).e ≠ e
    · have ei : outTok e v (T k) = (T k, 61) := by unfold outTok; rw [if_pos h1]
      rw [ei]
      refine (out1_no w3 g _ _ _ (T k).e e (T k).held a1 a3 ce h1).mono ?_
      rintro en w' ⟨rfl, hg⟩
      exact ⟨61, rfl, by rw [updT_self]; exact Acted.stay (h.below gA) hg⟩
    · have hh : (T k).held = true := by cases hx : (T k).held <;> simp_all
      have hlt : (T k).e = e := by cases hx : (T k).held <;> simp_all
      rw [hh] at a3
      rw [hlt] at a1
      have ei : outTok e v (T k) = (⟨e, v, false, true⟩, 0) := by unfold outTok; rw [if_neg h1]
      rw [ei]
      refine (out1_ok w3 g _ _ _ e _ v a1 a3 ce cv sv3 lv (by rw [a2]; rfl) (by rw [a4]; rfl) (fun i => hT.frozen i)).mono ?_
      rintro en w' ⟨rfl, nv, w1, ho, hg, rfl⟩
      obtain ⟨q1, base', q2, q3⟩ := Tab.set4 (h.below gA) hg ho (Nat.le_refl _) (show k < 4 by omega) lv he (a := false) (b := true)
      exact ⟨0, rfl, rfl, q1, base', q2, q3⟩
  have c0 : w3.cell? ⟨g, 0, none⟩ = some (.int .i64 n) := by
    obtain ⟨_, _, c, hT, hs, hc0, ht⟩ := h3
    rw [hT.cell]; exact hc0
  have KEY := Lib.hid key
  have GA := Lib.hid gA
  have H := Lib.hid h
  have C0 := Lib.hid c0
  have HW := Lib.hid hw3
  clear key gA h h3 c0 ce cv sv3 sv hw3
  by_cases hin : 0 ≤ r ∧ r < n
  · obtain ⟨k, rfl⟩ := Int.eq_ofNat_of_zero_le hin.1
    have ea : atR n T (k : Int) (outTok e v) = (updT T k (outTok e v (T k)).1, (outTok e v (T k)).2) := by unfold atR; rw [if_pos hin, Int.toNat_natCast]
    rw [ea]
    go_enter Try.func19, Try.ntmps19
    go_wp2_with fail
    rw [← HW.out]
    refine at_in _ g k _ n _ _ C0.out hin.2 hn enters_out ((KEY.out k hin.2 .nilFunc).mono ?_)
    rintro en w' ⟨z, rfl, ha⟩
    have HA := Lib.hid (Acted.after GA.out ha)
    clear ha
    refine ⟨z, rfl, ?_⟩
    go_wp2
    go_ret
    exact HA.out
  · have ea : atR n T r (outTok e v) = (T, 1) := by unfold atR; rw [if_neg hin]
    rw [ea]
    go_enter Try.func19, Try.ntmps19
    go_wp2_with fail
    rw [← HW.out]
    refine (at_out _ g r n _ C0.out (by omega)).mono ?_
    rintro en w' ⟨rfl, rfl⟩
    go_wp2
    go_ret
    exact Acted.stay H.out GA.out

/-! ### New -/
def regions (n : Int) : Int := if n < 0 ∨ 4 < n then 0 else n
theorem regions_le (n : Int) : 0 ≤ regions n ∧ regions n ≤ 4 := by unfold regions; split <;> omega
theorem Tab.new (w : World) (n : Int) : Tab (w.alloc (.cells #[.int .i64 n, .int .u64 0, .slice none 0 0, .bool false, .bool false, .int .u64 0, .slice none 0 0, .bool false, .bool false, .int .u64 0, .slice none 0 0, .bool false, .bool false, .int .u64 0, .slice none 0 0, .bool false, .bool false] 55)) (fun _ => False) w.heap.size n (fun _ => tok0) := by
  refine ⟨fun h => h, fun _ h => h.elim, #[.int .i64 n, .int .u64 0, .slice none 0 0, .bool false, .bool false, .int .u64 0, .slice none 0 0, .bool false, .bool false, .int .u64 0, .slice none 0 0, .bool false, .bool false, .int .u64 0, .slice none 0 0, .bool false, .bool false], (show (w.heap.push _)[w.heap.size]? = _ from by simp), rfl, rfl, fun r hr => ⟨.slice none 0 0, ?_, ?_, ?_, ?_, Sl.nil _ _ _, fun k hk => (by cases hk), by simp [tok0], by simp [tok0]⟩⟩
  all_goals
    have : r = 0 ∨ r = 1 ∨ r = 2 ∨ r = 3 := by omega
    rcases this with rfl | rfl | rfl | rfl <;> rfl
def RetTab (w : World) (n : Int) (T : Nat → Tok) (en : Ending) (w' : World) : Prop := ∃ g, en = .returned (.pointer (some ⟨g, 0, none⟩)) ∧ w.heap.size ≤ g ∧ Tab w' (fun _ => False) g n T ∧ Gr w w'
theorem new_any (w : World) (n : Int) (h1 : -9223372036854775808 ≤ n) (h2 : n ≤ 9223372036854775807) : Calls Try.prog 9 #[.int .i64 n] w (RetTab w (regions n) (fun _ => tok0)) := by
  rcases Int.lt_or_le n 0 with h | h
  · have e : regions n = 0 := by unfold regions; rw [if_pos (.inl h)]
    rw [e]
    go_enter Try.func9, Try.ntmps9
    go_wp2
    all_goals (go_ret; exact ⟨_, rfl, Nat.le_refl _, Tab.new _ _, (Gr.refl w).alloc _⟩)
  · rcases Int.lt_or_le 4 n with h' | h'
    · have e : regions n = 0 := by unfold regions; rw [if_pos (.inr h')]
      rw [e]
      go_enter Try.func9, Try.ntmps9
      go_wp2
      all_goals (go_ret; exact ⟨_, rfl, Nat.le_refl _, Tab.new _ _, (Gr.refl w).alloc _⟩)
    · have e : regions n = n := by unfold regions; rw [if_neg (by omega)]
      rw [e]
      go_enter Try.func9, Try.ntmps9
      go_wp2
      all_goals (go_ret; exact ⟨_, rfl, Nat.le_refl _, Tab.new _ _, (Gr.refl w).alloc _⟩)
end Go.Proofs.Ythckedmfjmbopaa
