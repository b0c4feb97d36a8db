/-
  The document's reader as a state of blocks told by a predicate: what its calls leave.
  Of the document: what reads bytes, numbers, sessions, texts, stamps.
-/
import Derived.Test.YtgilijkmmcpfjaaZG
import Derived.Test.YtgilijkmmcpfjaaZRefState
import Derived.Test.YtgilijkmmcpfjaaZH
section
set_option linter.unusedVariables false
set_option maxRecDepth 100000
namespace Go.Proofs.Ytgilijkmmcpfjaa
open Go.RowKit
/-- Block g is the document's reader in the state s; it and its bytes lie where base holds. -/
def Ds (w : World) (base : Nat → Prop) (g : Nat) (s : RS) : Prop :=
  base g ∧ ∃ ab cb L, St w g ab cb L s ∧ Sl w (.slice ab L.length cb) (bytes L) ∧ (bytes L = [] ∨ ∀ k, (Value.slice ab L.length cb).ownBlock = some k → base k ∧ k ≠ g) ∧ L.length ≤ 1000000000
theorem Ds.lt {w : World} {base : Nat → Prop} {g : Nat} {s : RS} (h : Ds w base g s) : g < w.heap.size := by
  obtain ⟨_, ab, cb, L, h1, _⟩ := h
  exact h1.lt
theorem Ds.base {w : World} {base : Nat → Prop} {g : Nat} {s : RS} (h : Ds w base g s) : base g := h.1
theorem Ds.grown {w w' : World} {base : Nat → Prop} {g : Nat} {s : RS} {row : Option Nat} (h : Ds w base g s) (hg : w.grownBy w' row) (hr : ∀ k, row = some k → ¬ base k) : Ds w' base g s := by
  obtain ⟨h0, ab, cb, L, ⟨at_, hh, h1, h2⟩, h3, h4, h5⟩ := h
  refine ⟨h0, ab, cb, L, ⟨at_, ?_, h1, h2⟩, ?_, h4, h5⟩
  · rw [hg.block g (block_lt hh) (fun e => hr g e.symm h0)]; exact hh
  · rcases h4 with h4 | h4
    · obtain ⟨a, c, he, hc, _⟩ := h3
      rw [h4] at he hc ⊢
      exact ⟨a, c, he, hc, .inl rfl⟩
    · refine h3.grown hg ?_
      cases hv : (Value.slice ab L.length cb).ownBlock with
      | none => exact .inl rfl
      | some k => right; intro e; exact hr k e.symm (h4 k hv).1
theorem Ds.gr {w w' : World} {base : Nat → Prop} {g : Nat} {s : RS} (h : Ds w base g s) (hg : Gr w w') : Ds w' base g s := h.grown (below_grownBy hg none) (by simp)
theorem ds_new {w w' : World} {base : Nat → Prop} {g k : Nat} {s : RS} (h : Ds w base g s) (hg : w.grownBy w' (some k)) (hk : ¬ base k) : Ds w' base g s := h.grown hg (fun j hj => by injection hj with hj; rw [← hj]; exact hk)
theorem ds_newO {w w' : World} {base : Nat → Prop} {g : Nat} {q : Option Nat} {s : RS} (h : Ds w base g s) (hg : w.grownBy w' q) (hk : ∀ k, q = some k → ¬ base k) : Ds w' base g s := h.grown hg hk
/-- The cell that says whether it is bad. -/
theorem Ds.bad {w : World} {base : Nat → Prop} {g : Nat} {s : RS} (h : Ds w base g s) : w.cell? ⟨g, 2, none⟩ = some (.bool s.2) ∧ w.frozen? ⟨g, 2, none⟩ = false := by
  obtain ⟨_, ab, cb, L, ⟨at_, hh, _⟩, _⟩ := h
  exact ⟨by rw [cell_of_block hh]; rfl, unfrozen_of_block hh 2⟩
theorem Ds.setBad {w : World} {base : Nat → Prop} {g : Nat} {s : RS} (h : Ds w base g s) : Ds (w.setCell ⟨g, 2, none⟩ (.bool true)) base g (rBad s) := by
  obtain ⟨h0, ab, cb, L, h1, h3, h4, h5⟩ := h
  refine ⟨h0, ab, cb, L, ref_bad _ _ _ _ _ _ h1, ?_, h4, h5⟩
  exact sl_chN h3 (Ch.of_grownBy (ρ := fun k => k = g) (grownBy_setCell w g 2 _) (fun k hk => by cases hk; rfl)) (h4.imp id fun h k hk => (h k hk).2)
/-- The call hands back v, leaves the reader g in the state s, and turns nothing else that was there. -/
def DGot (w : World) (base : Nat → Prop) (g : Nat) (v : Value) (s : RS) (en : Ending) (w' : World) : Prop := en = .returned v ∧ Ds w' base g s ∧ w.grownBy w' (some g)
def DGotP (w : World) (base : Nat → Prop) (g : Nat) (V : Value → World → Prop) (s : RS) (en : Ending) (w' : World) : Prop := ∃ v, en = .returned v ∧ V v w' ∧ Ds w' base g s ∧ w.grownBy w' (some g)
def DGotN (w : World) (base : Nat → Prop) (g : Nat) (l : List Nat) (s : RS) (en : Ending) (w' : World) : Prop := ∃ v, en = .returned v ∧ Own w' w.heap.size 24 v (nums l) ∧ Ds w' base g s ∧ w.grownBy w' (some g)
def DGotText (w : World) (base : Nat → Prop) (g : Nat) (t : List UInt8) (s : RS) (en : Ending) (w' : World) : Prop := ∃ v, en = .returned v ∧ Own w' w.heap.size 5 v (bytes t) ∧ Ds w' base g s ∧ w.grownBy w' (some g)
theorem ds_take (w : World) (base : Nat → Prop) (g n : Nat) (s : RS) (hr : Ds w base g s) (hn : n < 2 ^ 64) :
    Calls Try.prog 36 #[.pointer (some ⟨g, 0, none⟩), .int .u64 (n : Int)] w (DGotP w base g (fun v W => Sl W v (bytes (rTake n s).1)) (rTake n s).2) := by
  obtain ⟨h0, ab, cb, L, h1, h3, h4, h5⟩ := hr
  have hne := h4.imp id fun h k hk => (h k hk).2
  refine (ref_take w g n ab cb L s h1 h3 hne hn h5).mono ?_
  rintro e w' ⟨v, rfl, s1, _, st, hg⟩
  exact ⟨v, rfl, s1, ⟨h0, ab, cb, L, st, sl_chN h3 (Ch.of_grownBy (ρ := fun k => k = g) hg (fun k hk => by cases hk; rfl)) hne, h4, h5⟩, hg⟩
theorem ds_uint (w : World) (base : Nat → Prop) (g : Nat) (s : RS) (hr : Ds w base g s) :
    Calls Try.prog 40 #[.pointer (some ⟨g, 0, none⟩)] w (DGot w base g (.int .u64 ((rUint s).1 : Int)) (rUint s).2) := by
  obtain ⟨h0, ab, cb, L, h1, h3, h4, h5⟩ := hr
  have hne := h4.imp id fun h k hk => (h k hk).2
  refine (ref_uint w g ab cb L s h1 h3 hne h5).mono ?_
  rintro e w' ⟨rfl, st, hg⟩
  exact ⟨rfl, ⟨h0, ab, cb, L, st, sl_chN h3 (Ch.of_grownBy (ρ := fun k => k = g) hg (fun k hk => by cases hk; rfl)) hne, h4, h5⟩, hg⟩
theorem ds_text (w : World) (base : Nat → Prop) (g : Nat) (s : RS) (hr : Ds w base g s) :
    Calls Try.prog 101 #[.pointer (some ⟨g, 0, none⟩)] w (DGotP w base g (fun v W => Sl W v (bytes (rText s).1)) (rText s).2) := by
  obtain ⟨h0, ab, cb, L, h1, h3, h4, h5⟩ := hr
  have hne := h4.imp id fun h k hk => (h k hk).2
  refine (ref_text w g ab cb L s h1 h3 hne h5).mono ?_
  rintro e w' ⟨v, rfl, s1, _, st, hg⟩
  exact ⟨v, rfl, s1, ⟨h0, ab, cb, L, st, sl_chN h3 (Ch.of_grownBy (ρ := fun k => k = g) hg (fun k hk => by cases hk; rfl)) hne, h4, h5⟩, hg⟩
theorem ds_count (w : World) (base : Nat → Prop) (g : Nat) (s : RS) (m : Nat) (hm : m < 9223372036854775808) (hr : Ds w base g s) :
    Calls Try.prog 38 #[.pointer (some ⟨g, 0, none⟩), .int .i64 (m : Int)] w (DGot w base g (.int .i64 ((rCount m s).1 : Int)) (rCount m s).2) := by
  obtain ⟨h0, ab, cb, L, h1, h3, h4, h5⟩ := hr
  have hne := h4.imp id fun h k hk => (h k hk).2
  refine (ref_count w g ab cb L s m (by omega) h1 h3 hne h5).mono ?_
  rintro e w' ⟨rfl, st, hg⟩
  exact ⟨by rw [i64_small _ (rCount_le _ _ (by omega))], ⟨h0, ab, cb, L, st, sl_chN h3 (Ch.of_grownBy (ρ := fun k => k = g) hg (fun k hk => by cases hk; rfl)) hne, h4, h5⟩, hg⟩
theorem ds_done (w : World) (base : Nat → Prop) (g : Nat) (s : RS) (hr : Ds w base g s) :
    Calls Try.prog 41 #[.pointer (some ⟨g, 0, none⟩)] w fun e w' => e = .returned (.bool (decide (rDone s = 0))) ∧ Gr w w' := by
  obtain ⟨h0, ab, cb, L, h1, h3, h4, h5⟩ := hr
  exact ref_done w g ab cb L s h1 h5
/-- One part after the other, till the state is bad. -/
theorem dMany_step {α : Type} (f : RS → α × RS) (n k : Nat) (s1 sk : RS) (acc : List α) (hk : k < n) (hb : sk.2 = false) (h : dMany f n s1 = (acc ++ (dMany f (n - k) sk).1, (dMany f (n - k) sk).2)) :
    dMany f n s1 = (acc ++ [(f sk).1] ++ (dMany f (n - (k + 1)) (f sk).2).1, (dMany f (n - (k + 1)) (f sk).2).2) := by
  rw [h]
  obtain ⟨m, hm⟩ : ∃ m, n - k = m + 1 := ⟨n - k - 1, by omega⟩
  have hm2 : n - (k + 1) = m := by omega
  have e : dMany f (m + 1) sk = ((f sk).1 :: (dMany f m (f sk).2).1, (dMany f m (f sk).2).2) := by
    show (if sk.2 then ([], sk) else ((f sk).1 :: (dMany f m (f sk).2).1, (dMany f m (f sk).2).2)) = _
    rw [if_neg (by simp [hb])]
  rw [hm, hm2, e]
  simp
theorem dMany_end {α : Type} (f : RS → α × RS) (n k : Nat) (s1 sk : RS) (acc : List α) (he : k = n ∨ sk.2 = true) (h : dMany f n s1 = (acc ++ (dMany f (n - k) sk).1, (dMany f (n - k) sk).2)) : dMany f n s1 = (acc, sk) := by
  rw [h]
  have e : dMany f (n - k) sk = ([], sk) := by
    rcases he with rfl | he
    · rw [Nat.sub_self]; rfl
    · cases n - k with
      | zero => rfl
      | succ m =>
        show (if sk.2 then ([], sk) else _) = _
        rw [if_pos he]
  rw [e]; simp
end Go.Proofs.Ytgilijkmmcpfjaa
end
section
set_option linter.unusedVariables false
set_option maxRecDepth 100000
namespace Go.Proofs.Ytgilijkmmcpfjaa
open Go.RowKit
theorem one8_any (w : World) (base : Nat → Prop) (g : Nat) (s : RS) (hr : Ds w base g s) :
    Calls Try.prog 73 #[.pointer (some ⟨g, 0, none⟩)] w (DGot w base g (.int .i64 ((rByte s).1 : Int)) (rByte s).2) := by
  have hlt := rByte_lt s
  have hw : wrap64 ((val (rTake 1 s).1 : Nat) : Int) = (((rByte s).1 : Nat) : Int) := by
    have h : val (rTake 1 s).1 < 256 := hlt
    show _ = ((val (rTake 1 s).1 : Nat) : Int)
    unfold wrap64; omega
  have HW := Lib.hid hw
  clear hw
  go_enter Try.func73, Try.ntmps73
  go_wp2_with fail
  refine (ds_take _ base g 1 s hr (by decide)).mono ?_
  rintro e w1 ⟨v1, rfl, s1, hr1, hg1⟩
  go_wp2_with fail
  refine (refvalue_any _ _ _ s1 (Nat.le_trans (rTake_length 1 s) (by decide))).mono ?_
  rintro e w2 ⟨rfl, rfl⟩
  go_wp2
  go_ret
  exact ⟨ret_int HW.out, hr1, hg1⟩
theorem dsmall_any (w : World) (base : Nat → Prop) (g : Nat) (s : RS) (hr : Ds w base g s) :
    Calls Try.prog 76 #[.pointer (some ⟨g, 0, none⟩)] w (DGot w base g (.int .u32 ((rSmall s).1 : Int)) (rSmall s).2) := by
  have hlt := rUint_lt s
  by_cases h : 4294967296 ≤ (rUint s).1
  · have hv : rSmall s = (0, rBad (rUint s).2) := by unfold rSmall; rw [if_pos (by omega)]
    rw [hv]
    have b1 : decide ((4294967296 : Int) ≤ ((rUint s).1 : Int)) = true := by simp; omega
    clear hv
    go_enter Try.func76, Try.ntmps76
    go_wp2_with fail
    refine (ds_uint _ base g s hr).mono ?_
    rintro e w1 ⟨rfl, hr1, hg1⟩
    obtain ⟨c2, f2⟩ := hr1.bad
    have R2 := Lib.hid hr1.setBad
    have G2 := Lib.hid (grownBy_trans hg1 (grownBy_setCell w1 g 2 (.bool true)))
    clear hr1 hg1
    go_wp2
    go_ret
    exact ⟨rfl, R2.out, G2.out⟩
  · have hv : rSmall s = rUint s := by unfold rSmall; rw [if_neg (by omega)]
    rw [hv]
    have b1 : decide ((4294967296 : Int) ≤ ((rUint s).1 : Int)) = false := by simp; omega
    have b2 := wrap_u32 (rUint s).1 (by omega)
    clear hv
    go_enter Try.func76, Try.ntmps76
    go_wp2_with fail
    refine (ds_uint _ base g s hr).mono ?_
    rintro e w1 ⟨rfl, hr1, hg1⟩
    have B2 := Lib.hid b2
    clear b2
    go_wp2
    go_ret
    exact ⟨by first | rfl | exact ret_int B2.out | (simp; exact B2.out), hr1, hg1⟩
theorem who_any (w : World) (base : Nat → Prop) (g : Nat) (s : RS) (hr : Ds w base g s) (hb : ∀ k, base k → k < w.heap.size) :
    Calls Try.prog 77 #[.pointer (some ⟨g, 0, none⟩)] w (DGotP w base g (fun v _ => v = .agg #[.int .i64 (dSess s).1.1, .int .u32 ((dSess s).1.2 : Int)]) (dSess s).2) := by
  have e1 : dSess s = ((((rByte s).1 : Int), (rSmall (rByte s).2).1), (rSmall (rByte s).2).2) := rfl
  rw [e1]
  obtain ⟨w1, hw1⟩ : ∃ w1, w1 = w.alloc (.cells #[.int .i64 0, .int .u32 0] 39) := ⟨_, rfl⟩
  have g1 : Gr w w1 := by rw [hw1]; exact (Gr.refl w).alloc _
  have k1 : CellsAt w1 w.heap.size [.int .i64 0, .int .u32 0] 39 := by rw [hw1]; exact CellsAt.new _ _ _
  have hr1 := hr.gr g1
  have hgl := hr.lt
  have hnb : ¬ base w.heap.size := fun h => Nat.lt_irrefl _ (hb _ h)
  have HW := Lib.hid hw1
  have HK := Lib.hid k1
  clear hw1 e1 k1
  go_enter Try.func77, Try.ntmps77
  go_wp2_with fail
  rw [← HW.out]
  refine (one8_any _ base g s hr1).mono ?_
  rintro e w2 ⟨rfl, hr2, hg2⟩
  go_wp2_with fail
  refine (dsmall_any _ base g _ hr2).mono ?_
  rintro e w3 ⟨rfl, hr3, hg3⟩
  have hg := Lib.hid (grownBy_trans (grownBy_trans (gr_grown g1 g) hg2) hg3)
  have k3 := (HK.out.other hg2 (fun e => by injection e with e; omega)).other hg3 (fun e => by injection e with e; omega)
  have c0 := k3.cell 0
  have c1 := k3.cell 1
  have f0 := k3.frozen 0
  have f1 := k3.frozen 1
  have K3 := Lib.hid k3
  have R3 := Lib.hid hr3
  clear k3 hr1 hr2 hr3 hg2 hg3 g1 HK
  go_wp2
  have kf := ((K3.out.set 0 (.int .i64 ((rByte s).1 : Int))).set 1 (.int .u32 ((rSmall (rByte s).2).1 : Int)))
  have gf : w3.grownBy ((w3.setCell ⟨w.heap.size, 0, none⟩ (.int .i64 ((rByte s).1 : Int))).setCell ⟨w.heap.size, 1, none⟩ (.int .u32 ((rSmall (rByte s).2).1 : Int))) (some w.heap.size) := (grownBy_trans (grownBy_setCell w3 w.heap.size 0 (.int .i64 ((rByte s).1 : Int))) (grownBy_setCell _ w.heap.size 1 (.int .u32 ((rSmall (rByte s).2).1 : Int))))
  have x0 := kf.cell 0
  have x1 := kf.cell 1
  simp only [List.set_cons_zero, List.set_cons_succ, List.getElem?_cons_zero, List.getElem?_cons_succ] at x0 x1
  exact bodyPost_ret (v := .agg #[.int .i64 ((rByte s).1 : Int), .int .u32 ((rSmall (rByte s).2).1 : Int)]) (by simp [results, Try.f77, go_sem, x0, x1]) rfl ⟨_, rfl, rfl, ds_new R3.out gf hnb, grown_new hg.out gf (Nat.le_refl _)⟩
theorem copied_any (w : World) (base : Nat → Prop) (g : Nat) (s : RS) (hr : Ds w base g s) (hb : ∀ k, base k → k < w.heap.size) (hl : s.1.length ≤ 1000000000) :
    Calls Try.prog 75 #[.pointer (some ⟨g, 0, none⟩)] w (DGotText w base g (rText s).1 (rText s).2) := by
  have hgl := hr.lt
  obtain ⟨w1, hw1⟩ : ∃ w1, w1 = w.alloc (.cells #[] 5) := ⟨_, rfl⟩
  have g1 : Gr w w1 := by rw [hw1]; exact (Gr.refl w).alloc _
  have o1 : Own w1 w.heap.size 5 (.slice (some ⟨w.heap.size, 0, none⟩) 0 0) (bytes []) := by rw [hw1]; exact Own.nil_lit w 5 (Nat.le_refl _)
  have hr1 := hr.gr g1
  have hlen : (rText s).1.length ≤ 1000000000 := by
    have h1 : (rText s).1.length ≤ s.1.length := by
      refine Nat.le_trans ?_ (rTake_left 4 s)
      show (rdTake _ _ _).length ≤ _
      unfold rdTake
      split
      · exact Nat.zero_le _
      · rw [List.length_take]; omega
    omega
  have HW := Lib.hid hw1
  clear hw1 hr
  go_enter Try.func75, Try.ntmps75
  go_wp2_with fail
  rw [← HW.out]
  refine (ds_text _ base g s hr1).mono ?_
  rintro e w2 ⟨v2, rfl, s2, hr2, hg2⟩
  have o2 := o1.ch (Ch.of_grownBy (ρ := fun j => j = g) hg2 (fun k hk => by cases hk; rfl)) (fun j hj => by have := (o1.lt j hj).1; omega)
  obtain ⟨v3, w3, hrun, p1, p2⟩ := run_append_u8 w2 w.heap.size _ v2 [] (rText s).1 o2 s2 (by simp; omega) (by have := g1.size; have := hg2.size; omega)
  rw [List.nil_append] at p1
  have R3 := Lib.hid (ds_newO hr2 p2 (fun j hj hq => by
    have h1 := (o1.lt j hj).1
    have h2 := hb j hq
    omega))
  have G3 := Lib.hid (grown_newO (grownBy_trans (gr_grown g1 g) hg2) p2 (fun j hj => (o1.lt j hj).1))
  have P1 := Lib.hid p1
  clear p1 p2 hr2 hg2 o2 o1 hr1 g1
  go_wp2_with (at_builtin; refine wpList_run_append hrun rfl _ _ rfl rfl rfl ?_; clear hrun)
  go_ret
  exact ⟨_, rfl, P1.out, R3.out, G3.out⟩
/-! ### Stamps -/
set_option maxHeartbeats 1000000 in
theorem stamped_any (w : World) (base : Nat → Prop) (g : Nat) (s : RS) (hr : Ds w base g s) (hb : ∀ k, base k → k < w.heap.size) :
    Calls Try.prog 74 #[.pointer (some ⟨g, 0, none⟩)] w (DGotN w base g (dStamp s).1 (dStamp s).2) := by
  obtain ⟨n, hn⟩ : ∃ n, n = (rCount ((3 : Nat) : Int) s).1 := ⟨_, rfl⟩
  obtain ⟨s1, hs1⟩ : ∃ s1, s1 = (rCount ((3 : Nat) : Int) s).2 := ⟨_, rfl⟩
  have e1 : dStamp s = dMany rUint n s1 := by rw [hn, hs1]; rfl
  have hn3 : n ≤ 3 := by rw [hn]; exact rCount_most 3 s
  have CO := ds_count w base g s 3 (by decide) hr
  rw [← hn, ← hs1] at CO
  rw [e1]
  have hgl := hr.lt
  have CC := Lib.hid CO
  have ENDS : Hid (∀ k acc sk, (k = n ∨ sk.2 = true) → dMany rUint n s1 = (acc ++ (dMany rUint (n - k) sk).1, (dMany rUint (n - k) sk).2) → ∀ w' v, Own w' w.heap.size 24 v (nums acc) → Ds w' base g sk → w.grownBy w' (some g) → DGotN w base g (dMany rUint n s1).1 (dMany rUint n s1).2 (.returned v) w') := Lib.hid fun k acc sk h1 h2 w' v o r g' => by
    rw [dMany_end rUint n k s1 sk acc h1 h2]
    exact ⟨v, rfl, o, r, g'⟩
  obtain ⟨D, hD⟩ : ∃ D, D = dMany rUint n s1 := ⟨_, rfl⟩
  have STEP : Hid (∀ k acc sk, k < n → sk.2 = false → D = (acc ++ (dMany rUint (n - k) sk).1, (dMany rUint (n - k) sk).2) → D = (acc ++ [(rUint sk).1] ++ (dMany rUint (n - (k + 1)) (rUint sk).2).1, (dMany rUint (n - (k + 1)) (rUint sk).2).2)) := Lib.hid fun k acc sk h1 h2 h3 => by
    rw [hD] at h3 ⊢
    exact dMany_step rUint n k s1 sk acc h1 h2 h3
  have D0 : Hid (D = ([] ++ (dMany rUint (n - 0) s1).1, (dMany rUint (n - 0) s1).2)) := Lib.hid (by rw [hD]; rfl)
  rw [← hD] at ENDS ⊢
  clear CO hn hs1 e1 hD
  go_enter Try.func74, Try.ntmps74
  go_wp2_with fail
  refine CC.out.mono ?_
  rintro e w1 ⟨rfl, hr1, hg1⟩
  go_wp2
  go_loopw [4, 5] (fun v i wr => ∃ (k : Nat) (acc : List Nat) (sk : RS), k ≤ n ∧ acc.length = k ∧ i = .int .i64 k ∧ Hid (D = (acc ++ (dMany rUint (n - k) sk).1, (dMany rUint (n - k) sk).2)) ∧ Own wr w.heap.size 24 v (nums acc) ∧ Ds wr base g sk ∧ w.grownBy wr (some g)) (fun _ i _ => n - (intOf i).toNat)
  case atStart => exact ⟨0, [], s1, Nat.zero_le _, rfl, rfl, D0, Own.nil0 _ _ _, hr1, hg1⟩
  case round =>
    clear hr1 hg1
    obtain ⟨k, acc, sk, hk, hlen, rfl, hd, ho, hr2, hg2⟩ := hrel
    obtain ⟨wo, rfl⟩ : ∃ wo : World, wo = wr := ⟨_, rfl⟩
    have HLEN := Lib.hid hlen
    clear hlen
    by_cases hlt : k < n
    · obtain ⟨c2, -⟩ := hr2.bad
      have i2 : (k : Int) < (n : Int) := by omega
      cases hbad : sk.2 with
      | true =>
        rw [hbad] at c2
        have KN := Lib.hid (ENDS.out k acc sk (.inr hbad) hd.out wo _ ho hr2 hg2)
        clear hbad hr2 hg2 ho hd
        go_wp2
        go_ret
        exact KN.out
      | false =>
        rw [hbad] at c2
        have HD2 := Lib.hid (STEP.out k acc sk hlt hbad hd.out)
        have U := rUint_lt sk
        obtain ⟨x, hx⟩ : ∃ x, x = (rUint sk).1 := ⟨_, rfl⟩
        obtain ⟨s3, hs3⟩ : ∃ s3, s3 = (rUint sk).2 := ⟨_, rfl⟩
        have GU := ds_uint wo base g sk hr2
        rw [← hx, ← hs3] at GU HD2
        rw [← hx] at U
        have GU2 := Lib.hid GU
        clear GU hx hs3 hbad hd
        have i1 : (0 : Int) ≤ (k : Int) := by omega
        go_wp2_with fail
        refine GU2.out.mono ?_
        rintro e w3 ⟨rfl, hr3, hg3⟩
        have o3 := ho.ch (Ch.of_grownBy (ρ := fun j => j = g) hg3 (fun k hk => by cases hk; rfl)) (fun j hj => by have := (ho.lt j hj).1; omega)
        have hsz : w.heap.size ≤ w3.heap.size := (grownBy_trans hg2 hg3).size
        obtain ⟨v4, w4, hrun, p1, p2⟩ := run_append_n (w3.alloc (.cells #[.int .u64 (x : Int)] 24)) w.heap.size u4 (.slice (some ⟨w3.heap.size, 0, none⟩) 1 1) acc [x] (World.ownsRow.alloc o3 _) (Sl.new w3 [_] _ _ _ _ rfl (by decide)) (by rw [HLEN.out]; simp; omega) (by simp; omega)
        have r4 := ds_newO (hr3.gr ((Gr.refl w3).alloc _)) p2 (fun j hj hq => by have := (o3.lt j hj).1; have := hb j hq; omega)
        have g4 : w.grownBy w4 (some g) := grown_newO (grownBy_trans (grownBy_trans hg2 hg3) (gr_grown ((Gr.refl w3).alloc _) g)) p2 (fun j hj => (o3.lt j hj).1)
        have P1 := Lib.hid p1
        have R4 := Lib.hid r4
        have G4 := Lib.hid g4
        have HRUN := Lib.hid hrun
        clear hrun p1 p2 r4 g4 o3 ho hr2 hr3 hg2 hg3 c2
        go_wp2_with (at_builtin; refine wpList_run_append HRUN.out rfl _ _ rfl rfl rfl ?_; clear HRUN)
        go_roundw
        case rel => exact ⟨k + 1, acc ++ [x], s3, by omega, by rw [List.length_append, HLEN.out]; rfl, by go_num, HD2, P1.out, R4.out, G4.out⟩
        case measure => simp [intOf]; omega
    · obtain rfl : k = n := by omega
      have KN := Lib.hid (ENDS.out k acc sk (.inl rfl) hd.out wo _ ho hr2 hg2)
      clear hr2 hg2 ho hd
      go_wp2
      go_ret
      exact KN.out
end Go.Proofs.Ytgilijkmmcpfjaa
end
