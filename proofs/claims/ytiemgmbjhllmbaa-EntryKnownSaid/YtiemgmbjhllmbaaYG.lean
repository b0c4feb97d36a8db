/-
  Package entry: what reads: numbers, places, regions, flags, texts, sessions, stamps, nodes.
  Rows of effects and of operations that the call made; blocks written cell by cell.
-/
import Derived.Test.YtiemgmbjhllmbaaYE
import Derived.Test.YtiemgmbjhllmbaaYF
import Derived.Test.YtiemgmbjhllmbaaYEnPut
import Derived.Test.YtiemgmbjhllmbaaYC
import Derived.WalkLawsBesides
import Derived.WalkSpells
import Derived.Outline
import Derived.Test.YtiemgmbjhllmbaaYD
section
set_option linter.unusedVariables false
set_option maxRecDepth 100000
namespace Go.Proofs.Ytiemgmbjhllmbaa
open Go.RowKit
theorem Rs.gr {w w' : World} {base : Nat → Prop} {g : Nat} {s : RS} (h : Rs w base g s) (hg : Gr w w') : Rs w' base g s := Rd.grown h (below_grownBy hg none) (by simp)
theorem Rs.lt {w : World} {base : Nat → Prop} {g : Nat} {s : RS} (h : Rs w base g s) : g < w.heap.size := Rd.lt h
theorem Rs.base {w : World} {base : Nat → Prop} {g : Nat} {s : RS} (h : Rs w base g s) : base g := h.1
def GotP (w : World) (base : Nat → Prop) (g : Nat) (V : Value → World → Prop) (s : RS) (en : Ending) (w' : World) : Prop := ∃ v, en = .returned v ∧ V v w' ∧ Rs w' base g s ∧ w.grownBy w' (some g)
theorem gr_grown {w w' : World} (h : Gr w w') (g : Nat) : w.grownBy w' (some g) := below_grownBy h _
theorem Own.blk {w w' : World} {base : Nat} {e : TypeId} {v : Value} {xs : List Value} (h : Own w base e v xs) (hb : ∀ j, v.ownBlock = some j → w'.heap[j]? = w.heap[j]?) : Own w' base e v xs := by
  refine ⟨h.1, ?_⟩
  rcases h.2 with hn | ⟨g, cap, cur, rfl, h1, h2, rest⟩
  · exact .inl hn
  · exact .inr ⟨g, cap, cur, rfl, h1, (hb g rfl).trans h2, rest⟩
theorem Own.lt {w : World} {base : Nat} {e : TypeId} {v : Value} {xs : List Value} (h : Own w base e v xs) (j : Nat) (hj : v.ownBlock = some j) : base ≤ j ∧ j < w.heap.size := World.ownsRow.lt h j hj
theorem Own.ch {ρ : Nat → Prop} {w w' : World} {base : Nat} {e : TypeId} {v : Value} {xs : List Value} (h : Own w base e v xs) (hc : Ch ρ w w') (hn : ∀ j, v.ownBlock = some j → ¬ ρ j) : Own w' base e v xs := h.blk fun j hj => hc.block j (h.lt j hj).2 (hn j hj)
/-! ### What is left -/
def Left {α : Type} (f : RS → α × RS) : Prop := ∀ s, (f s).2.1.length ≤ s.1.length
theorem left_small : Left rSmall := fun s => by unfold rSmall; split <;> exact rUint_left s
theorem left_place (n : Nat) : Left (rPlace n) := fun s => by unfold rPlace; split <;> exact rByte_left s
theorem left_region (z : Int) : Left (rRegion z) := fun s => by unfold rRegion; split <;> exact rUint_left s
theorem left_flag : Left rFlag := fun s => left_place 2 s
theorem left_text (n : Nat) : Left (rTextM n) := fun s => by unfold rTextM; simp only; split <;> exact rText_left s
theorem left_sess : Left rSess := fun s => Nat.le_trans (left_small _) (left_place 3 s)
theorem left_many {α : Type} {f : RS → α × RS} (h : Left f) (n : Nat) : Left (rMany f n) := fun s => by
  induction n with
  | zero => exact Nat.le_refl _
  | succ n ih => exact Nat.le_trans (h _) ih
theorem left_list {α : Type} {f : RS → α × RS} (h : Left f) (m : Nat) : Left (rList m f) := fun s => Nat.le_trans (left_many h _ _) (rCount_left _ _)
theorem left_stamp : Left rStamp := left_list rUint_left 3
theorem left_seq {α β : Type} {f : RS → α × RS} {g : RS → β × RS} (h : Left f) (k : Left g) : Left (rSeq f g) := fun s => by rw [rSeq_2]; exact Nat.le_trans (k _) (h s)
theorem left_node : Left rNode := fun s => by
  rw [rNode_seq]
  exact (left_seq (left_text 64) (left_seq left_small (left_seq left_small (left_seq left_small (left_seq left_sess (left_seq rUint_left (left_seq rUint_left rUint_left))))))) s
theorem left_if {α : Type} (c : Bool) (x y : α) (s1 s2 s : RS) (h1 : s1.1.length ≤ s.1.length) (h2 : s2.1.length ≤ s.1.length) : (if c then (x, s1) else (y, s2)).2.1.length ≤ s.1.length := by cases c <;> assumption
theorem rEff_eq (s : RS) : rEff s = if (rFlag (rTextM 64 s).2).1 then (⟨(rTextM 64 s).1, true, zeroN⟩, (rFlag (rTextM 64 s).2).2) else (⟨(rTextM 64 s).1, false, (rNode (rFlag (rTextM 64 s).2).2).1⟩, (rNode (rFlag (rTextM 64 s).2).2).2) := rfl
theorem left_eff : Left rEff := fun s => by
  rw [rEff_eq]
  have h1 := Nat.le_trans (left_flag _) (left_text 64 s)
  exact left_if _ _ _ _ _ s h1 (Nat.le_trans (left_node _) h1)
/-! ### Numbers -/
theorem wrap_u32 (n : Nat) (h : n < 4294967296) : IntKind.u32.wrap ((n : Nat) : Int) = ((n : Nat) : Int) := by simp [IntKind.wrap, IntKind.bits, IntKind.signed]; omega
theorem small_any (w : World) (base : Nat → Prop) (g : Nat) (s : RS) (hr : Rs w base g s) (hl : s.1.length ≤ 1000000000) :
    Calls Try.prog 20 #[.pointer (some ⟨g, 0, none⟩)] w (Got w base g (.int .u32 ((rSmall s).1 : Int)) (rSmall s).2) := by
  have hlt := rUint_lt s
  by_cases h : 4294967296 ≤ (rUint s).1
  · have hv : rSmall s = (0, rBad (rUint s).2) := by unfold rSmall; rw [if_pos (by omega)]
    rw [hv]
    have b1 : decide ((4294967296 : Int) ≤ ((rUint s).1 : Int)) = true := by simp; omega
    clear hv
    go_enter Try.func20, Try.ntmps20
    go_wp2_with fail
    refine (get_uint _ base g s hr hl).mono ?_
    rintro e w1 ⟨rfl, hr1, hg1⟩
    go_wp2_with fail
    refine (get_bad _ base g _ hr1).mono ?_
    rintro e w2 ⟨rfl, hr2, hg2⟩
    go_wp2
    go_ret
    exact ⟨rfl, hr2, grownBy_trans hg1 hg2⟩
  · have hv : rSmall s = rUint s := by unfold rSmall; rw [if_neg (by omega)]
    rw [hv]
    have b1 : decide ((4294967296 : Int) ≤ ((rUint s).1 : Int)) = false := by simp; omega
    have b2 := wrap_u32 (rUint s).1 (by omega)
    clear hv
    go_enter Try.func20, Try.ntmps20
    go_wp2_with fail
    refine (get_uint _ base g s hr hl).mono ?_
    rintro e w1 ⟨rfl, hr1, hg1⟩
    have B2 := Lib.hid b2
    clear b2
    go_wp2
    go_ret
    exact ⟨by first | rfl | exact ret_int B2.out | (simp; exact B2.out), hr1, hg1⟩
theorem place_any (w : World) (base : Nat → Prop) (g n : Nat) (s : RS) (hr : Rs w base g s) (hl : s.1.length ≤ 1000000000) :
    Calls Try.prog 42 #[.pointer (some ⟨g, 0, none⟩), .int .i64 (n : Int)] w (Got w base g (.int .i64 ((rPlace n s).1 : Int)) (rPlace n s).2) := by
  have hlt := rByte_lt s
  by_cases h : n ≤ (rByte s).1
  · have hv : rPlace n s = (0, rBad (rByte s).2) := by unfold rPlace; rw [if_pos h]
    rw [hv]
    have b1 : decide ((n : Int) ≤ ((rByte s).1 : Int)) = true := by simp; omega
    clear hv
    go_enter Try.func42, Try.ntmps42
    go_wp2_with fail
    refine (get_byte _ base g s hr hl).mono ?_
    rintro e w1 ⟨rfl, hr1, hg1⟩
    go_wp2_with fail
    refine (get_bad _ base g _ hr1).mono ?_
    rintro e w2 ⟨rfl, hr2, hg2⟩
    go_wp2
    go_ret
    exact ⟨rfl, hr2, grownBy_trans hg1 hg2⟩
  · have hv : rPlace n s = rByte s := by unfold rPlace; rw [if_neg h]
    rw [hv]
    have b1 : decide ((n : Int) ≤ ((rByte s).1 : Int)) = false := by simp; omega
    clear hv
    go_enter Try.func42, Try.ntmps42
    go_wp2_with fail
    refine (get_byte _ base g s hr hl).mono ?_
    rintro e w1 ⟨rfl, hr1, hg1⟩
    go_wp2
    go_ret
    exact ⟨rfl, hr1, hg1⟩
theorem region_any (w : World) (base : Nat → Prop) (g : Nat) (z : Int) (s : RS) (hr : Rs w base g s) (hl : s.1.length ≤ 1000000000) :
    Calls Try.prog 47 #[.pointer (some ⟨g, 0, none⟩), .int .i64 z] w (Got w base g (.int .i64 (rRegion z s).1) (rRegion z s).2) := by
  obtain ⟨v, hvv⟩ : ∃ v, v = i64 (rUint s).1 := ⟨_, rfl⟩
  have R : rRegion z s = if v < z ∨ 4 ≤ v then (0, rBad (rUint s).2) else (v, (rUint s).2) := by rw [hvv]; rfl
  have GI := fun W hr => get_int W base g s hr hl
  rw [← hvv] at GI
  have GG := Lib.hid GI
  clear GI hvv
  by_cases h1 : v < z
  · have hv : rRegion z s = (0, rBad (rUint s).2) := by rw [R, if_pos (.inl h1)]
    rw [hv]
    have b1 : decide (v < z) = true := by simp; omega
    clear hv R
    go_enter Try.func47, Try.ntmps47
    go_wp2_with fail
    refine (GG.out _ hr).mono ?_
    rintro e w1 ⟨rfl, hr1, hg1⟩
    go_wp2_with fail
    refine (get_bad _ base g _ hr1).mono ?_
    rintro e w2 ⟨rfl, hr2, hg2⟩
    go_wp2
    go_ret
    exact ⟨rfl, hr2, grownBy_trans hg1 hg2⟩
  by_cases h2 : 4 ≤ v
  · have hv : rRegion z s = (0, rBad (rUint s).2) := by rw [R, if_pos (.inr h2)]
    rw [hv]
    have b1 : decide (v < z) = false := by simp; omega
    have b2 : decide (4 ≤ v) = true := by simp; omega
    clear hv R
    go_enter Try.func47, Try.ntmps47
    go_wp2_with fail
    refine (GG.out _ hr).mono ?_
    rintro e w1 ⟨rfl, hr1, hg1⟩
    go_wp2_with fail
    refine (get_bad _ base g _ hr1).mono ?_
    rintro e w2 ⟨rfl, hr2, hg2⟩
    go_wp2
    go_ret
    exact ⟨rfl, hr2, grownBy_trans hg1 hg2⟩
  · have hv : rRegion z s = (v, (rUint s).2) := by rw [R, if_neg (by omega)]
    rw [hv]
    have b1 : decide (v < z) = false := by simp; omega
    have b2 : decide (4 ≤ v) = false := by simp; omega
    clear hv R
    go_enter Try.func47, Try.ntmps47
    go_wp2_with fail
    refine (GG.out _ hr).mono ?_
    rintro e w1 ⟨rfl, hr1, hg1⟩
    go_wp2
    go_ret
    exact ⟨rfl, hr1, hg1⟩
theorem flagged_any (w : World) (base : Nat → Prop) (g : Nat) (s : RS) (hr : Rs w base g s) (hl : s.1.length ≤ 1000000000) :
    Calls Try.prog 72 #[.pointer (some ⟨g, 0, none⟩)] w (Got w base g (.bool (rFlag s).1) (rFlag s).2) := by
  have P := place_any w base g 2 s hr hl
  obtain ⟨v, hv⟩ : ∃ v, v = (rPlace 2 s).1 := ⟨_, rfl⟩
  have hf : (rFlag s).1 = (v == 1) := by rw [hv]; rfl
  have hf2 : (rFlag s).2 = (rPlace 2 s).2 := rfl
  rw [hf, hf2]
  rw [← hv] at P
  have PP := Lib.hid P
  clear P hv hf hf2
  by_cases h : v = 1
  · have b1 : ((v : Int) == 1) = true := by simp; omega
    have b2 : (v == 1) = true := by simp [h]
    rw [b2]
    clear b2 h
    go_enter Try.func72, Try.ntmps72
    go_wp2_with fail
    refine PP.out.mono ?_
    rintro e w1 ⟨rfl, hr1, hg1⟩
    go_wp2
    go_ret
    exact ⟨rfl, hr1, hg1⟩
  · have b1 : ((v : Int) == 1) = false := by simp; omega
    have b2 : (v == 1) = false := by simp [h]
    rw [b2]
    clear b2 h
    go_enter Try.func72, Try.ntmps72
    go_wp2_with fail
    refine PP.out.mono ?_
    rintro e w1 ⟨rfl, hr1, hg1⟩
    go_wp2
    go_ret
    exact ⟨rfl, hr1, hg1⟩
theorem text_get (w : World) (base : Nat → Prop) (g n : Nat) (s : RS) (hr : Rs w base g s) (hb : ∀ k, base k → k < w.heap.size) (hl : s.1.length ≤ 1000000000) :
    Calls Try.prog 70 #[.pointer (some ⟨g, 0, none⟩), .int .i64 (n : Int)] w (GotText w base g (rTextM n s).1 (rTextM n s).2) := by
  have T := get_text w base g s hr hl
  have h1 : (rTextM n s).1 = (rText s).1 := rfl
  have h2 : (rTextM n s).2 = if n < (rText s).1.length then rBad (rText s).2 else (rText s).2 := rfl
  have hle : (rText s).1.length ≤ 1000000000 := Nat.le_trans (rTake_le _ _) (Nat.le_trans (rTake_left _ _) hl)
  rw [h1, h2]
  obtain ⟨t, ht⟩ : ∃ t, t = (rText s).1 := ⟨_, rfl⟩
  rw [← ht] at T hle ⊢
  have TT := Lib.hid T
  clear T h1 h2 ht
  by_cases h : n < t.length
  · rw [if_pos h]
    have b1 : decide ((n : Int) < (t.length : Int)) = true := by simp; omega
    go_enter Try.func70, Try.ntmps70
    go_wp2_with fail
    refine TT.out.mono ?_
    rintro e w1 ⟨v1, rfl, o1, hr1, hg1⟩
    obtain ⟨a1, c1, rfl⟩ := o1.shape
    rw [bytes_length] at o1
    rw [bytes_length]
    have O1 := Lib.hid o1
    clear o1
    go_wp2_with fail
    refine (get_bad _ base g _ hr1).mono ?_
    rintro e w2 ⟨rfl, hr2, hg2⟩
    have hgl := hb g hr.base
    have O2 := Lib.hid (O1.out.ch (Ch.of_grownBy (ρ := fun j => j = g) hg2 (fun k hk => by cases hk; rfl)) (fun j hj => by have := (O1.out.lt j hj).1; omega))
    clear O1
    go_wp2
    go_ret
    exact ⟨_, rfl, O2.out, hr2, grownBy_trans hg1 hg2⟩
  · rw [if_neg h]
    have b1 : decide ((n : Int) < (t.length : Int)) = false := by simp; omega
    go_enter Try.func70, Try.ntmps70
    go_wp2_with fail
    refine TT.out.mono ?_
    rintro e w1 ⟨v1, rfl, o1, hr1, hg1⟩
    obtain ⟨a1, c1, rfl⟩ := o1.shape
    rw [bytes_length] at o1
    rw [bytes_length]
    have O1 := Lib.hid o1
    clear o1
    go_wp2
    go_ret
    exact ⟨_, rfl, O1.out, hr1, hg1⟩
end Go.Proofs.Ytiemgmbjhllmbaa
end
section
set_option linter.unusedVariables false
set_option maxRecDepth 100000
namespace Go.Proofs.Ytiemgmbjhllmbaa
open Go.RowKit
theorem grown_new {a b c : World} {r : Option Nat} {k : Nat} (h : a.grownBy b r) (h2 : b.grownBy c (some k)) (hk : a.heap.size ≤ k) : a.grownBy c r :=
  ⟨h2.os.trans h.os, h2.tape.trans h.tape, h2.output.trans h.output, Nat.le_trans h.size h2.size, fun i hi hn => (h2.block i (Nat.lt_of_lt_of_le hi h.size) (fun e => by injection e with e; omega)).trans (h.block i hi hn)⟩
theorem grown_newO {a b c : World} {r q : Option Nat} (h : a.grownBy b r) (h2 : b.grownBy c q) (hk : ∀ k, q = some k → a.heap.size ≤ k) : a.grownBy c r :=
  ⟨h2.os.trans h.os, h2.tape.trans h.tape, h2.output.trans h.output, Nat.le_trans h.size h2.size, fun i hi hn => (h2.block i (Nat.lt_of_lt_of_le hi h.size) (fun e => by have := hk i e.symm; omega)).trans (h.block i hi hn)⟩
theorem keep_from {w w' : World} {g B : Nat} (h : w.grownBy w' (some g)) (hg : g < B) : Keep (From B) w w' := Keep.of_grown h (fun hb => by have : B ≤ g := hb; omega)
theorem keepO {P : Nat → Prop} {w w' : World} {q : Option Nat} (h : w.grownBy w' q) (hn : ∀ k, q = some k → ¬ P k) : Keep P w w' := ⟨h.size, fun b hp hb => h.block b hb (fun e => hn b e.symm hp)⟩
theorem rs_new {w w' : World} {base : Nat → Prop} {g k : Nat} {s : RS} (h : Rs w base g s) (hg : w.grownBy w' (some k)) (hk : ¬ base k) : Rs w' base g s := Rd.grown h hg (fun j hj => by injection hj with hj; rw [← hj]; exact hk)
theorem rs_newO {w w' : World} {base : Nat → Prop} {g : Nat} {q : Option Nat} {s : RS} (h : Rs w base g s) (hg : w.grownBy w' q) (hk : ∀ k, q = some k → ¬ base k) : Rs w' base g s := Rd.grown h hg hk
theorem CellsAt.other {w w' : World} {b : Nat} {cs : List Value} {t : TypeId} {r : Option Nat} (h : CellsAt w b cs t) (hg : w.grownBy w' r) (hn : r ≠ some b) : CellsAt w' b cs t := h.block (hg.block b h.lt (fun e => hn e.symm))
/-- Rows that the call made (block from B on), whose data lie in other blocks from B on. -/
def EffsR (w : World) (B : Nat) (v : Value) (es : List EffD) : Prop :=
  ∃ rs, OwnR w B 31 11 v rs ∧ rs.length = es.length ∧ ∀ i (h : i < es.length), ∃ dv, rs[i]? = some (effCells es[i] dv) ∧ SlP (fun j => B ≤ j ∧ v.ownBlock ≠ some j) w dv (bytes es[i].node.data)
theorem EffsR.nil (w : World) (B : Nat) : EffsR w B (.slice none 0 0) [] := ⟨[], OwnR.nil _ _ _ _, rfl, fun i hi => absurd hi (Nat.not_lt_zero _)⟩
theorem EffsR.shape {w : World} {B : Nat} {v : Value} {es : List EffD} (h : EffsR w B v es) : ∃ a cap, v = .slice a es.length cap := by
  obtain ⟨rs, h1, h2, _⟩ := h; rw [← h2]; exact h1.shape
theorem EffsR.lt {w : World} {B : Nat} {v : Value} {es : List EffD} (h : EffsR w B v es) : ∀ j, v.ownBlock = some j → B ≤ j ∧ j < w.heap.size := by
  obtain ⟨rs, h1, _⟩ := h; exact h1.lt
theorem EffsR.keep {w w' : World} {B : Nat} {v : Value} {es : List EffD} (h : EffsR w B v es) (k : Keep (From B) w w') : EffsR w' B v es := by
  obtain ⟨rs, h1, h2, h3⟩ := h
  refine ⟨rs, h1.block fun j hj => k.block j (h1.lt j hj).1 (h1.lt j hj).2, h2, fun i hi => ?_⟩
  obtain ⟨dv, q1, q2⟩ := h3 i hi
  exact ⟨dv, q1, q2.keep ⟨k.size, fun b hb hlt => k.block b hb.1 hlt⟩⟩
theorem EffsR.effs {w : World} {B : Nat} {v : Value} {es : List EffD} (h : EffsR w B v es) : EffsP (From B) w v es := by
  obtain ⟨rs, h1, h2, h3⟩ := h
  refine ⟨_, ⟨by rw [← h2]; exact h1.rows, .inr fun k hk => (h1.lt k hk).1⟩, fun i hi => ?_⟩
  obtain ⟨dv, q1, q2⟩ := h3 i hi
  refine ⟨dv, q2.mono fun k hk => hk.1, fun j u hu => ?_⟩
  have e : rs.getD i [] = effCells es[i] dv := by rw [List.getD_eq_getElem?_getD, q1]; rfl
  rw [e, List.getD_eq_getElem?_getD, hu]; rfl
theorem effCells_len (x : EffD) (dv : Value) : (effCells x dv).length = 11 := rfl
/-- One more. -/
theorem EffsR.snoc {w w' : World} {B : Nat} {v v' : Value} {es : List EffD} {x : EffD} {dv : Value} {rs : List (List Value)} (h1 : OwnR w B 31 11 v rs) (h2 : rs.length = es.length)
    (h3 : ∀ i (h : i < es.length), ∃ dv, rs[i]? = some (effCells es[i] dv) ∧ SlP (fun j => B ≤ j ∧ v.ownBlock ≠ some j) w dv (bytes es[i].node.data))
    (hx : SlP (fun j => B ≤ j ∧ v.ownBlock ≠ some j) w dv (bytes x.node.data)) (ho : OwnR w' B 31 11 v' (rs ++ [effCells x dv])) (hg : w.grownBy w' v.ownBlock) (hv : v'.ownBlock = v.ownBlock ∨ ∃ j, v'.ownBlock = some j ∧ w.heap.size ≤ j) :
    EffsR w' B v' (es ++ [x]) := by
  have up : ∀ (dv : Value) (l : List Value), SlP (fun j => B ≤ j ∧ v.ownBlock ≠ some j) w dv l → SlP (fun j => B ≤ j ∧ v'.ownBlock ≠ some j) w' dv l := fun dv l h => by
    have hk : Keep (fun j => B ≤ j ∧ v.ownBlock ≠ some j) w w' := ⟨hg.size, fun b hb hlt => hg.block b hlt (fun e => hb.2 e.symm)⟩
    have h4 : SlP (fun j => (B ≤ j ∧ v.ownBlock ≠ some j) ∧ j < w.heap.size) w dv l := h.monoLt fun k hk hlt => ⟨hk, hlt⟩
    refine (h4.keep ⟨hg.size, fun b hb hlt => hk.block b hb.1 hlt⟩).mono fun k hk => ⟨hk.1.1, ?_⟩
    rcases hv with e | ⟨j, e, hj⟩
    · rw [e]; exact hk.1.2
    · rw [e]; intro e2; injection e2 with e2; have := hk.2; omega
  refine ⟨_, ho, by simp [h2], fun i hi => ?_⟩
  rw [List.length_append, List.length_singleton] at hi
  by_cases hlt : i < es.length
  · obtain ⟨du, q1, q2⟩ := h3 i hlt
    refine ⟨du, ?_, ?_⟩
    · rw [List.getElem?_append_left (by omega), q1, List.getElem_append_left hlt]
    · rw [List.getElem_append_left hlt]; exact up _ _ q2
  · obtain rfl : i = es.length := by omega
    refine ⟨dv, ?_, ?_⟩
    · rw [List.getElem?_append_right (by omega), h2]; simp
    · simpa using up _ _ hx
theorem info_effect : (Try.prog.info? 31).map (fun i => (i.zero, i.size, i.bytes)) = some (some (.agg #[.string ⟨#[]⟩, .bool false, .slice none 0 0, .int .u32 0, .int .u32 0, .int .u32 0, .int .i64 0, .int .u32 0, .int .u64 0, .int .u64 0, .int .u64 0]), 11, 104) := by kernel_rfl
theorem sl_one {P : Nat → Prop} {w : World} {dv : Value} {l : List Value} (h : SlP P w dv l) : dv.oneCell' = true := by
  obtain ⟨a, c, rfl⟩ := h.1.oneCells; rfl
theorem row_one (w : World) (b : Nat) (cs : List Value) (t : TypeId) (h : CellsAt w b cs t) (n : Nat) (hn : cs.length = n) : Rows w (.slice (some ⟨b, 0, none⟩) 1 1) 1 n (fun _ j => cs.getD j (.bool false)) :=
  ⟨_, 1, rfl, Nat.le_refl _, .inr ⟨b, 0, rfl, h.lt, fun i hi j hj => by
    obtain rfl : i = 0 := by omega
    rw [show 0 + 0 * n + j = j by omega, h.cell j]
    show cs[j]? = some (cs.getD j (.bool false))
    rw [List.getD_eq_getElem?_getD, List.getElem?_eq_getElem (by omega)]; rfl⟩⟩
/-- append(s, x): an effect that lies in a block of its own. -/
theorem run_append_eff (w : World) (B : Nat) (v : Value) (es : List EffD) (x : EffD) (dv : Value) (b : Nat) (h : EffsR w B v es) (hx : SlP (fun j => B ≤ j ∧ v.ownBlock ≠ some j) w dv (bytes x.node.data))
    (hb : CellsAt w b (effCells x dv) 31) (hl : es.length ≤ 1000000) (hB : B ≤ w.heap.size) :
    ∃ v' w', (Builtin.append_ #[32, 32] 32 #[v, .slice (some ⟨b, 0, none⟩) 1 1]).run Try.prog w = .ok v' w' ∧ EffsR w' B v' (es ++ [x]) ∧ w.grownBy w' v.ownBlock := by
  obtain ⟨i0, hi0, hz0, hz1, hz2⟩ := info_parts info_effect
  obtain ⟨rs, h1, h2, h3⟩ := h
  obtain ⟨v', w', hr, p1, p2, p3, _⟩ := run_append_rows (P := Try.prog) w B 32 32 31 i0 _ 11 104 Try.underlying32 hi0 hz0 hz1 hz2 (by rfl) v (.slice (some ⟨b, 0, none⟩) 1 1) rs [effCells x dv] h1 _
    (row_one w b _ _ hb 11 rfl)
    (by
      intro i hi
      obtain rfl : i = 0 := by simp at hi; omega
      refine ⟨rfl, fun j hj => ?_⟩
      simp only [List.getElem_cons_zero, List.getD_eq_getElem?_getD]
      rw [List.getElem?_eq_getElem (by simpa using hj)]; rfl)
    (by
      intro r hr u hu
      obtain rfl : r = effCells x dv := by simpa using hr
      have hone := sl_one hx
      simp only [effCells, nodeCells, List.mem_cons, List.not_mem_nil, or_false] at hu
      rcases hu with rfl | rfl | rfl | rfl | rfl | rfl | rfl | rfl | rfl | rfl | rfl <;> first | rfl | exact hone)
    (by unfold maxLen; simp; omega) (by simp; omega) hB
  exact ⟨v', w', hr, EffsR.snoc h1 h2 h3 hx p1 p2 p3, p2⟩
/-- Rows of operations without parts, likewise. -/
def OpsR (w : World) (B : Nat) (v : Value) (es : List OpD) : Prop :=
  ∃ rs, OwnR w B 37 7 v rs ∧ rs.length = es.length ∧ ∀ i (h : i < es.length), es[i].parts = [] ∧ ∃ dv a c, rs[i]? = some (opCells es[i].h dv (.slice a 0 c)) ∧ SlP (fun j => B ≤ j ∧ v.ownBlock ≠ some j) w dv (bytes es[i].h.data)
theorem OpsR.nil (w : World) (B : Nat) : OpsR w B (.slice none 0 0) [] := ⟨[], OwnR.nil _ _ _ _, rfl, fun i hi => absurd hi (Nat.not_lt_zero _)⟩
theorem OpsR.shape {w : World} {B : Nat} {v : Value} {es : List OpD} (h : OpsR w B v es) : ∃ a cap, v = .slice a es.length cap := by
  obtain ⟨rs, h1, h2, _⟩ := h; rw [← h2]; exact h1.shape
theorem OpsR.lt {w : World} {B : Nat} {v : Value} {es : List OpD} (h : OpsR w B v es) : ∀ j, v.ownBlock = some j → B ≤ j ∧ j < w.heap.size := by
  obtain ⟨rs, h1, _⟩ := h; exact h1.lt
theorem OpsR.keep {w w' : World} {B : Nat} {v : Value} {es : List OpD} (h : OpsR w B v es) (k : Keep (From B) w w') : OpsR w' B v es := by
  obtain ⟨rs, h1, h2, h3⟩ := h
  refine ⟨rs, h1.block fun j hj => k.block j (h1.lt j hj).1 (h1.lt j hj).2, h2, fun i hi => ?_⟩
  obtain ⟨q0, dv, a, c, q1, q2⟩ := h3 i hi
  exact ⟨q0, dv, a, c, q1, q2.keep ⟨k.size, fun b hb hlt => k.block b hb.1 hlt⟩⟩
theorem OpsR.ops {w : World} {B : Nat} {v : Value} {es : List OpD} (h : OpsR w B v es) : OpsP (From B) w v es := by
  obtain ⟨rs, h1, h2, h3⟩ := h
  have h4 : ∀ i, ∃ q : Value × Option Addr × Nat, ∀ (h : i < es.length), es[i].parts = [] ∧ rs[i]? = some (opCells es[i].h q.1 (.slice q.2.1 0 q.2.2)) ∧ SlP (fun j => B ≤ j ∧ v.ownBlock ≠ some j) w q.1 (bytes es[i].h.data) := fun i => by
    by_cases hi : i < es.length
    · obtain ⟨q0, dv, a, c, q1, q2⟩ := h3 i hi
      exact ⟨(dv, a, c), fun _ => ⟨q0, q1, q2⟩⟩
    · exact ⟨(.bool false, none, 0), fun h => absurd h hi⟩
  obtain ⟨D, hD⟩ := Classical.skolem.1 h4
  refine ⟨_, fun i => (D i).1, fun i => .slice (D i).2.1 0 (D i).2.2, ⟨by rw [← h2]; exact h1.rows, .inr fun k hk => (h1.lt k hk).1⟩, fun i hi => ?_, fun i hi j u hu => ?_⟩
  · obtain ⟨q0, q1, q2⟩ := hD i hi
    exact OpP.of (q2.mono fun k hk => hk.1) (by rw [q0]; exact OpsP.nil _ _ _ _)
  · obtain ⟨q0, q1, q2⟩ := hD i hi
    have e : rs.getD i [] = opCells es[i].h (D i).1 (.slice (D i).2.1 0 (D i).2.2) := by rw [List.getD_eq_getElem?_getD, q1]; rfl
    rw [e, List.getD_eq_getElem?_getD, hu]; rfl
theorem OpsR.snoc {w w' : World} {B : Nat} {v v' : Value} {es : List OpD} {x : OpD} {dv : Value} {a : Option Addr} {c : Nat} {rs : List (List Value)} (h1 : OwnR w B 37 7 v rs) (h2 : rs.length = es.length)
    (h3 : ∀ i (h : i < es.length), es[i].parts = [] ∧ ∃ dv a c, rs[i]? = some (opCells es[i].h dv (.slice a 0 c)) ∧ SlP (fun j => B ≤ j ∧ v.ownBlock ≠ some j) w dv (bytes es[i].h.data)) (h0 : x.parts = [])
    (hx : SlP (fun j => B ≤ j ∧ v.ownBlock ≠ some j) w dv (bytes x.h.data)) (ho : OwnR w' B 37 7 v' (rs ++ [opCells x.h dv (.slice a 0 c)])) (hg : w.grownBy w' v.ownBlock) (hv : v'.ownBlock = v.ownBlock ∨ ∃ j, v'.ownBlock = some j ∧ w.heap.size ≤ j) :
    OpsR w' B v' (es ++ [x]) := by
  have up : ∀ (dv : Value) (l : List Value), SlP (fun j => B ≤ j ∧ v.ownBlock ≠ some j) w dv l → SlP (fun j => B ≤ j ∧ v'.ownBlock ≠ some j) w' dv l := fun dv l h => by
    have hk : Keep (fun j => B ≤ j ∧ v.ownBlock ≠ some j) w w' := ⟨hg.size, fun b hb hlt => hg.block b hlt (fun e => hb.2 e.symm)⟩
    have h4 : SlP (fun j => (B ≤ j ∧ v.ownBlock ≠ some j) ∧ j < w.heap.size) w dv l := h.monoLt fun k hk hlt => ⟨hk, hlt⟩
    refine (h4.keep ⟨hg.size, fun b hb hlt => hk.block b hb.1 hlt⟩).mono fun k hk => ⟨hk.1.1, ?_⟩
    rcases hv with e | ⟨j, e, hj⟩
    · rw [e]; exact hk.1.2
    · rw [e]; intro e2; injection e2 with e2; have := hk.2; omega
  refine ⟨_, ho, by simp [h2], fun i hi => ?_⟩
  rw [List.length_append, List.length_singleton] at hi
  by_cases hlt : i < es.length
  · obtain ⟨q0, du, a1, c1, q1, q2⟩ := h3 i hlt
    refine ⟨by rw [List.getElem_append_left hlt]; exact q0, du, a1, c1, ?_, ?_⟩
    · rw [List.getElem?_append_left (by omega), q1, List.getElem_append_left hlt]
    · rw [List.getElem_append_left hlt]; exact up _ _ q2
  · obtain rfl : i = es.length := by omega
    refine ⟨by simpa using h0, dv, a, c, ?_, ?_⟩
    · rw [List.getElem?_append_right (by omega), h2]; simp
    · simpa using up _ _ hx
theorem info_op : (Try.prog.info? 37).map (fun i => (i.zero, i.size, i.bytes)) = some (some (.agg #[.int .u8 0, .string ⟨#[]⟩, .slice none 0 0, .int .i64 0, .bool false, .bool false, .slice none 0 0]), 7, 88) := by kernel_rfl
theorem run_append_op (w : World) (B : Nat) (v : Value) (es : List OpD) (x : OpD) (dv : Value) (qa : Option Addr) (qc : Nat) (b : Nat) (h : OpsR w B v es) (h0 : x.parts = []) (hx : SlP (fun j => B ≤ j ∧ v.ownBlock ≠ some j) w dv (bytes x.h.data))
    (hb : CellsAt w b (opCells x.h dv (.slice qa 0 qc)) 37) (hl : es.length ≤ 1000000) (hB : B ≤ w.heap.size) :
    ∃ v' w', (Builtin.append_ #[35, 35] 35 #[v, .slice (some ⟨b, 0, none⟩) 1 1]).run Try.prog w = .ok v' w' ∧ OpsR w' B v' (es ++ [x]) ∧ w.grownBy w' v.ownBlock := by
  obtain ⟨i0, hi0, hz0, hz1, hz2⟩ := info_parts info_op
  obtain ⟨rs, h1, h2, h3⟩ := h
  obtain ⟨v', w', hr, p1, p2, p3, _⟩ := run_append_rows (P := Try.prog) w B 35 35 37 i0 _ 7 88 Try.underlying35 hi0 hz0 hz1 hz2 (by rfl) v (.slice (some ⟨b, 0, none⟩) 1 1) rs [opCells x.h dv (.slice qa 0 qc)] h1 _
    (row_one w b _ _ hb 7 rfl)
    (by
      intro i hi
      obtain rfl : i = 0 := by simp at hi; omega
      refine ⟨rfl, fun j hj => ?_⟩
      simp only [List.getElem_cons_zero, List.getD_eq_getElem?_getD]
      rw [List.getElem?_eq_getElem (by simpa using hj)]; rfl)
    (by
      intro r hr u hu
      obtain rfl : r = opCells x.h dv (.slice qa 0 qc) := by simpa using hr
      have hone := sl_one hx
      simp only [opCells, List.mem_cons, List.not_mem_nil, or_false] at hu
      rcases hu with rfl | rfl | rfl | rfl | rfl | rfl | rfl <;> first | rfl | exact hone)
    (by unfold maxLen; simp; omega) (by simp; omega) hB
  exact ⟨v', w', hr, OpsR.snoc h1 h2 h3 h0 hx p1 p2 p3, p2⟩
end Go.Proofs.Ytiemgmbjhllmbaa
end
