/-
  The known table of 'goes'.
-/
import Derived.Test.YthckedmfjmbopaaTabMeth
import Derived.WalkLawsBesides
import Derived.WalkSpells
import Derived.Outline
set_option linter.unusedVariables false
namespace Go.Proofs.Ythckedmfjmbopaa
open Go.RowKit
set_option maxHeartbeats 1000000 in
theorem goes_any (w : World) : Calls Try.prog 16 #[] w fun e w' => e = .returned (.bool true) ∧ Below w.heap.size w w' := by
  go_enter Try.func16, Try.ntmps16
  go_wp2_with fail
  refine (new_any _ (2) (by decide) (by decide)).mono ?_
  rintro e w1 ⟨gx, rfl, hgx, tx, c1⟩
  rw [show regions (2) = 2 from rfl] at tx
  have b1 := (c1 : Below w.heap.size w w1)
  clear c1
  go_wp2_with fail
  refine (in_any _ (fun _ => False) gx 3 2 (0) (fun _ => tok0) _ _ [1, 0] [1, 2] ((tx.below (below_a _ _)).below (below_a _ _)) (by decide) (sl_lit1 _ [.int .u64 1, .int .u64 0] [1, 0] rfl _ _ rfl rfl _) (sl_lit _ [.int .u64 1, .int .u64 2] [1, 2] rfl _ _ rfl (World.size_alloc _ _).symm) (by decide) (by decide) (by decide)).mono ?_
  rintro e w2 ⟨he, c2, base2, tx', _⟩
  rw [show (atR 2 (fun _ => tok0) (0) (inTok 3 [1, 0] [1, 2])).2 = 0 from rfl] at he
  subst he
  have c2 := (((Ch.of_gr (below_a _ _)).trans (Ch.of_gr (below_a _ _))).trans c2)
  have d2 := c2.below (B := w.heap.size) b1.size (by rintro k rfl; exact hgx)
  have b2 := Below.trans b1 d2
  clear tx c2 d2 b1
  skip
  have tx := tx'
  clear tx'
  go_wp2_with fail
  refine (held_any _ base2 gx 2 (0) (atR 2 (fun _ => tok0) (0) (inTok 3 [1, 0] [1, 2])).1 tx (by decide)).mono ?_
  rintro e w3 ⟨rfl, c3⟩
  rw [show (if (heldOf 2 (atR 2 (fun _ => tok0) (0) (inTok 3 [1, 0] [1, 2])).1 (0)).held then ((heldOf 2 (atR 2 (fun _ => tok0) (0) (inTok 3 [1, 0] [1, 2])).1 (0)).e : Int) else 0) = 3 from rfl, show (heldOf 2 (atR 2 (fun _ => tok0) (0) (inTok 3 [1, 0] [1, 2])).1 (0)).held = true from rfl]
  replace tx := tx.below c3
  have b3 := step0 b2 c3
  clear c3 b2
  go_wp2_with fail
  refine (in_any _ base2 gx 1 2 (1) (atR 2 (fun _ => tok0) (0) (inTok 3 [1, 0] [1, 2])).1 _ _ [2, 0] [1, 2] ((tx.below (below_a _ _)).below (below_a _ _)) (by decide) (sl_lit1 _ [.int .u64 2, .int .u64 0] [2, 0] rfl _ _ rfl rfl _) (sl_lit _ [.int .u64 1, .int .u64 2] [1, 2] rfl _ _ rfl (World.size_alloc _ _).symm) (by decide) (by decide) (by decide)).mono ?_
  rintro e w4 ⟨he, c4, base4, tx', _⟩
  rw [show (atR 2 (atR 2 (fun _ => tok0) (0) (inTok 3 [1, 0] [1, 2])).1 (1) (inTok 1 [2, 0] [1, 2])).2 = 62 from rfl] at he
  subst he
  have c4 := (((Ch.of_gr (below_a _ _)).trans (Ch.of_gr (below_a _ _))).trans c4)
  have d4 := c4.below (B := w.heap.size) b3.size (by rintro k rfl; exact hgx)
  have b4 := Below.trans b3 d4
  clear tx c4 d4 b3
  skip
  have tx := tx'
  clear tx'
  go_wp2_with fail
  refine (out_any _ base4 gx 2 2 (0) (atR 2 (atR 2 (fun _ => tok0) (0) (inTok 3 [1, 0] [1, 2])).1 (1) (inTok 1 [2, 0] [1, 2])).1 _ [] tx (by decide) (Sl.nil _ _ _) (by decide) (by decide)).mono ?_
  rintro e w5 ⟨he, c5, base5, tx', _⟩
  rw [show (atR 2 (atR 2 (atR 2 (fun _ => tok0) (0) (inTok 3 [1, 0] [1, 2])).1 (1) (inTok 1 [2, 0] [1, 2])).1 (0) (outTok 2 [])).2 = 61 from rfl] at he
  subst he
  skip
  have d5 := c5.below (B := w.heap.size) b4.size (by rintro k rfl; exact hgx)
  have b5 := Below.trans b4 d5
  clear tx c5 d5 b4
  skip
  have tx := tx'
  clear tx'
  go_wp2_with fail
  refine (out_any _ base5 gx 3 2 (0) (atR 2 (atR 2 (atR 2 (fun _ => tok0) (0) (inTok 3 [1, 0] [1, 2])).1 (1) (inTok 1 [2, 0] [1, 2])).1 (0) (outTok 2 [])).1 _ [5, 2] (tx.below (below_a _ _)) (by decide) (sl_lit _ [.int .u64 5, .int .u64 2] [5, 2] rfl _ _ rfl rfl) (by decide) (by decide)).mono ?_
  rintro e w6 ⟨he, c6, base6, tx', _⟩
  rw [show (atR 2 (atR 2 (atR 2 (atR 2 (fun _ => tok0) (0) (inTok 3 [1, 0] [1, 2])).1 (1) (inTok 1 [2, 0] [1, 2])).1 (0) (outTok 2 [])).1 (0) (outTok 3 [5, 2])).2 = 0 from rfl] at he
  subst he
  have c6 := ((Ch.of_gr (below_a _ _)).trans c6)
  have d6 := c6.below (B := w.heap.size) b5.size (by rintro k rfl; exact hgx)
  have b6 := Below.trans b5 d6
  clear tx c6 d6 b5
  skip
  have tx := tx'
  clear tx'
  go_wp2_with fail
  refine (last_any _ base6 gx 2 (0) (atR 2 (atR 2 (atR 2 (atR 2 (fun _ => tok0) (0) (inTok 3 [1, 0] [1, 2])).1 (1) (inTok 1 [2, 0] [1, 2])).1 (0) (outTok 2 [])).1 (0) (outTok 3 [5, 2])).1 tx (by decide)).mono ?_
  rintro e w7 ⟨vf, rfl, of, c7⟩
  rw [show (heldOf 2 (atR 2 (atR 2 (atR 2 (atR 2 (fun _ => tok0) (0) (inTok 3 [1, 0] [1, 2])).1 (1) (inTok 1 [2, 0] [1, 2])).1 (0) (outTok 2 [])).1 (0) (outTok 3 [5, 2])).1 (0)).f = [5, 2] from rfl] at of
  rw [show (((heldOf 2 (atR 2 (atR 2 (atR 2 (atR 2 (fun _ => tok0) (0) (inTok 3 [1, 0] [1, 2])).1 (1) (inTok 1 [2, 0] [1, 2])).1 (0) (outTok 2 [])).1 (0) (outTok 3 [5, 2])).1 (0)).e : Nat) : Int) = 3 from rfl, show (heldOf 2 (atR 2 (atR 2 (atR 2 (atR 2 (fun _ => tok0) (0) (inTok 3 [1, 0] [1, 2])).1 (1) (inTok 1 [2, 0] [1, 2])).1 (0) (outTok 2 [])).1 (0) (outTok 3 [5, 2])).1 (0)).out = true from rfl]
  have sf := of.sl
  obtain ⟨af, nf, rfl⟩ := of.shape
  clear of
  replace tx := tx.below c7
  have b7 := step0 b6 c7
  clear c7 b6
  go_wp2_with fail
  refine (same_any _ _ _ [5, 2] [5, 2] (sf.below (below_a _ _)) (sl_lit _ [.int .u64 5, .int .u64 2] [5, 2] rfl _ _ rfl rfl) (by decide) (by decide)).mono ?_
  rintro e w8 ⟨rfl, c8⟩
  rw [sameV_self]
  have c8 := step0 (below_a _ _) c8
  replace tx := tx.below c8
  replace sf := sf.below c8
  have b8 := step0 b7 c8
  clear c8 b7
  go_wp2_with fail
  refine (in_any _ base6 gx 3 2 (0) (atR 2 (atR 2 (atR 2 (atR 2 (fun _ => tok0) (0) (inTok 3 [1, 0] [1, 2])).1 (1) (inTok 1 [2, 0] [1, 2])).1 (0) (outTok 2 [])).1 (0) (outTok 3 [5, 2])).1 _ _ [] [] tx (by decide) (Sl.nil _ _ _) (Sl.nil _ _ _) (by decide) (by decide) (by decide)).mono ?_
  rintro e w9 ⟨he, c9, base9, tx', _⟩
  rw [show (atR 2 (atR 2 (atR 2 (atR 2 (atR 2 (fun _ => tok0) (0) (inTok 3 [1, 0] [1, 2])).1 (1) (inTok 1 [2, 0] [1, 2])).1 (0) (outTok 2 [])).1 (0) (outTok 3 [5, 2])).1 (0) (inTok 3 [] [])).2 = 61 from rfl] at he
  subst he
  skip
  have d9 := c9.below (B := w.heap.size) b8.size (by rintro k rfl; exact hgx)
  have b9 := Below.trans b8 d9
  clear tx c9 d9 b8
  skip
  have tx := tx'
  clear tx'
  go_wp2
  go_ret
  exact ⟨rfl, b9⟩
end Go.Proofs.Ythckedmfjmbopaa
