/-
  The known case 'puts': true, whatever the world.
-/
import Derived.Test.YtiafpnibppjidaaRdMeth
import Derived.Lib.SlBytesConst
set_option linter.unusedVariables false
namespace Go.Proofs.Ytiafpnibppjidaa
open Go.RowKit

set_option maxHeartbeats 1000000 in
theorem puts_any (w : World) : Calls Try.prog 12 #[] w fun e w' => e = .returned (.bool true) ∧ Below w.heap.size w w' := by
  have kc := fun (w : World) (C : Array Value) (n c : Nat) => Lib.run_convert_bytes_const (P := Try.prog) w 23 5 C n c Try.underlying23 Try.underlying5
  go_enter Try.func12, Try.ntmps12
  go_wp2_with fail
  refine (byte_any _ [] 7 _ (Sl.nil _ _ _) (by decide) (by decide)).mono ?_
  rintro e w1 ⟨v1, rfl, hown1, hb1⟩
  go_wp2_with fail
  have hs1 := hown1.sl
  refine (text_any _ _ _ [97, 98] _ (hs1.below ((Below.refl _ _).alloc (Nat.le_refl _) _)) (Sl.at _ _ _ _ _ _ _ rfl rfl (by decide)) (by decide) (by decide)).mono ?_
  rintro e w2 ⟨v2, rfl, hown2, hb2⟩
  have hb12 : Below w.heap.size w w2 := (hb1.alloc hb1.size _).trans (hb2.mono (by simp; exact Nat.le_succ_of_le hb1.size))
  clear hb1 hb2 hown1 hs1
  have hs2 := hown2.sl
  go_wp2_with fail
  refine (new_any _ _ _ hs2 (by decide)).mono ?_
  rintro e w3 ⟨g, rfl, hr3, hb3⟩
  have el : ([] ++ be 1 7 ++ be 4 ([97, 98] : List UInt8).length ++ [97, 98] : List UInt8) = [7, 0, 0, 0, 2, 97, 98] := by decide
  rw [el] at hs2 hr3 hown2
  have hr3' : Rs w3 (From w2.heap.size) g ([7, 0, 0, 0, 2, 97, 98], false) := hr3
  clear el hr3
  go_wp2_with fail
  refine (get_byte _ _ _ _ hr3' (by decide)).mono ?_
  rintro e w4 ⟨rfl, hr4, hg4⟩
  have e1 : rByte ([7, 0, 0, 0, 2, 97, 98], false) = (7, ([0, 0, 0, 2, 97, 98], false)) := by decide
  rw [e1] at hr4 ⊢
  clear e1
  go_wp2_with fail
  refine (get_text _ _ _ _ hr4 (by decide)).mono ?_
  rintro e w5 ⟨v5, rfl, hown5, hr5, hg5⟩
  have e1 : rText ([0, 0, 0, 2, 97, 98], false) = ([97, 98], ([], false)) := by decide
  rw [e1] at hr5 hown5
  clear e1
  have hgg : g ≥ w2.heap.size := hr3'.1
  have hne2 : v2.ownBlock = none ∨ v2.ownBlock ≠ some g := by
    right; intro h; have := (World.ownsRow.lt hown2 _ h).2; omega
  have hs5 := (((hs2.below hb3).grown hg4 hne2).grown hg5 hne2)
  have hb35 : Below w2.heap.size w2 w5 := (hb3.grown hg4 hb3.size (by rintro k hk; cases hk; exact hgg)).grown hg5 (Nat.le_trans hb3.size hg4.size) (by rintro k hk; cases hk; exact hgg)
  have hb5 := hb12.trans (hb35.mono hb12.size)
  have c2 := run_string_sl (P := Try.prog) 23 5 9 Try.underlying23 Try.underlying5 Try.underlying9 hs5
  have c5 := run_string_sl (P := Try.prog) 23 5 9 Try.underlying23 Try.underlying5 Try.underlying9 hown5.sl
  clear hs5 hs2 hown2 hr3' hr4 hb3 hb35 hown5
  go_wp2_with fail
  refine (get_done _ _ _ _ hr5 (by decide)).mono ?_
  rintro e w6 ⟨rfl, rfl⟩
  go_wp2_with fail
  refine (uint_any _ [] 258 _ (Sl.nil _ _ _) (by decide) (by decide)).mono ?_
  rintro e w7 ⟨v7, rfl, hown7, hb7⟩
  have e1 : ([] ++ be 8 258 : List UInt8) = [0, 0, 0, 0, 0, 0, 1, 2] := by decide
  rw [e1] at hown7
  clear e1 c2 c5
  have c7 := run_string_sl (P := Try.prog) 23 5 9 Try.underlying23 Try.underlying5 Try.underlying9 hown7.sl
  go_wp2_with fail
  go_ret
  exact ⟨rfl, hb5.trans (hb7.mono hb5.size)⟩
end Go.Proofs.Ytiafpnibppjidaa
