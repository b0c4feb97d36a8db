/-
  What is put is read: the plain law of package wire. No program in sight.
-/
import Derived.Test.YtclicammiopjlaaRdNil
import Derived.Test.YtclicammiopjlaaRdLaw
set_option linter.unusedVariables false
namespace Go.Proofs.Ytclicammiopjlaa
open Go.RowKit

theorem rTake_ok (n : Nat) (a r : List UInt8) (h : a.length = n) : rTake n (a ++ r, false) = (a, (r, false)) := by
  have h1 : ¬ a.length + r.length < n := by omega
  simp only [rTake, rdTake, rdLeft, rdBad, List.length_append, h1, decide_false, Bool.or_self, Bool.false_eq_true, if_false]
  rw [List.take_left' h, List.drop_left' h]
theorem rTake_short (n : Nat) (l : List UInt8) (h : l.length < n) : rTake n (l, false) = ([], (l, true)) := by
  simp [rTake, rdTake, rdLeft, rdBad, h]
theorem rByte_be (x : Nat) (r : List UInt8) (hx : x < 256) : rByte (be 1 x ++ r, false) = (x, (r, false)) := by
  unfold rByte; rw [rTake_ok 1 _ _ (be_length 1 x), val_be1 x hx]
theorem rUint_be (x : Nat) (r : List UInt8) (hx : x < 2 ^ 64) : rUint (be 8 x ++ r, false) = (x, (r, false)) := by
  unfold rUint; rw [rTake_ok 8 _ _ (be_length 8 x), val_be8 x hx]
theorem rText_be (s r : List UInt8) (hs : s.length < 2 ^ 32) : rText (be 4 s.length ++ (s ++ r), false) = (s, (r, false)) := by
  unfold rText; rw [rTake_ok 4 _ _ (be_length 4 _), val_be4 _ hs, rTake_ok _ _ _ rfl]
theorem rByte_short (l : List UInt8) (h : l.length < 1) : rByte (l, false) = (0, (l, true)) := by unfold rByte; rw [rTake_short _ _ h]; rfl
theorem rUint_short (l : List UInt8) (h : l.length < 8) : rUint (l, false) = (0, (l, true)) := by unfold rUint; rw [rTake_short _ _ h]; rfl
theorem rText_short (s l : List UInt8) (hs : s.length < 2 ^ 32) (h : l.length < 4 + s.length) (hp : l <+: be 4 s.length ++ s) : ∃ l', rText (l, false) = ([], (l', true)) := by
  by_cases h4 : l.length < 4
  · exact ⟨l, by unfold rText; rw [rTake_short _ _ h4]; exact rTake_bad _ _⟩
  · obtain ⟨t, ht⟩ := hp
    have h5 : l.take 4 = be 4 s.length := by
      have := congrArg (List.take 4) ht
      rw [List.take_append_of_le_length (by omega), List.take_left' (be_length 4 _)] at this
      exact this
    have h6 : l = be 4 s.length ++ l.drop 4 := by rw [← h5, List.take_append_drop]
    refine ⟨l.drop 4, ?_⟩
    rw [h6]
    unfold rText
    rw [rTake_ok 4 _ _ (be_length 4 _), val_be4 _ hs, List.drop_left' (be_length 4 _)]
    rw [rTake_short _ _ (by simp; omega)]
theorem u64_wrap64 (v : Nat) (h : v < 2 ^ 64) : u64 (wrap64 (v : Int)) = v := by unfold u64 wrap64; omega
theorem i64_inj {a b : Nat} (ha : a < 2 ^ 64) (hb : b < 2 ^ 64) (h : i64 a = i64 b) : a = b := by
  have := congrArg u64 h
  unfold i64 at this
  rwa [u64_wrap64 a ha, u64_wrap64 b hb] at this
end Go.Proofs.Ytclicammiopjlaa
