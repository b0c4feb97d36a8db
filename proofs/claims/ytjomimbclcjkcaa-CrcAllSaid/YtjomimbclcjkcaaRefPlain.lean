/-
  The plain part of CrcAll: the document's row of bits is the check's word, bit by bit. No program in sight.
-/
import Derived.Test.YtjomimbclcjkcaaPlain
namespace Go.Proofs.Ytjomimbclcjkcaa.Plain

/-- The word's bits. -/
def bitsOf (x : BitVec 64) (j : Nat) : Bool := x.getLsbD j
/-- The first k bits are true. -/
def trueTo (k j : Nat) : Bool := decide (j < k)
/-- A byte's first k bits put in. -/
def flipTo (x : BitVec 64) (c : UInt8) (k j : Nat) : Bool := if j < k then (x.getLsbD j != c.toNat.testBit j) else x.getLsbD j
/-- The first k bits of the word moved by one. -/
def moveTo (x : BitVec 64) (k j : Nat) : Bool := if j < k then x.getLsbD (j + 1) else false
/-- What is added, to the first k bits. -/
def addTo (x : BitVec 64) (k j : Nat) : Bool := if j < k then ((x >>> 1).getLsbD j != poly.getLsbD j) else (x >>> 1).getLsbD j

def upd (f : Nat → Bool) (i : Nat) (b : Bool) (j : Nat) : Bool := if j = i then b else f j

theorem trueTo_zero : trueTo 0 = fun _ => false := by funext j; simp [trueTo]
theorem trueTo_succ (k : Nat) : upd (trueTo k) k true = trueTo (k + 1) := by
  funext j; unfold upd trueTo; by_cases h : j = k
  · subst h; simp
  · rw [if_neg h]; congr 1; rw [eq_iff_iff]; omega
theorem flipTo_zero (x : BitVec 64) (c : UInt8) : flipTo x c 0 = bitsOf x := by funext j; simp [flipTo, bitsOf]
theorem flipTo_at (x : BitVec 64) (c : UInt8) (k : Nat) : flipTo x c k k = x.getLsbD k := by simp [flipTo]
theorem flipTo_succ (x : BitVec 64) (c : UInt8) (k : Nat) : upd (flipTo x c k) k (x.getLsbD k != c.toNat.testBit k) = flipTo x c (k + 1) := by
  funext j; unfold upd flipTo; by_cases h : j = k
  · subst h; simp
  · rw [if_neg h]; by_cases h2 : j < k
    · rw [if_pos h2, if_pos (by omega)]
    · rw [if_neg h2, if_neg (by omega)]
theorem flipTo_end (x : BitVec 64) (c : UInt8) : flipTo x c 8 = bitsOf (cxor x c) := by
  funext j
  unfold flipTo bitsOf cxor
  rw [BitVec.getLsbD_xor, BitVec.getLsbD_ofNat]
  by_cases h : j < 8
  · rw [if_pos h]
    have : decide (j < 64) = true := by simp; omega
    rw [this]; cases x.getLsbD j <;> cases c.toNat.testBit j <;> rfl
  · rw [if_neg h]
    have : c.toNat.testBit j = false := Nat.testBit_lt_two_pow (Nat.lt_of_lt_of_le c.toNat_lt (Nat.pow_le_pow_right (by decide) (show 8 ≤ j by omega)))
    rw [this]; simp
theorem moveTo_zero (x : BitVec 64) : moveTo x 0 = fun _ => false := by funext j; simp [moveTo]
theorem moveTo_succ (x : BitVec 64) (k : Nat) : upd (moveTo x k) k (x.getLsbD (k + 1)) = moveTo x (k + 1) := by
  funext j; unfold upd moveTo; by_cases h : j = k
  · subst h; simp
  · rw [if_neg h]; by_cases h2 : j < k
    · rw [if_pos h2, if_pos (by omega)]
    · rw [if_neg h2, if_neg (by omega)]
theorem moveTo_end (x : BitVec 64) : moveTo x 63 = bitsOf (x >>> 1) := by
  funext j
  unfold moveTo bitsOf
  rw [BitVec.getLsbD_ushiftRight]
  by_cases h : j < 63
  · rw [if_pos h, Nat.add_comm]
  · rw [if_neg h]; exact (BitVec.getLsbD_of_ge _ _ (by omega)).symm
theorem addTo_zero (x : BitVec 64) : addTo x 0 = bitsOf (x >>> 1) := by funext j; simp [addTo, bitsOf]
theorem addTo_at (x : BitVec 64) (k : Nat) : addTo x k k = (x >>> 1).getLsbD k := by simp [addTo]
theorem addTo_succ (x : BitVec 64) (k : Nat) : upd (addTo x k) k ((x >>> 1).getLsbD k != poly.getLsbD k) = addTo x (k + 1) := by
  funext j; unfold upd addTo; by_cases h : j = k
  · subst h; simp
  · rw [if_neg h]; by_cases h2 : j < k
    · rw [if_pos h2, if_pos (by omega)]
    · rw [if_neg h2, if_neg (by omega)]
theorem step_no (x : BitVec 64) (h : x.getLsbD 0 = false) : bitsOf (x >>> 1) = bitsOf (cstep x) := by
  rw [cstep_eq, h, if_neg Bool.false_ne_true]; simp
theorem step_yes (x : BitVec 64) (h : x.getLsbD 0 = true) : addTo x 64 = bitsOf (cstep x) := by
  rw [cstep_eq, if_pos h]
  funext j
  unfold addTo bitsOf
  rw [BitVec.getLsbD_xor]
  by_cases hj : j < 64
  · rw [if_pos hj]
  · rw [if_neg hj, BitVec.getLsbD_of_ge _ _ (show 64 ≤ j by omega), BitVec.getLsbD_of_ge _ _ (show 64 ≤ j by omega)]; rfl
theorem bits_ones : trueTo 64 = bitsOf 18446744073709551615#64 := by
  funext j
  have : (18446744073709551615#64 : BitVec 64) = BitVec.allOnes 64 := by decide
  unfold trueTo bitsOf
  rw [this, BitVec.getLsbD_allOnes]

/-- The word's complement, from bit i on. -/
def above (x : BitVec 64) (i : Nat) : Nat := (~~~x).toNat >>> i
theorem above_top (x : BitVec 64) : above x 64 = 0 := by
  unfold above; rw [Nat.shiftRight_eq_div_pow]; exact Nat.div_eq_of_lt (~~~x).isLt
theorem above_zero (x : BitVec 64) : above x 0 = (~~~x).toNat := rfl
theorem above_succ (x : BitVec 64) (i : Nat) (h : i < 64) : above x i = 2 * above x (i + 1) + if x.getLsbD i then 0 else 1 := by
  have hb : (~~~x).getLsbD i = !x.getLsbD i := by rw [BitVec.getLsbD_not]; simp [h]
  have h2 : ((~~~x).toNat >>> i) % 2 = if x.getLsbD i then 0 else 1 := by
    have e := Nat.toNat_testBit (~~~x).toNat i
    rw [BitVec.testBit_toNat, hb] at e
    rw [Nat.shiftRight_eq_div_pow, ← e]
    cases x.getLsbD i <;> rfl
  unfold above
  rw [Nat.shiftRight_succ, ← h2]
  omega
theorem above_lt (x : BitVec 64) (i : Nat) : above x i < 18446744073709551616 := by
  unfold above; rw [Nat.shiftRight_eq_div_pow]
  exact Nat.lt_of_le_of_lt (Nat.div_le_self _ _) (~~~x).isLt
theorem above_lt2 (x : BitVec 64) (i : Nat) : above x (i + 1) < 9223372036854775808 := by
  have h := (~~~x).isLt
  unfold above; rw [Nat.shiftRight_succ]
  have : (~~~x).toNat >>> i ≤ (~~~x).toNat := by rw [Nat.shiftRight_eq_div_pow]; exact Nat.div_le_self _ _
  omega
end Go.Proofs.Ytjomimbclcjkcaa.Plain
