/-
  Plain: bytes that change places, and eight bytes in whose place other ones stand.
-/
import Derived.Test.YtjomimbclcjkcaaPlain
namespace Go.Proofs.Ytjomimbclcjkcaa.Plain

theorem split_window (l : List UInt8) (k n : Nat) : l = l.take k ++ (l.drop k).take n ++ l.drop (k + n) := by
  rw [List.append_assoc, ← List.drop_drop, List.take_append_drop, List.take_append_drop]

/-- A list that is as l is but within the n places from k on. -/
theorem told_within (l c : List UInt8) (k n : Nat) (hn : n ≤ 8) (hk : k + n ≤ l.length) (hlen : c.length = l.length) (hlo : c.take k = l.take k) (hhi : c.drop (k + n) = l.drop (k + n)) :
    (crc l = crc c) ↔ (l.drop k).take n = (c.drop k).take n := by
  have h1 := split_window l k n
  have h2 := split_window c k n
  rw [hlo, hhi] at h2
  rw [h2]
  conv => lhs; lhs; rw [h1]
  rw [crc_told _ _ _ _ (by simp; omega) (by simp; omega)]
  constructor
  · intro h
    rw [h, ← h2]
  · intro h
    rw [h, ← h2]

theorem take_set_ge (l : List UInt8) (k q : Nat) (x : UInt8) (h : k ≤ q) : (l.set q x).take k = l.take k := by
  apply List.ext_getElem?
  intro i
  rw [List.getElem?_take, List.getElem?_take]
  split
  · rw [List.getElem?_set_ne (by omega)]
  · rfl
theorem drop_set_lt (l : List UInt8) (n q : Nat) (x : UInt8) (h : q < n) : (l.set q x).drop n = l.drop n := by
  apply List.ext_getElem?
  intro i
  rw [List.getElem?_drop, List.getElem?_drop, List.getElem?_set_ne (by omega)]

theorem swap_told (l : List UInt8) (k q : Nat) (x y : UInt8) (hkq : k < q) (hq : q ≤ k + 7) (hl : k + 8 ≤ l.length) (hy : l[k]? = some y) (hx : l[q]? = some x) :
    (crc l = crc ((l.set k x).set q y)) ↔ y = x := by
  rw [told_within l ((l.set k x).set q y) k 8 (by decide) hl (by simp) (by rw [take_set_ge _ _ _ _ (by omega), take_set_ge _ _ _ _ (by omega)])
    (by rw [drop_set_lt _ _ _ _ (by omega), drop_set_lt _ _ _ _ (by omega)])]
  constructor
  · intro h
    have h0 := congrArg (fun t => t[0]?) h
    simp only [List.getElem?_take, List.getElem?_drop] at h0
    rw [if_pos (by decide), if_pos (by decide), Nat.add_zero, hy, List.getElem?_set_ne (by omega), List.getElem?_set_self (by omega)] at h0
    injection h0
  · rintro rfl
    congr 2
    apply List.ext_getElem?
    intro i
    rw [List.getElem?_set]
    split
    · rename_i h; subst h
      rw [if_pos (by simp; omega), hx]
    · rw [List.getElem?_set]
      split
      · rename_i h; subst h
        rw [if_pos (by omega), hy]
      · rfl

/-- The first i of the eight bytes laid. -/
def laid (l n : List UInt8) (k i : Nat) : List UInt8 := l.take k ++ n.take i ++ l.drop (k + i)
theorem laid_zero (l n : List UInt8) (k : Nat) : laid l n k 0 = l := by simp [laid]
theorem laid_length (l n : List UInt8) (k i : Nat) (hi : i ≤ n.length) (hk : k + i ≤ l.length) : (laid l n k i).length = l.length := by
  simp [laid]; omega
theorem laid_get (l n : List UInt8) (k i : Nat) (hi : i ≤ n.length) (hk : k + i ≤ l.length) (j : Nat) (hj : k + i ≤ j) : (laid l n k i)[j]? = l[j]? := by
  unfold laid
  rw [List.getElem?_append_right (by simp; omega), List.getElem?_drop]
  congr 1
  simp; omega
theorem laid_succ (l n : List UInt8) (k i : Nat) (c : UInt8) (hi : n[i]? = some c) (hk : k + i < l.length) : (laid l n k i).set (k + i) c = laid l n k (i + 1) := by
  have hin : i < n.length := (List.getElem?_eq_some_iff.1 hi).1
  have hc : n[i] = c := (List.getElem?_eq_some_iff.1 hi).2
  unfold laid
  rw [List.set_append_right _ _ (by simp; omega)]
  have e1 : (l.take k ++ n.take i).length = k + i := by simp; omega
  rw [e1, Nat.sub_self, List.drop_eq_getElem_cons hk, List.set_cons_zero, List.take_succ_eq_append_getElem hin, hc]
  simp [Nat.add_assoc]

def sameTo (l n : List UInt8) (k i : Nat) : Bool := (l.drop k).take i == n.take i
theorem sameTo_zero (l n : List UInt8) (k : Nat) : sameTo l n k 0 = true := by simp [sameTo]
theorem sameTo_succ (l n : List UInt8) (k i : Nat) (b c : UInt8) (hi : n[i]? = some c) (hb : l[k + i]? = some b) : sameTo l n k (i + 1) = (sameTo l n k i && (b == c)) := by
  have hin : i < n.length := (List.getElem?_eq_some_iff.1 hi).1
  have hc : n[i] = c := (List.getElem?_eq_some_iff.1 hi).2
  have hlt : k + i < l.length := (List.getElem?_eq_some_iff.1 hb).1
  have hbb : l[k + i] = b := (List.getElem?_eq_some_iff.1 hb).2
  have hd : i < (l.drop k).length := by simp; omega
  unfold sameTo
  rw [List.take_succ_eq_append_getElem hin, List.take_succ_eq_append_getElem hd, hc]
  have : (l.drop k)[i] = b := by simp [hbb]
  rw [this, Bool.eq_iff_iff]
  simp only [beq_iff_eq, Bool.and_eq_true]
  constructor
  · intro h
    have := List.append_inj h (by simp; omega)
    simpa using this
  · rintro ⟨h1, rfl⟩
    rw [h1]

theorem number_told (l n : List UInt8) (k : Nat) (hn : n.length = 8) (hk : k + 8 ≤ l.length) : (crc l = crc (laid l n k 8)) ↔ sameTo l n k 8 = true := by
  have h8 : n.take 8 = n := List.take_of_length_le (by omega)
  have ht : (l.take k).length = k := by simp; omega
  have hmid : ((laid l n k 8).drop k).take 8 = n := by
    unfold laid
    rw [h8, List.append_assoc, List.drop_append_of_le_length (by omega), List.drop_of_length_le (by omega), List.nil_append, List.take_append_of_le_length (by omega), List.take_of_length_le (by omega)]
  rw [told_within l (laid l n k 8) k 8 (by decide) hk (laid_length _ _ _ _ (by omega) (by omega)) ?_ ?_, hmid]
  · unfold sameTo
    rw [h8]; simp
  · unfold laid
    rw [List.append_assoc, List.take_append_of_le_length (by omega), List.take_of_length_le (by omega)]
  · unfold laid
    rw [h8, List.drop_append, List.drop_of_length_le (by simp; omega)]
    simp
    omega
theorem beq_told (a b : BitVec 64) (s : Bool) (h : a = b ↔ s = true) : (((a.toNat : Int) == (b.toNat : Int)) == s) = true := by
  have e : ((a.toNat : Int) == (b.toNat : Int)) = decide (a = b) := by
    rw [Bool.eq_iff_iff]; simp [← BitVec.toNat_inj]; omega
  rw [e]
  cases s <;> simp [h]
end Go.Proofs.Ytjomimbclcjkcaa.Plain
