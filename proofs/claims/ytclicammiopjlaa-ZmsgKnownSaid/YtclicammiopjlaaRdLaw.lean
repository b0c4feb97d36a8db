/-
  Plain: numbers as bytes, the highest first: what is put is read; the order of the bytes is the order of the numbers.
-/
import Derived.Test.YtclicammiopjlaaRdMeth
set_option linter.unusedVariables false
namespace Go.Proofs.Ytclicammiopjlaa

theorem be_succ (n x : Nat) : be (n + 1) x = UInt8.ofNat (x / 2 ^ (8 * n)) :: be n x := by
  unfold be
  rw [List.range_succ_eq_map, List.map_cons, List.map_map]
  congr 1
  refine List.map_congr_left fun j hj => ?_
  have := List.mem_range.1 hj
  simp only [Function.comp]
  have : n + 1 - 1 - (j + 1) = n - 1 - j := by omega
  rw [this]

theorem val_cons (c : UInt8) (l : List UInt8) : val (c :: l) = c.toNat * 256 ^ l.length + val l := by
  have h : ∀ (l : List UInt8) (v : Nat), l.foldl (fun v c => v * 256 + c.toNat) v = v * 256 ^ l.length + val l := by
    intro l
    induction l with
    | nil => intro v; simp [val]
    | cons d l ih =>
      intro v
      have e : val (d :: l) = d.toNat * 256 ^ l.length + val l := by rw [val, List.foldl_cons, ih]; simp
      rw [List.foldl_cons, ih, e, List.length_cons, Nat.pow_succ]
      simp only [Nat.add_mul, Nat.mul_assoc, Nat.add_assoc, Nat.mul_comm (256 ^ l.length) 256]
  rw [val, List.foldl_cons, h]
  simp

theorem val_be (n : Nat) : ∀ x : Nat, val (be n x) = x % 256 ^ n := by
  induction n with
  | zero => intro x; simp [be, val, Nat.mod_one]
  | succ n ih =>
    intro x
    have e : 2 ^ (8 * n) = 256 ^ n := by rw [Nat.pow_mul]
    have e2 : (UInt8.ofNat (x / 256 ^ n)).toNat = x / 256 ^ n % 256 := by rw [UInt8.toNat_ofNat']
    rw [be_succ, val_cons, ih, be_length, e, e2, Nat.pow_succ (n := 256), Nat.mod_mul, Nat.mul_comm]
    exact Nat.add_comm _ _

theorem val_be8 (x : Nat) (h : x < 2 ^ 64) : val (be 8 x) = x := by rw [val_be]; exact Nat.mod_eq_of_lt h
theorem val_be4 (x : Nat) (h : x < 2 ^ 32) : val (be 4 x) = x := by rw [val_be]; exact Nat.mod_eq_of_lt h
theorem val_be1 (x : Nat) (h : x < 256) : val (be 1 x) = x := by rw [val_be]; exact Nat.mod_eq_of_lt h

theorem less_val : ∀ (u v : List UInt8), u.length = v.length → Op.bytesLess u v = decide (val u < val v) := by
  intro u
  induction u with
  | nil => intro v h; cases v with
    | nil => simp [Op.bytesLess]
    | cons _ _ => simp at h
  | cons c u ih =>
    intro v h
    cases v with
    | nil => simp at h
    | cons d v =>
      have hl : u.length = v.length := by simpa using h
      have hu := val_lt u
      have hv := val_lt v
      rw [val_cons, val_cons, hl]
      rw [hl] at hu
      generalize hp : 256 ^ v.length = p at *
      have key : (c.toNat * p + val u < d.toNat * p + val v) ↔ (c.toNat < d.toNat ∨ (c.toNat = d.toNat ∧ val u < val v)) := by
        constructor
        · intro h'
          rcases Nat.lt_trichotomy c.toNat d.toNat with h1 | h1 | h1
          · exact .inl h1
          · rw [h1] at h'; exact .inr ⟨h1, by omega⟩
          · exfalso
            have := Nat.mul_le_mul_right p (show d.toNat + 1 ≤ c.toNat from h1)
            rw [Nat.add_mul] at this
            omega
        · rintro (h1 | ⟨h1, h2⟩)
          · have := Nat.mul_le_mul_right p (show c.toNat + 1 ≤ d.toNat from h1)
            rw [Nat.add_mul] at this
            omega
          · rw [h1]; omega
      simp only [Op.bytesLess, ih v hl]
      rw [Bool.eq_iff_iff, decide_eq_true_eq, key]
      simp [UInt8.lt_iff_toNat_lt, ← UInt8.toNat_inj]

theorem be8_inj {a b : Nat} (ha : a < 2 ^ 64) (hb : b < 2 ^ 64) (h : be 8 a = be 8 b) : a = b := by
  have := congrArg val h
  rwa [val_be8 a ha, val_be8 b hb] at this
theorem be4_inj {a b : Nat} (ha : a < 2 ^ 32) (hb : b < 2 ^ 32) (h : be 4 a = be 4 b) : a = b := by
  have := congrArg val h
  rwa [val_be4 a ha, val_be4 b hb] at this
theorem be8_less {a b : Nat} (ha : a < 2 ^ 64) (hb : b < 2 ^ 64) : Op.bytesLess (be 8 a) (be 8 b) = decide (a < b) := by
  rw [less_val _ _ (by rw [be_length, be_length]), val_be8 a ha, val_be8 b hb]
theorem text_prefix {s t r : List UInt8} (hs : s.length < 2 ^ 32) (ht : t.length < 2 ^ 32) (h : be 4 s.length ++ s ++ r = be 4 t.length ++ t) : s = t ∧ r = [] := by
  rw [List.append_assoc] at h
  obtain ⟨h1, h2⟩ := List.append_inj h (by rw [be_length, be_length])
  have hl := be4_inj hs ht h1
  obtain ⟨h3, h4⟩ := List.append_inj (s₁ := s) (t₁ := r) (s₂ := t) (t₂ := []) (by simpa using h2) hl
  exact ⟨h3, h4⟩
end Go.Proofs.Ytclicammiopjlaa
