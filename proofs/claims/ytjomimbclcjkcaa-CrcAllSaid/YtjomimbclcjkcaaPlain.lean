/-
  The plain part for the checks: what Sum computes as a fold over 64-bit words, that the fold is linear, and that up to eight bytes in place of as many other ones are told. No program in sight.
-/
import Derived.Laws.Bits64
namespace Go.Proofs.Ytjomimbclcjkcaa.Plain

def poly : BitVec 64 := 14514072000185962306#64
def cstep (x : BitVec 64) : BitVec 64 := (x >>> 1) ^^^ (poly &&& -(x &&& 1#64))
def csteps : Nat → BitVec 64 → BitVec 64
  | 0, x => x
  | n + 1, x => cstep (csteps n x)
def cxor (x : BitVec 64) (c : UInt8) : BitVec 64 := x ^^^ BitVec.ofNat 64 c.toNat
def cbyte (x : BitVec 64) (c : UInt8) : BitVec 64 := csteps 8 (cxor x c)
def crun (x : BitVec 64) (l : List UInt8) : BitVec 64 := l.foldl cbyte x
def crc (l : List UInt8) : BitVec 64 := ~~~ (crun 18446744073709551615#64 l)

theorem crun_append (x : BitVec 64) (a b : List UInt8) : crun x (a ++ b) = crun (crun x a) b := by simp [crun]

theorem and_one (x : BitVec 64) : x &&& 1#64 = if x.getLsbD 0 then 1#64 else 0#64 := by
  have h2 : (BitVec.twoPow 64 0) = 1#64 := rfl
  rw [← h2, BitVec.and_twoPow]

theorem cstep_eq (x : BitVec 64) : cstep x = (x >>> 1) ^^^ (if x.getLsbD 0 then poly else 0#64) := by
  unfold cstep
  rw [and_one]
  by_cases h : x.getLsbD 0
  · rw [if_pos h, if_pos h]
    have : (-1#64 : BitVec 64) = BitVec.allOnes 64 := by decide
    rw [this, BitVec.and_allOnes]
  · rw [if_neg h, if_neg h]
    simp

theorem cstep_bit (x : BitVec 64) (i : Nat) : (cstep x).getLsbD i = (x.getLsbD (1 + i) ^^ (x.getLsbD 0 && poly.getLsbD i)) := by
  rw [cstep_eq]
  by_cases h : x.getLsbD 0
  · rw [if_pos h, h]; simp
  · rw [if_neg h, eq_false_of_ne_true h]; simp

theorem cstep_xor (a b : BitVec 64) : cstep (a ^^^ b) = cstep a ^^^ cstep b := by
  apply BitVec.eq_of_getLsbD_eq
  intro i hi
  simp only [cstep_bit, BitVec.getLsbD_xor]
  cases a.getLsbD (1 + i) <;> cases b.getLsbD (1 + i) <;> cases a.getLsbD 0 <;> cases b.getLsbD 0 <;> cases poly.getLsbD i <;> rfl

theorem csteps_xor (n : Nat) (a b : BitVec 64) : csteps n (a ^^^ b) = csteps n a ^^^ csteps n b := by
  induction n with
  | zero => rfl
  | succ n ih => simp only [csteps, ih, cstep_xor]

theorem cstep_top (x : BitVec 64) : (cstep x).getLsbD 63 = x.getLsbD 0 := by
  rw [cstep_bit]
  have : poly.getLsbD 63 = true := by decide
  rw [this]
  simp

theorem cstep_back (x : BitVec 64) (h : (cstep x).getLsbD 63 = false) : x = cstep x <<< 1 := by
  rw [cstep_top] at h
  apply BitVec.eq_of_getLsbD_eq
  intro i hi
  rw [BitVec.getLsbD_shiftLeft, cstep_bit, h]
  by_cases h0 : i < 1
  · obtain rfl : i = 0 := by omega
    rw [h]; simp
  · have : 1 + (i - 1) = i := by omega
    simp [h0, hi, this]

theorem csteps_back (n : Nat) (hn : n ≤ 64) : ∀ x : BitVec 64, (csteps n x).toNat < 2 ^ (64 - n) → x = csteps n x <<< n := by
  induction n with
  | zero => intro x _; simp [csteps]
  | succ n ih =>
    intro x h
    have hb : (cstep (csteps n x)).getLsbD 63 = false := by
      have : (cstep (csteps n x)).toNat < 2 ^ 63 := Nat.lt_of_lt_of_le h (Nat.pow_le_pow_right (by decide) (by omega))
      rw [← BitVec.testBit_toNat]
      exact Nat.testBit_lt_two_pow this
    have he := cstep_back _ hb
    have hlt : (csteps n x).toNat < 2 ^ (64 - n) := by
      rw [he, BitVec.toNat_shiftLeft]
      refine Nat.lt_of_le_of_lt (Nat.mod_le _ _) ?_
      rw [Nat.shiftLeft_eq]
      have e : 64 - n = (64 - (n + 1)) + 1 := by omega
      rw [e, Nat.pow_succ]
      have h' : (cstep (csteps n x)).toNat < 2 ^ (64 - (n + 1)) := h
      omega
    have := ih (by omega) x hlt
    show x = cstep (csteps n x) <<< (n + 1)
    rw [show n + 1 = 1 + n from Nat.add_comm _ _, BitVec.shiftLeft_add, ← he]
    exact this

theorem csteps_zero (n : Nat) : csteps n 0#64 = 0#64 := by
  induction n with
  | zero => rfl
  | succ n ih => simp only [csteps, ih]; decide

theorem csteps_eq_zero (n : Nat) (hn : n ≤ 64) (x : BitVec 64) (h : csteps n x = 0#64) : x = 0#64 := by
  have := csteps_back n hn x (by rw [h]; exact Nat.two_pow_pos _)
  rw [this, h]; simp

theorem csteps_inj (n : Nat) (hn : n ≤ 64) (x y : BitVec 64) (h : csteps n x = csteps n y) : x = y := by
  have h0 : csteps n (x ^^^ y) = 0#64 := by rw [csteps_xor, h, BitVec.xor_self]
  have := csteps_eq_zero n hn _ h0
  exact BitVec.xor_eq_zero_iff.1 this

theorem cbyte_inj (x y : BitVec 64) (c : UInt8) (h : cbyte x c = cbyte y c) : x = y := by
  have := csteps_inj 8 (by decide) _ _ h
  unfold cxor at this
  exact (BitVec.xor_left_inj _).1 this

theorem crun_inj (l : List UInt8) : ∀ x y : BitVec 64, crun x l = crun y l → x = y := by
  induction l with
  | nil => intro x y h; exact h
  | cons c l ih => intro x y h; exact cbyte_inj _ _ c (ih _ _ h)

theorem byte_lt (c : UInt8) : c.toNat < 256 := c.toNat_lt

theorem ofByte_xor (c d : UInt8) : BitVec.ofNat 64 c.toNat ^^^ BitVec.ofNat 64 d.toNat = BitVec.ofNat 64 (c ^^^ d).toNat := by
  apply BitVec.eq_of_toNat_eq
  simp only [BitVec.toNat_xor, BitVec.toNat_ofNat, UInt8.toNat_xor]
  have hc := byte_lt c
  have hd := byte_lt d
  have hx : c.toNat ^^^ d.toNat < 2 ^ 8 := Nat.xor_lt_two_pow hc hd
  rw [Nat.mod_eq_of_lt (by omega), Nat.mod_eq_of_lt (by omega), Nat.mod_eq_of_lt (by omega)]

/-- Two words whose checks over as many bytes come to one, at most eight: they part by less than 256 to that number. -/
theorem crun_meet : ∀ (u v : List UInt8) (x y : BitVec 64), u.length = v.length → u.length ≤ 8 → crun x u = crun y v →
    (x ^^^ y).toNat < 2 ^ (8 * u.length) ∧ (x = y → u = v) := by
  intro u
  induction u with
  | nil =>
    intro v x y hl _ h
    cases v with
    | cons _ _ => simp at hl
    | nil =>
      have : x = y := h
      subst this
      exact ⟨by simp, fun _ => rfl⟩
  | cons c u ih =>
    intro v x y hl hle h
    cases v with
    | nil => simp at hl
    | cons d v =>
      simp only [List.length_cons] at hl hle
      obtain ⟨h1, h2⟩ := ih v (cbyte x c) (cbyte y d) (by omega) (by omega) h
      have hlin : cbyte x c ^^^ cbyte y d = csteps 8 (cxor x c ^^^ cxor y d) := by
        unfold cbyte; rw [csteps_xor]
      rw [hlin] at h1
      have hlt : (csteps 8 (cxor x c ^^^ cxor y d)).toNat < 2 ^ (64 - 8) := Nat.lt_of_lt_of_le h1 (Nat.pow_le_pow_right (by decide) (by omega))
      have hb := csteps_back 8 (by decide) _ hlt
      have hxy : cxor x c ^^^ cxor y d = (x ^^^ y) ^^^ BitVec.ofNat 64 (c ^^^ d).toNat := by
        unfold cxor
        rw [← ofByte_xor]
        ac_rfl
      generalize he : csteps 8 (cxor x c ^^^ cxor y d) = e at *
      have hd : x ^^^ y = (e <<< 8) ^^^ BitVec.ofNat 64 (c ^^^ d).toNat := by
        rw [← hb, hxy, BitVec.xor_assoc, BitVec.xor_self, BitVec.xor_zero]
      have hcd := byte_lt (c ^^^ d)
      have hen : (e <<< 8).toNat = e.toNat * 256 := by
        rw [BitVec.toNat_shiftLeft, Nat.shiftLeft_eq, Nat.mod_eq_of_lt]
        have : e.toNat < 2 ^ 56 := hlt
        omega
      refine ⟨?_, ?_⟩
      · rw [hd, BitVec.toNat_xor]
        have hp : 2 ^ (8 * (u.length + 1)) = 2 ^ (8 * u.length) * 256 := by rw [Nat.mul_succ, Nat.pow_add]
        refine Nat.xor_lt_two_pow ?_ ?_
        · rw [hen, List.length_cons, hp]; omega
        · rw [BitVec.toNat_ofNat]
          refine Nat.lt_of_le_of_lt (Nat.mod_le _ _) ?_
          rw [List.length_cons, hp]
          have := Nat.two_pow_pos (8 * u.length)
          omega
      · intro hxe
        subst hxe
        rw [BitVec.xor_self] at hd
        have h0 : e <<< 8 = BitVec.ofNat 64 (c ^^^ d).toNat := BitVec.xor_eq_zero_iff.1 hd.symm
        have hn := congrArg BitVec.toNat h0
        rw [hen, BitVec.toNat_ofNat, Nat.mod_eq_of_lt (by omega)] at hn
        have hc0 : (c ^^^ d).toNat = 0 := by omega
        have hcd' : c = d := by
          have : c ^^^ d = 0 := UInt8.toNat_inj.1 hc0
          exact UInt8.xor_eq_zero_iff.1 this
        subst hcd'
        rw [h2 rfl]

/-- Up to eight bytes in whose place as many other ones stand change the check. -/
theorem crc_told (p u v s : List UInt8) (hl : u.length = v.length) (h8 : u.length ≤ 8) : (crc (p ++ u ++ s) = crc (p ++ v ++ s)) ↔ u = v := by
  constructor
  · intro h
    unfold crc at h
    have h' : crun 18446744073709551615#64 (p ++ u ++ s) = crun 18446744073709551615#64 (p ++ v ++ s) := by
      have := congrArg (fun x : BitVec 64 => ~~~ x) h
      simpa using this
    rw [crun_append, crun_append, crun_append, crun_append] at h'
    have h2 := crun_inj s _ _ h'
    exact (crun_meet u v _ _ hl h8 h2).2 rfl
  · rintro rfl; rfl

theorem crc_short (u v : List UInt8) (hl : u.length = v.length) (h8 : u.length ≤ 8) : (crc u = crc v) ↔ u = v := by
  have := crc_told [] u v [] hl h8
  simpa using this

/-! The model's own words for these. -/
theorem ofInt_toNat (x : BitVec 64) : BitVec.ofInt 64 (x.toNat : Int) = x := by
  rw [BitVec.ofInt_natCast]; simp
theorem wrap_toNat (x : BitVec 64) : IntKind.u64.wrap (x.toNat : Int) = (x.toNat : Int) := by
  rw [IntKind.wrap_u64]; have := x.isLt; omega
theorem bits_xor (x y : BitVec 64) : bits .xor .u64 (x.toNat : Int) (y.toNat : Int) = ((x ^^^ y).toNat : Int) := by
  show IntKind.u64.wrap ((BitVec.ofInt 64 (x.toNat : Int) ^^^ BitVec.ofInt 64 (y.toNat : Int)).toNat : Int) = _
  rw [ofInt_toNat, ofInt_toNat, wrap_toNat]
theorem bits_and (x y : BitVec 64) : bits .and .u64 (x.toNat : Int) (y.toNat : Int) = ((x &&& y).toNat : Int) := by
  show IntKind.u64.wrap ((BitVec.ofInt 64 (x.toNat : Int) &&& BitVec.ofInt 64 (y.toNat : Int)).toNat : Int) = _
  rw [ofInt_toNat, ofInt_toNat, wrap_toNat]
theorem wrap_neg (x : BitVec 64) : IntKind.u64.wrap (-(x.toNat : Int)) = ((-x).toNat : Int) := by
  rw [IntKind.wrap_u64, BitVec.toNat_neg]; have := x.isLt; omega
theorem half (x : BitVec 64) : (x.toNat : Int) / (2 : Int) = ((x >>> 1).toNat : Int) := by
  rw [BitVec.toNat_ushiftRight, Nat.shiftRight_eq_div_pow]; omega
theorem step_word (x : BitVec 64) :
    bits .xor .u64 ((x.toNat : Int) / 2) (bits .and .u64 14514072000185962306 (IntKind.u64.wrap (-bits .and .u64 (x.toNat : Int) 1))) = ((cstep x).toNat : Int) := by
  have e1 : bits .and .u64 (x.toNat : Int) 1 = ((x &&& 1#64).toNat : Int) := bits_and x 1#64
  rw [e1, wrap_neg]
  have e2 : bits .and .u64 14514072000185962306 ((-(x &&& 1#64)).toNat : Int) = ((poly &&& -(x &&& 1#64)).toNat : Int) := bits_and poly _
  rw [e2, half, bits_xor]
  rfl
theorem xor_word (x : BitVec 64) (c : UInt8) : bits .xor .u64 (x.toNat : Int) (c.toNat : Int) = ((cxor x c).toNat : Int) := by
  have h : (c.toNat : Int) = ((BitVec.ofNat 64 c.toNat).toNat : Int) := by
    rw [BitVec.toNat_ofNat]; have := byte_lt c; omega
  rw [h, bits_xor]; rfl
theorem not_word (x : BitVec 64) : bits .xor .u64 18446744073709551615 (x.toNat : Int) = ((~~~x).toNat : Int) := by
  have := bits_xor 18446744073709551615#64 x
  have e : 18446744073709551615#64 ^^^ x = ~~~x := by
    have : 18446744073709551615#64 = BitVec.allOnes 64 := by decide
    rw [this, BitVec.allOnes_xor]
  rw [← e]; exact this
theorem wrap_byte (c : UInt8) : IntKind.u64.wrap (c.toNat : Int) = (c.toNat : Int) := by
  rw [IntKind.wrap_u64]; have := byte_lt c; omega
theorem xor_word' (x : BitVec 64) (c : UInt8) : bits .xor .u64 (x.toNat : Int) (IntKind.u64.wrap (c.toNat : Int)) = ((cxor x c).toNat : Int) := by
  rw [wrap_byte, xor_word]
theorem not_word' (x : BitVec 64) : bits .xor .u64 IntKind.u64.max (x.toNat : Int) = ((~~~x).toNat : Int) := not_word x
end Go.Proofs.Ytjomimbclcjkcaa.Plain
