/-
  The methods of a reader, by its state: what is left, and whether it is bad.
-/
import Derived.Test.YtclicammiopjlaaRdRead
set_option linter.unusedVariables false
namespace Go.Proofs.Ytclicammiopjlaa
open Go.RowKit

/-- A reader's state: what is left, and whether it is bad. -/
abbrev RS := List UInt8 × Bool
def rTake (n : Nat) (s : RS) : List UInt8 × RS := (rdTake n s.1 s.2, (rdLeft n s.1 s.2, rdBad n s.1 s.2))
def rUint (s : RS) : Nat × RS := (val (rTake 8 s).1, (rTake 8 s).2)
def rByte (s : RS) : Nat × RS := (val (rTake 1 s).1, (rTake 1 s).2)
def rText (s : RS) : List UInt8 × RS := rTake (val (rTake 4 s).1) (rTake 4 s).2
def rBad (s : RS) : RS := (s.1, true)
def rCount (most : Int) (s : RS) : Nat × RS := if most < 0 ∨ most < (rUint s).1 then (0, rBad (rUint s).2) else rUint s
def rDone (s : RS) : Int := if s.2 || decide (0 < s.1.length) then 2 else 0
def i64 (n : Nat) : Int := wrap64 n

theorem rdTake_length (n : Nat) (l : List UInt8) (bad : Bool) : (rdTake n l bad).length ≤ n := by
  unfold rdTake; split <;> simp; omega
theorem rdLeft_length (n : Nat) (l : List UInt8) (bad : Bool) : (rdLeft n l bad).length ≤ l.length := by
  unfold rdLeft; split <;> simp
theorem rTake_length (n : Nat) (s : RS) : (rTake n s).1.length ≤ n := rdTake_length _ _ _
theorem rTake_le (n : Nat) (s : RS) : (rTake n s).1.length ≤ s.1.length := by unfold rTake rdTake; simp only; split <;> simp; omega
theorem rTake_left (n : Nat) (s : RS) : (rTake n s).2.1.length ≤ s.1.length := rdLeft_length _ _ _
theorem rUint_lt (s : RS) : (rUint s).1 < 2 ^ 64 := val_lt8 _ (rTake_length 8 s)
theorem rByte_lt (s : RS) : (rByte s).1 < 256 := by
  have := val_lt (rTake 1 s).1
  have h := Nat.pow_le_pow_right (n := 256) (by decide) (rTake_length 1 s)
  unfold rByte
  omega
theorem val4_lt (s : RS) : val (rTake 4 s).1 < 2 ^ 32 := by
  have := val_lt (rTake 4 s).1
  have h := Nat.pow_le_pow_right (n := 256) (by decide) (rTake_length 4 s)
  omega
theorem rText_left (s : RS) : (rText s).2.1.length ≤ s.1.length := Nat.le_trans (rTake_left _ _) (rTake_left _ _)
theorem rUint_left (s : RS) : (rUint s).2.1.length ≤ s.1.length := rTake_left _ _
theorem rByte_left (s : RS) : (rByte s).2.1.length ≤ s.1.length := rTake_left _ _
theorem rCount_left (m : Int) (s : RS) : (rCount m s).2.1.length ≤ s.1.length := by unfold rCount; split <;> exact rUint_left s

/-- Block g is a reader in the state s. -/
def Rs (w : World) (base : Nat → Prop) (g : Nat) (s : RS) : Prop := Rd w base g s.1 s.2
/-- The call hands back v, leaves the reader g in the state s, and turns nothing else that was there. -/
def Got (w : World) (base : Nat → Prop) (g : Nat) (v : Value) (s : RS) (en : Ending) (w' : World) : Prop :=
  en = .returned v ∧ Rs w' base g s ∧ w.grownBy w' (some g)
def GotText (w : World) (base : Nat → Prop) (g : Nat) (t : List UInt8) (s : RS) (en : Ending) (w' : World) : Prop :=
  ∃ v, en = .returned v ∧ Own w' w.heap.size 5 v (bytes t) ∧ Rs w' base g s ∧ w.grownBy w' (some g)

theorem take_num' (w : World) (base : Nat → Prop) (g n : Nat) (s : RS) (hr : Rs w base g s) (hn : n ≤ 8) (hl : s.1.length ≤ 1000000000) :
    Calls Try.prog 43 #[.pointer (some ⟨g, 0, none⟩), .int .u64 (n : Int), .func (.func 44) #[] #[]] w (Got w base g (.int .u64 (val (rTake n s).1 : Int)) (rTake n s).2) :=
  (take_num w base g n s.1 s.2 hr hn hl).mono fun e w' ⟨h1, h2, h3⟩ => ⟨h1, h2, h3⟩
theorem take_text' (w : World) (base : Nat → Prop) (g n : Nat) (s : RS) (hr : Rs w base g s) (hn : n < 2 ^ 32) (hl : s.1.length ≤ 1000000000) :
    Calls Try.prog 46 #[.pointer (some ⟨g, 0, none⟩), .int .u64 (n : Int), .func (.func 47) #[] #[]] w (GotText w base g (rTake n s).1 (rTake n s).2) :=
  (take_bytes w base g n s.1 s.2 hr hn hl).mono fun e w' ⟨v, h1, h2, h3, h4⟩ => ⟨v, h1, h2, h3, h4⟩

theorem get_byte (w : World) (base : Nat → Prop) (g : Nat) (s : RS) (hr : Rs w base g s) (hl : s.1.length ≤ 1000000000) :
    Calls Try.prog 25 #[.pointer (some ⟨g, 0, none⟩)] w (Got w base g (.int .u8 ((rByte s).1 : Int)) (rByte s).2) := by
  have hlt := rByte_lt s
  have hlt' : ((rByte s).1 : Int) % 256 = ((rByte s).1 : Int) := by omega
  go_enter Try.func25, Try.ntmps25
  go_wp2_with fail
  refine (take_num' _ base g 1 s hr (by omega) hl).mono ?_
  rintro e w1 ⟨rfl, hr1, hg1⟩
  have HL := Lib.hid hlt'
  clear hlt'
  go_wp2
  go_ret
  exact ⟨ret_int HL.out, hr1, hg1⟩

theorem get_uint (w : World) (base : Nat → Prop) (g : Nat) (s : RS) (hr : Rs w base g s) (hl : s.1.length ≤ 1000000000) :
    Calls Try.prog 26 #[.pointer (some ⟨g, 0, none⟩)] w (Got w base g (.int .u64 ((rUint s).1 : Int)) (rUint s).2) := by
  go_enter Try.func26, Try.ntmps26
  go_wp2_with fail
  refine (take_num' _ base g 8 s hr (by omega) hl).mono ?_
  rintro e w1 ⟨rfl, hr1, hg1⟩
  go_wp2
  go_ret
  exact ⟨rfl, hr1, hg1⟩

theorem get_text (w : World) (base : Nat → Prop) (g : Nat) (s : RS) (hr : Rs w base g s) (hl : s.1.length ≤ 1000000000) :
    Calls Try.prog 28 #[.pointer (some ⟨g, 0, none⟩)] w (GotText w base g (rText s).1 (rText s).2) := by
  go_enter Try.func28, Try.ntmps28
  go_wp2_with fail
  refine (take_num' _ base g 4 s hr (by omega) hl).mono ?_
  rintro e w1 ⟨rfl, hr1, hg1⟩
  go_wp2_with fail
  refine (take_text' _ base g _ _ hr1 (val4_lt s) (Nat.le_trans (rTake_left _ _) hl)).mono ?_
  rintro e w2 ⟨v2, rfl, hown2, hr2, hg2⟩
  go_wp2
  go_ret
  exact ⟨_, rfl, hown2.mono hg1.size, hr2, grownBy_trans hg1 hg2⟩

theorem get_bad (w : World) (base : Nat → Prop) (g : Nat) (s : RS) (hr : Rs w base g s) :
    Calls Try.prog 45 #[.pointer (some ⟨g, 0, none⟩)] w (Got w base g (.tuple #[]) (rBad s)) := by
  obtain ⟨hg0, sv, hh, hs, hne, hb⟩ := hr
  have c1 : w.cell? ⟨g, 1, none⟩ = some (.bool s.2) := by rw [cell_of_block hh]; rfl
  have f1 := unfrozen_of_block hh 1
  go_enter Try.func45, Try.ntmps45
  go_wp2
  go_end0
  refine ⟨rfl, ⟨hg0, sv, ?_, hs.grown (grownBy_setCell _ _ _ _) (.inr hne), hne, hb⟩, grownBy_setCell _ _ _ _⟩
  rw [block_setCell hh]; simp [rBad]

theorem get_count (w : World) (base : Nat → Prop) (g : Nat) (s : RS) (m : Int) (hm : m ≤ 9223372036854775807) (hr : Rs w base g s) (hl : s.1.length ≤ 1000000000) :
    Calls Try.prog 27 #[.pointer (some ⟨g, 0, none⟩), .int .i64 m] w (Got w base g (.int .i64 ((rCount m s).1 : Int)) (rCount m s).2) := by
  have hlt := rUint_lt s
  by_cases h0 : m < 0
  · have hc : rCount m s = (0, rBad (rUint s).2) := by unfold rCount; rw [if_pos (.inl h0)]
    rw [hc]
    go_enter Try.func27, Try.ntmps27
    go_wp2_with fail
    refine (get_uint _ base g s hr hl).mono ?_
    rintro e w1 ⟨rfl, hr1, hg1⟩
    go_wp2_with fail
    refine (get_bad _ base g _ hr1).mono ?_
    rintro e w2 ⟨rfl, hr2, hg2⟩
    go_wp2
    go_ret
    exact ⟨rfl, hr2, grownBy_trans hg1 hg2⟩
  · obtain ⟨k, rfl⟩ := Int.eq_ofNat_of_zero_le (show 0 ≤ m by omega)
    have hwr : IntKind.u64.wrap ((k : Nat) : Int) = ((k : Nat) : Int) := by simp [IntKind.wrap, IntKind.bits, IntKind.signed]; omega
    by_cases hk : k < (rUint s).1
    · have hc : rCount (k : Int) s = (0, rBad (rUint s).2) := by unfold rCount; rw [if_pos (.inr (by omega))]
      rw [hc]
      go_enter Try.func27, Try.ntmps27
      go_wp2_with fail
      refine (get_uint _ base g s hr hl).mono ?_
      rintro e w1 ⟨rfl, hr1, hg1⟩
      go_wp2_with fail
      refine (get_bad _ base g _ hr1).mono ?_
      rintro e w2 ⟨rfl, hr2, hg2⟩
      go_wp2
      go_ret
      exact ⟨rfl, hr2, grownBy_trans hg1 hg2⟩
    · have hc : rCount (k : Int) s = rUint s := by unfold rCount; rw [if_neg (by omega)]
      rw [hc]
      go_enter Try.func27, Try.ntmps27
      go_wp2_with fail
      refine (get_uint _ base g s hr hl).mono ?_
      rintro e w1 ⟨rfl, hr1, hg1⟩
      go_wp2
      go_ret
      exact ⟨rfl, hr1, hg1⟩

theorem get_done (w : World) (base : Nat → Prop) (g : Nat) (s : RS) (hr : Rs w base g s) (hl : s.1.length ≤ 1000000000) :
    Calls Try.prog 29 #[.pointer (some ⟨g, 0, none⟩)] w fun e w' => e = .returned (.int .i64 (rDone s)) ∧ w = w' := by
  obtain ⟨l, bad⟩ := s
  obtain ⟨hg0, sv, hh, hs, hne, hb⟩ := hr
  obtain ⟨a, cap, rfl, hcap, _⟩ := hs.bytes
  have c0 : w.cell? ⟨g, 0, none⟩ = some (.slice a l.length cap) := by rw [cell_of_block hh]; rfl
  have c1 : w.cell? ⟨g, 1, none⟩ = some (.bool bad) := by rw [cell_of_block hh]; rfl
  clear hh
  cases bad with
  | true =>
    go_enter Try.func29, Try.ntmps29
    go_wp2
    go_ret
    exact ⟨rfl, rfl⟩
  | false =>
    by_cases h0 : 0 < l.length
    · go_enter Try.func29, Try.ntmps29
      go_wp2
      go_ret
      exact ⟨by simp [rDone, h0], rfl⟩
    · go_enter Try.func29, Try.ntmps29
      go_wp2
      go_ret
      exact ⟨by simp [rDone, h0], rfl⟩
end Go.Proofs.Ytclicammiopjlaa
