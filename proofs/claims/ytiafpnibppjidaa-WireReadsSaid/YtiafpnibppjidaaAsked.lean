/-
  One ask, of a reader and of the document's: alike.
-/
import Derived.Test.YtiafpnibppjidaaRefState
set_option linter.unusedVariables false
namespace Go.Proofs.Ytiafpnibppjidaa
open Go.RowKit

def rAsk (d : Nat) (n : Int) (s : RS) : RS :=
  if d % 7 = 0 then (rByte s).2 else if d % 7 = 1 then (rUint s).2 else if d % 7 = 2 then (rUint s).2 else if d % 7 = 3 then (rText s).2 else if d % 7 = 4 then (rCount n s).2 else if d % 7 = 5 then rBad s else s

theorem cell_new2 {w w' : World} (B : Nat) (xs : List Value) (t : TypeId) (fr : Nat × Nat) (hB : B = w.heap.size) (hb : Below (w.alloc (.cells xs.toArray t fr)).heap.size (w.alloc (.cells xs.toArray t fr)) w') (k : Nat) (u : Value) (hk : xs[k]? = some u) :
    w'.cell? ⟨B, k, none⟩ = some u := by
  subst hB
  obtain ⟨h1, h2⟩ := List.getElem?_eq_some_iff.1 hk
  have := cells_at xs t fr hb k h1
  rw [Nat.zero_add] at this
  rw [this, h2]

/-- The blocks of the two. -/
abbrev Two (g q : Nat) : Nat → Prop := fun k => k = g ∨ k = q

/-- All that is known of the two readers in a world. -/
structure Both (w : World) (ok : Nat → Prop) (g q : Nat) (ab : Option Addr) (cb : Nat) (L : List UInt8) (s : RS) : Prop where
  r : Rs w ok g s
  st : St w q ab cb L s
  sl : Sl w (.slice ab L.length cb) (bytes L)
/-- What stands fast of them. -/
structure Fast (ok : Nat → Prop) (g q : Nat) (ab : Option Addr) (cb : Nat) (L : List UInt8) : Prop where
  okg : ok g
  nq : ¬ ok q
  hg : bytes L = [] ∨ ∀ k, (Value.slice ab L.length cb).ownBlock = some k → k ≠ g
  hq : bytes L = [] ∨ ∀ k, (Value.slice ab L.length cb).ownBlock = some k → k ≠ q
  len : L.length ≤ 1000000000
theorem Fast.ne {ok : Nat → Prop} {g q : Nat} {ab : Option Addr} {cb : Nat} {L : List UInt8} (h : Fast ok g q ab cb L) : q ≠ g := fun e => h.nq (e ▸ h.okg)
theorem Both.len {w : World} {ok : Nat → Prop} {g q : Nat} {ab : Option Addr} {cb : Nat} {L : List UInt8} {s : RS} (h : Both w ok g q ab cb L s) (hf : Fast ok g q ab cb L) : s.1.length ≤ 1000000000 := by
  obtain ⟨a, _, _, h2⟩ := h.st
  have := hf.len
  rw [← h2, List.length_drop]; omega
theorem Both.below {w w' : World} {ok : Nat → Prop} {g q : Nat} {ab : Option Addr} {cb : Nat} {L : List UInt8} {s : RS} (h : Both w ok g q ab cb L s) (hb : Below w.heap.size w w') : Both w' ok g q ab cb L s :=
  ⟨Rd.grown h.r (below_grownBy hb none) (by simp), h.st.ch (Ch.of_gr (ρ := fun _ => False) hb) (by simp), h.sl.below hb⟩
/-- The reader has gone on; the state stands. -/
theorem St.aside {w w' : World} {ok : Nat → Prop} {g q : Nat} {ab : Option Addr} {cb : Nat} {L : List UInt8} {s : RS} (h : St w q ab cb L s) (hf : Fast ok g q ab cb L) (hg : w.grownBy w' (some g)) : St w' q ab cb L s :=
  h.ch (Ch.of_grownBy (ρ := fun k => k = g) hg (fun k hk => by cases hk; rfl)) hf.ne
theorem sl_g {w w' : World} {ok : Nat → Prop} {g q : Nat} {ab : Option Addr} {cb : Nat} {L : List UInt8} (h : Sl w (.slice ab L.length cb) (bytes L)) (hf : Fast ok g q ab cb L) (hg : w.grownBy w' (some g)) : Sl w' (.slice ab L.length cb) (bytes L) :=
  sl_chN h (Ch.of_grownBy (ρ := fun k => k = g) hg (fun k hk => by cases hk; rfl)) hf.hg
theorem sl_q {w w' : World} {ok : Nat → Prop} {g q : Nat} {ab : Option Addr} {cb : Nat} {L : List UInt8} (h : Sl w (.slice ab L.length cb) (bytes L)) (hf : Fast ok g q ab cb L) (hg : w.grownBy w' (some q)) : Sl w' (.slice ab L.length cb) (bytes L) :=
  sl_chN h (Ch.of_grownBy (ρ := fun k => k = q) hg (fun k hk => by cases hk; rfl)) hf.hq
theorem Rs.aside {w w' : World} {ok : Nat → Prop} {g q : Nat} {ab : Option Addr} {cb : Nat} {L : List UInt8} {s : RS} (h : Rs w ok g s) (hf : Fast ok g q ab cb L) (hg : w.grownBy w' (some q)) : Rs w' ok g s :=
  Rd.grown h hg (fun k hk => by cases hk; exact hf.nq)
theorem two_g {w w' : World} {g q : Nat} (h : w.grownBy w' (some g)) : Ch (Two g q) w w' := Ch.of_grownBy h (fun k hk => by cases hk; exact .inl rfl)
theorem two_q {w w' : World} {g q : Nat} (h : w.grownBy w' (some q)) : Ch (Two g q) w w' := Ch.of_grownBy h (fun k hk => by cases hk; exact .inr rfl)
theorem rDone_or (s : RS) : rDone s = 0 ∨ rDone s = 2 := by unfold rDone; split <;> simp

/-- What an ask leaves. -/
def Asked (w : World) (ok : Nat → Prop) (g q : Nat) (ab : Option Addr) (cb : Nat) (L : List UInt8) (s : RS) (e : Ending) (w' : World) : Prop :=
  e = .returned (.bool true) ∧ Both w' ok g q ab cb L s ∧ Ch (Two g q) w w'

theorem rText_nil (w : World) {q : Nat} {ab : Option Addr} {cb : Nat} (L : List UInt8) (s : RS) (hs : St w q ab cb L s) (h : L = []) : bytes (rText s).1 = [] := by
  obtain ⟨a, _, _, h2⟩ := hs
  subst h
  have h1 : s.1 = [] := by rw [← h2]; simp
  have : (rText s).1.length ≤ s.1.length := by
    unfold rText
    exact Nat.le_trans (rTake_le _ _) (rTake_left _ _)
  rw [h1] at this
  have : (rText s).1 = [] := List.eq_nil_of_length_eq_zero (by simpa using this)
  rw [this]; rfl
set_option maxHeartbeats 1000000 in
theorem asked0 (w : World) (ok : Nat → Prop) (g q : Nat) (ab : Option Addr) (cb : Nat) (L : List UInt8) (s : RS) (d : Nat) (n : Int) (hb : Both w ok g q ab cb L s) (hf : Fast ok g q ab cb L) (hd : d < 256) (hn : n ≤ 9223372036854775807) (hq : d % 7 = 0) :
    Calls Try.prog 21 #[.pointer (some ⟨g, 0, none⟩), .pointer (some ⟨q, 0, none⟩), .agg #[.int .u8 (d : Int), .int .i64 n]] w (Asked w ok g q ab cb L ((rByte s).2)) := by
  have hi : (d : Int) % 7 = 0 := by omega
  have gW := Rd.lt hb.r
  have qW := hb.st.lt
  have b1 : ∀ c, Below w.heap.size w (w.alloc c) := fun c => (Below.refl _ _).alloc (Nat.le_refl _) _
  have hb1 := fun c => hb.below (b1 c)
  have hl := hb.len hf
  have HC := fun c => Ch.of_gr (ρ := Two g q) (b1 c)
  clear hb
  go_enter Try.func21, Try.ntmps21
  have hlt := rByte_lt s
  have hlt' : IntKind.u8.wrap ((rByte s).1 : Int) = ((rByte s).1 : Int) := by simp [IntKind.wrap, IntKind.bits, IntKind.signed]; omega
  have hlt2 : ((rByte s).1 : Int) % 256 = ((rByte s).1 : Int) := by omega
  go_wp2_with fail
  refine (get_byte _ ok g s (hb1 _).r hl).mono ?_
  rintro e w1 ⟨rfl, r1, g1⟩
  go_wp2_with fail
  refine (ref_take _ q 1 ab cb L s ((hb1 _).st.aside hf g1) (sl_g (hb1 _).sl hf g1) hf.hq (by decide) hf.len).mono ?_
  rintro e w2 ⟨v2, rfl, hs2, _, st2, g2⟩
  go_wp2_with fail
  refine (refvalue_any _ _ _ hs2 (Nat.le_trans (rTake_length 1 s) (by decide))).mono ?_
  rintro e w3 ⟨rfl, rfl⟩
  change Rs w1 ok g (rTake 1 s).2 at r1
  rw [show val (rTake 1 s).1 = (rByte s).1 from rfl]
  go_wp2
  go_ret
  exact ⟨rfl, ⟨r1.aside hf g2, st2, sl_q (sl_g (hb1 _).sl hf g1) hf g2⟩, ((HC _).trans (two_g g1)).trans (two_q g2)⟩

set_option maxHeartbeats 1000000 in
theorem asked1 (w : World) (ok : Nat → Prop) (g q : Nat) (ab : Option Addr) (cb : Nat) (L : List UInt8) (s : RS) (d : Nat) (n : Int) (hb : Both w ok g q ab cb L s) (hf : Fast ok g q ab cb L) (hd : d < 256) (hn : n ≤ 9223372036854775807) (hq : d % 7 = 1) :
    Calls Try.prog 21 #[.pointer (some ⟨g, 0, none⟩), .pointer (some ⟨q, 0, none⟩), .agg #[.int .u8 (d : Int), .int .i64 n]] w (Asked w ok g q ab cb L ((rUint s).2)) := by
  have hi : (d : Int) % 7 = 1 := by omega
  have gW := Rd.lt hb.r
  have qW := hb.st.lt
  have b1 : ∀ c, Below w.heap.size w (w.alloc c) := fun c => (Below.refl _ _).alloc (Nat.le_refl _) _
  have hb1 := fun c => hb.below (b1 c)
  have hl := hb.len hf
  have HC := fun c => Ch.of_gr (ρ := Two g q) (b1 c)
  clear hb
  go_enter Try.func21, Try.ntmps21
  go_wp2_with fail
  refine (get_uint _ ok g s (hb1 _).r hl).mono ?_
  rintro e w1 ⟨rfl, r1, g1⟩
  go_wp2_with fail
  refine (ref_uint _ q ab cb L s ((hb1 _).st.aside hf g1) (sl_g (hb1 _).sl hf g1) hf.hq hf.len).mono ?_
  rintro e w2 ⟨rfl, st2, g2⟩
  go_wp2
  go_ret
  exact ⟨rfl, ⟨r1.aside hf g2, st2, sl_q (sl_g (hb1 _).sl hf g1) hf g2⟩, ((HC _).trans (two_g g1)).trans (two_q g2)⟩

set_option maxHeartbeats 1000000 in
theorem asked2 (w : World) (ok : Nat → Prop) (g q : Nat) (ab : Option Addr) (cb : Nat) (L : List UInt8) (s : RS) (d : Nat) (n : Int) (hb : Both w ok g q ab cb L s) (hf : Fast ok g q ab cb L) (hd : d < 256) (hn : n ≤ 9223372036854775807) (hq : d % 7 = 2) :
    Calls Try.prog 21 #[.pointer (some ⟨g, 0, none⟩), .pointer (some ⟨q, 0, none⟩), .agg #[.int .u8 (d : Int), .int .i64 n]] w (Asked w ok g q ab cb L ((rUint s).2)) := by
  have hi : (d : Int) % 7 = 2 := by omega
  have gW := Rd.lt hb.r
  have qW := hb.st.lt
  have b1 : ∀ c, Below w.heap.size w (w.alloc c) := fun c => (Below.refl _ _).alloc (Nat.le_refl _) _
  have hb1 := fun c => hb.below (b1 c)
  have hl := hb.len hf
  have HC := fun c => Ch.of_gr (ρ := Two g q) (b1 c)
  clear hb
  go_enter Try.func21, Try.ntmps21
  have hwr : IntKind.i64.wrap ((rUint s).1 : Int) = i64 (rUint s).1 := by rw [IntKind.wrap_i64]; unfold i64 wrap64; omega
  go_wp2_with fail
  refine (get_int _ ok g s (hb1 _).r hl).mono ?_
  rintro e w1 ⟨rfl, r1, g1⟩
  go_wp2_with fail
  refine (ref_uint _ q ab cb L s ((hb1 _).st.aside hf g1) (sl_g (hb1 _).sl hf g1) hf.hq hf.len).mono ?_
  rintro e w2 ⟨rfl, st2, g2⟩
  go_wp2
  go_ret
  exact ⟨rfl, ⟨r1.aside hf g2, st2, sl_q (sl_g (hb1 _).sl hf g1) hf g2⟩, ((HC _).trans (two_g g1)).trans (two_q g2)⟩

set_option maxHeartbeats 1000000 in
theorem asked6 (w : World) (ok : Nat → Prop) (g q : Nat) (ab : Option Addr) (cb : Nat) (L : List UInt8) (s : RS) (d : Nat) (n : Int) (hb : Both w ok g q ab cb L s) (hf : Fast ok g q ab cb L) (hd : d < 256) (hn : n ≤ 9223372036854775807) (hq : d % 7 = 6) :
    Calls Try.prog 21 #[.pointer (some ⟨g, 0, none⟩), .pointer (some ⟨q, 0, none⟩), .agg #[.int .u8 (d : Int), .int .i64 n]] w (Asked w ok g q ab cb L (s)) := by
  have hi : (d : Int) % 7 = 6 := by omega
  have gW := Rd.lt hb.r
  have qW := hb.st.lt
  have b1 : ∀ c, Below w.heap.size w (w.alloc c) := fun c => (Below.refl _ _).alloc (Nat.le_refl _) _
  have hb1 := fun c => hb.below (b1 c)
  have hl := hb.len hf
  have HC := fun c => Ch.of_gr (ρ := Two g q) (b1 c)
  clear hb
  go_enter Try.func21, Try.ntmps21
  rcases rDone_or s with h0 | h0
  · go_wp2_with fail
    refine (get_done _ ok g s (hb1 _).r hl).mono ?_
    rintro e w8 ⟨rfl, rfl⟩
    rw [h0]
    go_wp2_with fail
    refine (ref_done _ q ab cb L s (hb1 _).st hf.len).mono ?_
    rintro e w8 ⟨rfl, h8⟩
    have b8 := (hb1 _).below h8
    rw [h0]
    go_wp2_with fail
    refine (ref_done _ q ab cb L s b8.st hf.len).mono ?_
    rintro e w9 ⟨rfl, h9⟩
    have b9 := b8.below h9
    rw [h0]
    go_wp2
    go_ret
    exact ⟨rfl, b9, ((HC _).trans (Ch.of_gr h8)).trans (Ch.of_gr h9)⟩
  · go_wp2_with fail
    refine (get_done _ ok g s (hb1 _).r hl).mono ?_
    rintro e w8 ⟨rfl, rfl⟩
    rw [h0]
    go_wp2_with fail
    refine (ref_done _ q ab cb L s (hb1 _).st hf.len).mono ?_
    rintro e w8 ⟨rfl, h8⟩
    have b8 := (hb1 _).below h8
    rw [h0]
    go_wp2_with fail
    refine (ref_done _ q ab cb L s b8.st hf.len).mono ?_
    rintro e w9 ⟨rfl, h9⟩
    have b9 := b8.below h9
    rw [h0]
    go_wp2_with fail
    refine (get_done _ ok g s b9.r (b9.len hf)).mono ?_
    rintro e w8 ⟨rfl, rfl⟩
    rw [h0]
    go_wp2
    go_ret
    exact ⟨rfl, b9, ((HC _).trans (Ch.of_gr h8)).trans (Ch.of_gr h9)⟩

set_option maxHeartbeats 1000000 in
theorem asked5 (w : World) (ok : Nat → Prop) (g q : Nat) (ab : Option Addr) (cb : Nat) (L : List UInt8) (s : RS) (d : Nat) (n : Int) (hb : Both w ok g q ab cb L s) (hf : Fast ok g q ab cb L) (hd : d < 256) (hn : n ≤ 9223372036854775807) (hq : d % 7 = 5) :
    Calls Try.prog 21 #[.pointer (some ⟨g, 0, none⟩), .pointer (some ⟨q, 0, none⟩), .agg #[.int .u8 (d : Int), .int .i64 n]] w (Asked w ok g q ab cb L (rBad s)) := by
  have hi : (d : Int) % 7 = 5 := by omega
  have gW := Rd.lt hb.r
  have qW := hb.st.lt
  have b1 : ∀ c, Below w.heap.size w (w.alloc c) := fun c => (Below.refl _ _).alloc (Nat.le_refl _) _
  have hb1 := fun c => hb.below (b1 c)
  have hl := hb.len hf
  have HC := fun c => Ch.of_gr (ρ := Two g q) (b1 c)
  clear hb
  go_enter Try.func21, Try.ntmps21
  go_wp2_with fail
  refine (get_bad _ ok g s (hb1 _).r).mono ?_
  rintro e w1 ⟨rfl, r1, g1⟩
  have st1 := (hb1 _).st.aside hf g1
  have e2 : w1.cell? ⟨q, 2, none⟩ = some (.bool s.2) := by obtain ⟨_, hh, _⟩ := st1; rw [cell_of_block hh]; rfl
  have f2 : w1.frozen? ⟨q, 2, none⟩ = false := by obtain ⟨_, hh, _⟩ := st1; exact unfrozen_of_block hh 2
  have g2 := grownBy_setCell w1 q 2 (.bool true)
  have b5 : Both (w1.setCell ⟨q, 2, none⟩ (.bool true)) ok g q ab cb L (rBad s) := ⟨r1.aside hf g2, ref_bad _ _ _ _ _ _ st1, sl_q (sl_g (hb1 _).sl hf g1) hf g2⟩
  have C5 := ((HC _).trans (two_g g1)).trans (two_q (g := g) g2)
  clear st1 r1 g1 g2 hb1 HC
  rcases rDone_or (rBad s) with h0 | h0
  · go_wp2_with fail
    refine (get_done _ ok g (rBad s) b5.r (b5.len hf)).mono ?_
    rintro e w8 ⟨rfl, rfl⟩
    rw [h0]
    go_wp2_with fail
    refine (ref_done _ q ab cb L (rBad s) b5.st hf.len).mono ?_
    rintro e w8 ⟨rfl, h8⟩
    have b8 := b5.below h8
    rw [h0]
    go_wp2_with fail
    refine (ref_done _ q ab cb L (rBad s) b8.st hf.len).mono ?_
    rintro e w9 ⟨rfl, h9⟩
    have b9 := b8.below h9
    rw [h0]
    go_wp2
    go_ret
    exact ⟨rfl, b9, (C5.trans (Ch.of_gr h8)).trans (Ch.of_gr h9)⟩
  · go_wp2_with fail
    refine (get_done _ ok g (rBad s) b5.r (b5.len hf)).mono ?_
    rintro e w8 ⟨rfl, rfl⟩
    rw [h0]
    go_wp2_with fail
    refine (ref_done _ q ab cb L (rBad s) b5.st hf.len).mono ?_
    rintro e w8 ⟨rfl, h8⟩
    have b8 := b5.below h8
    rw [h0]
    go_wp2_with fail
    refine (ref_done _ q ab cb L (rBad s) b8.st hf.len).mono ?_
    rintro e w9 ⟨rfl, h9⟩
    have b9 := b8.below h9
    rw [h0]
    go_wp2_with fail
    refine (get_done _ ok g (rBad s) b9.r (b9.len hf)).mono ?_
    rintro e w8 ⟨rfl, rfl⟩
    rw [h0]
    go_wp2
    go_ret
    exact ⟨rfl, b9, (C5.trans (Ch.of_gr h8)).trans (Ch.of_gr h9)⟩

set_option maxHeartbeats 1000000 in
theorem asked3 (w : World) (ok : Nat → Prop) (g q : Nat) (ab : Option Addr) (cb : Nat) (L : List UInt8) (s : RS) (d : Nat) (n : Int) (hb : Both w ok g q ab cb L s) (hf : Fast ok g q ab cb L) (hd : d < 256) (hn : n ≤ 9223372036854775807) (hq : d % 7 = 3) :
    Calls Try.prog 21 #[.pointer (some ⟨g, 0, none⟩), .pointer (some ⟨q, 0, none⟩), .agg #[.int .u8 (d : Int), .int .i64 n]] w (Asked w ok g q ab cb L ((rText s).2)) := by
  have hi : (d : Int) % 7 = 3 := by omega
  have gW := Rd.lt hb.r
  have qW := hb.st.lt
  have b1 : ∀ c, Below w.heap.size w (w.alloc c) := fun c => (Below.refl _ _).alloc (Nat.le_refl _) _
  have hb1 := fun c => hb.below (b1 c)
  have hl := hb.len hf
  have HC := fun c => Ch.of_gr (ρ := Two g q) (b1 c)
  clear hb
  go_enter Try.func21, Try.ntmps21
  go_wp2
  generalize hW1 : w.alloc (Obj.cells #[Value.int IntKind.u8 ↑d, Value.int IntKind.i64 n] 51) = W1
  have bb : Below w.heap.size w W1 := by rw [← hW1]; exact b1 _
  have b2 : Below W1.heap.size W1 W1.drew := below_drewN (Below.refl _ _) 1
  have hb2 : Both W1.drew ok g q ab cb L s := by have := hb1 (Obj.cells #[Value.int IntKind.u8 ↑d, Value.int IntKind.i64 n] 51); rw [hW1] at this; exact this.below b2
  have hc2 : Ch (Two g q) w W1.drew := (Ch.of_gr bb).trans (Ch.of_gr b2)
  have c1 : W1.drew.cell? ⟨w.heap.size, 1, none⟩ = some (.int .i64 n) := cell_new2 (w := w) (w' := W1.drew) w.heap.size [.int .u8 (d : Int), .int .i64 n] 51 (0, 0) rfl (by rw [← hW1]; exact below_drewN (Below.refl _ _) 1) 1 _ rfl
  have hlt : w.heap.size < W1.drew.heap.size := by rw [← hW1]; simp
  have hng : ¬ Two g q w.heap.size := by rintro (h | h) <;> omega
  clear hb1 HC hW1 b1
  apply wp_region_draw_turn (Two g q) (fun k W => match k with | 0 => Both W ok g q ab cb L s | 1 => Rs W ok g (rText s).2 ∧ St W q ab cb L s ∧ Sl W (.slice ab L.length cb) (bytes L) | _ => Both W ok g q ab cb L (rText s).2) (.eq _ :: .use (fun v W => Sl W v (bytes (rText s).1) ∧ (bytes (rText s).1 = [] ∨ ∀ k, v.ownBlock = some k → ¬ Two g q k)) :: .eq _ :: .eq _ :: .use (fun v W => Sl W v (bytes (rText s).1) ∧ (bytes (rText s).1 = [] ∨ ∀ k, v.ownBlock = some k → ¬ Two g q k)) :: .eq _ :: .eq _ :: .eq _ :: []) (by kernel_rfl) (by kernel_rfl) (by kernel_rfl) ⟨fun v a b hc h => ⟨sl_chN h.1 hc h.2, h.2⟩, fun v a b hc h => ⟨sl_chN h.1 hc h.2, h.2⟩, trivial⟩ (fun k W W' hG h => match k, h with | 0, h => h.below hG | 1, h => ⟨Rd.grown h.1 (below_grownBy hG none) (by simp), h.2.1.ch (Ch.of_gr (ρ := fun _ => False) hG) (by simp), h.2.2.below hG⟩ | _ + 2, h => h.below hG) (hb2)
  apply wpT_eq
  · intro W hW _
    unfold opT
    go_simp
    exact resT_eq_mk _ _ _
  simp only [Act.put, List.setIfInBounds_toArray, List.set_cons_zero, List.set_cons_succ]
  apply wpT_use
  · intro W hW hS hs
    have hgW := Rd.lt hS.r
    have hqW := hS.st.lt
    unfold opT
    go_simp
    refine resT_call ((get_text _ ok g s hS.r hl).mono ?_)
    rintro e W2 ⟨v2, rfl, ho2, hr2, hg2⟩
    exact ⟨v2, rfl, ⟨two_g hg2, hr2, hS.st.aside hf hg2, sl_g hS.sl hf hg2⟩, ho2.sl, .inr fun k hk => by have := (World.ownsRow.lt ho2 _ hk).1; exact ⟨by omega, by omega⟩⟩
  intro vt
  simp only [Act.put, List.setIfInBounds_toArray, List.set_cons_zero, List.set_cons_succ]
  apply wpT_eq
  · intro W hW hs
    have h1 := run_string_sl (P := Try.prog) 23 5 9 Try.underlying23 Try.underlying5 Try.underlying9 (hs _ (List.mem_cons_self ..) rfl).1
    unfold opT
    go_simp
    exact resT_eq_mk _ _ _
  simp only [Act.put, List.setIfInBounds_toArray, List.set_cons_zero, List.set_cons_succ]
  apply wpT_eq
  · intro W hW _
    unfold opT
    go_simp
    exact resT_eq_mk _ _ _
  simp only [Act.put, List.setIfInBounds_toArray, List.set_cons_zero, List.set_cons_succ]
  apply wpT_use
  · intro W hW hS hs
    unfold opT
    go_simp
    refine resT_call ((ref_text _ q ab cb L s hS.2.1 hS.2.2 hf.hq hf.len).mono ?_)
    rintro e W2 ⟨v2, rfl, hs2, ho2, hst2, hg2⟩
    exact ⟨v2, rfl, ⟨two_q hg2, Rs.aside hS.1 hf hg2, hst2, sl_q hS.2.2 hf hg2⟩, hs2, by
      rcases ho2 with h | h
      · exact .inl h
      rcases hf.hg with h1 | h1
      · left; have : L = [] := by simpa [bytes] using h1
        exact rText_nil _ _ _ hS.2.1 this
      rcases hf.hq with h3 | h3
      · left; have : L = [] := by simpa [bytes] using h3
        exact rText_nil _ _ _ hS.2.1 this
      right; intro k hk; have := h k hk; exact ⟨h1 k this, h3 k this⟩⟩
  intro vu
  simp only [Act.put, List.setIfInBounds_toArray, List.set_cons_zero, List.set_cons_succ]
  apply wpT_eq
  · intro W hW hs
    have h1 := run_string_sl (P := Try.prog) 23 5 9 Try.underlying23 Try.underlying5 Try.underlying9 (hs _ (List.mem_cons_self ..) rfl).1
    unfold opT
    go_simp
    exact resT_eq_mk _ _ _
  simp only [Act.put, List.setIfInBounds_toArray, List.set_cons_zero, List.set_cons_succ]
  apply wpT_eq
  · intro W hW _
    unfold opT
    go_simp
    exact resT_eq_mk _ _ _
  simp only [Act.put, List.setIfInBounds_toArray, List.set_cons_zero, List.set_cons_succ]
  apply wpT_eq
  · intro W hW _
    unfold opT
    go_simp
    exact resT_eq_mk _ _ _
  simp only [Act.put, List.setIfInBounds_toArray, List.set_cons_zero, List.set_cons_succ]
  apply wpT_nil
  intro W9 hW9 hS9 hsAll
  go_wp2
  go_ret
  exact ⟨rfl, hS9, hc2.trans hW9⟩

set_option maxHeartbeats 1000000 in
theorem asked4 (w : World) (ok : Nat → Prop) (g q : Nat) (ab : Option Addr) (cb : Nat) (L : List UInt8) (s : RS) (d : Nat) (n : Int) (hb : Both w ok g q ab cb L s) (hf : Fast ok g q ab cb L) (hd : d < 256) (hn : n ≤ 9223372036854775807) (hq : d % 7 = 4) :
    Calls Try.prog 21 #[.pointer (some ⟨g, 0, none⟩), .pointer (some ⟨q, 0, none⟩), .agg #[.int .u8 (d : Int), .int .i64 n]] w (Asked w ok g q ab cb L ((rCount n s).2)) := by
  have hi : (d : Int) % 7 = 4 := by omega
  have gW := Rd.lt hb.r
  have qW := hb.st.lt
  have b1 : ∀ c, Below w.heap.size w (w.alloc c) := fun c => (Below.refl _ _).alloc (Nat.le_refl _) _
  have hb1 := fun c => hb.below (b1 c)
  have hl := hb.len hf
  have HC := fun c => Ch.of_gr (ρ := Two g q) (b1 c)
  clear hb
  go_enter Try.func21, Try.ntmps21
  go_wp2
  generalize hW1 : w.alloc (Obj.cells #[Value.int IntKind.u8 ↑d, Value.int IntKind.i64 n] 51) = W1
  have bb : Below w.heap.size w W1 := by rw [← hW1]; exact b1 _
  have b2 : Below W1.heap.size W1 W1.drew := below_drewN (Below.refl _ _) 1
  have hb2 : Both W1.drew ok g q ab cb L s := by have := hb1 (Obj.cells #[Value.int IntKind.u8 ↑d, Value.int IntKind.i64 n] 51); rw [hW1] at this; exact this.below b2
  have hc2 : Ch (Two g q) w W1.drew := (Ch.of_gr bb).trans (Ch.of_gr b2)
  have c1 : W1.drew.cell? ⟨w.heap.size, 1, none⟩ = some (.int .i64 n) := cell_new2 (w := w) (w' := W1.drew) w.heap.size [.int .u8 (d : Int), .int .i64 n] 51 (0, 0) rfl (by rw [← hW1]; exact below_drewN (Below.refl _ _) 1) 1 _ rfl
  have hlt : w.heap.size < W1.drew.heap.size := by rw [← hW1]; simp
  have hng : ¬ Two g q w.heap.size := by rintro (h | h) <;> omega
  clear hb1 HC hW1 b1
  have hsm := i64_small _ (rCount_le n s hn)
  apply wp_region_draw_turn (Two g q) (fun k W => match k with | 0 => Both W ok g q ab cb L s | 1 => Rs W ok g (rCount n s).2 ∧ St W q ab cb L s ∧ Sl W (.slice ab L.length cb) (bytes L) | _ => Both W ok g q ab cb L (rCount n s).2) (.eq _ :: .eq _ :: .eq _ :: .useEq _ :: .eq _ :: .eq _ :: .eq _ :: .useEq _ :: .eq _ :: .eq _ :: []) (by kernel_rfl) (by kernel_rfl) (by kernel_rfl) trivial (fun k W W' hG h => match k, h with | 0, h => h.below hG | 1, h => ⟨Rd.grown h.1 (below_grownBy hG none) (by simp), h.2.1.ch (Ch.of_gr (ρ := fun _ => False) hG) (by simp), h.2.2.below hG⟩ | _ + 2, h => h.below hG) (hb2)
  apply wpT_eq
  · intro W hW _
    unfold opT
    go_simp
    exact resT_eq_mk _ _ _
  simp only [Act.put, List.setIfInBounds_toArray, List.set_cons_zero, List.set_cons_succ]
  apply wpT_eq
  · intro W hW _
    unfold opT
    go_simp
    exact resT_eq_mk _ _ _
  simp only [Act.put, List.setIfInBounds_toArray, List.set_cons_zero, List.set_cons_succ]
  apply wpT_eq
  · intro W hW _
    have h1 := (hW.cell (p := ⟨w.heap.size, 1, none⟩) hlt hng).trans c1
    unfold opT
    go_simp
    exact resT_eq_mk _ _ _
  simp only [Act.put, List.setIfInBounds_toArray, List.set_cons_zero, List.set_cons_succ]
  apply wpT_useEq
  · intro W hW hS hs
    unfold opT
    go_simp
    refine resT_call ((get_count _ ok g s n hn hS.r hl).mono ?_)
    rintro e W2 ⟨rfl, hr2, hg2⟩
    exact ⟨_, rfl, ⟨two_g hg2, hr2, hS.st.aside hf hg2, sl_g hS.sl hf hg2⟩, rfl⟩
  simp only [Act.put, List.setIfInBounds_toArray, List.set_cons_zero, List.set_cons_succ]
  apply wpT_eq
  · intro W hW _
    unfold opT
    go_simp
    exact resT_eq_mk _ _ _
  simp only [Act.put, List.setIfInBounds_toArray, List.set_cons_zero, List.set_cons_succ]
  apply wpT_eq
  · intro W hW _
    unfold opT
    go_simp
    exact resT_eq_mk _ _ _
  simp only [Act.put, List.setIfInBounds_toArray, List.set_cons_zero, List.set_cons_succ]
  apply wpT_eq
  · intro W hW _
    have h1 := (hW.cell (p := ⟨w.heap.size, 1, none⟩) hlt hng).trans c1
    unfold opT
    go_simp
    exact resT_eq_mk _ _ _
  simp only [Act.put, List.setIfInBounds_toArray, List.set_cons_zero, List.set_cons_succ]
  apply wpT_useEq
  · intro W hW hS hs
    unfold opT
    go_simp
    refine resT_call ((ref_count _ q ab cb L s n hn hS.2.1 hS.2.2 hf.hq hf.len).mono ?_)
    rintro e W2 ⟨rfl, hst2, hg2⟩
    exact ⟨_, rfl, ⟨two_q hg2, Rs.aside hS.1 hf hg2, hst2, sl_q hS.2.2 hf hg2⟩, rfl⟩
  simp only [Act.put, List.setIfInBounds_toArray, List.set_cons_zero, List.set_cons_succ]
  apply wpT_eq
  · intro W hW _
    unfold opT
    go_simp
    exact resT_eq_mk _ _ _
  simp only [Act.put, List.setIfInBounds_toArray, List.set_cons_zero, List.set_cons_succ]
  apply wpT_eq
  · intro W hW _
    unfold opT
    go_simp
    exact resT_eq_mk _ _ _
  simp only [Act.put, List.setIfInBounds_toArray, List.set_cons_zero, List.set_cons_succ]
  apply wpT_nil
  intro W9 hW9 hS9 hsAll
  go_wp2
  go_ret
  exact ⟨rfl, hS9, hc2.trans hW9⟩

theorem asked_any (w : World) (ok : Nat → Prop) (g q : Nat) (ab : Option Addr) (cb : Nat) (L : List UInt8) (s : RS) (d : Nat) (n : Int) (hb : Both w ok g q ab cb L s) (hf : Fast ok g q ab cb L) (hd : d < 256) (hn : n ≤ 9223372036854775807) :
    Calls Try.prog 21 #[.pointer (some ⟨g, 0, none⟩), .pointer (some ⟨q, 0, none⟩), .agg #[.int .u8 (d : Int), .int .i64 n]] w (Asked w ok g q ab cb L (rAsk d n s)) := by
  have h7 : d % 7 = 0 ∨ d % 7 = 1 ∨ d % 7 = 2 ∨ d % 7 = 3 ∨ d % 7 = 4 ∨ d % 7 = 5 ∨ d % 7 = 6 := by omega
  unfold rAsk
  rcases h7 with h | h | h | h | h | h | h
  · rw [if_pos h]; exact asked0 w ok g q ab cb L s d n hb hf hd hn h
  · rw [if_neg (show ¬ d % 7 = 0 by omega), if_pos h]; exact asked1 w ok g q ab cb L s d n hb hf hd hn h
  · rw [if_neg (show ¬ d % 7 = 0 by omega), if_neg (show ¬ d % 7 = 1 by omega), if_pos h]; exact asked2 w ok g q ab cb L s d n hb hf hd hn h
  · rw [if_neg (show ¬ d % 7 = 0 by omega), if_neg (show ¬ d % 7 = 1 by omega), if_neg (show ¬ d % 7 = 2 by omega), if_pos h]; exact asked3 w ok g q ab cb L s d n hb hf hd hn h
  · rw [if_neg (show ¬ d % 7 = 0 by omega), if_neg (show ¬ d % 7 = 1 by omega), if_neg (show ¬ d % 7 = 2 by omega), if_neg (show ¬ d % 7 = 3 by omega), if_pos h]; exact asked4 w ok g q ab cb L s d n hb hf hd hn h
  · rw [if_neg (show ¬ d % 7 = 0 by omega), if_neg (show ¬ d % 7 = 1 by omega), if_neg (show ¬ d % 7 = 2 by omega), if_neg (show ¬ d % 7 = 3 by omega), if_neg (show ¬ d % 7 = 4 by omega), if_pos h]; exact asked5 w ok g q ab cb L s d n hb hf hd hn h
  · rw [if_neg (show ¬ d % 7 = 0 by omega), if_neg (show ¬ d % 7 = 1 by omega), if_neg (show ¬ d % 7 = 2 by omega), if_neg (show ¬ d % 7 = 3 by omega), if_neg (show ¬ d % 7 = 4 by omega), if_neg (show ¬ d % 7 = 5 by omega)]; exact asked6 w ok g q ab cb L s d n hb hf hd hn h
end Go.Proofs.Ytiafpnibppjidaa
