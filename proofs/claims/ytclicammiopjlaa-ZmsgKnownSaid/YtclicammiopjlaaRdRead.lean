/-
  What a reader of wire reads: its state is the bytes that are left, and whether it is bad.
-/
import Derived.Test.YtclicammiopjlaaWirePut
import Derived.Laws.Bits64
set_option linter.unusedVariables false
namespace Go.Proofs.Ytclicammiopjlaa
open Go.RowKit

/-- From b on. -/
abbrev From (b : Nat) : Nat → Prop := fun k => b ≤ k
/-- Block g is a reader: the bytes l are left; it is bad, or not. All of it lies where base holds. -/
def Rd (w : World) (base : Nat → Prop) (g : Nat) (l : List UInt8) (bad : Bool) : Prop :=
  base g ∧ ∃ sv, w.heap[g]? = some (.cells #[sv, .bool bad] 69 (0, 0)) ∧ Sl w sv (bytes l) ∧ sv.ownBlock ≠ some g ∧ (∀ k, sv.ownBlock = some k → base k)

theorem cell_of_block {w : World} {g : Nat} {cs : Array Value} {t : TypeId} {fr : Nat × Nat} (h : w.heap[g]? = some (.cells cs t fr)) (i : Nat) : w.cell? ⟨g, i, none⟩ = cs[i]? := by simp [World.cell?, h]
theorem unfrozen_of_block {w : World} {g : Nat} {cs : Array Value} {t : TypeId} (h : w.heap[g]? = some (.cells cs t (0, 0))) (i : Nat) : w.frozen? ⟨g, i, none⟩ = false := by simp [World.frozen?, h]
theorem block_setCell {w : World} {g i : Nat} {cs : Array Value} {t : TypeId} {fr : Nat × Nat} (h : w.heap[g]? = some (.cells cs t fr)) (v : Value) : (w.setCell ⟨g, i, none⟩ v).heap[g]? = some (.cells (cs.setIfInBounds i v) t fr) := by
  simp [World.setCell, Array.getElem?_modify, h]
theorem block_lt {w : World} {g : Nat} {o : Obj} (h : w.heap[g]? = some o) : g < w.heap.size := (Array.getElem?_eq_some_iff.1 h).1
theorem grownBy_setCell (w : World) (g i : Nat) (v : Value) : w.grownBy (w.setCell ⟨g, i, none⟩ v) (some g) :=
  ⟨rfl, rfl, rfl, by simp, fun k hk hne => Below.heap_setCell w ⟨g, i, none⟩ v k (fun e => hne (by rw [e]))⟩

theorem Rd.lt {w : World} {base : Nat → Prop} {g : Nat} {l : List UInt8} {bad : Bool} (h : Rd w base g l bad) : g < w.heap.size := by
  obtain ⟨_, sv, hh, _⟩ := h
  exact block_lt hh

/-- A reader stays while neither its struct nor its bytes are written. -/
theorem Rd.grown {w w' : World} {base : Nat → Prop} {g : Nat} {l : List UInt8} {bad : Bool} {row : Option Nat} (h : Rd w base g l bad) (hg : w.grownBy w' row) (hr : ∀ k, row = some k → ¬ base k) : Rd w' base g l bad := by
  obtain ⟨h0, sv, hh, hs, hne, hb⟩ := h
  refine ⟨h0, sv, ?_, hs.grown hg ?_, hne, hb⟩
  · rw [hg.block g (block_lt hh) (fun e => hr g e.symm h0)]; exact hh
  · cases hv : sv.ownBlock with
    | none => exact .inl rfl
    | some k => right; intro e; exact hr k e.symm (hb k hv)

theorem Rd.mono {w : World} {base base' : Nat → Prop} {g : Nat} {l : List UInt8} {bad : Bool} (h : Rd w base g l bad) (hb : ∀ k, base k → base' k) : Rd w base' g l bad := by
  obtain ⟨h0, sv, hh, hs, hne, hk⟩ := h
  exact ⟨hb _ h0, sv, hh, hs, hne, fun k h => hb _ (hk k h)⟩

theorem bytes_drop (l : List UInt8) (k : Nat) : (bytes l).drop k = bytes (l.drop k) := by simp [bytes, List.map_drop]

/-- What becomes of a reader of which n bytes are taken. -/
def rdTake (n : Nat) (l : List UInt8) (bad : Bool) : List UInt8 := if bad || decide (l.length < n) then [] else l.take n
def rdLeft (n : Nat) (l : List UInt8) (bad : Bool) : List UInt8 := if bad || decide (l.length < n) then l else l.drop n
def rdBad (n : Nat) (l : List UInt8) (bad : Bool) : Bool := bad || decide (l.length < n)
def val (l : List UInt8) : Nat := l.foldl (fun v c => v * 256 + c.toNat) 0
theorem val_snoc (l : List UInt8) (c : UInt8) : val (l ++ [c]) = val l * 256 + c.toNat := by simp [val]
theorem foldl_lt (l : List UInt8) : ∀ v : Nat, l.foldl (fun v c => v * 256 + c.toNat) v < (v + 1) * 256 ^ l.length := by
  induction l with
  | nil => intro v; simp
  | cons c l ih =>
    intro v
    have h := ih (v * 256 + c.toNat)
    have hc := c.toNat_lt
    rw [List.foldl_cons, List.length_cons, Nat.pow_succ]
    refine Nat.lt_of_lt_of_le h ?_
    rw [Nat.mul_comm (256 ^ l.length) 256, ← Nat.mul_assoc]
    exact Nat.mul_le_mul_right _ (by omega)
theorem val_lt (l : List UInt8) : val l < 256 ^ l.length := by have := foldl_lt l 0; simpa [val] using this
theorem val_lt8 (l : List UInt8) (h : l.length ≤ 8) : val l < 2 ^ 64 :=
  Nat.lt_of_lt_of_le (val_lt l) (by have := Nat.pow_le_pow_right (n := 256) (by decide) h; exact Nat.le_trans this (by decide))
theorem val_take_lt (l : List UInt8) (k : Nat) (h : k ≤ 7) : val (l.take k) < 2 ^ 56 :=
  Nat.lt_of_lt_of_le (val_lt _) (by have := Nat.pow_le_pow_right (n := 256) (by decide) (show (l.take k).length ≤ 7 by simp; omega); exact Nat.le_trans this (by decide))
theorem val_take_succ (l : List UInt8) (k : Nat) (h : k < l.length) : val (l.take (k + 1)) = val (l.take k) * 256 + l[k].toNat := by
  rw [List.take_succ_eq_append_getElem h, val_snoc]
theorem or_word (v : Nat) (c : UInt8) (h : v < 2 ^ 56) : bits .or .u64 (IntKind.u64.wrap ((v : Int) * 256)) (IntKind.u64.wrap (c.toNat : Int)) = ((v * 256 + c.toNat : Nat) : Int) := by
  have hc := c.toNat_lt
  have e1 : IntKind.u64.wrap ((v : Int) * 256) = ((v * 256 : Nat) : Int) := by rw [IntKind.wrap_u64]; omega
  have e2 : IntKind.u64.wrap (c.toNat : Int) = ((c.toNat : Nat) : Int) := by rw [IntKind.wrap_u64]; omega
  rw [e1, e2]
  have := bits_join .u64 64 (by decide) (fun n h0 h1 => by rw [IntKind.wrap_u64]; omega) 8 ((v * 256 : Nat) : Int) ((c.toNat : Nat) : Int) (by omega) (by omega) (by omega) (by omega) (by omega) (by omega)
  rw [this]
  omega

def RetReader (w : World) (l : List UInt8) (en : Ending) (w' : World) : Prop := ∃ g, en = .returned (.pointer (some ⟨g, 0, none⟩)) ∧ Rd w' (From w.heap.size) g l false ∧ Below w.heap.size w w'

set_option maxHeartbeats 400000 in
theorem new_any (v : Value) (l : List UInt8) (w : World) (hs : Sl w v (bytes l)) (hl : l.length ≤ 1000000000) :
    Calls Try.prog 24 #[v] w (RetReader w l) := by
  go_enter Try.func24, Try.ntmps24
  go_wp2_with fail
  refine (clone_any _ l _ hs (by omega)).mono ?_
  rintro e w1 ⟨v1, rfl, hown1, hb1⟩
  obtain ⟨a1, c1, rfl⟩ := hown1.shape
  go_wp2
  go_ret
  have hs1 := hown1.sl.below ((Below.refl _ _).alloc (Nat.le_refl _) (.cells #[.slice a1 (bytes l).length c1, .bool false] 69))
  refine ⟨w1.heap.size, rfl, ⟨hb1.size, _, heap_alloc_new w1 _, hs1, ?_, fun k hk => hown1.ownBlock_ge k hk⟩, hb1.alloc hb1.size _⟩
  intro h
  have := (World.ownsRow.lt hown1 _ h).2
  omega

set_option maxHeartbeats 400000 in
theorem value_any (v : Value) (l : List UInt8) (w : World) (hs : Sl w v (bytes l)) (hl : l.length ≤ 8) :
    Calls Try.prog 44 #[v] w fun e w' => e = .returned (.int .u64 (val l : Int)) ∧ w = w' := by
  obtain ⟨a, cap, rfl, hcap, hc⟩ := hs.bytes
  rcases hc with rfl | ⟨b, off, rfl, hb, hc⟩
  · go_enter Try.func44, Try.ntmps44
    go_wp2
    go_loop [3, 8] (fun n i => i = .int .i64 0 ∧ n = .int .u64 0) (fun _ _ => 0)
    case atStart => exact ⟨rfl, rfl⟩
    case round =>
      obtain ⟨rfl, rfl⟩ := hrel
      go_wp2
      go_ret
      exact ⟨rfl, rfl⟩
  · go_enter Try.func44, Try.ntmps44
    go_wp2
    go_loop [3, 5, 8] (fun n c i => ∃ k : Nat, k ≤ l.length ∧ i = .int .i64 k ∧ n = .int .u64 (val (l.take k) : Int)) (fun _ _ i => l.length - (intOf i).toNat)
    case atStart => exact ⟨0, Nat.zero_le _, rfl, rfl⟩
    case round =>
      obtain ⟨k, hk, rfl, rfl⟩ := hrel
      by_cases hlt : k < l.length
      · have g := hc k hlt
        have h1 := or_word (val (l.take k)) l[k] (val_take_lt l k (by omega))
        have HT := Lib.hid (val_take_succ l k hlt)
        go_wp2
        go_round
        case rel => exact ⟨k + 1, by omega, by go_num, val_int (by rw [HT.out]; omega)⟩
        case measure => simp [intOf]; omega
      · obtain rfl : k = l.length := by omega
        go_wp2
        go_ret
        exact ⟨ret_int (by first | rfl | rw [List.take_of_length_le (Nat.le_refl _)]), rfl⟩

/-- What 'take' leaves of the reader. -/
def TakeNum (w : World) (base : Nat → Prop) (g n : Nat) (l : List UInt8) (bad : Bool) (en : Ending) (w' : World) : Prop :=
  en = .returned (.int .u64 (val (rdTake n l bad) : Int)) ∧ Rd w' base g (rdLeft n l bad) (rdBad n l bad) ∧ w.grownBy w' (some g)

theorem size_elem : ∀ w : World, (sizeOf (Try.prog.elem 27)).run Try.prog w = .ok 1 w := fun w => by kernel_rfl

set_option maxHeartbeats 400000 in
theorem take_num (w : World) (base : Nat → Prop) (g n : Nat) (l : List UInt8) (bad : Bool) (hr : Rd w base g l bad) (hn : n ≤ 8) (hl : l.length ≤ 1000000000) :
    Calls Try.prog 43 #[.pointer (some ⟨g, 0, none⟩), .int .u64 (n : Int), .func (.func 44) #[] #[]] w (TakeNum w base g n l bad) := by
  obtain ⟨hg0, sv, hh, hs, hne, hb⟩ := hr
  have c0 : w.cell? ⟨g, 0, none⟩ = some sv := by rw [cell_of_block hh]; rfl
  have c1 : w.cell? ⟨g, 1, none⟩ = some (.bool bad) := by rw [cell_of_block hh]; rfl
  have f0 := unfrozen_of_block hh 0
  have f1 := unfrozen_of_block hh 1
  cases bad with
  | true =>
    go_enter Try.func43, Try.ntmps43
    go_wp2
    go_ret
    exact ⟨by simp [rdTake, val], ⟨hg0, sv, by simpa [rdBad] using hh, by simpa [rdLeft] using hs, hne, hb⟩, below_grownBy (Below.refl _ _) _⟩
  | false =>
    obtain ⟨a, cap, rfl, hcap, hc⟩ := hs.bytes
    by_cases hlt : l.length < n
    · go_enter Try.func43, Try.ntmps43
      go_wp2
      go_ret
      refine ⟨by simp [rdTake, val, hlt], ⟨hg0, .slice a l.length cap, ?_, ?_, hne, hb⟩, grownBy_setCell _ _ _ _⟩
      · rw [block_setCell hh]; simp [rdBad, hlt]
      · simp only [rdLeft, hlt, decide_true, Bool.or_true, if_true]
        exact hs.grown (grownBy_setCell _ _ _ _) (.inr hne)
    · have hs2 : Sl w (.slice a (bytes l).length cap) (bytes l) := by rw [bytes_length]; exact hs
      have st := hs2.sliced 0 n n (Nat.zero_le _) (Nat.le_refl _) (by omega) (by rw [bytes_length]; omega)
      have sd := hs2.sliced n l.length cap (by omega) hcap (Nat.le_refl _) (by rw [bytes_length]; exact Nat.le_refl _)
      have od := ownBlock_sliced a l.length cap n l.length cap
      rw [List.drop_zero, bytes_take] at st
      rw [bytes_take, bytes_drop, List.take_of_length_le (Nat.le_refl _)] at sd
      have ot : (Value.slice a n n).ownBlock = (Value.slice a l.length cap).ownBlock := by cases a <;> rfl
      have et : Go.sliced a 0 n n 1 = .slice a n n := by
        unfold Go.sliced
        by_cases h0 : n = 0
        · subst h0; rfl
        · rw [if_neg h0]; cases a <;> simp [Addr.add]
      rw [et] at st
      have hst : ∀ u, Sl (w.setCell ⟨g, 0, none⟩ u) (.slice a n n) (bytes (l.take n)) := fun u => st.grown (grownBy_setCell _ _ _ _) (.inr (by rw [ot]; exact hne))
      have hsd : ∀ u, Sl (w.setCell ⟨g, 0, none⟩ u) (Go.sliced a n l.length cap 1) (bytes (l.drop n)) := fun u => sd.grown (grownBy_setCell _ _ _ _) (.inr (by rw [od]; exact hne))
      have HH := Lib.hid hh
      have HB := Lib.hid hb
      have HNE := Lib.hid hne
      clear hs hs2 st sd hc et hh hb hne ot
      by_cases hcn : cap = n
      · subst hcn
        have hlc : l.length = cap := by omega
        have hd : Go.sliced a cap l.length cap 1 = .slice a 0 0 := by unfold Go.sliced; rw [if_pos rfl, hlc]; simp
        rw [hd] at hsd od
        clear hd hlc
        have HSD := Lib.hid hsd
        have HOD := Lib.hid od
        clear hsd od
        go_enter Try.func43, Try.ntmps43
        go_wp2_with fail
        refine (value_any _ (l.take cap) _ (hst _) (by simp; omega)).mono ?_
        rintro e w' ⟨rfl, rfl⟩
        go_wp2
        go_ret
        refine ⟨by simp [rdTake, hlt], ⟨hg0, .slice a 0 0, ?_, ?_, ?_, ?_⟩, grownBy_setCell _ _ _ _⟩
        · rw [block_setCell HH.out]; simp [rdBad, hlt]
        · simp only [rdLeft, hlt, decide_false, Bool.or_false, Bool.false_eq_true, if_false]
          exact HSD.out _
        · rw [HOD.out]; exact HNE.out
        · intro k hk; rw [HOD.out] at hk; exact HB.out k hk
      · have hd : Go.sliced a n l.length cap 1 = .slice (a.map (·.add n)) (l.length - n) (cap - n) := by unfold Go.sliced; rw [if_neg hcn]; simp
        rw [hd] at hsd od
        clear hd
        have HSD := Lib.hid hsd
        have HOD := Lib.hid od
        clear hsd od
        go_enter Try.func43, Try.ntmps43
        go_wp2_with fail
        refine (value_any _ (l.take n) _ (hst _) (by simp; omega)).mono ?_
        rintro e w' ⟨rfl, rfl⟩
        go_wp2
        go_ret
        refine ⟨by simp [rdTake, hlt], ⟨hg0, .slice (a.map (·.add n)) (l.length - n) (cap - n), ?_, ?_, ?_, ?_⟩, grownBy_setCell _ _ _ _⟩
        · rw [block_setCell HH.out]; simp [rdBad, hlt]
        · simp only [rdLeft, hlt, decide_false, Bool.or_false, Bool.false_eq_true, if_false]
          exact HSD.out _
        · rw [HOD.out]; exact HNE.out
        · intro k hk; rw [HOD.out] at hk; exact HB.out k hk

/-- The call hands back a slice of its own; block g is the reader that is left. -/
def TakeText (w : World) (base : Nat → Prop) (g n : Nat) (l : List UInt8) (bad : Bool) (en : Ending) (w' : World) : Prop :=
  ∃ v, en = .returned v ∧ Own w' w.heap.size 5 v (bytes (rdTake n l bad)) ∧ Rd w' base g (rdLeft n l bad) (rdBad n l bad) ∧ w.grownBy w' (some g)

theorem text1_any (v : Value) (l : List UInt8) (w : World) (hs : Sl w v (bytes l)) (hl : l.length ≤ 10000000000) :
    Calls Try.prog 47 #[v] w (RetBytes w l) := by
  go_enter Try.func47, Try.ntmps47
  go_wp2_with fail
  refine (clone_any _ l _ hs hl).mono ?_
  rintro e w1 ⟨v1, rfl, hown1, hb1⟩
  go_wp2
  go_ret
  exact ⟨_, rfl, hown1, hb1⟩

set_option maxHeartbeats 400000 in
theorem take_bytes (w : World) (base : Nat → Prop) (g n : Nat) (l : List UInt8) (bad : Bool) (hr : Rd w base g l bad) (hn : n < 2 ^ 32) (hl : l.length ≤ 1000000000) :
    Calls Try.prog 46 #[.pointer (some ⟨g, 0, none⟩), .int .u64 (n : Int), .func (.func 47) #[] #[]] w (TakeText w base g n l bad) := by
  obtain ⟨hg0, sv, hh, hs, hne, hb⟩ := hr
  have c0 : w.cell? ⟨g, 0, none⟩ = some sv := by rw [cell_of_block hh]; rfl
  have c1 : w.cell? ⟨g, 1, none⟩ = some (.bool bad) := by rw [cell_of_block hh]; rfl
  have f0 := unfrozen_of_block hh 0
  have f1 := unfrozen_of_block hh 1
  cases bad with
  | true =>
    go_enter Try.func46, Try.ntmps46
    go_wp2
    go_ret
    exact ⟨_, rfl, by simpa [rdTake, bytes] using Own.nil0 _ _ _, ⟨hg0, sv, by simpa [rdBad] using hh, by simpa [rdLeft] using hs, hne, hb⟩, below_grownBy (Below.refl _ _) _⟩
  | false =>
    obtain ⟨a, cap, rfl, hcap, hc⟩ := hs.bytes
    by_cases hlt : l.length < n
    · go_enter Try.func46, Try.ntmps46
      go_wp2
      go_ret
      refine ⟨_, rfl, by simpa [rdTake, bytes, hlt] using Own.nil0 _ _ _, ⟨hg0, .slice a l.length cap, ?_, ?_, hne, hb⟩, grownBy_setCell _ _ _ _⟩
      · rw [block_setCell hh]; simp [rdBad, hlt]
      · simp only [rdLeft, hlt, decide_true, Bool.or_true, if_true]
        exact hs.grown (grownBy_setCell _ _ _ _) (.inr hne)
    · have hs2 : Sl w (.slice a (bytes l).length cap) (bytes l) := by rw [bytes_length]; exact hs
      have st := hs2.sliced 0 n n (Nat.zero_le _) (Nat.le_refl _) (by omega) (by rw [bytes_length]; omega)
      have sd := hs2.sliced n l.length cap (by omega) hcap (Nat.le_refl _) (by rw [bytes_length]; exact Nat.le_refl _)
      have od := ownBlock_sliced a l.length cap n l.length cap
      rw [List.drop_zero, bytes_take] at st
      rw [bytes_take, bytes_drop, List.take_of_length_le (Nat.le_refl _)] at sd
      have ot : (Value.slice a n n).ownBlock = (Value.slice a l.length cap).ownBlock := by cases a <;> rfl
      have et : Go.sliced a 0 n n 1 = .slice a n n := by
        unfold Go.sliced
        by_cases h0 : n = 0
        · subst h0; rfl
        · rw [if_neg h0]; cases a <;> simp [Addr.add]
      rw [et] at st
      have hst : ∀ u, Sl (w.setCell ⟨g, 0, none⟩ u) (.slice a n n) (bytes (l.take n)) := fun u => st.grown (grownBy_setCell _ _ _ _) (.inr (by rw [ot]; exact hne))
      have hsd : ∀ u, Sl (w.setCell ⟨g, 0, none⟩ u) (Go.sliced a n l.length cap 1) (bytes (l.drop n)) := fun u => sd.grown (grownBy_setCell _ _ _ _) (.inr (by rw [od]; exact hne))
      have HH := Lib.hid hh
      have HB := Lib.hid hb
      have HNE := Lib.hid hne
      clear hs hs2 st sd hc et hh hb hne ot
      by_cases hcn : cap = n
      · subst hcn
        have hlc : l.length = cap := by omega
        have hd : Go.sliced a cap l.length cap 1 = .slice a 0 0 := by unfold Go.sliced; rw [if_pos rfl, hlc]; simp
        rw [hd] at hsd od
        clear hd hlc
        have HSD := Lib.hid hsd
        have HOD := Lib.hid od
        clear hsd od
        go_enter Try.func46, Try.ntmps46
        go_wp2_with fail
        refine (text1_any _ (l.take cap) _ (hst _) (by simp; omega)).mono ?_
        rintro e w' ⟨v1, rfl, hown1, hb1⟩
        simp only [World.size_setCell] at hown1 hb1
        go_wp2
        go_ret
        refine ⟨_, rfl, by simpa [rdTake, hlt] using hown1, ⟨hg0, .slice a 0 0, ?_, ?_, ?_, ?_⟩, grownBy_trans (grownBy_setCell _ _ _ _) (below_grownBy (by simpa using hb1) _)⟩
        · rw [hb1.block g (block_lt HH.out), block_setCell HH.out]; simp [rdBad, hlt]
        · simp only [rdLeft, hlt, decide_false, Bool.or_false, Bool.false_eq_true, if_false]
          exact (HSD.out _).below (by simpa using hb1)
        · rw [HOD.out]; exact HNE.out
        · intro k hk; rw [HOD.out] at hk; exact HB.out k hk
      · have hd : Go.sliced a n l.length cap 1 = .slice (a.map (·.add n)) (l.length - n) (cap - n) := by unfold Go.sliced; rw [if_neg hcn]; simp
        rw [hd] at hsd od
        clear hd
        have HSD := Lib.hid hsd
        have HOD := Lib.hid od
        clear hsd od
        go_enter Try.func46, Try.ntmps46
        go_wp2_with fail
        refine (text1_any _ (l.take n) _ (hst _) (by simp; omega)).mono ?_
        rintro e w' ⟨v1, rfl, hown1, hb1⟩
        simp only [World.size_setCell] at hown1 hb1
        go_wp2
        go_ret
        refine ⟨_, rfl, by simpa [rdTake, hlt] using hown1, ⟨hg0, .slice (a.map (·.add n)) (l.length - n) (cap - n), ?_, ?_, ?_, ?_⟩, grownBy_trans (grownBy_setCell _ _ _ _) (below_grownBy (by simpa using hb1) _)⟩
        · rw [hb1.block g (block_lt HH.out), block_setCell HH.out]; simp [rdBad, hlt]
        · simp only [rdLeft, hlt, decide_false, Bool.or_false, Bool.false_eq_true, if_false]
          exact (HSD.out _).below (by simpa using hb1)
        · rw [HOD.out]; exact HNE.out
        · intro k hk; rw [HOD.out] at hk; exact HB.out k hk
end Go.Proofs.Ytclicammiopjlaa
