/-
  What wire puts: numbers and texts as bytes behind others, as slices of the call's own.
  What a reader of wire reads: its state is the bytes that are left, and whether it is bad.
  The methods of a reader, by its state: what is left, and whether it is bad.
  The methods of a reader that is nil, and what a bad reader answers.
  Plain: numbers as bytes, the highest first: what is put is read; the order of the bytes is the order of the numbers.
  What is put is read: the plain law of package wire. No program in sight.
-/
import Derived.Test.YtiemgmbjhllmbaaRows
import Derived.Test.YtiemgmbjhllmbaaYA
import Derived.WalkLawsBesides
import Derived.WalkSpells
import Derived.Outline
import Derived.Laws.Bits64
section
set_option linter.unusedVariables false
namespace Go.Proofs.Ytiemgmbjhllmbaa
open Go.RowKit
theorem info_u8 : (Try.prog.info? 5).map (fun i => (i.zero, i.size, i.bytes)) = some (some (.int .u8 0), 1, 1) := by kernel_rfl
theorem one_bytes (l : List UInt8) : ∀ u ∈ bytes l, u.oneCell' = true := by
  intro u hu
  obtain ⟨c, _, rfl⟩ := List.mem_map.1 hu
  rfl
theorem bytes_append (a b : List UInt8) : bytes (a ++ b) = bytes a ++ bytes b := by simp [bytes]
theorem bytes_set (l : List UInt8) (k : Nat) (x : UInt8) : (bytes l).set k (.int .u8 (x.toNat : Int)) = bytes (l.set k x) := by
  unfold bytes; rw [List.map_set]; rfl
/-- append(s, x...) of bytes. -/
theorem run_append_u8 (w : World) (base : Nat) (v y : Value) (l m : List UInt8) (hown : Own w base 5 v (bytes l)) (hy : Sl w y (bytes m))
    (h63 : l.length + m.length ≤ 140737488355328) (hbase : base ≤ w.heap.size) :
    ∃ v' w', (Builtin.append_ #[22, 22] 22 #[v, y]).run Try.prog w = .ok v' w' ∧ Own w' base 5 v' (bytes (l ++ m)) ∧ w.grownBy w' v.ownBlock := by
  obtain ⟨i0, hi0, hz0, hz1, hz2⟩ := info_parts info_u8
  rw [bytes_append]
  exact run_append_sl w base 22 22 5 i0 _ 1 Try.underlying22 hi0 hz0 hz1 hz2 rfl v y (bytes l) (bytes m) hown hy (one_bytes m) (by rw [bytes_length, bytes_length]; unfold maxLen; omega) (by rw [bytes_length, bytes_length]; omega) hbase
theorem Own.ownBlock_ge {w : World} {base : Nat} {e : TypeId} {v : Value} {xs : List Value} (h : Own w base e v xs) : ∀ k, v.ownBlock = some k → base ≤ k := fun k hk => (World.ownsRow.lt h k hk).1
/-- The call hands back a slice of its own that reads as the bytes l; what was there stays. -/
def RetBytes (w : World) (l : List UInt8) (en : Ending) (w' : World) : Prop := ∃ v, en = .returned v ∧ Own w' w.heap.size 5 v (bytes l) ∧ Below w.heap.size w w'
set_option maxHeartbeats 400000 in
theorem clone_any (v : Value) (l : List UInt8) (w : World) (hs : Sl w v (bytes l)) (hl : l.length ≤ 140737488355328) :
    Calls Try.prog 87 #[v] w (RetBytes w l) := by
  have hs' := hs
  obtain ⟨a, cap, rfl, hcap, hc⟩ := hs.bytes
  cases a with
  | none =>
    have hn : l = [] := by
      rcases hc with h | ⟨b, off, h, _⟩
      · exact h
      · cases h
    subst hn
    have hnil := Lib.run_eql_slice_nil (P := Try.prog) w 22 5 none 0 cap 0 0 Try.underlying22
    go_enter Try.func87, Try.ntmps87
    go_wp2
    go_ret
    exact ⟨_, rfl, Own.nil0 _ _ _, Below.refl _ _⟩
  | some ad =>
    obtain ⟨v1, w1, hr, hown, hg⟩ := run_append_u8 (w.alloc (.cells #[] 5)) w.heap.size (.slice (some ⟨w.heap.size, 0, none⟩) 0 0) (.slice (some ad) l.length cap) [] l (Own.nil_lit w 5 (Nat.le_refl _)) (hs'.below ((Below.refl _ _).alloc (Nat.le_refl _) _)) (by simp; omega) (by simp)
    have hnil := Lib.run_eql_slice_nil (P := Try.prog) w 22 5 (some ad) l.length cap 0 0 Try.underlying22
    have hb : Below w.heap.size w w1 := ((Below.refl _ _).alloc (Nat.le_refl _) _).grown hg (by simp) (by intro k hk; simp [Value.ownBlock] at hk; omega)
    go_enter Try.func87, Try.ntmps87
    go_wp2_with (at_builtin; refine wpList_run_append hr rfl _ _ rfl rfl rfl ?_)
    go_ret
    exact ⟨_, rfl, hown, hb⟩
/-- A number as n bytes, the highest first. -/
def be (n x : Nat) : List UInt8 := (List.range n).map fun j => UInt8.ofNat (x / 2 ^ (8 * (n - 1 - j)))
theorem be_length (n x : Nat) : (be n x).length = n := by simp [be]
theorem be_take (n x j : Nat) (hj : j < n) : (be n x).take (j + 1) = (be n x).take j ++ [UInt8.ofNat (x / 2 ^ (8 * (n - 1 - j)))] := by
  rw [List.take_succ_eq_append_getElem (by rw [be_length]; exact hj)]
  simp [be]
set_option maxHeartbeats 400000 in
theorem number_any (v : Value) (l : List UInt8) (x n : Nat) (w : World) (hs : Sl w v (bytes l)) (hl : l.length ≤ 1000000000) (hx : x < 2 ^ 64) (hn : n ≤ 8) :
    Calls Try.prog 65 #[v, .int .u64 (x : Int), .int .i64 (n : Int)] w (RetBytes w (l ++ be n x)) := by
  go_enter Try.func65, Try.ntmps65
  go_wp2_with fail
  refine (clone_any _ l _ hs (by omega)).mono ?_
  rintro e w1 ⟨v1, rfl, hown1, hb1⟩
  go_wp2
  go_loopw [7, 8] (fun u i wr => ∃ j : Nat, j ≤ n ∧ i = .int .i64 ((n : Int) - 1 - (j : Int)) ∧ Own wr w.heap.size 5 u (bytes (l ++ (be n x).take j)) ∧ Below w.heap.size w wr) (fun _ i _ => (intOf i + 1).toNat)
  case atStart => exact ⟨0, Nat.zero_le _, by go_num, by simpa using hown1, hb1⟩
  case round =>
    obtain ⟨j, hj, rfl, hown, hb⟩ := hrel
    by_cases hlt : j < n
    · obtain ⟨k, hk, hk8, hkn⟩ : ∃ k : Nat, (n : Int) - 1 - (j : Int) = (k : Int) ∧ k < 8 ∧ n - 1 - j = k := ⟨n - 1 - j, by omega, by omega, rfl⟩
      rw [hk]
      have hce : ((x : Int) / 2 ^ (8 * k) % 256) = ((UInt8.ofNat (x / 2 ^ (8 * k))).toNat : Int) := by
        rw [UInt8.toNat_ofNat']
        simp
      obtain ⟨v2, w2, hr, hown2, hg2⟩ := run_append_u8 (wr.alloc (.cells #[.int .u8 ((x : Int) / 2 ^ (8 * k) % 256)] 5)) w.heap.size u7 (.slice (some ⟨wr.heap.size, 0, none⟩) 1 1)
        (l ++ (be n x).take j) [UInt8.ofNat (x / 2 ^ (8 * k))] (World.ownsRow.alloc hown _) (by rw [hce]; exact Sl.new wr [_] _ _ _ _ rfl (by decide)) (by simp [be_length]; omega) (Nat.le_trans hb.size (by simp))
      have hb2 : Below w.heap.size w w2 := (hb.alloc hb.size _).grown hg2 (Nat.le_trans hb.size (by simp)) (fun k hk => hown.ownBlock_ge k hk)
      have HK := Lib.hid (And.intro hk hkn)
      clear hk hkn hce
      go_wp2_with (at_builtin; refine wpList_run_append hr rfl _ _ rfl rfl rfl ?_)
      go_roundw
      case rel =>
        refine ⟨j + 1, by omega, val_int (by have := HK.out.1; omega), ?_, hb2⟩
        rw [be_take n x j hlt, HK.out.2, ← List.append_assoc]; exact hown2
      case measure => have h0 := HK.out.1; simp [intOf] <;> omega
    · obtain rfl : j = n := by omega
      have hneg : ¬ (0 : Int) ≤ (j : Int) - 1 - (j : Int) := by omega
      go_wp2
      go_ret
      refine ⟨_, rfl, ?_, hb⟩
      rw [List.take_of_length_le (by rw [be_length]; exact Nat.le_refl _)] at hown
      exact hown
theorem byte_any (v : Value) (l : List UInt8) (x : Nat) (w : World) (hs : Sl w v (bytes l)) (hl : l.length ≤ 1000000000) (hx : x < 256) :
    Calls Try.prog 40 #[v, .int .u8 (x : Int)] w (RetBytes w (l ++ be 1 x)) := by
  go_enter Try.func40, Try.ntmps40
  go_wp2_with fail
  refine (number_any _ l x 1 _ hs hl (by omega) (by omega)).mono ?_
  rintro e w1 ⟨v1, rfl, hown1, hb1⟩
  go_wp2
  go_ret
  exact ⟨_, rfl, hown1, hb1⟩
theorem uint_any (v : Value) (l : List UInt8) (x : Nat) (w : World) (hs : Sl w v (bytes l)) (hl : l.length ≤ 1000000000) (hx : x < 2 ^ 64) :
    Calls Try.prog 18 #[v, .int .u64 (x : Int)] w (RetBytes w (l ++ be 8 x)) := by
  go_enter Try.func18, Try.ntmps18
  go_wp2_with fail
  refine (number_any _ l x 8 _ hs hl hx (by omega)).mono ?_
  rintro e w1 ⟨v1, rfl, hown1, hb1⟩
  go_wp2
  go_ret
  exact ⟨_, rfl, hown1, hb1⟩
/-- A signed number's bytes are those of what it is modulo 2^64. -/
def u64 (z : Int) : Nat := (z % 18446744073709551616).toNat
theorem u64_lt (z : Int) : u64 z < 2 ^ 64 := by unfold u64; omega
theorem u64_cast (z : Int) : ((u64 z : Nat) : Int) = z % 18446744073709551616 := by unfold u64; omega
theorem int_any (v : Value) (l : List UInt8) (z : Int) (w : World) (hs : Sl w v (bytes l)) (hl : l.length ≤ 1000000000) :
    Calls Try.prog 45 #[v, .int .i64 z] w (RetBytes w (l ++ be 8 (u64 z))) := by
  have hw : IntKind.u64.wrap z = ((u64 z : Nat) : Int) := by rw [u64_cast]; simp [IntKind.wrap, IntKind.bits, IntKind.signed]
  go_enter Try.func45, Try.ntmps45
  go_wp2_with fail
  refine (number_any _ l (u64 z) 8 _ hs hl (u64_lt z) (by omega)).mono ?_
  rintro e w1 ⟨v1, rfl, hown1, hb1⟩
  go_wp2
  go_ret
  exact ⟨_, rfl, hown1, hb1⟩
theorem text_any (v s : Value) (l t : List UInt8) (w : World) (hs : Sl w v (bytes l)) (ht : Sl w s (bytes t)) (hl : l.length ≤ 1000000000) (htl : t.length ≤ 1000000000) :
    Calls Try.prog 67 #[v, s] w (RetBytes w (l ++ be 4 t.length ++ t)) := by
  obtain ⟨a, cap, rfl⟩ := ht.oneCells
  rw [bytes_length] at *
  go_enter Try.func67, Try.ntmps67
  go_wp2_with fail
  refine (number_any _ l t.length 4 _ hs hl (by omega) (by omega)).mono ?_
  rintro e w1 ⟨v1, rfl, hown1, hb1⟩
  obtain ⟨v2, w2, hr, hown2, hg2⟩ := run_append_u8 w1 w.heap.size v1 (.slice a t.length cap) (l ++ be 4 t.length) t hown1 (ht.below hb1) (by simp [be_length]; omega) hb1.size
  have hb2 : Below w.heap.size w w2 := hb1.grown hg2 hb1.size (fun k hk => hown1.ownBlock_ge k hk)
  go_wp2_with (at_builtin; refine wpList_run_append hr rfl _ _ rfl rfl rfl ?_)
  go_ret
  exact ⟨_, rfl, hown2, hb2⟩
end Go.Proofs.Ytiemgmbjhllmbaa
end
section
set_option linter.unusedVariables false
namespace Go.Proofs.Ytiemgmbjhllmbaa
open Go.RowKit
/-- From b on. -/
abbrev From (b : Nat) : Nat → Prop := fun k => b ≤ k
/-- Block g is a reader: the bytes l are left; it is bad, or not. All of it lies where base holds. -/
def Rd (w : World) (base : Nat → Prop) (g : Nat) (l : List UInt8) (bad : Bool) : Prop :=
  base g ∧ ∃ sv, w.heap[g]? = some (.cells #[sv, .bool bad] 115 (0, 0)) ∧ Sl w sv (bytes l) ∧ sv.ownBlock ≠ some g ∧ (∀ k, sv.ownBlock = some k → base k)
theorem cell_of_block {w : World} {g : Nat} {cs : Array Value} {t : TypeId} {fr : Nat × Nat} (h : w.heap[g]? = some (.cells cs t fr)) (i : Nat) : w.cell? ⟨g, i, none⟩ = cs[i]? := by simp [World.cell?, h]
theorem unfrozen_of_block {w : World} {g : Nat} {cs : Array Value} {t : TypeId} (h : w.heap[g]? = some (.cells cs t (0, 0))) (i : Nat) : w.frozen? ⟨g, i, none⟩ = false := by simp [World.frozen?, h]
theorem block_setCell {w : World} {g i : Nat} {cs : Array Value} {t : TypeId} {fr : Nat × Nat} (h : w.heap[g]? = some (.cells cs t fr)) (v : Value) : (w.setCell ⟨g, i, none⟩ v).heap[g]? = some (.cells (cs.setIfInBounds i v) t fr) := by
  simp [World.setCell, Array.getElem?_modify, h]
theorem block_lt {w : World} {g : Nat} {o : Obj} (h : w.heap[g]? = some o) : g < w.heap.size := (Array.getElem?_eq_some_iff.1 h).1
theorem grownBy_setCell (w : World) (g i : Nat) (v : Value) : w.grownBy (w.setCell ⟨g, i, none⟩ v) (some g) :=
  ⟨rfl, rfl, rfl, by simp, fun k hk hne => Below.heap_setCell w ⟨g, i, none⟩ v k (fun e => hne (by rw [e]))⟩
theorem Rd.lt {w : World} {base : Nat → Prop} {g : Nat} {l : List UInt8} {bad : Bool} (h : Rd w base g l bad) : g < w.heap.size := by
  obtain ⟨_, sv, hh, _⟩ := h
  exact block_lt hh
/-- A reader stays while neither its struct nor its bytes are written. -/
theorem Rd.grown {w w' : World} {base : Nat → Prop} {g : Nat} {l : List UInt8} {bad : Bool} {row : Option Nat} (h : Rd w base g l bad) (hg : w.grownBy w' row) (hr : ∀ k, row = some k → ¬ base k) : Rd w' base g l bad := by
  obtain ⟨h0, sv, hh, hs, hne, hb⟩ := h
  refine ⟨h0, sv, ?_, hs.grown hg ?_, hne, hb⟩
  · rw [hg.block g (block_lt hh) (fun e => hr g e.symm h0)]; exact hh
  · cases hv : sv.ownBlock with
    | none => exact .inl rfl
    | some k => right; intro e; exact hr k e.symm (hb k hv)
theorem Rd.mono {w : World} {base base' : Nat → Prop} {g : Nat} {l : List UInt8} {bad : Bool} (h : Rd w base g l bad) (hb : ∀ k, base k → base' k) : Rd w base' g l bad := by
  obtain ⟨h0, sv, hh, hs, hne, hk⟩ := h
  exact ⟨hb _ h0, sv, hh, hs, hne, fun k h => hb _ (hk k h)⟩
theorem bytes_drop (l : List UInt8) (k : Nat) : (bytes l).drop k = bytes (l.drop k) := by simp [bytes, List.map_drop]
/-- What becomes of a reader of which n bytes are taken. -/
def rdTake (n : Nat) (l : List UInt8) (bad : Bool) : List UInt8 := if bad || decide (l.length < n) then [] else l.take n
def rdLeft (n : Nat) (l : List UInt8) (bad : Bool) : List UInt8 := if bad || decide (l.length < n) then l else l.drop n
def rdBad (n : Nat) (l : List UInt8) (bad : Bool) : Bool := bad || decide (l.length < n)
def val (l : List UInt8) : Nat := l.foldl (fun v c => v * 256 + c.toNat) 0
theorem val_snoc (l : List UInt8) (c : UInt8) : val (l ++ [c]) = val l * 256 + c.toNat := by simp [val]
theorem foldl_lt (l : List UInt8) : ∀ v : Nat, l.foldl (fun v c => v * 256 + c.toNat) v < (v + 1) * 256 ^ l.length := by
  induction l with
  | nil => intro v; simp
  | cons c l ih =>
    intro v
    have h := ih (v * 256 + c.toNat)
    have hc := c.toNat_lt
    rw [List.foldl_cons, List.length_cons, Nat.pow_succ]
    refine Nat.lt_of_lt_of_le h ?_
    rw [Nat.mul_comm (256 ^ l.length) 256, ← Nat.mul_assoc]
    exact Nat.mul_le_mul_right _ (by omega)
theorem val_lt (l : List UInt8) : val l < 256 ^ l.length := by have := foldl_lt l 0; simpa [val] using this
theorem val_lt8 (l : List UInt8) (h : l.length ≤ 8) : val l < 2 ^ 64 :=
  Nat.lt_of_lt_of_le (val_lt l) (by have := Nat.pow_le_pow_right (n := 256) (by decide) h; exact Nat.le_trans this (by decide))
theorem val_take_lt (l : List UInt8) (k : Nat) (h : k ≤ 7) : val (l.take k) < 2 ^ 56 :=
  Nat.lt_of_lt_of_le (val_lt _) (by have := Nat.pow_le_pow_right (n := 256) (by decide) (show (l.take k).length ≤ 7 by simp; omega); exact Nat.le_trans this (by decide))
theorem val_take_succ (l : List UInt8) (k : Nat) (h : k < l.length) : val (l.take (k + 1)) = val (l.take k) * 256 + l[k].toNat := by
  rw [List.take_succ_eq_append_getElem h, val_snoc]
theorem or_word (v : Nat) (c : UInt8) (h : v < 2 ^ 56) : bits .or .u64 (IntKind.u64.wrap ((v : Int) * 256)) (IntKind.u64.wrap (c.toNat : Int)) = ((v * 256 + c.toNat : Nat) : Int) := by
  have hc := c.toNat_lt
  have e1 : IntKind.u64.wrap ((v : Int) * 256) = ((v * 256 : Nat) : Int) := by rw [IntKind.wrap_u64]; omega
  have e2 : IntKind.u64.wrap (c.toNat : Int) = ((c.toNat : Nat) : Int) := by rw [IntKind.wrap_u64]; omega
  rw [e1, e2]
  have := bits_join .u64 64 (by decide) (fun n h0 h1 => by rw [IntKind.wrap_u64]; omega) 8 ((v * 256 : Nat) : Int) ((c.toNat : Nat) : Int) (by omega) (by omega) (by omega) (by omega) (by omega) (by omega)
  rw [this]
  omega
def RetReader (w : World) (l : List UInt8) (en : Ending) (w' : World) : Prop := ∃ g, en = .returned (.pointer (some ⟨g, 0, none⟩)) ∧ Rd w' (From w.heap.size) g l false ∧ Below w.heap.size w w'
set_option maxHeartbeats 400000 in
theorem new_any (v : Value) (l : List UInt8) (w : World) (hs : Sl w v (bytes l)) (hl : l.length ≤ 1000000000) :
    Calls Try.prog 58 #[v] w (RetReader w l) := by
  go_enter Try.func58, Try.ntmps58
  go_wp2_with fail
  refine (clone_any _ l _ hs (by omega)).mono ?_
  rintro e w1 ⟨v1, rfl, hown1, hb1⟩
  obtain ⟨a1, c1, rfl⟩ := hown1.shape
  go_wp2
  go_ret
  have hs1 := hown1.sl.below ((Below.refl _ _).alloc (Nat.le_refl _) (.cells #[.slice a1 (bytes l).length c1, .bool false] 115))
  refine ⟨w1.heap.size, rfl, ⟨hb1.size, _, heap_alloc_new w1 _, hs1, ?_, fun k hk => hown1.ownBlock_ge k hk⟩, hb1.alloc hb1.size _⟩
  intro h
  have := (World.ownsRow.lt hown1 _ h).2
  omega
set_option maxHeartbeats 400000 in
theorem value_any (v : Value) (l : List UInt8) (w : World) (hs : Sl w v (bytes l)) (hl : l.length ≤ 8) :
    Calls Try.prog 84 #[v] w fun e w' => e = .returned (.int .u64 (val l : Int)) ∧ w = w' := by
  obtain ⟨a, cap, rfl, hcap, hc⟩ := hs.bytes
  rcases hc with rfl | ⟨b, off, rfl, hb, hc⟩
  · go_enter Try.func84, Try.ntmps84
    go_wp2
    go_loop [3, 8] (fun n i => i = .int .i64 0 ∧ n = .int .u64 0) (fun _ _ => 0)
    case atStart => exact ⟨rfl, rfl⟩
    case round =>
      obtain ⟨rfl, rfl⟩ := hrel
      go_wp2
      go_ret
      exact ⟨rfl, rfl⟩
  · go_enter Try.func84, Try.ntmps84
    go_wp2
    go_loop [3, 5, 8] (fun n c i => ∃ k : Nat, k ≤ l.length ∧ i = .int .i64 k ∧ n = .int .u64 (val (l.take k) : Int)) (fun _ _ i => l.length - (intOf i).toNat)
    case atStart => exact ⟨0, Nat.zero_le _, rfl, rfl⟩
    case round =>
      obtain ⟨k, hk, rfl, rfl⟩ := hrel
      by_cases hlt : k < l.length
      · have g := hc k hlt
        have h1 := or_word (val (l.take k)) l[k] (val_take_lt l k (by omega))
        have HT := Lib.hid (val_take_succ l k hlt)
        go_wp2
        go_round
        case rel => exact ⟨k + 1, by omega, by go_num, val_int (by rw [HT.out]; omega)⟩
        case measure => simp [intOf]; omega
      · obtain rfl : k = l.length := by omega
        go_wp2
        go_ret
        exact ⟨ret_int (by first | rfl | rw [List.take_of_length_le (Nat.le_refl _)]), rfl⟩
/-- What 'take' leaves of the reader. -/
def TakeNum (w : World) (base : Nat → Prop) (g n : Nat) (l : List UInt8) (bad : Bool) (en : Ending) (w' : World) : Prop :=
  en = .returned (.int .u64 (val (rdTake n l bad) : Int)) ∧ Rd w' base g (rdLeft n l bad) (rdBad n l bad) ∧ w.grownBy w' (some g)
theorem size_elem : ∀ w : World, (sizeOf (Try.prog.elem 22)).run Try.prog w = .ok 1 w := fun w => by kernel_rfl
set_option maxHeartbeats 400000 in
theorem take_num (w : World) (base : Nat → Prop) (g n : Nat) (l : List UInt8) (bad : Bool) (hr : Rd w base g l bad) (hn : n ≤ 8) (hl : l.length ≤ 1000000000) :
    Calls Try.prog 83 #[.pointer (some ⟨g, 0, none⟩), .int .u64 (n : Int), .func (.func 84) #[] #[]] w (TakeNum w base g n l bad) := by
  obtain ⟨hg0, sv, hh, hs, hne, hb⟩ := hr
  have c0 : w.cell? ⟨g, 0, none⟩ = some sv := by rw [cell_of_block hh]; rfl
  have c1 : w.cell? ⟨g, 1, none⟩ = some (.bool bad) := by rw [cell_of_block hh]; rfl
  have f0 := unfrozen_of_block hh 0
  have f1 := unfrozen_of_block hh 1
  cases bad with
  | true =>
    go_enter Try.func83, Try.ntmps83
    go_wp2
    go_ret
    exact ⟨by simp [rdTake, val], ⟨hg0, sv, by simpa [rdBad] using hh, by simpa [rdLeft] using hs, hne, hb⟩, below_grownBy (Below.refl _ _) _⟩
  | false =>
    obtain ⟨a, cap, rfl, hcap, hc⟩ := hs.bytes
    by_cases hlt : l.length < n
    · go_enter Try.func83, Try.ntmps83
      go_wp2
      go_ret
      refine ⟨by simp [rdTake, val, hlt], ⟨hg0, .slice a l.length cap, ?_, ?_, hne, hb⟩, grownBy_setCell _ _ _ _⟩
      · rw [block_setCell hh]; simp [rdBad, hlt]
      · simp only [rdLeft, hlt, decide_true, Bool.or_true, if_true]
        exact hs.grown (grownBy_setCell _ _ _ _) (.inr hne)
    · have hs2 : Sl w (.slice a (bytes l).length cap) (bytes l) := by rw [bytes_length]; exact hs
      have st := hs2.sliced 0 n n (Nat.zero_le _) (Nat.le_refl _) (by omega) (by rw [bytes_length]; omega)
      have sd := hs2.sliced n l.length cap (by omega) hcap (Nat.le_refl _) (by rw [bytes_length]; exact Nat.le_refl _)
      have od := ownBlock_sliced a l.length cap n l.length cap
      rw [List.drop_zero, bytes_take] at st
      rw [bytes_take, bytes_drop, List.take_of_length_le (Nat.le_refl _)] at sd
      have ot : (Value.slice a n n).ownBlock = (Value.slice a l.length cap).ownBlock := by cases a <;> rfl
      have et : Go.sliced a 0 n n 1 = .slice a n n := by
        unfold Go.sliced
        by_cases h0 : n = 0
        · subst h0; rfl
        · rw [if_neg h0]; cases a <;> simp [Addr.add]
      rw [et] at st
      have hst : ∀ u, Sl (w.setCell ⟨g, 0, none⟩ u) (.slice a n n) (bytes (l.take n)) := fun u => st.grown (grownBy_setCell _ _ _ _) (.inr (by rw [ot]; exact hne))
      have hsd : ∀ u, Sl (w.setCell ⟨g, 0, none⟩ u) (Go.sliced a n l.length cap 1) (bytes (l.drop n)) := fun u => sd.grown (grownBy_setCell _ _ _ _) (.inr (by rw [od]; exact hne))
      have HH := Lib.hid hh
      have HB := Lib.hid hb
      have HNE := Lib.hid hne
      clear hs hs2 st sd hc et hh hb hne ot
      by_cases hcn : cap = n
      · subst hcn
        have hlc : l.length = cap := by omega
        have hd : Go.sliced a cap l.length cap 1 = .slice a 0 0 := by unfold Go.sliced; rw [if_pos rfl, hlc]; simp
        rw [hd] at hsd od
        clear hd hlc
        have HSD := Lib.hid hsd
        have HOD := Lib.hid od
        clear hsd od
        go_enter Try.func83, Try.ntmps83
        go_wp2_with fail
        refine (value_any _ (l.take cap) _ (hst _) (by simp; omega)).mono ?_
        rintro e w' ⟨rfl, rfl⟩
        go_wp2
        go_ret
        refine ⟨by simp [rdTake, hlt], ⟨hg0, .slice a 0 0, ?_, ?_, ?_, ?_⟩, grownBy_setCell _ _ _ _⟩
        · rw [block_setCell HH.out]; simp [rdBad, hlt]
        · simp only [rdLeft, hlt, decide_false, Bool.or_false, Bool.false_eq_true, if_false]
          exact HSD.out _
        · rw [HOD.out]; exact HNE.out
        · intro k hk; rw [HOD.out] at hk; exact HB.out k hk
      · have hd : Go.sliced a n l.length cap 1 = .slice (a.map (·.add n)) (l.length - n) (cap - n) := by unfold Go.sliced; rw [if_neg hcn]; simp
        rw [hd] at hsd od
        clear hd
        have HSD := Lib.hid hsd
        have HOD := Lib.hid od
        clear hsd od
        go_enter Try.func83, Try.ntmps83
        go_wp2_with fail
        refine (value_any _ (l.take n) _ (hst _) (by simp; omega)).mono ?_
        rintro e w' ⟨rfl, rfl⟩
        go_wp2
        go_ret
        refine ⟨by simp [rdTake, hlt], ⟨hg0, .slice (a.map (·.add n)) (l.length - n) (cap - n), ?_, ?_, ?_, ?_⟩, grownBy_setCell _ _ _ _⟩
        · rw [block_setCell HH.out]; simp [rdBad, hlt]
        · simp only [rdLeft, hlt, decide_false, Bool.or_false, Bool.false_eq_true, if_false]
          exact HSD.out _
        · rw [HOD.out]; exact HNE.out
        · intro k hk; rw [HOD.out] at hk; exact HB.out k hk
/-- The call hands back a slice of its own; block g is the reader that is left. -/
def TakeText (w : World) (base : Nat → Prop) (g n : Nat) (l : List UInt8) (bad : Bool) (en : Ending) (w' : World) : Prop :=
  ∃ v, en = .returned v ∧ Own w' w.heap.size 5 v (bytes (rdTake n l bad)) ∧ Rd w' base g (rdLeft n l bad) (rdBad n l bad) ∧ w.grownBy w' (some g)
theorem text1_any (v : Value) (l : List UInt8) (w : World) (hs : Sl w v (bytes l)) (hl : l.length ≤ 10000000000) :
    Calls Try.prog 99 #[v] w (RetBytes w l) := by
  go_enter Try.func99, Try.ntmps99
  go_wp2_with fail
  refine (clone_any _ l _ hs (Nat.le_trans hl (by decide))).mono ?_
  rintro e w1 ⟨v1, rfl, hown1, hb1⟩
  go_wp2
  go_ret
  exact ⟨_, rfl, hown1, hb1⟩
set_option maxHeartbeats 400000 in
theorem take_bytes (w : World) (base : Nat → Prop) (g n : Nat) (l : List UInt8) (bad : Bool) (hr : Rd w base g l bad) (hn : n < 2 ^ 32) (hl : l.length ≤ 1000000000) :
    Calls Try.prog 98 #[.pointer (some ⟨g, 0, none⟩), .int .u64 (n : Int), .func (.func 99) #[] #[]] w (TakeText w base g n l bad) := by
  obtain ⟨hg0, sv, hh, hs, hne, hb⟩ := hr
  have c0 : w.cell? ⟨g, 0, none⟩ = some sv := by rw [cell_of_block hh]; rfl
  have c1 : w.cell? ⟨g, 1, none⟩ = some (.bool bad) := by rw [cell_of_block hh]; rfl
  have f0 := unfrozen_of_block hh 0
  have f1 := unfrozen_of_block hh 1
  cases bad with
  | true =>
    go_enter Try.func98, Try.ntmps98
    go_wp2
    go_ret
    exact ⟨_, rfl, by simpa [rdTake, bytes] using Own.nil0 _ _ _, ⟨hg0, sv, by simpa [rdBad] using hh, by simpa [rdLeft] using hs, hne, hb⟩, below_grownBy (Below.refl _ _) _⟩
  | false =>
    obtain ⟨a, cap, rfl, hcap, hc⟩ := hs.bytes
    by_cases hlt : l.length < n
    · go_enter Try.func98, Try.ntmps98
      go_wp2
      go_ret
      refine ⟨_, rfl, by simpa [rdTake, bytes, hlt] using Own.nil0 _ _ _, ⟨hg0, .slice a l.length cap, ?_, ?_, hne, hb⟩, grownBy_setCell _ _ _ _⟩
      · rw [block_setCell hh]; simp [rdBad, hlt]
      · simp only [rdLeft, hlt, decide_true, Bool.or_true, if_true]
        exact hs.grown (grownBy_setCell _ _ _ _) (.inr hne)
    · have hs2 : Sl w (.slice a (bytes l).length cap) (bytes l) := by rw [bytes_length]; exact hs
      have st := hs2.sliced 0 n n (Nat.zero_le _) (Nat.le_refl _) (by omega) (by rw [bytes_length]; omega)
      have sd := hs2.sliced n l.length cap (by omega) hcap (Nat.le_refl _) (by rw [bytes_length]; exact Nat.le_refl _)
      have od := ownBlock_sliced a l.length cap n l.length cap
      rw [List.drop_zero, bytes_take] at st
      rw [bytes_take, bytes_drop, List.take_of_length_le (Nat.le_refl _)] at sd
      have ot : (Value.slice a n n).ownBlock = (Value.slice a l.length cap).ownBlock := by cases a <;> rfl
      have et : Go.sliced a 0 n n 1 = .slice a n n := by
        unfold Go.sliced
        by_cases h0 : n = 0
        · subst h0; rfl
        · rw [if_neg h0]; cases a <;> simp [Addr.add]
      rw [et] at st
      have hst : ∀ u, Sl (w.setCell ⟨g, 0, none⟩ u) (.slice a n n) (bytes (l.take n)) := fun u => st.grown (grownBy_setCell _ _ _ _) (.inr (by rw [ot]; exact hne))
      have hsd : ∀ u, Sl (w.setCell ⟨g, 0, none⟩ u) (Go.sliced a n l.length cap 1) (bytes (l.drop n)) := fun u => sd.grown (grownBy_setCell _ _ _ _) (.inr (by rw [od]; exact hne))
      have HH := Lib.hid hh
      have HB := Lib.hid hb
      have HNE := Lib.hid hne
      clear hs hs2 st sd hc et hh hb hne ot
      by_cases hcn : cap = n
      · subst hcn
        have hlc : l.length = cap := by omega
        have hd : Go.sliced a cap l.length cap 1 = .slice a 0 0 := by unfold Go.sliced; rw [if_pos rfl, hlc]; simp
        rw [hd] at hsd od
        clear hd hlc
        have HSD := Lib.hid hsd
        have HOD := Lib.hid od
        clear hsd od
        go_enter Try.func98, Try.ntmps98
        go_wp2_with fail
        refine (text1_any _ (l.take cap) _ (hst _) (by simp; omega)).mono ?_
        rintro e w' ⟨v1, rfl, hown1, hb1⟩
        simp only [World.size_setCell] at hown1 hb1
        go_wp2
        go_ret
        refine ⟨_, rfl, by simpa [rdTake, hlt] using hown1, ⟨hg0, .slice a 0 0, ?_, ?_, ?_, ?_⟩, grownBy_trans (grownBy_setCell _ _ _ _) (below_grownBy (by simpa using hb1) _)⟩
        · rw [hb1.block g (block_lt HH.out), block_setCell HH.out]; simp [rdBad, hlt]
        · simp only [rdLeft, hlt, decide_false, Bool.or_false, Bool.false_eq_true, if_false]
          exact (HSD.out _).below (by simpa using hb1)
        · rw [HOD.out]; exact HNE.out
        · intro k hk; rw [HOD.out] at hk; exact HB.out k hk
      · have hd : Go.sliced a n l.length cap 1 = .slice (a.map (·.add n)) (l.length - n) (cap - n) := by unfold Go.sliced; rw [if_neg hcn]; simp
        rw [hd] at hsd od
        clear hd
        have HSD := Lib.hid hsd
        have HOD := Lib.hid od
        clear hsd od
        go_enter Try.func98, Try.ntmps98
        go_wp2_with fail
        refine (text1_any _ (l.take n) _ (hst _) (by simp; omega)).mono ?_
        rintro e w' ⟨v1, rfl, hown1, hb1⟩
        simp only [World.size_setCell] at hown1 hb1
        go_wp2
        go_ret
        refine ⟨_, rfl, by simpa [rdTake, hlt] using hown1, ⟨hg0, .slice (a.map (·.add n)) (l.length - n) (cap - n), ?_, ?_, ?_, ?_⟩, grownBy_trans (grownBy_setCell _ _ _ _) (below_grownBy (by simpa using hb1) _)⟩
        · rw [hb1.block g (block_lt HH.out), block_setCell HH.out]; simp [rdBad, hlt]
        · simp only [rdLeft, hlt, decide_false, Bool.or_false, Bool.false_eq_true, if_false]
          exact (HSD.out _).below (by simpa using hb1)
        · rw [HOD.out]; exact HNE.out
        · intro k hk; rw [HOD.out] at hk; exact HB.out k hk
end Go.Proofs.Ytiemgmbjhllmbaa
end
section
set_option linter.unusedVariables false
namespace Go.Proofs.Ytiemgmbjhllmbaa
open Go.RowKit
/-- A reader's state: what is left, and whether it is bad. -/
abbrev RS := List UInt8 × Bool
def rTake (n : Nat) (s : RS) : List UInt8 × RS := (rdTake n s.1 s.2, (rdLeft n s.1 s.2, rdBad n s.1 s.2))
def rUint (s : RS) : Nat × RS := (val (rTake 8 s).1, (rTake 8 s).2)
def rByte (s : RS) : Nat × RS := (val (rTake 1 s).1, (rTake 1 s).2)
def rText (s : RS) : List UInt8 × RS := rTake (val (rTake 4 s).1) (rTake 4 s).2
def rBad (s : RS) : RS := (s.1, true)
def rCount (most : Int) (s : RS) : Nat × RS := if most < 0 ∨ most < (rUint s).1 then (0, rBad (rUint s).2) else rUint s
def rDone (s : RS) : Int := if s.2 || decide (0 < s.1.length) then 2 else 0
def i64 (n : Nat) : Int := wrap64 n
theorem rdTake_length (n : Nat) (l : List UInt8) (bad : Bool) : (rdTake n l bad).length ≤ n := by
  unfold rdTake; split <;> simp; omega
theorem rdLeft_length (n : Nat) (l : List UInt8) (bad : Bool) : (rdLeft n l bad).length ≤ l.length := by
  unfold rdLeft; split <;> simp
theorem rTake_length (n : Nat) (s : RS) : (rTake n s).1.length ≤ n := rdTake_length _ _ _
theorem rTake_le (n : Nat) (s : RS) : (rTake n s).1.length ≤ s.1.length := by unfold rTake rdTake; simp only; split <;> simp; omega
theorem rTake_left (n : Nat) (s : RS) : (rTake n s).2.1.length ≤ s.1.length := rdLeft_length _ _ _
theorem rUint_lt (s : RS) : (rUint s).1 < 2 ^ 64 := val_lt8 _ (rTake_length 8 s)
theorem rByte_lt (s : RS) : (rByte s).1 < 256 := by
  have := val_lt (rTake 1 s).1
  have h := Nat.pow_le_pow_right (n := 256) (by decide) (rTake_length 1 s)
  unfold rByte
  omega
theorem val4_lt (s : RS) : val (rTake 4 s).1 < 2 ^ 32 := by
  have := val_lt (rTake 4 s).1
  have h := Nat.pow_le_pow_right (n := 256) (by decide) (rTake_length 4 s)
  omega
theorem rText_left (s : RS) : (rText s).2.1.length ≤ s.1.length := Nat.le_trans (rTake_left _ _) (rTake_left _ _)
theorem rUint_left (s : RS) : (rUint s).2.1.length ≤ s.1.length := rTake_left _ _
theorem rByte_left (s : RS) : (rByte s).2.1.length ≤ s.1.length := rTake_left _ _
theorem rCount_left (m : Int) (s : RS) : (rCount m s).2.1.length ≤ s.1.length := by unfold rCount; split <;> exact rUint_left s
/-- Block g is a reader in the state s. -/
def Rs (w : World) (base : Nat → Prop) (g : Nat) (s : RS) : Prop := Rd w base g s.1 s.2
/-- The call hands back v, leaves the reader g in the state s, and turns nothing else that was there. -/
def Got (w : World) (base : Nat → Prop) (g : Nat) (v : Value) (s : RS) (en : Ending) (w' : World) : Prop :=
  en = .returned v ∧ Rs w' base g s ∧ w.grownBy w' (some g)
def GotText (w : World) (base : Nat → Prop) (g : Nat) (t : List UInt8) (s : RS) (en : Ending) (w' : World) : Prop :=
  ∃ v, en = .returned v ∧ Own w' w.heap.size 5 v (bytes t) ∧ Rs w' base g s ∧ w.grownBy w' (some g)
theorem take_num' (w : World) (base : Nat → Prop) (g n : Nat) (s : RS) (hr : Rs w base g s) (hn : n ≤ 8) (hl : s.1.length ≤ 1000000000) :
    Calls Try.prog 83 #[.pointer (some ⟨g, 0, none⟩), .int .u64 (n : Int), .func (.func 84) #[] #[]] w (Got w base g (.int .u64 (val (rTake n s).1 : Int)) (rTake n s).2) :=
  (take_num w base g n s.1 s.2 hr hn hl).mono fun e w' ⟨h1, h2, h3⟩ => ⟨h1, h2, h3⟩
theorem take_text' (w : World) (base : Nat → Prop) (g n : Nat) (s : RS) (hr : Rs w base g s) (hn : n < 2 ^ 32) (hl : s.1.length ≤ 1000000000) :
    Calls Try.prog 98 #[.pointer (some ⟨g, 0, none⟩), .int .u64 (n : Int), .func (.func 99) #[] #[]] w (GotText w base g (rTake n s).1 (rTake n s).2) :=
  (take_bytes w base g n s.1 s.2 hr hn hl).mono fun e w' ⟨v, h1, h2, h3, h4⟩ => ⟨v, h1, h2, h3, h4⟩
theorem get_byte (w : World) (base : Nat → Prop) (g : Nat) (s : RS) (hr : Rs w base g s) (hl : s.1.length ≤ 1000000000) :
    Calls Try.prog 59 #[.pointer (some ⟨g, 0, none⟩)] w (Got w base g (.int .u8 ((rByte s).1 : Int)) (rByte s).2) := by
  have hlt := rByte_lt s
  have hlt' : ((rByte s).1 : Int) % 256 = ((rByte s).1 : Int) := by omega
  go_enter Try.func59, Try.ntmps59
  go_wp2_with fail
  refine (take_num' _ base g 1 s hr (by omega) hl).mono ?_
  rintro e w1 ⟨rfl, hr1, hg1⟩
  have HL := Lib.hid hlt'
  clear hlt'
  go_wp2
  go_ret
  exact ⟨ret_int HL.out, hr1, hg1⟩
theorem get_uint (w : World) (base : Nat → Prop) (g : Nat) (s : RS) (hr : Rs w base g s) (hl : s.1.length ≤ 1000000000) :
    Calls Try.prog 51 #[.pointer (some ⟨g, 0, none⟩)] w (Got w base g (.int .u64 ((rUint s).1 : Int)) (rUint s).2) := by
  go_enter Try.func51, Try.ntmps51
  go_wp2_with fail
  refine (take_num' _ base g 8 s hr (by omega) hl).mono ?_
  rintro e w1 ⟨rfl, hr1, hg1⟩
  go_wp2
  go_ret
  exact ⟨rfl, hr1, hg1⟩
theorem get_int (w : World) (base : Nat → Prop) (g : Nat) (s : RS) (hr : Rs w base g s) (hl : s.1.length ≤ 1000000000) :
    Calls Try.prog 71 #[.pointer (some ⟨g, 0, none⟩)] w (Got w base g (.int .i64 (i64 (rUint s).1)) (rUint s).2) := by
  go_enter Try.func71, Try.ntmps71
  go_wp2_with fail
  refine (get_uint _ base g s hr hl).mono ?_
  rintro e w1 ⟨rfl, hr1, hg1⟩
  go_wp2
  go_ret
  exact ⟨rfl, hr1, hg1⟩
theorem get_text (w : World) (base : Nat → Prop) (g : Nat) (s : RS) (hr : Rs w base g s) (hl : s.1.length ≤ 1000000000) :
    Calls Try.prog 89 #[.pointer (some ⟨g, 0, none⟩)] w (GotText w base g (rText s).1 (rText s).2) := by
  go_enter Try.func89, Try.ntmps89
  go_wp2_with fail
  refine (take_num' _ base g 4 s hr (by omega) hl).mono ?_
  rintro e w1 ⟨rfl, hr1, hg1⟩
  go_wp2_with fail
  refine (take_text' _ base g _ _ hr1 (val4_lt s) (Nat.le_trans (rTake_left _ _) hl)).mono ?_
  rintro e w2 ⟨v2, rfl, hown2, hr2, hg2⟩
  go_wp2
  go_ret
  exact ⟨_, rfl, hown2.mono hg1.size, hr2, grownBy_trans hg1 hg2⟩
theorem get_bad (w : World) (base : Nat → Prop) (g : Nat) (s : RS) (hr : Rs w base g s) :
    Calls Try.prog 66 #[.pointer (some ⟨g, 0, none⟩)] w (Got w base g (.tuple #[]) (rBad s)) := by
  obtain ⟨hg0, sv, hh, hs, hne, hb⟩ := hr
  have c1 : w.cell? ⟨g, 1, none⟩ = some (.bool s.2) := by rw [cell_of_block hh]; rfl
  have f1 := unfrozen_of_block hh 1
  go_enter Try.func66, Try.ntmps66
  go_wp2
  go_end0
  refine ⟨rfl, ⟨hg0, sv, ?_, hs.grown (grownBy_setCell _ _ _ _) (.inr hne), hne, hb⟩, grownBy_setCell _ _ _ _⟩
  rw [block_setCell hh]; simp [rBad]
theorem get_count (w : World) (base : Nat → Prop) (g : Nat) (s : RS) (m : Int) (hm : m ≤ 9223372036854775807) (hr : Rs w base g s) (hl : s.1.length ≤ 1000000000) :
    Calls Try.prog 90 #[.pointer (some ⟨g, 0, none⟩), .int .i64 m] w (Got w base g (.int .i64 ((rCount m s).1 : Int)) (rCount m s).2) := by
  have hlt := rUint_lt s
  by_cases h0 : m < 0
  · have hc : rCount m s = (0, rBad (rUint s).2) := by unfold rCount; rw [if_pos (.inl h0)]
    rw [hc]
    go_enter Try.func90, Try.ntmps90
    go_wp2_with fail
    refine (get_uint _ base g s hr hl).mono ?_
    rintro e w1 ⟨rfl, hr1, hg1⟩
    go_wp2_with fail
    refine (get_bad _ base g _ hr1).mono ?_
    rintro e w2 ⟨rfl, hr2, hg2⟩
    go_wp2
    go_ret
    exact ⟨rfl, hr2, grownBy_trans hg1 hg2⟩
  · obtain ⟨k, rfl⟩ := Int.eq_ofNat_of_zero_le (show 0 ≤ m by omega)
    have hwr : IntKind.u64.wrap ((k : Nat) : Int) = ((k : Nat) : Int) := by simp [IntKind.wrap, IntKind.bits, IntKind.signed]; omega
    by_cases hk : k < (rUint s).1
    · have hc : rCount (k : Int) s = (0, rBad (rUint s).2) := by unfold rCount; rw [if_pos (.inr (by omega))]
      rw [hc]
      go_enter Try.func90, Try.ntmps90
      go_wp2_with fail
      refine (get_uint _ base g s hr hl).mono ?_
      rintro e w1 ⟨rfl, hr1, hg1⟩
      go_wp2_with fail
      refine (get_bad _ base g _ hr1).mono ?_
      rintro e w2 ⟨rfl, hr2, hg2⟩
      go_wp2
      go_ret
      exact ⟨rfl, hr2, grownBy_trans hg1 hg2⟩
    · have hc : rCount (k : Int) s = rUint s := by unfold rCount; rw [if_neg (by omega)]
      rw [hc]
      go_enter Try.func90, Try.ntmps90
      go_wp2_with fail
      refine (get_uint _ base g s hr hl).mono ?_
      rintro e w1 ⟨rfl, hr1, hg1⟩
      go_wp2
      go_ret
      exact ⟨rfl, hr1, hg1⟩
theorem get_done (w : World) (base : Nat → Prop) (g : Nat) (s : RS) (hr : Rs w base g s) (hl : s.1.length ≤ 1000000000) :
    Calls Try.prog 60 #[.pointer (some ⟨g, 0, none⟩)] w fun e w' => e = .returned (.int .i64 (rDone s)) ∧ w = w' := by
  obtain ⟨l, bad⟩ := s
  obtain ⟨hg0, sv, hh, hs, hne, hb⟩ := hr
  obtain ⟨a, cap, rfl, hcap, _⟩ := hs.bytes
  have c0 : w.cell? ⟨g, 0, none⟩ = some (.slice a l.length cap) := by rw [cell_of_block hh]; rfl
  have c1 : w.cell? ⟨g, 1, none⟩ = some (.bool bad) := by rw [cell_of_block hh]; rfl
  clear hh
  cases bad with
  | true =>
    go_enter Try.func60, Try.ntmps60
    go_wp2
    go_ret
    exact ⟨rfl, rfl⟩
  | false =>
    by_cases h0 : 0 < l.length
    · go_enter Try.func60, Try.ntmps60
      go_wp2
      go_ret
      exact ⟨by simp [rDone, h0], rfl⟩
    · go_enter Try.func60, Try.ntmps60
      go_wp2
      go_ret
      exact ⟨by simp [rDone, h0], rfl⟩
end Go.Proofs.Ytiemgmbjhllmbaa
end
section
set_option linter.unusedVariables false
namespace Go.Proofs.Ytiemgmbjhllmbaa
open Go.RowKit
theorem rTake_bad (n : Nat) (l : List UInt8) : rTake n (l, true) = ([], (l, true)) := by simp [rTake, rdTake, rdLeft, rdBad]
theorem rByte_bad (l : List UInt8) : rByte (l, true) = (0, (l, true)) := by simp [rByte, rTake_bad, val]
theorem rUint_bad (l : List UInt8) : rUint (l, true) = (0, (l, true)) := by simp [rUint, rTake_bad, val]
theorem rText_bad (l : List UInt8) : rText (l, true) = ([], (l, true)) := by simp [rText, rTake_bad]
theorem rCount_bad (m : Int) (l : List UInt8) : rCount m (l, true) = (0, (l, true)) := by
  unfold rCount; rw [rUint_bad]; split <;> rfl
theorem rDone_bad (l : List UInt8) : rDone (l, true) = 2 := rfl
theorem nil_num (w : World) (n : Nat) : Calls Try.prog 83 #[.pointer none, .int .u64 (n : Int), .func (.func 84) #[] #[]] w fun e w' => e = .returned (.int .u64 0) ∧ w = w' := by
  go_enter Try.func83, Try.ntmps83
  go_wp2
  go_ret
  exact ⟨rfl, rfl⟩
theorem nil_bytes (w : World) (n : Nat) : Calls Try.prog 98 #[.pointer none, .int .u64 (n : Int), .func (.func 99) #[] #[]] w fun e w' => e = .returned (.slice none 0 0) ∧ w = w' := by
  go_enter Try.func98, Try.ntmps98
  go_wp2
  go_ret
  exact ⟨rfl, rfl⟩
theorem nil_byte (w : World) : Calls Try.prog 59 #[.pointer none] w fun e w' => e = .returned (.int .u8 0) ∧ w = w' := by
  go_enter Try.func59, Try.ntmps59
  go_wp2_with fail
  refine (nil_num _ 1).mono ?_
  rintro e w1 ⟨rfl, rfl⟩
  go_wp2
  go_ret
  exact ⟨rfl, rfl⟩
theorem nil_uint (w : World) : Calls Try.prog 51 #[.pointer none] w fun e w' => e = .returned (.int .u64 0) ∧ w = w' := by
  go_enter Try.func51, Try.ntmps51
  go_wp2_with fail
  refine (nil_num _ 8).mono ?_
  rintro e w1 ⟨rfl, rfl⟩
  go_wp2
  go_ret
  exact ⟨rfl, rfl⟩
theorem nil_int (w : World) : Calls Try.prog 71 #[.pointer none] w fun e w' => e = .returned (.int .i64 0) ∧ w = w' := by
  go_enter Try.func71, Try.ntmps71
  go_wp2_with fail
  refine (nil_uint _).mono ?_
  rintro e w1 ⟨rfl, rfl⟩
  go_wp2
  go_ret
  exact ⟨rfl, rfl⟩
theorem nil_text (w : World) : Calls Try.prog 89 #[.pointer none] w fun e w' => e = .returned (.slice none 0 0) ∧ w = w' := by
  go_enter Try.func89, Try.ntmps89
  go_wp2_with fail
  refine (nil_num _ 4).mono ?_
  rintro e w1 ⟨rfl, rfl⟩
  go_wp2_with fail
  refine (nil_bytes _ 0).mono ?_
  rintro e w1 ⟨rfl, rfl⟩
  go_wp2
  go_ret
  exact ⟨rfl, rfl⟩
theorem nil_bad (w : World) : Calls Try.prog 66 #[.pointer none] w fun e w' => e = .returned (.tuple #[]) ∧ w = w' := by
  go_enter Try.func66, Try.ntmps66
  go_wp2
  go_end0
  exact ⟨rfl, rfl⟩
theorem nil_count (w : World) (k : Nat) (hk : k < 1000) : Calls Try.prog 90 #[.pointer none, .int .i64 (k : Int)] w fun e w' => e = .returned (.int .i64 0) ∧ w = w' := by
  have hwr : IntKind.u64.wrap ((k : Nat) : Int) = ((k : Nat) : Int) := by simp [IntKind.wrap, IntKind.bits, IntKind.signed]; omega
  go_enter Try.func90, Try.ntmps90
  go_wp2_with fail
  refine (nil_uint _).mono ?_
  rintro e w1 ⟨rfl, rfl⟩
  go_wp2
  go_ret
  exact ⟨rfl, rfl⟩
theorem nil_done (w : World) : Calls Try.prog 60 #[.pointer none] w fun e w' => e = .returned (.int .i64 8) ∧ w = w' := by
  go_enter Try.func60, Try.ntmps60
  go_wp2
  go_ret
  exact ⟨rfl, rfl⟩
end Go.Proofs.Ytiemgmbjhllmbaa
end
section
set_option linter.unusedVariables false
namespace Go.Proofs.Ytiemgmbjhllmbaa
theorem be_succ (n x : Nat) : be (n + 1) x = UInt8.ofNat (x / 2 ^ (8 * n)) :: be n x := by
  unfold be
  rw [List.range_succ_eq_map, List.map_cons, List.map_map]
  congr 1
  refine List.map_congr_left fun j hj => ?_
  have := List.mem_range.1 hj
  simp only [Function.comp]
  have : n + 1 - 1 - (j + 1) = n - 1 - j := by omega
  rw [this]
theorem val_cons (c : UInt8) (l : List UInt8) : val (c :: l) = c.toNat * 256 ^ l.length + val l := by
  have h : ∀ (l : List UInt8) (v : Nat), l.foldl (fun v c => v * 256 + c.toNat) v = v * 256 ^ l.length + val l := by
    intro l
    induction l with
    | nil => intro v; simp [val]
    | cons d l ih =>
      intro v
      have e : val (d :: l) = d.toNat * 256 ^ l.length + val l := by rw [val, List.foldl_cons, ih]; simp
      rw [List.foldl_cons, ih, e, List.length_cons, Nat.pow_succ]
      simp only [Nat.add_mul, Nat.mul_assoc, Nat.add_assoc, Nat.mul_comm (256 ^ l.length) 256]
  rw [val, List.foldl_cons, h]
  simp
theorem val_be (n : Nat) : ∀ x : Nat, val (be n x) = x % 256 ^ n := by
  induction n with
  | zero => intro x; simp [be, val, Nat.mod_one]
  | succ n ih =>
    intro x
    have e : 2 ^ (8 * n) = 256 ^ n := by rw [Nat.pow_mul]
    have e2 : (UInt8.ofNat (x / 256 ^ n)).toNat = x / 256 ^ n % 256 := by rw [UInt8.toNat_ofNat']
    rw [be_succ, val_cons, ih, be_length, e, e2, Nat.pow_succ (n := 256), Nat.mod_mul, Nat.mul_comm]
    exact Nat.add_comm _ _
theorem val_be8 (x : Nat) (h : x < 2 ^ 64) : val (be 8 x) = x := by rw [val_be]; exact Nat.mod_eq_of_lt h
theorem val_be4 (x : Nat) (h : x < 2 ^ 32) : val (be 4 x) = x := by rw [val_be]; exact Nat.mod_eq_of_lt h
theorem val_be1 (x : Nat) (h : x < 256) : val (be 1 x) = x := by rw [val_be]; exact Nat.mod_eq_of_lt h
theorem less_val : ∀ (u v : List UInt8), u.length = v.length → Op.bytesLess u v = decide (val u < val v) := by
  intro u
  induction u with
  | nil => intro v h; cases v with
    | nil => simp [Op.bytesLess]
    | cons _ _ => simp at h
  | cons c u ih =>
    intro v h
    cases v with
    | nil => simp at h
    | cons d v =>
      have hl : u.length = v.length := by simpa using h
      have hu := val_lt u
      have hv := val_lt v
      rw [val_cons, val_cons, hl]
      rw [hl] at hu
      generalize hp : 256 ^ v.length = p at *
      have key : (c.toNat * p + val u < d.toNat * p + val v) ↔ (c.toNat < d.toNat ∨ (c.toNat = d.toNat ∧ val u < val v)) := by
        constructor
        · intro h'
          rcases Nat.lt_trichotomy c.toNat d.toNat with h1 | h1 | h1
          · exact .inl h1
          · rw [h1] at h'; exact .inr ⟨h1, by omega⟩
          · exfalso
            have := Nat.mul_le_mul_right p (show d.toNat + 1 ≤ c.toNat from h1)
            rw [Nat.add_mul] at this
            omega
        · rintro (h1 | ⟨h1, h2⟩)
          · have := Nat.mul_le_mul_right p (show c.toNat + 1 ≤ d.toNat from h1)
            rw [Nat.add_mul] at this
            omega
          · rw [h1]; omega
      simp only [Op.bytesLess, ih v hl]
      rw [Bool.eq_iff_iff, decide_eq_true_eq, key]
      simp [UInt8.lt_iff_toNat_lt, ← UInt8.toNat_inj]
theorem be8_inj {a b : Nat} (ha : a < 2 ^ 64) (hb : b < 2 ^ 64) (h : be 8 a = be 8 b) : a = b := by
  have := congrArg val h
  rwa [val_be8 a ha, val_be8 b hb] at this
theorem be4_inj {a b : Nat} (ha : a < 2 ^ 32) (hb : b < 2 ^ 32) (h : be 4 a = be 4 b) : a = b := by
  have := congrArg val h
  rwa [val_be4 a ha, val_be4 b hb] at this
theorem be8_less {a b : Nat} (ha : a < 2 ^ 64) (hb : b < 2 ^ 64) : Op.bytesLess (be 8 a) (be 8 b) = decide (a < b) := by
  rw [less_val _ _ (by rw [be_length, be_length]), val_be8 a ha, val_be8 b hb]
theorem text_prefix {s t r : List UInt8} (hs : s.length < 2 ^ 32) (ht : t.length < 2 ^ 32) (h : be 4 s.length ++ s ++ r = be 4 t.length ++ t) : s = t ∧ r = [] := by
  rw [List.append_assoc] at h
  obtain ⟨h1, h2⟩ := List.append_inj h (by rw [be_length, be_length])
  have hl := be4_inj hs ht h1
  obtain ⟨h3, h4⟩ := List.append_inj (s₁ := s) (t₁ := r) (s₂ := t) (t₂ := []) (by simpa using h2) hl
  exact ⟨h3, h4⟩
end Go.Proofs.Ytiemgmbjhllmbaa
end
section
set_option linter.unusedVariables false
namespace Go.Proofs.Ytiemgmbjhllmbaa
open Go.RowKit
theorem rTake_ok (n : Nat) (a r : List UInt8) (h : a.length = n) : rTake n (a ++ r, false) = (a, (r, false)) := by
  have h1 : ¬ a.length + r.length < n := by omega
  simp only [rTake, rdTake, rdLeft, rdBad, List.length_append, h1, decide_false, Bool.or_self, Bool.false_eq_true, if_false]
  rw [List.take_left' h, List.drop_left' h]
theorem rTake_short (n : Nat) (l : List UInt8) (h : l.length < n) : rTake n (l, false) = ([], (l, true)) := by
  simp [rTake, rdTake, rdLeft, rdBad, h]
theorem rByte_be (x : Nat) (r : List UInt8) (hx : x < 256) : rByte (be 1 x ++ r, false) = (x, (r, false)) := by
  unfold rByte; rw [rTake_ok 1 _ _ (be_length 1 x), val_be1 x hx]
theorem rUint_be (x : Nat) (r : List UInt8) (hx : x < 2 ^ 64) : rUint (be 8 x ++ r, false) = (x, (r, false)) := by
  unfold rUint; rw [rTake_ok 8 _ _ (be_length 8 x), val_be8 x hx]
theorem rText_be (s r : List UInt8) (hs : s.length < 2 ^ 32) : rText (be 4 s.length ++ (s ++ r), false) = (s, (r, false)) := by
  unfold rText; rw [rTake_ok 4 _ _ (be_length 4 _), val_be4 _ hs, rTake_ok _ _ _ rfl]
theorem rByte_short (l : List UInt8) (h : l.length < 1) : rByte (l, false) = (0, (l, true)) := by unfold rByte; rw [rTake_short _ _ h]; rfl
theorem rUint_short (l : List UInt8) (h : l.length < 8) : rUint (l, false) = (0, (l, true)) := by unfold rUint; rw [rTake_short _ _ h]; rfl
theorem rText_short (s l : List UInt8) (hs : s.length < 2 ^ 32) (h : l.length < 4 + s.length) (hp : l <+: be 4 s.length ++ s) : ∃ l', rText (l, false) = ([], (l', true)) := by
  by_cases h4 : l.length < 4
  · exact ⟨l, by unfold rText; rw [rTake_short _ _ h4]; exact rTake_bad _ _⟩
  · obtain ⟨t, ht⟩ := hp
    have h5 : l.take 4 = be 4 s.length := by
      have := congrArg (List.take 4) ht
      rw [List.take_append_of_le_length (by omega), List.take_left' (be_length 4 _)] at this
      exact this
    have h6 : l = be 4 s.length ++ l.drop 4 := by rw [← h5, List.take_append_drop]
    refine ⟨l.drop 4, ?_⟩
    rw [h6]
    unfold rText
    rw [rTake_ok 4 _ _ (be_length 4 _), val_be4 _ hs, List.drop_left' (be_length 4 _)]
    rw [rTake_short _ _ (by simp; omega)]
theorem u64_wrap64 (v : Nat) (h : v < 2 ^ 64) : u64 (wrap64 (v : Int)) = v := by unfold u64 wrap64; omega
theorem i64_inj {a b : Nat} (ha : a < 2 ^ 64) (hb : b < 2 ^ 64) (h : i64 a = i64 b) : a = b := by
  have := congrArg u64 h
  unfold i64 at this
  rwa [u64_wrap64 a ha, u64_wrap64 b hb] at this
end Go.Proofs.Ytiemgmbjhllmbaa
end
