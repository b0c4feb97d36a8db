/-
  What wire puts: numbers and texts as bytes behind others, as slices of the call's own.
-/
import Derived.Test.YtclicammiopjlaaRows
import Derived.Test.YtclicammiopjlaaBase
import Derived.WalkLawsBesides
import Derived.WalkSpells
import Derived.Outline
set_option linter.unusedVariables false
namespace Go.Proofs.Ytclicammiopjlaa
open Go.RowKit

theorem info_u8 : (Try.prog.info? 5).map (fun i => (i.zero, i.size, i.bytes)) = some (some (.int .u8 0), 1, 1) := by kernel_rfl
theorem one_bytes (l : List UInt8) : ∀ u ∈ bytes l, u.oneCell' = true := by
  intro u hu
  obtain ⟨c, _, rfl⟩ := List.mem_map.1 hu
  rfl
theorem bytes_append (a b : List UInt8) : bytes (a ++ b) = bytes a ++ bytes b := by simp [bytes]
theorem bytes_set (l : List UInt8) (k : Nat) (x : UInt8) : (bytes l).set k (.int .u8 (x.toNat : Int)) = bytes (l.set k x) := by
  unfold bytes; rw [List.map_set]; rfl

/-- append(s, x...) of bytes. -/
theorem run_append_u8 (w : World) (base : Nat) (v y : Value) (l m : List UInt8) (hown : Own w base 5 v (bytes l)) (hy : Sl w y (bytes m))
    (h63 : l.length + m.length ≤ 100000000000) (hbase : base ≤ w.heap.size) :
    ∃ v' w', (Builtin.append_ #[27, 27] 27 #[v, y]).run Try.prog w = .ok v' w' ∧ Own w' base 5 v' (bytes (l ++ m)) ∧ w.grownBy w' v.ownBlock := by
  obtain ⟨i0, hi0, hz0, hz1, hz2⟩ := info_parts info_u8
  rw [bytes_append]
  exact run_append_sl w base 27 27 5 i0 _ 1 Try.underlying27 hi0 hz0 hz1 hz2 rfl v y (bytes l) (bytes m) hown hy (one_bytes m) (by rw [bytes_length, bytes_length]; unfold maxLen; omega) (by rw [bytes_length, bytes_length]; omega) hbase

theorem Own.ownBlock_ge {w : World} {base : Nat} {e : TypeId} {v : Value} {xs : List Value} (h : Own w base e v xs) : ∀ k, v.ownBlock = some k → base ≤ k := fun k hk => (World.ownsRow.lt h k hk).1

/-- The call hands back a slice of its own that reads as the bytes l; what was there stays. -/
def RetBytes (w : World) (l : List UInt8) (en : Ending) (w' : World) : Prop := ∃ v, en = .returned v ∧ Own w' w.heap.size 5 v (bytes l) ∧ Below w.heap.size w w'

set_option maxHeartbeats 400000 in
theorem clone_any (v : Value) (l : List UInt8) (w : World) (hs : Sl w v (bytes l)) (hl : l.length ≤ 10000000000) :
    Calls Try.prog 42 #[v] w (RetBytes w l) := by
  have hs' := hs
  obtain ⟨a, cap, rfl, hcap, hc⟩ := hs.bytes
  cases a with
  | none =>
    have hn : l = [] := by
      rcases hc with h | ⟨b, off, h, _⟩
      · exact h
      · cases h
    subst hn
    have hnil := Lib.run_eql_slice_nil (P := Try.prog) w 27 5 none 0 cap 0 0 Try.underlying27
    go_enter Try.func42, Try.ntmps42
    go_wp2
    go_ret
    exact ⟨_, rfl, Own.nil0 _ _ _, Below.refl _ _⟩
  | some ad =>
    obtain ⟨v1, w1, hr, hown, hg⟩ := run_append_u8 (w.alloc (.cells #[] 5)) w.heap.size (.slice (some ⟨w.heap.size, 0, none⟩) 0 0) (.slice (some ad) l.length cap) [] l (Own.nil_lit w 5 (Nat.le_refl _)) (hs'.below ((Below.refl _ _).alloc (Nat.le_refl _) _)) (by simp; omega) (by simp)
    have hnil := Lib.run_eql_slice_nil (P := Try.prog) w 27 5 (some ad) l.length cap 0 0 Try.underlying27
    have hb : Below w.heap.size w w1 := ((Below.refl _ _).alloc (Nat.le_refl _) _).grown hg (by simp) (by intro k hk; simp [Value.ownBlock] at hk; omega)
    go_enter Try.func42, Try.ntmps42
    go_wp2_with (at_builtin; refine wpList_run_append hr rfl _ _ rfl rfl rfl ?_)
    go_ret
    exact ⟨_, rfl, hown, hb⟩

/-- A number as n bytes, the highest first. -/
def be (n x : Nat) : List UInt8 := (List.range n).map fun j => UInt8.ofNat (x / 2 ^ (8 * (n - 1 - j)))
theorem be_length (n x : Nat) : (be n x).length = n := by simp [be]
theorem be_take (n x j : Nat) (hj : j < n) : (be n x).take (j + 1) = (be n x).take j ++ [UInt8.ofNat (x / 2 ^ (8 * (n - 1 - j)))] := by
  rw [List.take_succ_eq_append_getElem (by rw [be_length]; exact hj)]
  simp [be]

set_option maxHeartbeats 400000 in
theorem number_any (v : Value) (l : List UInt8) (x n : Nat) (w : World) (hs : Sl w v (bytes l)) (hl : l.length ≤ 1000000000) (hx : x < 2 ^ 64) (hn : n ≤ 8) :
    Calls Try.prog 41 #[v, .int .u64 (x : Int), .int .i64 (n : Int)] w (RetBytes w (l ++ be n x)) := by
  go_enter Try.func41, Try.ntmps41
  go_wp2_with fail
  refine (clone_any _ l _ hs (by omega)).mono ?_
  rintro e w1 ⟨v1, rfl, hown1, hb1⟩
  go_wp2
  go_loopw [7, 8] (fun u i wr => ∃ j : Nat, j ≤ n ∧ i = .int .i64 ((n : Int) - 1 - (j : Int)) ∧ Own wr w.heap.size 5 u (bytes (l ++ (be n x).take j)) ∧ Below w.heap.size w wr) (fun _ i _ => (intOf i + 1).toNat)
  case atStart => exact ⟨0, Nat.zero_le _, by go_num, by simpa using hown1, hb1⟩
  case round =>
    obtain ⟨j, hj, rfl, hown, hb⟩ := hrel
    by_cases hlt : j < n
    · obtain ⟨k, hk, hk8, hkn⟩ : ∃ k : Nat, (n : Int) - 1 - (j : Int) = (k : Int) ∧ k < 8 ∧ n - 1 - j = k := ⟨n - 1 - j, by omega, by omega, rfl⟩
      rw [hk]
      have hce : ((x : Int) / 2 ^ (8 * k) % 256) = ((UInt8.ofNat (x / 2 ^ (8 * k))).toNat : Int) := by
        rw [UInt8.toNat_ofNat']
        simp
      obtain ⟨v2, w2, hr, hown2, hg2⟩ := run_append_u8 (wr.alloc (.cells #[.int .u8 ((x : Int) / 2 ^ (8 * k) % 256)] 5)) w.heap.size u7 (.slice (some ⟨wr.heap.size, 0, none⟩) 1 1)
        (l ++ (be n x).take j) [UInt8.ofNat (x / 2 ^ (8 * k))] (World.ownsRow.alloc hown _) (by rw [hce]; exact Sl.new wr [_] _ _ _ _ rfl (by decide)) (by simp [be_length]; omega) (Nat.le_trans hb.size (by simp))
      have hb2 : Below w.heap.size w w2 := (hb.alloc hb.size _).grown hg2 (Nat.le_trans hb.size (by simp)) (fun k hk => hown.ownBlock_ge k hk)
      have HK := Lib.hid (And.intro hk hkn)
      clear hk hkn hce
      go_wp2_with (at_builtin; refine wpList_run_append hr rfl _ _ rfl rfl rfl ?_)
      go_roundw
      case rel =>
        refine ⟨j + 1, by omega, val_int (by have := HK.out.1; omega), ?_, hb2⟩
        rw [be_take n x j hlt, HK.out.2, ← List.append_assoc]; exact hown2
      case measure => have h0 := HK.out.1; simp [intOf] <;> omega
    · obtain rfl : j = n := by omega
      have hneg : ¬ (0 : Int) ≤ (j : Int) - 1 - (j : Int) := by omega
      go_wp2
      go_ret
      refine ⟨_, rfl, ?_, hb⟩
      rw [List.take_of_length_le (by rw [be_length]; exact Nat.le_refl _)] at hown
      exact hown

theorem byte_any (v : Value) (l : List UInt8) (x : Nat) (w : World) (hs : Sl w v (bytes l)) (hl : l.length ≤ 1000000000) (hx : x < 256) :
    Calls Try.prog 18 #[v, .int .u8 (x : Int)] w (RetBytes w (l ++ be 1 x)) := by
  go_enter Try.func18, Try.ntmps18
  go_wp2_with fail
  refine (number_any _ l x 1 _ hs hl (by omega) (by omega)).mono ?_
  rintro e w1 ⟨v1, rfl, hown1, hb1⟩
  go_wp2
  go_ret
  exact ⟨_, rfl, hown1, hb1⟩

theorem uint_any (v : Value) (l : List UInt8) (x : Nat) (w : World) (hs : Sl w v (bytes l)) (hl : l.length ≤ 1000000000) (hx : x < 2 ^ 64) :
    Calls Try.prog 19 #[v, .int .u64 (x : Int)] w (RetBytes w (l ++ be 8 x)) := by
  go_enter Try.func19, Try.ntmps19
  go_wp2_with fail
  refine (number_any _ l x 8 _ hs hl hx (by omega)).mono ?_
  rintro e w1 ⟨v1, rfl, hown1, hb1⟩
  go_wp2
  go_ret
  exact ⟨_, rfl, hown1, hb1⟩

/-- A signed number's bytes are those of what it is modulo 2^64. -/
def u64 (z : Int) : Nat := (z % 18446744073709551616).toNat
theorem u64_lt (z : Int) : u64 z < 2 ^ 64 := by unfold u64; omega
theorem u64_cast (z : Int) : ((u64 z : Nat) : Int) = z % 18446744073709551616 := by unfold u64; omega

theorem text_any (v s : Value) (l t : List UInt8) (w : World) (hs : Sl w v (bytes l)) (ht : Sl w s (bytes t)) (hl : l.length ≤ 1000000000) (htl : t.length ≤ 1000000000) :
    Calls Try.prog 20 #[v, s] w (RetBytes w (l ++ be 4 t.length ++ t)) := by
  obtain ⟨a, cap, rfl⟩ := ht.oneCells
  rw [bytes_length] at *
  go_enter Try.func20, Try.ntmps20
  go_wp2_with fail
  refine (number_any _ l t.length 4 _ hs hl (by omega) (by omega)).mono ?_
  rintro e w1 ⟨v1, rfl, hown1, hb1⟩
  obtain ⟨v2, w2, hr, hown2, hg2⟩ := run_append_u8 w1 w.heap.size v1 (.slice a t.length cap) (l ++ be 4 t.length) t hown1 (ht.below hb1) (by simp [be_length]; omega) hb1.size
  have hb2 : Below w.heap.size w w2 := hb1.grown hg2 hb1.size (fun k hk => hown1.ownBlock_ge k hk)
  go_wp2_with (at_builtin; refine wpList_run_append hr rfl _ _ rfl rfl rfl ?_)
  go_ret
  exact ⟨_, rfl, hown2, hb2⟩
end Go.Proofs.Ytclicammiopjlaa
