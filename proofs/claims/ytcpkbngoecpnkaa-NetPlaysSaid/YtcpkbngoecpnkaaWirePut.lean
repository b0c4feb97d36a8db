/-
  What wire puts: numbers and texts as bytes behind others, as slices of the call's own.
-/
import Derived.Test.YtcpkbngoecpnkaaRows
import Derived.Test.YtcpkbngoecpnkaaBase
import Derived.WalkLawsBesides
import Derived.WalkSpells
import Derived.Outline
set_option linter.unusedVariables false
namespace Go.Proofs.Ytcpkbngoecpnkaa
open Go.RowKit

theorem info_u8 : (Try.prog.info? 5).map (fun i => (i.zero, i.size, i.bytes)) = some (some (.int .u8 0), 1, 1) := by kernel_rfl
theorem one_bytes (l : List UInt8) : ∀ u ∈ bytes l, u.oneCell' = true := by
  intro u hu
  obtain ⟨c, _, rfl⟩ := List.mem_map.1 hu
  rfl
theorem bytes_append (a b : List UInt8) : bytes (a ++ b) = bytes a ++ bytes b := by simp [bytes]
theorem bytes_set (l : List UInt8) (k : Nat) (x : UInt8) : (bytes l).set k (.int .u8 (x.toNat : Int)) = bytes (l.set k x) := by
  unfold bytes; rw [List.map_set]; rfl

/-- append(s, x...) of bytes. -/
theorem run_append_u8 (w : World) (base : Nat) (v y : Value) (l m : List UInt8) (hown : Own w base 5 v (bytes l)) (hy : Sl w y (bytes m))
    (h63 : l.length + m.length ≤ 140737488355328) (hbase : base ≤ w.heap.size) :
    ∃ v' w', (Builtin.append_ #[23, 23] 23 #[v, y]).run Try.prog w = .ok v' w' ∧ Own w' base 5 v' (bytes (l ++ m)) ∧ w.grownBy w' v.ownBlock := by
  obtain ⟨i0, hi0, hz0, hz1, hz2⟩ := info_parts info_u8
  rw [bytes_append]
  exact run_append_sl w base 23 23 5 i0 _ 1 Try.underlying23 hi0 hz0 hz1 hz2 rfl v y (bytes l) (bytes m) hown hy (one_bytes m) (by rw [bytes_length, bytes_length]; unfold maxLen; omega) (by rw [bytes_length, bytes_length]; omega) hbase

theorem Own.ownBlock_ge {w : World} {base : Nat} {e : TypeId} {v : Value} {xs : List Value} (h : Own w base e v xs) : ∀ k, v.ownBlock = some k → base ≤ k := fun k hk => (World.ownsRow.lt h k hk).1

/-- The call hands back a slice of its own that reads as the bytes l; what was there stays. -/
def RetBytes (w : World) (l : List UInt8) (en : Ending) (w' : World) : Prop := ∃ v, en = .returned v ∧ Own w' w.heap.size 5 v (bytes l) ∧ Below w.heap.size w w'

set_option maxHeartbeats 400000 in
theorem clone_any (v : Value) (l : List UInt8) (w : World) (hs : Sl w v (bytes l)) (hl : l.length ≤ 140737488355328) :
    Calls Try.prog 42 #[v] w (RetBytes w l) := by
  have hs' := hs
  obtain ⟨a, cap, rfl, hcap, hc⟩ := hs.bytes
  cases a with
  | none =>
    have hn : l = [] := by
      rcases hc with h | ⟨b, off, h, _⟩
      · exact h
      · cases h
    subst hn
    have hnil := Lib.run_eql_slice_nil (P := Try.prog) w 23 5 none 0 cap 0 0 Try.underlying23
    go_enter Try.func42, Try.ntmps42
    go_wp2
    go_ret
    exact ⟨_, rfl, Own.nil0 _ _ _, Below.refl _ _⟩
  | some ad =>
    obtain ⟨v1, w1, hr, hown, hg⟩ := run_append_u8 (w.alloc (.cells #[] 5)) w.heap.size (.slice (some ⟨w.heap.size, 0, none⟩) 0 0) (.slice (some ad) l.length cap) [] l (Own.nil_lit w 5 (Nat.le_refl _)) (hs'.below ((Below.refl _ _).alloc (Nat.le_refl _) _)) (by simp; omega) (by simp)
    have hnil := Lib.run_eql_slice_nil (P := Try.prog) w 23 5 (some ad) l.length cap 0 0 Try.underlying23
    have hb : Below w.heap.size w w1 := ((Below.refl _ _).alloc (Nat.le_refl _) _).grown hg (by simp) (by intro k hk; simp [Value.ownBlock] at hk; omega)
    go_enter Try.func42, Try.ntmps42
    go_wp2_with (at_builtin; refine wpList_run_append hr rfl _ _ rfl rfl rfl ?_)
    go_ret
    exact ⟨_, rfl, hown, hb⟩

/-- A number as n bytes, the highest first. -/
def be (n x : Nat) : List UInt8 := (List.range n).map fun j => UInt8.ofNat (x / 2 ^ (8 * (n - 1 - j)))
theorem be_length (n x : Nat) : (be n x).length = n := by simp [be]
theorem be_take (n x j : Nat) (hj : j < n) : (be n x).take (j + 1) = (be n x).take j ++ [UInt8.ofNat (x / 2 ^ (8 * (n - 1 - j)))] := by
  rw [List.take_succ_eq_append_getElem (by rw [be_length]; exact hj)]
  simp [be]

/-- A signed number's bytes are those of what it is modulo 2^64. -/
def u64 (z : Int) : Nat := (z % 18446744073709551616).toNat
theorem u64_lt (z : Int) : u64 z < 2 ^ 64 := by unfold u64; omega
theorem u64_cast (z : Int) : ((u64 z : Nat) : Int) = z % 18446744073709551616 := by unfold u64; omega

end Go.Proofs.Ytcpkbngoecpnkaa
