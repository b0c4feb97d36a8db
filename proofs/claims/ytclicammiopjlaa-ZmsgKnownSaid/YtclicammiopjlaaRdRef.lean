/-
  The reference's Number and Text answer the same bytes.
-/
import Derived.Test.YtclicammiopjlaaRdLaw
set_option linter.unusedVariables false
namespace Go.Proofs.Ytclicammiopjlaa
open Go.RowKit

theorem Own.cellByte {w : World} {base g cap : Nat} {e : TypeId} {l : List UInt8} (h : Own w base e (.slice (some ⟨g, 0, none⟩) l.length cap) (bytes l)) (j : Nat) (c : UInt8) (hj : l[j]? = some c) : w.cell? ⟨g, j, none⟩ = some (.int .u8 (c.toNat : Int)) := by
  unfold Own at h
  rw [bytes_length] at h
  have hlt : j < l.length := (List.getElem?_eq_some_iff.1 hj).1
  rw [World.ownsRow.cellAt h j (by omega)]
  simp [bytes, hj, byte]
theorem Own.frozenByte {w : World} {base g cap : Nat} {e : TypeId} {l : List UInt8} (h : Own w base e (.slice (some ⟨g, 0, none⟩) l.length cap) (bytes l)) (j : Nat) : w.frozen? ⟨g, j, none⟩ = false := by
  unfold Own at h
  rw [bytes_length] at h
  exact World.ownsRow.frozenAt h j
theorem Own.storeByte {w : World} {base g cap : Nat} {e : TypeId} {l : List UInt8} (h : Own w base e (.slice (some ⟨g, 0, none⟩) l.length cap) (bytes l)) (j : Nat) (c : UInt8) :
    Own (w.setCell ⟨g, j, none⟩ (.int .u8 (c.toNat : Int))) base e (.slice (some ⟨g, 0, none⟩) l.length cap) (bytes (l.set j c)) := by
  have h' : Own w base e (.slice (some ⟨g, 0, none⟩) (bytes l).length cap) (bytes l) := by rw [bytes_length]; exact h
  have := (h'.store j (.int .u8 (c.toNat : Int))).1
  rw [bytes_set, bytes_length, List.length_set] at this
  exact this

/-- make([]byte, n) -/
theorem run_make_u8 (w : World) (n : Nat) (hn : n ≤ 1000000) :
    ∃ w', (Instr.makeSlice 27 (.int .i64 (n : Int)) (.int .i64 (n : Int))).run Try.prog w = .ok (.slice (some ⟨w.heap.size, 0, none⟩) n n) w' ∧
      Own w' w.heap.size 5 (.slice (some ⟨w.heap.size, 0, none⟩) n n) (bytes (List.replicate n 0)) ∧ Below w.heap.size w w' := by
  obtain ⟨i0, hi0, hz0, hz1, hz2⟩ := info_parts info_u8
  obtain ⟨w', h1, h2, h3⟩ := run_make_full (P := Try.prog) w w.heap.size 27 5 i0 _ 1 Try.underlying27 hi0 hz0 hz1 .i64 .i64 n (by rw [hz2]; omega) (by unfold maxLen; omega) (Nat.le_refl _)
  refine ⟨w', h1, ?_, grownBy_below h3 (Nat.le_refl _) (by intro k hk; cases hk)⟩
  have e : (madeCells (Value.int .u8 0).cells (n * 1)).toList = bytes (List.replicate n 0) := by
    have := toList_madeCells_one (.int .u8 0) (n * 1)
    rw [Nat.mul_one] at this ⊢
    have e2 : (Value.int .u8 0).cells = #[.int .u8 0] := rfl
    rw [e2, this]
    simp [bytes, byte]
  rw [e] at h2
  unfold Own
  rw [bytes_length, List.length_replicate]
  exact h2

def back (n x j : Nat) : List UInt8 := List.replicate (n - j) 0 ++ (be n x).drop (n - j)
theorem back_length (n x j : Nat) (hj : j ≤ n) : (back n x j).length = n := by simp [back, be_length] <;> omega
theorem be_get (n x k : Nat) (hk : k < n) : (be n x)[k]? = some (UInt8.ofNat (x / 2 ^ (8 * (n - 1 - k)))) := by
  simp [be, hk]
theorem back_zero (n x : Nat) : back n x 0 = List.replicate n 0 := by simp [back, be_length]
theorem back_all (n x : Nat) : back n x n = be n x := by simp [back]
theorem back_succ (n x j : Nat) (hj : j < n) : (back n x j).set (n - 1 - j) (UInt8.ofNat (x / 2 ^ (8 * j))) = back n x (j + 1) := by
  have hb := be_length n x
  apply List.ext_getElem?
  intro k
  have e1 : n - (j + 1) = n - 1 - j := by omega
  unfold back
  rw [List.getElem?_set, e1]
  split
  · rename_i h
    subst h
    rw [if_pos (by simp [hb]; omega), List.getElem?_append_right (by simp), List.getElem?_drop]
    rw [show n - 1 - j + (n - 1 - j - (List.replicate (n - 1 - j) (0 : UInt8)).length) = n - 1 - j by simp, be_get _ _ _ (by omega), show n - 1 - (n - 1 - j) = j by omega]
  · rename_i h
    by_cases hk : k < n - 1 - j
    · rw [List.getElem?_append_left (by simp; omega), List.getElem?_append_left (by simp; omega)]
      simp [List.getElem?_replicate]
      rw [if_pos (by omega), if_pos (by omega)]
    · rw [List.getElem?_append_right (by simp; omega), List.getElem?_append_right (by simp; omega), List.getElem?_drop, List.getElem?_drop]
      congr 1
      simp
      omega

theorem below_mono_size {a b : World} (h : Below a.heap.size a b) {B : Nat} (hB : B ≤ a.heap.size) : Below B a b := h.mono hB

set_option maxHeartbeats 400000 in
theorem refnumber_any (x n : Nat) (w : World) (hx : x < 2 ^ 64) (hn : n ≤ 8) :
    Calls Try.prog 21 #[.int .u64 (x : Int), .int .i64 (n : Int)] w (RetBytes w (be n x)) := by
  obtain ⟨w1, hr, hown, hb⟩ := run_make_u8 w n (by omega)
  go_enter Try.func21, Try.ntmps21
  go_wp2
  clear hr
  go_loopw [0, 6] (fun u i wr => ∃ j : Nat, j ≤ n ∧ i = .int .i64 ((n : Int) - 1 - (j : Int)) ∧ u = .int .u64 ((x / 2 ^ (8 * j) : Nat) : Int) ∧ Own wr w.heap.size 5 (.slice (some ⟨w.heap.size, 0, none⟩) n n) (bytes (back n x j)) ∧ Below w.heap.size w wr) (fun _ i _ => (intOf i + 1).toNat)
  case atStart => exact ⟨0, Nat.zero_le _, by go_num, by simp, by rw [back_zero]; exact hown, hb⟩
  case round =>
    obtain ⟨j, hj, rfl, rfl, hown, hb⟩ := hrel
    by_cases hlt : j < n
    · obtain ⟨k, hk, hk8, hkn⟩ : ∃ k : Nat, (n : Int) - 1 - (j : Int) = (k : Int) ∧ k < n ∧ n - 1 - j = k := ⟨n - 1 - j, by omega, by omega, rfl⟩
      rw [hk]
      have hlen := back_length n x j (by omega)
      have hown' : Own wr w.heap.size 5 (.slice (some ⟨w.heap.size, 0, none⟩) (back n x j).length n) (bytes (back n x j)) := by rw [hlen]; exact hown
      obtain ⟨c0, hc0⟩ : ∃ c, (back n x j)[k]? = some c := ⟨_, List.getElem?_eq_getElem (by omega)⟩
      have cg := hown'.cellByte k c0 hc0
      have fg := hown'.frozenByte k
      obtain ⟨y, hy⟩ : ∃ y, y = x / 2 ^ (8 * j) := ⟨_, rfl⟩
      rw [← hy]
      have hy64 : y < 2 ^ 64 := by rw [hy]; exact Nat.lt_of_le_of_lt (Nat.div_le_self _ _) hx
      have HOWN := Lib.hid (hown'.storeByte k (UInt8.ofNat y))
      have hce : ((UInt8.ofNat y).toNat : Int) = (y : Int) % 256 := by rw [UInt8.toNat_ofNat']; simp
      have hd : ((y / 256 : Nat) : Int) = ((x / 2 ^ (8 * (j + 1)) : Nat) : Int) := by rw [hy, Nat.div_div_eq_div_mul, show 8 * (j + 1) = 8 * j + 8 by omega, Nat.pow_add]
      have HS : Hid ((back n x j).set k (UInt8.ofNat y) = back n x (j + 1)) := by rw [← hkn, hy]; exact back_succ n x j hlt
      rw [hce, hlen] at HOWN
      have HK := Lib.hid (And.intro hk (And.intro hkn hd))
      have hm : (y : Int) % 256 % 256 = (y : Int) % 256 := by omega
      clear hk hkn hce hown hown' hc0 hy hd hlen
      go_wp2
      go_roundw
      case rel =>
        refine ⟨j + 1, by omega, val_int (by have := HK.out.1; omega), val_int ?_, ?_, hb.setCell (p := ⟨w.heap.size, k, none⟩) (Nat.le_refl _) _⟩
        · rw [← HK.out.2.2]; simp
        · rw [← HS.out]; exact HOWN.out
      case measure => have h0 := HK.out.1; simp [intOf] <;> omega
    · obtain rfl : j = n := by omega
      have hneg : ¬ (0 : Int) ≤ (j : Int) - 1 - (j : Int) := by omega
      go_wp2
      go_ret
      refine ⟨_, rfl, ?_, hb⟩
      rw [back_all] at hown
      exact hown

theorem reftext_any (s : Value) (t : List UInt8) (w : World) (ht : Sl w s (bytes t)) (htl : t.length ≤ 1000000000) :
    Calls Try.prog 22 #[s] w (RetBytes w (be 4 t.length ++ t)) := by
  obtain ⟨a, cap, rfl, _, _⟩ := ht.bytes
  go_enter Try.func22, Try.ntmps22
  go_wp2_with fail
  refine (refnumber_any t.length 4 _ (by omega) (by omega)).mono ?_
  rintro e w1 ⟨v1, rfl, hown1, hb1⟩
  obtain ⟨v2, w2, hr, hown2, hg2⟩ := run_append_u8 w1 w.heap.size v1 (.slice a t.length cap) (be 4 t.length) t hown1 (ht.below hb1) (by simp [be_length]; omega) hb1.size
  have hb2 : Below w.heap.size w w2 := hb1.grown hg2 hb1.size (fun k hk => hown1.ownBlock_ge k hk)
  go_wp2_with (at_builtin; refine wpList_run_append hr rfl _ _ rfl rfl rfl ?_)
  go_ret
  exact ⟨_, rfl, hown2, hb2⟩
end Go.Proofs.Ytclicammiopjlaa
