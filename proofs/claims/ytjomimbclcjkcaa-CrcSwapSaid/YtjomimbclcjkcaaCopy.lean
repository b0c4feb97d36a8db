/-
  The copy 'append([]byte{}, b...)'.
-/
import Derived.Test.YtjomimbclcjkcaaGoes
import Derived.Test.YtjomimbclcjkcaaOwn
set_option linter.unusedVariables false
namespace Go.Proofs.Ytjomimbclcjkcaa
open Go.RowKit Plain
theorem info5 : (Try.prog.info? 5).map (fun i => (i.zero, i.size, i.bytes)) = some (some (.int .u8 0), 1, 1) := by kernel_rfl
theorem run_append5 (w : World) (base : Nat) (v y : Value) (xs ys : List Value) (hown : Own w base 5 v xs) (hy : Sl w y ys) (h1 : ∀ u ∈ ys, u.oneCell' = true)
    (h63 : xs.length + ys.length ≤ 100000000000) (hbase : base ≤ w.heap.size) :
    ∃ v' w', (Builtin.append_ #[22, 22] 22 #[v, y]).run Try.prog w = .ok v' w' ∧ Own w' base 5 v' (xs ++ ys) ∧ w.grownBy w' v.ownBlock := by
  obtain ⟨i0, hi0, hz0, hz1, hz2⟩ := info_parts info5
  exact run_append_sl w base 22 22 5 i0 _ 1 Try.underlying22 hi0 hz0 hz1 hz2 rfl v y xs ys hown hy h1 (by unfold maxLen; omega) (by omega) hbase
theorem one_bytes (l : List UInt8) : ∀ u ∈ bytes l, u.oneCell' = true := by
  intro u hu
  obtain ⟨c, _, rfl⟩ := List.mem_map.1 hu
  rfl
theorem bytes_set (l : List UInt8) (k : Nat) (x : UInt8) : (bytes l).set k (.int .u8 (x.toNat : Int)) = bytes (l.set k x) := by
  unfold bytes; rw [List.map_set]; rfl
/-- The copy 'append([]byte{}, b...)' of a slice that is not empty. -/
theorem copy5 (w : World) (b off cap : Nat) (l : List UInt8) (hl : Sl w (.slice (some ⟨b, off, none⟩) l.length cap) (bytes l)) (h : l ≠ []) (hm : l.length ≤ 4000) :
    ∃ g cap1 w1, (Builtin.append_ #[22, 22] 22 #[.slice (some ⟨w.heap.size, 0, none⟩) 0 0, .slice (some ⟨b, off, none⟩) l.length cap]).run Try.prog (w.alloc (.cells #[] 5)) = .ok (.slice (some ⟨g, 0, none⟩) l.length cap1) w1 ∧
      Own w1 w.heap.size 5 (.slice (some ⟨g, 0, none⟩) l.length cap1) (bytes l) ∧ w.heap.size ≤ g ∧ g < w1.heap.size ∧ Below w.heap.size w w1 := by
  obtain ⟨v1, w1, hr, hown, hg⟩ := run_append5 (w.alloc (.cells #[] 5)) w.heap.size (.slice (some ⟨w.heap.size, 0, none⟩) 0 0) (.slice (some ⟨b, off, none⟩) l.length cap) [] (bytes l) (Own.nil_lit w 5 (Nat.le_refl _)) (hl.below ((Below.refl _ _).alloc (Nat.le_refl _) _)) (one_bytes l) (by rw [bytes_length]; simp; omega) (by simp)
  have hne : bytes l ≠ [] := by rw [Ne, bytes_nil]; exact h
  rw [List.nil_append] at hown
  obtain ⟨g, cap1, rfl, hgb, hglt⟩ := hown.form hne
  rw [bytes_length] at *
  exact ⟨g, cap1, w1, hr, hown, hgb, hglt, ((Below.refl _ _).alloc (Nat.le_refl _) _).grown hg (by simp) (by intro k hk; simp [Value.ownBlock] at hk; omega)⟩

end Go.Proofs.Ytjomimbclcjkcaa
