/-
  '[]byte(s)' of a string, and '[]byte(s)' read as a list.
-/
import Derived.Test.YtiemgmbjhllmbaaYA
import Derived.Lib.ConvBytes
import Derived.Laws.AppendOwn
set_option linter.unusedVariables false
namespace Go.Proofs.Ytiemgmbjhllmbaa
open Go.RowKit
theorem run_bytes_sl {P : Program} (w : World) (src dst e : TypeId) (l : List UInt8) (hs : P.underlying src = some .string) (hd : P.underlying dst = some (.slice e)) (he : P.underlying e = some (.int .u8)) :
    ∃ v w', (convert src dst (.string ⟨l.toArray⟩)).run P w = .ok v w' ∧ Sl w' v (bytes l) ∧ Below w.heap.size w w' := by
  refine ⟨_, _, Lib.run_convert_string_bytes (P := P) w src dst e ⟨l.toArray⟩ hs hd he, ?_, ?_⟩
  · have hsz : (⟨l.toArray⟩ : ByteArray).size = l.length := rfl
    refine ⟨some ⟨w.heap.size, 0, none⟩, grownCap w (⟨l.toArray⟩ : ByteArray).size 0 e, by rw [bytes_length, hsz], by rw [bytes_length, ← hsz]; exact grownCap_ge _ _ _ _, .inr ⟨w.heap.size, 0, rfl, ?_, fun k hk => ?_⟩⟩
    · rw [Lib.bytesWorld_size]; omega
    · rw [bytes_length] at hk
      rw [Nat.zero_add, Lib.bytesWorld_cell w e ⟨l.toArray⟩ k hk]
      simp [bytes, byte, List.getD, List.getElem?_eq_getElem hk]
  · exact ⟨rfl, rfl, rfl, by rw [Lib.bytesWorld_size]; omega, fun k hk => Lib.bytesWorld_at_old w e _ k hk⟩
end Go.Proofs.Ytiemgmbjhllmbaa
