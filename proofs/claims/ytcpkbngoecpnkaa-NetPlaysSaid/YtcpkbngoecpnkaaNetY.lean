/-
  A letter as a text.
-/
import Derived.Test.YtcpkbngoecpnkaaNetA
set_option linter.unusedVariables false
namespace Go.Proofs.Ytcpkbngoecpnkaa
open Go.RowKit

def b8 (a : Int) : UInt8 := UInt8.ofNat (a % 256).toNat
theorem b8_val (a : Int) : (Value.int .u8 (a % 256)) = .int .u8 ((b8 a).toNat : Int) := by
  congr 1
  unfold b8
  have h1 : 0 ≤ a % 256 := Int.emod_nonneg _ (by decide)
  have h2 : a % 256 < 256 := Int.emod_lt_of_pos _ (by decide)
  rw [UInt8.toNat_ofNat']
  omega
/-- The text of a letter. -/
def keyB (l : LetD) : List UInt8 := [b8 l.src.1, b8 l.src.2, b8 l.dst.1, b8 l.dst.2] ++ l.b
set_option maxHeartbeats 1000000 in
theorem key_any (w : World) (l : LetD) (bv : Value) (hb : Sl w bv (bytes l.b)) (hl : l.b.length ≤ 8388000) : Calls Try.prog 26 #[letV l bv] w fun e w' => e = .returned (.string ⟨(keyB l).toArray⟩) ∧ Gr w w' := by
  obtain ⟨⟨a1, a2⟩, ⟨b1, b2⟩, b⟩ := l
  obtain ⟨ab, cb, rfl, _⟩ := hb.bytes
  obtain ⟨w0, hw0⟩ : ∃ w0, w0 = w.alloc (.cells #[.int .i64 a1, .int .i64 a2, .int .i64 b1, .int .i64 b2, .slice ab b.length cb] 35) := ⟨_, rfl⟩
  have g0 : Gr w w0 := by rw [hw0]; exact (Gr.refl w).alloc _
  have cA : CellsAt w0 w.heap.size #[.int .i64 a1, .int .i64 a2, .int .i64 b1, .int .i64 b2, .slice ab b.length cb] 35 := by rw [hw0]; exact CellsAt.new _ _ _
  have y0 := cA.cell 0
  have y1 := cA.cell 1
  have y2 := cA.cell 2
  have y3 := cA.cell 3
  have hz : Sl (w0.alloc (.cells (bytes [b8 a1, b8 a2, b8 b1, b8 b2]).toArray 5)) (.slice (some ⟨w0.heap.size, 0, none⟩) 4 4) (bytes [b8 a1, b8 a2, b8 b1, b8 b2]) := Sl.new w0 _ 5 (0, 0) 4 4 rfl (Nat.le_refl _)
  have g1 : Gr w0 (w0.alloc (.cells #[.int .u8 (a1 % 256), .int .u8 (a2 % 256), .int .u8 (b1 % 256), .int .u8 (b2 % 256)] 5)) := (Gr.refl _).alloc _
  have ec : (bytes [b8 a1, b8 a2, b8 b1, b8 b2]).toArray = #[.int .u8 (a1 % 256), .int .u8 (a2 % 256), .int .u8 (b1 % 256), .int .u8 (b2 % 256)] := by
    rw [b8_val, b8_val, b8_val, b8_val]; rfl
  rw [ec] at hz
  have s1 := run_string_sl (P := Try.prog) 23 5 9 Try.underlying23 Try.underlying5 Try.underlying9 hz
  have s2 := run_string_sl (P := Try.prog) 23 5 9 Try.underlying23 Try.underlying5 Try.underlying9 (hb.below (Gr.trans g0 g1))
  have y4 := (cA.gr g1).cell 4
  have G1 := Lib.hid (Gr.trans g0 g1)
  have s3 := fun W => run_string_add_lists (P := Try.prog) W [b8 a1, b8 a2, b8 b1, b8 b2] b (by simp) (by have h9 : b.length ≤ 8388000 := hl; omega)
  unfold letV
  clear hz ec cA g0 g1 hb
  go_enter Try.func26, Try.ntmps26
  go_upto_region 1 with fail
  rw [← hw0]
  clear hw0
  go_wp2_with fail
  go_ret
  exact ⟨rfl, G1.out⟩
end Go.Proofs.Ytcpkbngoecpnkaa
