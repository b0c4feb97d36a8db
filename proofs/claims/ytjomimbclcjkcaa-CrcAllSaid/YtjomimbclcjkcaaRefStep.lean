/-
  The document's step over a row of 64 bits: it answers the row of the check's word one step on.
-/
import Derived.Test.YtjomimbclcjkcaaSum
import Derived.Test.YtjomimbclcjkcaaRefPlain
import Derived.RegionTactic
import Derived.Laws.Rows
import Derived.Laws.CopyOwn
import Derived.Laws.Bits64
set_option linter.unusedVariables false
namespace Go.Proofs.Ytjomimbclcjkcaa
open Go.RowKit Plain

/-- 64 bits as cells. -/
def bcells (f : Nat → Bool) : Array Value := (Array.range 64).map fun i => .bool (f i)
theorem bcells_size (f : Nat → Bool) : (bcells f).size = 64 := by simp [bcells]
theorem bcells_get (f : Nat → Bool) (k : Nat) (h : k < 64) : (bcells f)[k]? = some (.bool (f k)) := by simp [bcells, h]
theorem bcells_set (f : Nat → Bool) (k : Nat) (b : Bool) : (bcells f).setIfInBounds k (.bool b) = bcells (upd f k b) := by
  unfold bcells upd
  apply Array.ext_getElem?
  intro i
  rw [Array.getElem?_setIfInBounds]
  by_cases h : k = i
  · subst h
    by_cases h2 : k < 64 <;> simp [h2]
  · rw [if_neg h]
    by_cases h2 : i < 64 <;> simp [h2, Ne.symm h]
theorem bcells_one (f : Nat → Bool) : (bcells f).all (·.oneCell') = true := by
  rw [Array.all_eq_true]; intro i h; simp [bcells, Value.oneCell']

/-- Block g holds the bits f. -/
def Bk (w : World) (g : Nat) (f : Nat → Bool) : Prop := w.heap[g]? = some (.cells (bcells f) 33 (0, 0))
theorem Bk.lt {w : World} {g : Nat} {f : Nat → Bool} (h : Bk w g f) : g < w.heap.size := (Array.getElem?_eq_some_iff.1 h).1
theorem Bk.cell {w : World} {g : Nat} {f : Nat → Bool} (h : Bk w g f) (k : Nat) (hk : k < 64) : w.cell? ⟨g, k, none⟩ = some (.bool (f k)) := by
  unfold World.cell?; rw [show w.heap[g]? = _ from h]; exact bcells_get f k hk
theorem Bk.frozen {w : World} {g : Nat} {f : Nat → Bool} (h : Bk w g f) (k : Nat) : w.frozen? ⟨g, k, none⟩ = false := by
  unfold World.frozen?; rw [show w.heap[g]? = _ from h]; simp
theorem Bk.set {w : World} {g : Nat} {f : Nat → Bool} (h : Bk w g f) (k : Nat) (b : Bool) : Bk (w.setCell ⟨g, k, none⟩ (.bool b)) g (upd f k b) := by
  unfold Bk; rw [← bcells_set]
  simp [World.setCell, Array.getElem?_modify, show w.heap[g]? = _ from h]
theorem Bk.other {w : World} {g g' : Nat} {f : Nat → Bool} (h : Bk w g f) (hne : g' ≠ g) (k : Nat) (v : Value) : Bk (w.setCell ⟨g', k, none⟩ v) g f := by
  unfold Bk; rw [Below.heap_setCell w ⟨g', k, none⟩ v g (fun e => hne e.symm)]; exact h
theorem Bk.drew {w : World} {g : Nat} {f : Nat → Bool} (h : Bk w g f) : Bk w.drew g f := h
theorem Bk.alloc {w : World} {g : Nat} {f : Nat → Bool} (h : Bk w g f) (o : Obj) : Bk (w.alloc o) g f := by
  have hl := h.lt
  show (w.heap.push o)[g]? = _
  rw [Array.getElem?_push_lt hl]
  rw [← Array.getElem?_eq_getElem hl]; exact h
theorem Bk.new (w : World) (f : Nat → Bool) : Bk (w.alloc (.cells (bcells f) 33)) w.heap.size f := by
  show (w.heap.push _)[w.heap.size]? = _
  simp
theorem Bk.below {w w' : World} {g B : Nat} {f : Nat → Bool} (h : Bk w g f) (hb : Below B w w') (hg : g < B) : Bk w' g f := by
  unfold Bk; rw [hb.block g hg]; exact h
theorem zeros_eq : bcells (fun _ => false) = (List.replicate 64 (Value.bool false)).toArray := by kernel_rfl

theorem poly_bits : ∀ k, k < 64 → (bits BinOp.and IntKind.u64 (14514072000185962306 / 2 ^ k) 1 == 1) = poly.getLsbD k := by decide +kernel
theorem poly_bit (k : Nat) (h : k < 64) : (bits BinOp.and IntKind.u64 (14514072000185962306 / 2 ^ k) 1 == 1) = poly.getLsbD k := poly_bits k h
theorem byte_bits : ∀ n : Nat, n < 256 → ∀ k : Nat, k < 8 → (bits BinOp.and IntKind.u8 ((n : Int) / 2 ^ k) 1 == 1) = Nat.testBit n k := by decide +kernel
theorem byte_bit (c : UInt8) (k : Nat) (h : k < 8) : (bits BinOp.and IntKind.u8 ((c.toNat : Int) / 2 ^ k) 1 == 1) = c.toNat.testBit k := byte_bits _ c.toNat_lt k h

set_option maxRecDepth 100000 in
set_option maxHeartbeats 800000 in
theorem step_any (x : BitVec 64) (w : World) : Calls Try.prog 11 #[.agg (bcells fun j => x.getLsbD j)] w fun e w' => e = .returned (.agg (bcells fun j => (cstep x).getLsbD j)) ∧ Below w.heap.size w w' := by
  have hz := zeros_eq
  simp only [List.replicate_succ, List.replicate_zero] at hz
  have HZ := Lib.hid hz
  clear hz
  go_enter Try.func11, Try.ntmps11
  go_wp2
  rw [← HZ.out]
  obtain ⟨W, hW⟩ : ∃ W, W = ((w.alloc (Obj.cells (bcells fun j => x.getLsbD j) 33)).alloc (.cells (bcells fun _ => false) 33)).alloc (.cells (bcells fun _ => false) 33) := ⟨_, rfl⟩
  rw [← hW]
  have k1 : Bk W w.heap.size (bitsOf x) := by rw [hW]; exact ((Bk.new w _).alloc _).alloc _
  have k2 : Bk W (w.heap.size + 1) fun _ => false := by
    rw [hW]; have := (Bk.new (w.alloc (Obj.cells (bcells fun j => x.getLsbD j) 33)) fun _ => false).alloc (.cells (bcells fun _ => false) 33)
    rw [World.size_alloc] at this; exact this
  have k3 : Bk W (w.heap.size + 1 + 1) (moveTo x 0) := by
    rw [hW, moveTo_zero]; have := Bk.new ((w.alloc (Obj.cells (bcells fun j => x.getLsbD j) 33)).alloc (.cells (bcells fun _ => false) 33)) fun _ => false
    rw [World.size_alloc, World.size_alloc] at this; exact this
  have kb : Below w.heap.size w W := by rw [hW]; exact (((Below.refl _ _).alloc (Nat.le_refl _) _).alloc (by simp) _).alloc (by simp; omega) _
  clear hW HZ
  go_loopw [4] (fun i wr => ∃ k : Nat, k ≤ 63 ∧ i = .int .i64 k ∧ Bk wr w.heap.size (bitsOf x) ∧ Bk wr (w.heap.size + 1) (fun _ => false) ∧ Bk wr (w.heap.size + 1 + 1) (moveTo x k) ∧ Below w.heap.size w wr) (fun i _ => 63 - (intOf i).toNat)
  case atStart => exact ⟨0, by omega, rfl, k1, k2, k3, kb⟩
  case round =>
    clear k1 k2 k3 kb
    obtain ⟨k, hk, rfl, k1, k2, k3, kb⟩ := hrel
    by_cases hlt : k < 63
    · have c1 := k1.cell (k + 1) (by omega)
      have c3 := k3.cell k (by omega)
      have f3 := k3.frozen k
      have s1 := k1.other (g' := w.heap.size + 1 + 1) (by omega) k (.bool (bitsOf x (k + 1)))
      have s2 := k2.other (g' := w.heap.size + 1 + 1) (by omega) k (.bool (bitsOf x (k + 1)))
      have s3 := k3.set k (bitsOf x (k + 1))
      rw [show bitsOf x (k + 1) = x.getLsbD (k + 1) from rfl, moveTo_succ] at s3
      have S1 := Lib.hid s1
      have S2 := Lib.hid s2
      have S3 := Lib.hid s3
      clear s1 s2 s3 k1 k2 k3
      go_wp2
      go_roundw
      case rel => exact ⟨k + 1, by omega, by go_num, S1.out, S2.out, S3.out, kb.setCell (p := ⟨w.heap.size + 1 + 1, k, none⟩) (by simp; omega) _⟩
      case measure => simp [intOf]; omega
    · obtain rfl : k = 63 := by omega
      have c1 := k1.cell 0 (by omega)
      rw [show bitsOf x 0 = x.getLsbD 0 from rfl] at c1
      rw [moveTo_end] at k3
      have rI : (Try.prog.info? 33).map (·.size) = some 64 := by kernel_rfl
      cases hb : x.getLsbD 0 with
      | false =>
        rw [hb] at c1
        have hs := step_no x hb
        have K1 := Lib.hid k1
        have K2 := Lib.hid k2
        have K3 := Lib.hid k3
        have HS := Lib.hid hs
        have HB := Lib.hid hb
        clear k1 k2 k3 hs hb
        go_wp2_with (first | (refine wpList_load_row rfl 33 _ rfl (w.heap.size + 1 + 1) rfl 33 (bcells (bitsOf (x >>> 1))) (0, 0) _ (show wr.heap[_]? = _ from K3.out) Try.underlying33 rfl (by rw [bcells_size]; exact rI) ?_) | (refine wpList_store_row rfl 33 _ _ rfl (w.heap.size + 1) (bcells (bitsOf (x >>> 1))) rfl rfl 33 (bcells fun _ => false) (show wr.heap[_]? = _ from K2.out) (by rw [bcells_size]; exact rI) (by rw [bcells_size, bcells_size]) (bcells_one _) ?_))
        have hrow := setRow_heap wr (w.heap.size + 1) _ (bcells (bitsOf (x >>> 1))) 33 (0, 0) (show wr.heap[_]? = _ from K2.out)
        refine bodyPost_ret (v := .agg (bcells (bitsOf (x >>> 1)))) (results_cell_row rfl _ _ (w.heap.size + 1) 33 (bcells (bitsOf (x >>> 1))) (0, 0) _ rfl hrow Try.underlying33 rfl (by rw [bcells_size]; exact rI)) rfl ⟨?_, below_setRow kb (Nat.le_succ _) _⟩
        rw [HS.out]; rfl
      | true =>
        rw [hb] at c1
        have hs := step_yes x hb
        have K2 := Lib.hid k2
        have HS := Lib.hid hs
        have HB := Lib.hid hb
        clear k1 k2 hs hb
        rw [← addTo_zero] at k3
        have K3 := Lib.hid k3
        clear k3
        go_wp2
        go_loopw [6] (fun i wr => ∃ k : Nat, k ≤ 64 ∧ i = .int .i64 k ∧ Bk wr (w.heap.size + 1) (fun _ => false) ∧ Bk wr (w.heap.size + 1 + 1) (addTo x k) ∧ Below w.heap.size w wr) (fun i _ => 64 - (intOf i).toNat)
        case atStart => exact ⟨0, by omega, rfl, K2.out, K3.out, kb⟩
        case round =>
          clear K2 K3 kb
          obtain ⟨k, hk, rfl, k2, k3, kb⟩ := hrel
          by_cases hlt : k < 64
          · have c3 := k3.cell k (by omega)
            rw [addTo_at] at c3
            have f3 := k3.frozen k
            have h1 : (0 : Int) ≤ (k : Int) := by omega
            have h2 : (k : Int) < 64 := by omega
            have s2 := (k2.other (g' := w.heap.size + 1 + 1) (by omega) k (.bool ((x >>> 1).getLsbD k != poly.getLsbD k))).drew
            have s3 := (k3.set k ((x >>> 1).getLsbD k != poly.getLsbD k)).drew
            rw [addTo_succ] at s3
            rw [BitVec.getLsbD_ushiftRight] at s2 s3
            have sb := (kb.setCell (p := ⟨w.heap.size + 1 + 1, k, none⟩) (by simp; omega) (.bool (x.getLsbD (1 + k) != poly.getLsbD k))).drew
            have S2 := Lib.hid s2
            have S3 := Lib.hid s3
            have SB := Lib.hid sb
            have HV := Lib.hid (poly_bit k hlt)
            clear k2 k3 s2 s3 sb kb
            go_wp2
            go_region
            rw [HV.out]
            go_wp2
            go_roundw
            case rel => exact ⟨k + 1, by omega, by go_num, S2.out, S3.out, SB.out⟩
            case measure => simp [intOf]; omega
          · obtain rfl : k = 64 := by omega
            have K2 := Lib.hid k2
            have K3 := Lib.hid k3
            clear k2 k3
            go_wp2_with (first | (refine wpList_load_row rfl 33 _ rfl (w.heap.size + 1 + 1) rfl 33 (bcells (addTo x 64)) (0, 0) _ (show wr.heap[_]? = _ from K3.out) Try.underlying33 rfl (by rw [bcells_size]; exact rI) ?_) | (refine wpList_store_row rfl 33 _ _ rfl (w.heap.size + 1) (bcells (addTo x 64)) rfl rfl 33 (bcells fun _ => false) (show wr.heap[_]? = _ from K2.out) (by rw [bcells_size]; exact rI) (by rw [bcells_size, bcells_size]) (bcells_one _) ?_))
            have hrow := setRow_heap wr (w.heap.size + 1) _ (bcells (addTo x 64)) 33 (0, 0) (show wr.heap[_]? = _ from K2.out)
            refine bodyPost_ret (v := .agg (bcells (addTo x 64))) (results_cell_row rfl _ _ (w.heap.size + 1) 33 (bcells (addTo x 64)) (0, 0) _ rfl hrow Try.underlying33 rfl (by rw [bcells_size]; exact rI)) rfl ⟨?_, below_setRow kb (Nat.le_succ _) _⟩
            rw [HS.out]; rfl
end Go.Proofs.Ytjomimbclcjkcaa
