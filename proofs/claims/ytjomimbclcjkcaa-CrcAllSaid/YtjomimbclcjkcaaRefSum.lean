/-
  The document's Sum: it answers the check of the bytes that its slice reads.
-/
import Derived.Test.YtjomimbclcjkcaaRefStep
set_option linter.unusedVariables false
namespace Go.Proofs.Ytjomimbclcjkcaa
open Go.RowKit Plain

theorem flip_at (x : BitVec 64) (c : UInt8) (k : Nat) : flipTo x c k k = x.getLsbD k := flipTo_at x c k

set_option maxRecDepth 100000 in
set_option maxHeartbeats 2000000 in
theorem refsum_any (v : Value) (l : List UInt8) (w : World) (hs : Sl w v (bytes l)) (hl : l.length ≤ 1000000) :
    Calls Try.prog 9 #[v] w fun e w' => e = .returned (.int .u64 ((crc l).toNat : Int)) ∧ Below w.heap.size w w' := by
  have rI : (Try.prog.info? 33).map (·.size) = some 64 := by kernel_rfl
  obtain ⟨a, cap, rfl, hc⟩ := hs.bytes
  have hz := zeros_eq
  simp only [List.replicate_succ, List.replicate_zero] at hz
  have HZ := Lib.hid hz
  have HC := Lib.hid hc
  clear hz hs hc
  go_enter Try.func9, Try.ntmps9
  go_wp2
  rw [← HZ.out]
  obtain ⟨W, hW⟩ : ∃ W, W = w.alloc (.cells (bcells fun _ => false) 33) := ⟨_, rfl⟩
  rw [← hW]
  have k1 : Bk W w.heap.size (trueTo 0) := by rw [hW, trueTo_zero]; exact Bk.new w _
  have kb : Below w.heap.size w W := by rw [hW]; exact (Below.refl _ _).alloc (Nat.le_refl _) _
  clear hW HZ
  go_loopw [4] (fun i wr => ∃ k : Nat, k ≤ 64 ∧ i = .int .i64 k ∧ Bk wr w.heap.size (trueTo k) ∧ Below w.heap.size w wr) (fun i _ => 64 - (intOf i).toNat)
  case atStart => exact ⟨0, by omega, rfl, k1, kb⟩
  case round =>
    clear k1 kb
    obtain ⟨k, hk, rfl, k1, kb⟩ := hrel
    by_cases hlt : k < 64
    · have c1 := k1.cell k (by omega)
      have f1 := k1.frozen k
      have s1 := k1.set k true
      rw [trueTo_succ] at s1
      have S1 := Lib.hid s1
      have SB := Lib.hid (kb.setCell (p := ⟨w.heap.size, k, none⟩) (by simp) (.bool true))
      clear k1 s1 kb
      go_wp2
      go_roundw
      case rel => exact ⟨k + 1, by omega, by go_num, S1.out, SB.out⟩
      case measure => simp [intOf]; omega
    · obtain rfl : k = 64 := by omega
      rw [show ((64 : Nat) : Int) = 64 from rfl]
      rw [bits_ones] at k1
      have K1 := Lib.hid k1
      clear k1
      go_wp2
      go_loopw [5, 6, 7] (fun i j t wr => ∃ k : Nat, k ≤ l.length ∧ i = .int .i64 k ∧ Bk wr w.heap.size (bitsOf (crun 18446744073709551615#64 (l.take k))) ∧ Below w.heap.size w wr) (fun i _ _ _ => l.length - (intOf i).toNat)
      case atStart => exact ⟨0, by omega, rfl, K1.out, kb⟩
      case round =>
        clear K1 kb
        obtain ⟨k, hk, rfl, k1, kb⟩ := hrel
        have HT := Lib.hid (crun_take 18446744073709551615#64 l k)
        generalize hx : crun 18446744073709551615#64 (l.take k) = x at *
        have HX := Lib.hid hx
        clear hx
        by_cases hlt : k < l.length
        · obtain ⟨b, off, rfl, hb, hcell⟩ := HC.out.resolve_left (by intro h; rw [h] at hlt; exact absurd hlt (Nat.not_lt_zero _))
          have g0 := hcell k hlt
          obtain ⟨c, hce⟩ : ∃ c, c = l[k] := ⟨_, rfl⟩
          rw [← hce] at g0
          have HCE := Lib.hid hce
          rw [← flipTo_zero x c] at k1
          have K1 := Lib.hid k1
          clear hcell hce k1
          go_wp2
          go_loopw [6] (fun j wr => ∃ m : Nat, m ≤ 8 ∧ j = .int .i64 m ∧ Bk wr w.heap.size (flipTo x c m) ∧ Below w.heap.size w wr) (fun j _ => 8 - (intOf j).toNat)
          case atStart => exact ⟨0, by omega, rfl, K1.out, kb⟩
          case round =>
            clear K1
            have KB0 := Lib.hid kb
            clear kb
            obtain ⟨m, hm, rfl, k2, kb2⟩ := hrel
            by_cases hlt2 : m < 8
            · have c1 := k2.cell m (by omega)
              rw [flipTo_at] at c1
              have f1 := k2.frozen m
              have g := (kb2.cell (p := ⟨b, off + k, none⟩) hb).trans g0
              have h1 : (0 : Int) ≤ (m : Int) := by omega
              have h2 : (m : Int) < 8 := by omega
              have h3 : (0 : Int) ≤ (k : Int) := by omega
              have h4 : (k : Int) < (l.length : Int) := by omega
              have s1 := (k2.set m (x.getLsbD m != c.toNat.testBit m)).drew
              rw [flipTo_succ] at s1
              have sb := (kb2.setCell (p := ⟨w.heap.size, m, none⟩) (by simp) (.bool (x.getLsbD m != c.toNat.testBit m))).drew
              have S1 := Lib.hid s1
              have SB := Lib.hid sb
              have HV := Lib.hid (byte_bit c m hlt2)
              clear k2 s1 sb kb2 g0
              go_wp2
              go_region
              rw [HV.out]
              go_wp2
              go_roundw
              case rel => exact ⟨m + 1, by omega, by go_num, S1.out, SB.out⟩
              case measure => simp [intOf]; omega
            · obtain rfl : m = 8 := by omega
              rw [show ((8 : Nat) : Int) = 8 from rfl]
              rw [flipTo_end] at k2
              have k3 : Bk _ w.heap.size (bitsOf (csteps 0 (cxor x c))) := k2
              have K3 := Lib.hid k3
              clear k2 k3
              go_wp2
              go_loopw [7] (fun j wr => ∃ m : Nat, m ≤ 8 ∧ j = .int .i64 m ∧ Bk wr w.heap.size (bitsOf (csteps m (cxor x c))) ∧ Below w.heap.size w wr) (fun j _ => 8 - (intOf j).toNat)
              case atStart => exact ⟨0, by omega, rfl, K3.out, kb2⟩
              case round =>
                clear K3 kb2
                obtain ⟨m, hm, rfl, k2, kb2⟩ := hrel
                by_cases hlt2 : m < 8
                · have K2 := Lib.hid k2
                  have hg := k2.lt
                  clear k2
                  go_wp2_with (refine wpList_load_row rfl 33 _ rfl w.heap.size rfl 33 (bcells (bitsOf (csteps m (cxor x c)))) (0, 0) _ (show wr.heap[_]? = _ from K2.out) Try.underlying33 rfl (by rw [bcells_size]; exact rI) ?_)
                  refine (step_any (csteps m (cxor x c)) _).mono ?_
                  rintro e w1 ⟨rfl, b1⟩
                  have k4 := K2.out.below b1 hg
                  have K4 := Lib.hid k4
                  have kb3 := kb2.trans (b1.mono kb2.size)
                  clear k4
                  go_wp2_with (refine wpList_store_row rfl 33 _ _ rfl w.heap.size (bcells fun j => (cstep (csteps m (cxor x c))).getLsbD j) rfl rfl 33 (bcells (bitsOf (csteps m (cxor x c)))) (show w1.heap[_]? = _ from K4.out) (by rw [bcells_size]; exact rI) (by rw [bcells_size, bcells_size]) (bcells_one _) ?_)
                  go_roundw
                  case rel => exact ⟨m + 1, by omega, by go_num, setRow_heap w1 w.heap.size _ _ 33 (0, 0) (show w1.heap[_]? = _ from K4.out), below_setRow kb3 (Nat.le_refl _) _⟩
                  case measure => simp [intOf]; omega
                · obtain rfl : m = 8 := by omega
                  have K2 := Lib.hid k2
                  clear k2
                  go_wp2
                  go_roundw
                  case rel => exact ⟨k + 1, by omega, by go_num, by rw [HT.out hlt, ← HCE.out]; exact K2.out, kb2⟩
                  case measure => simp [intOf]; omega
        · have K1 := Lib.hid k1
          have HE := Lib.hid (show x = crun 18446744073709551615#64 l from by rw [← HX.out, List.take_of_length_le (by omega)])
          clear k1
          go_wp2
          go_loopw [8, 9] (fun v i wr => ∃ m : Nat, m ≤ 64 ∧ i = .int .i64 ((m : Int) - 1) ∧ v = .int .u64 (above x m : Int) ∧ Bk wr w.heap.size (bitsOf x) ∧ Below w.heap.size w wr) (fun _ i _ => (intOf i + 1).toNat)
          case atStart => exact ⟨64, by omega, rfl, by rw [above_top]; rfl, K1.out, kb⟩
          case round =>
            clear K1 kb
            obtain ⟨m, hm, rfl, rfl, k2, kb2⟩ := hrel
            by_cases h0 : m = 0
            · subst h0
              go_wp2
              go_ret
              exact ⟨ret_int (by rw [above_zero, HE.out]; rfl), kb2⟩
            · obtain ⟨q, rfl⟩ : ∃ q, m = q + 1 := ⟨m - 1, by omega⟩
              have hq : ((q + 1 : Nat) : Int) - 1 = (q : Int) := by omega
              rw [hq]
              clear hq h0
              have c1 := k2.cell q (by omega)
              have h1 : (0 : Int) ≤ (q : Int) := by omega
              have h2 : (q : Int) < 64 := by omega
              have HA := Lib.hid (above_succ x q (by omega))
              have ha := above_lt2 x q
              have K2 := Lib.hid k2
              clear k2
              rw [show bitsOf x q = x.getLsbD q from rfl] at c1
              generalize hy : above x (q + 1) = y at *
              have HY := Lib.hid hy
              clear hy
              have ha' : (y : Int) < 9223372036854775808 := by omega
              cases hb : x.getLsbD q with
              | false =>
                rw [hb] at c1
                have HB := Lib.hid hb
                clear hb
                go_wp2
                go_roundw
                case rel => exact ⟨q, by omega, rfl, val_int (by rw [HA.out, HB.out]; simp), K2.out, kb2⟩
                case measure => simp [intOf]
              | true =>
                rw [hb] at c1
                have HB := Lib.hid hb
                clear hb
                go_wp2
                go_roundw
                case rel => exact ⟨q, by omega, rfl, val_int (by rw [HA.out, HB.out]; simp), K2.out, kb2⟩
                case measure => simp [intOf]
end Go.Proofs.Ytjomimbclcjkcaa
