/-
  The walk of crc.Sum: it answers the check of the bytes that its slice reads, and turns nothing.
-/
import Derived.Test.YtjomimbclcjkcaaRows
import Derived.Test.YtjomimbclcjkcaaBase
import Derived.Test.YtjomimbclcjkcaaPlain
import Derived.Outline
import Derived.Lib.Hide
import Derived.WalkLawsBesides
import Derived.WalkSpells
namespace Go.Proofs.Ytjomimbclcjkcaa
open Go.RowKit Plain

theorem crun_take (x : BitVec 64) (l : List UInt8) (k : Nat) (h : k < l.length) : crun x (l.take (k + 1)) = cbyte (crun x (l.take k)) l[k] := by
  rw [List.take_succ_eq_append_getElem h, crun_append]; rfl

set_option maxHeartbeats 400000 in
theorem sum_any (v : Value) (l : List UInt8) (w : World) (hs : Sl w v (bytes l)) (hl : l.length ≤ 9000000000000000000) :
    Calls Try.prog 8 #[v] w fun e w' => e = .returned (.int .u64 ((crc l).toNat : Int)) ∧ w = w' := by
  obtain ⟨a, cap, rfl, hc⟩ := hs.bytes
  rcases hc with rfl | ⟨b, off, rfl, hb, hc⟩
  · go_enter Try.func8, Try.ntmps8
    go_wp2
    go_loop [3, 9] (fun n i => i = .int .i64 0 ∧ ∃ x : BitVec 64, Hid (x = 18446744073709551615#64) ∧ n = .int .u64 (x.toNat : Int)) (fun _ _ => 0)
    case atStart => exact ⟨rfl, _, rfl, rfl⟩
    case round =>
      obtain ⟨rfl, x, hx, rfl⟩ := hrel
      have HN := Lib.hid (not_word' x)
      go_wp2
      go_ret
      refine ⟨ret_int ?_, rfl⟩
      rw [HN.out, hx.out]; rfl
  · go_enter Try.func8, Try.ntmps8
    go_wp2
    go_loop [3, 5, 6, 9] (fun n c f i => ∃ k : Nat, k ≤ l.length ∧ i = .int .i64 k ∧ n = .int .u64 ((crun 18446744073709551615#64 (l.take k)).toNat : Int)) (fun _ _ _ i => l.length - (intOf i).toNat)
    case atStart => exact ⟨0, Nat.zero_le _, rfl, rfl⟩
    case round =>
      obtain ⟨k, hk, rfl, rfl⟩ := hrel
      have HT := Lib.hid (crun_take 18446744073709551615#64 l k)
      generalize hx : crun 18446744073709551615#64 (l.take k) = x at *
      have HX := Lib.hid hx
      clear hx
      by_cases hlt : k < l.length
      · have g := hc k hlt
        have h1 := xor_word' x l[k]
        go_wp2
        go_loop [3, 6, 17] (fun n f j => ∃ jj : Nat, jj ≤ 8 ∧ j = .int .i64 jj ∧ n = .int .u64 ((csteps jj (cxor x l[k])).toNat : Int)) (fun _ _ j => 8 - (intOf j).toNat)
        case atStart => exact ⟨0, Nat.zero_le _, rfl, by first | rfl | (rw [h1]; rfl)⟩
        case round =>
          obtain ⟨j, hj, rfl, rfl⟩ := hrel
          by_cases hlt8 : j < 8
          · have HS := Lib.hid (step_word (csteps j (cxor x l[k])))
            clear g h1
            go_wp2
            go_round
            case rel => exact ⟨j + 1, by omega, by go_num, val_int HS.out⟩
            case measure => simp [intOf]; omega
          · obtain rfl : j = 8 := by omega
            clear g h1
            go_wp2
            go_round
            case rel => exact ⟨k + 1, by omega, by go_num, by rw [HT.out hlt]; rfl⟩
            case measure => simp [intOf]; omega
      · have HN := Lib.hid (not_word' x)
        go_wp2
        go_ret
        refine ⟨ret_int ?_, rfl⟩
        rw [HN.out, ← HX.out, List.take_of_length_le (by omega)]; rfl
end Go.Proofs.Ytjomimbclcjkcaa
