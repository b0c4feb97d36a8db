/-
  Of the document: what puts numbers, stamps of messages of package wan behind bytes.
-/
import Derived.Test.YtgilijkmmcpfjaaZRApp2
set_option linter.unusedVariables false
set_option linter.unusedSimpArgs false
set_option maxRecDepth 100000
namespace Go.Proofs.Ytgilijkmmcpfjaa
open Go.RowKit
set_option maxHeartbeats 400000 in
theorem dnumW_any (w : World) (B : Nat) (v : Value) (l : List UInt8) (n : Nat) (hn : n < 2 ^ 64) (ho : Own w B 5 v (bytes l)) (hB : B ≤ w.heap.size) (hl : l.length ≤ 1000000000) :
    Calls Try.prog 25 #[v, .int .u64 (n : Int)] w (RetApp w B v (l ++ be 8 n)) := by
  have HO := Lib.hid ho
  have HB := Lib.hid hB
  clear ho hB
  go_enter Try.func25, Try.ntmps25
  go_wp2_with fail
  refine (refnumber_any n 8 _ hn (by decide)).mono ?_
  rintro e w1 ⟨y, rfl, oy, b1⟩
  obtain ⟨v2, w2, hr, ha⟩ := run_append_c w1 B v y l (be 8 n) (HO.out.gr b1) oy.sl (by rw [be_length]; omega) (Nat.le_trans HB.out b1.size)
  have HR := Lib.hid hr
  have HA := Lib.hid (App.grL b1 ha)
  clear hr ha b1 oy
  go_wp2_with (at_builtin; refine wpList_run_append HR.out rfl _ _ rfl rfl rfl ?_; clear HR)
  go_ret
  exact ⟨_, rfl, HA.out⟩
set_option maxHeartbeats 1000000 in
theorem dstampW_any (w : World) (B : Nat) (v vl : Value) (l : List UInt8) (xs : List Nat) (hx : SlP (fun k => k < B) w vl (nums xs)) (hk : ∀ k ∈ xs, k < 2 ^ 64) (ho : Own w B 5 v (bytes l)) (hB : B ≤ w.heap.size) (hl : l.length + 8 + xs.length * 8 ≤ 900000000) :
    Calls Try.prog 24 #[v, vl] w (RetApp w B v (l ++ stampB xs)) := by
  have EE : Hid (l ++ stampB xs = l ++ be 8 xs.length ++ (xs.take xs.length).flatMap (be 8)) := Lib.hid (by unfold stampB; rw [List.take_length, List.append_assoc])
  obtain ⟨a, cap, hv, hcap, _⟩ := Sl.numsAt' hx.1
  subst hv
  have XN := Lib.hid fun W (hW : Keep (fun k => k < B) w W) => (hx.keep hW).1
  have HV1 : Hid (∀ k, v.ownBlock = some k → B ≤ k) := Lib.hid (ho.ownBlock_ge)
  have HB := Lib.hid hB
  have HK := Lib.hid hk
  have wn := wrap_nat64 xs.length (by omega)
  have C := Lib.hid (dnumW_any w B v l xs.length (by omega) ho hB (by omega))
  clear ho hB hx
  go_enter Try.func24, Try.ntmps24
  go_wp2_with fail
  refine C.out.mono ?_
  rintro e w1 ⟨v1, rfl, ha⟩
  have HA := Lib.hid ha
  clear ha
  go_wp2_with fail
  go_loopw [0, 5] (fun u i wr => ∃ k : Nat, k ≤ xs.length ∧ i = .int .i64 k ∧ App w B v (l ++ be 8 xs.length ++ (xs.take k).flatMap (be 8)) u wr) (fun _ i _ => xs.length - (intOf i).toNat)
  case atStart => exact ⟨0, Nat.zero_le _, rfl, by simpa using HA.out⟩
  case round =>
    obtain ⟨k, hk, rfl, hap⟩ := hrel
    by_cases hlt : k < xs.length
    · obtain ⟨Bx, off, rfl, hcell⟩ := Sl.numAt (XN.out wr (hap.keep HV1.out)) k hlt
      have e1 : l ++ be 8 xs.length ++ (xs.take k).flatMap (be 8) ++ be 8 xs[k] = l ++ be 8 xs.length ++ (xs.take (k + 1)).flatMap (be 8) := by
        rw [List.take_add_one, List.getElem?_eq_getElem hlt, List.flatMap_append, List.append_assoc]; simp
      have D := dnumW_any wr B _ (l ++ be 8 xs.length ++ (xs.take k).flatMap (be 8)) xs[k] (HK.out _ (List.getElem_mem hlt)) hap.own (Nat.le_trans HB.out hap.grown.size) (by
        rw [List.length_append, List.length_append, be_length, flatBe_length, List.length_take]; omega)
      rw [e1] at D
      have DD := Lib.hid D
      have HAP := Lib.hid hap
      clear D e1 hap
      have i1 : (0 : Int) ≤ (k : Int) := by omega
      have i2 : (k : Int) < (xs.length : Int) := by omega
      go_wp2_with fail
      refine DD.out.mono ?_
      rintro e w2 ⟨v2, rfl, ha⟩
      have HA2 := Lib.hid (HAP.out.trans ha)
      clear ha
      go_wp2
      go_roundw
      case rel => exact ⟨k + 1, by omega, by go_num, HA2.out⟩
      case measure => simp [intOf]; omega
    · obtain rfl : k = xs.length := by omega
      rw [← EE.out] at hap
      have HAP := Lib.hid hap
      clear hap
      go_wp2
      go_ret
      exact ⟨_, rfl, HAP.out⟩
end Go.Proofs.Ytgilijkmmcpfjaa
