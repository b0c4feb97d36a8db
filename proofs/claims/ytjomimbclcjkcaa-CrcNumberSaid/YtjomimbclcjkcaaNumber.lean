/-
  CrcNumber: eight bytes in whose place other ones stand change the check. Every input; no conditions.
-/
import Derived.Test.YtjomimbclcjkcaaCopy
import Derived.Test.YtjomimbclcjkcaaCut
import Derived.Test.YtjomimbclcjkcaaOpen
import Derived.StillTailTactics
import Derived.BigQuiet
import Derived.Deep.QuietTactic
set_option linter.unusedVariables false
namespace Go.Proofs.Ytjomimbclcjkcaa
open Go.ChangeShapes Go.WideShapes Go.ChangeAt Go.RowKit
open Go.ChangeMaps (open_string shut_string)
open Plain

theorem Own.cellByte {w : World} {base g cap : Nat} {e : TypeId} {l : List UInt8} (h : Own w base e (.slice (some ⟨g, 0, none⟩) l.length cap) (bytes l)) (j : Nat) (c : UInt8) (hj : l[j]? = some c) : w.cell? ⟨g, j, none⟩ = some (.int .u8 (c.toNat : Int)) := by
  unfold Own at h
  rw [bytes_length] at h
  have hlt : j < l.length := (List.getElem?_eq_some_iff.1 hj).1
  rw [World.ownsRow.cellAt h j (by omega)]
  simp [bytes, hj, byte]
theorem Own.frozenByte {w : World} {base g cap : Nat} {e : TypeId} {l : List UInt8} (h : Own w base e (.slice (some ⟨g, 0, none⟩) l.length cap) (bytes l)) (j : Nat) : w.frozen? ⟨g, j, none⟩ = false := by
  unfold Own at h
  rw [bytes_length] at h
  exact World.ownsRow.frozenAt h j
theorem Own.storeByte {w : World} {base g cap : Nat} {e : TypeId} {l : List UInt8} (h : Own w base e (.slice (some ⟨g, 0, none⟩) l.length cap) (bytes l)) (j : Nat) (c : UInt8) :
    Own (w.setCell ⟨g, j, none⟩ (.int .u8 (c.toNat : Int))) base e (.slice (some ⟨g, 0, none⟩) l.length cap) (bytes (l.set j c)) := by
  have h' : Own w base e (.slice (some ⟨g, 0, none⟩) (bytes l).length cap) (bytes l) := by rw [bytes_length]; exact h
  have := (h'.store j (.int .u8 (c.toNat : Int))).1
  rw [bytes_set, bytes_length, List.length_set] at this
  exact this
theorem Own.drewN {w : World} {base : Nat} {e : TypeId} {v : Value} {xs : List Value} (h : Own w base e v xs) (n : Nat) : Own (w.drewN n) base e v xs := h

/-- What holds at the head of the round i. -/
def Round (w wr : World) (l n : List UInt8) (k g cap1 i : Nat) : Prop :=
  i ≤ 8 ∧ Below w.heap.size w wr ∧ Own wr (w.heap.size + 1) 5 (.slice (some ⟨g, 0, none⟩) l.length cap1) (bytes (laid l n k i)) ∧ (∀ j (h : j < n.length), wr.cell? ⟨w.heap.size, j, none⟩ = some (.int .u8 (n[j].toNat : Int)))

theorem below_drewN {B : Nat} {a w : World} (h : Below B a w) (n : Nat) : Below B a (w.drewN n) := ⟨h.os, h.tape, h.output, h.size, h.block⟩
theorem beq_toNat (x y : UInt8) : (x == y) = ((x.toNat : Int) == (y.toNat : Int)) := by
  rw [Bool.eq_iff_iff]; simp [← UInt8.toNat_inj]; omega
set_option maxHeartbeats 1000000 in
theorem number_walk (w : World) (v : Value) (l n : List UInt8) (hl : Sl w v (bytes l)) (hn8 : n.length = 8) (m : Nat) (hm : m < 65536) :
   Calls Try.prog 4 #[v, .int .u16 (m : Int), .agg (bytes n).toArray] w fun e w' => e = .returned (.bool true) ∧ Below w.heap.size w w' := by
  obtain ⟨a, cap, rfl, hc⟩ := hl.bytes
  by_cases h4 : 4000 < l.length
  · go_enter Try.func4, Try.ntmps4
    go_wp2
    all_goals (go_ret; exact ⟨rfl, (Below.refl _ _).alloc (Nat.le_refl _) _⟩)
  by_cases h9 : l.length < 8
  · go_enter Try.func4, Try.ntmps4
    go_wp2_with (go_at_call 10; refine (goes_any _).mono ?_; rintro e w' ⟨rfl, hb⟩)
    go_ret
    exact ⟨rfl, Below.trans ((Below.refl _ _).alloc (Nat.le_refl _) _) (hb.mono (by simp))⟩
  rcases hc with rfl | ⟨b, off, rfl, hb, hc⟩
  · simp at h9
  have hbel0 : Below w.heap.size w (w.alloc (.cells (bytes n).toArray 28)) := (Below.refl _ _).alloc (Nat.le_refl _) _
  obtain ⟨g, cap1, w1, hr, hown, hgb, hglt, hbel1⟩ := copy5 (w.alloc (.cells (bytes n).toArray 28)) b off cap l (hl.below hbel0) (by rintro rfl; simp at h9) (by omega)
  have hbel : Below w.heap.size w w1 := hbel0.trans (hbel1.mono (by simp))
  obtain ⟨k, hk, hk0⟩ : ∃ k : Nat, k < l.length - 7 ∧ (m : Int) % ((l.length : Int) - 7) = (k : Int) := ⟨m % (l.length - 7), Nat.mod_lt _ (by omega), by rw [show ((l.length : Int) - 7) = ((l.length - 7 : Nat) : Int) by omega, Int.natCast_emod]⟩
  simp only [World.size_alloc] at hgb hown hr
  have hR0 : Round w w1 l n k g cap1 0 := by
    refine ⟨by omega, hbel, by rw [laid_zero]; exact hown, fun j hj => ?_⟩
    have := cells_at (w := w) (w' := w1) (bytes n) 28 (0, 0) hbel1 j (by rw [bytes_length]; exact hj)
    rw [Nat.zero_add] at this
    rw [this]
    simp [bytes, byte]
  have HS0 := Lib.hid (sameTo_zero l n k)
  clear hown hbel
  go_enter Try.func4, Try.ntmps4
  go_wp2_with (at_builtin; simp only [hk0]; refine wpList_run_append hr rfl _ _ rfl rfl rfl ?_; clear hk0)
  clear hr hbel1 hbel0
  go_loopw [9, 10] (fun same i wr => ∃ j : Nat, i = .int .i64 j ∧ same = .bool (sameTo l n k j) ∧ Round w wr l n k g cap1 j) (fun _ i _ => 8 - (intOf i).toNat)
  case atStart => exact ⟨0, rfl, by rw [HS0.out], hR0⟩
  case round =>
    obtain ⟨j, rfl, rfl, hj8, hbr, hor, hnr⟩ := hrel
    by_cases hlt : j < 8
    · obtain ⟨x, hx⟩ : ∃ x, n[j]? = some x := ⟨_, List.getElem?_eq_getElem (by omega)⟩
      obtain ⟨y, hy⟩ : ∃ y, l[k + j]? = some y := ⟨_, List.getElem?_eq_getElem (by omega)⟩
      have hly : (laid l n k j)[k + j]? = some y := by rw [laid_get _ _ _ _ (by omega) (by omega) _ (Nat.le_refl _), hy]
      have hlen : (laid l n k j).length = l.length := laid_length _ _ _ _ (by omega) (by omega)
      have hor' : Own wr (w.heap.size + 1) 5 (.slice (some ⟨g, 0, none⟩) (laid l n k j).length cap1) (bytes (laid l n k j)) := by rw [hlen]; exact hor
      have cg := hor'.cellByte (k + j) y hly
      have fg := hor'.frozenByte (k + j)
      have cn : wr.cell? ⟨w.heap.size, j, none⟩ = some (.int .u8 (x.toNat : Int)) := by
        rw [hnr j (by omega)]
        have := (List.getElem?_eq_some_iff.1 hx).2
        rw [this]
      have HOWN := Lib.hid (hor'.storeByte (k + j) x)
      rw [hlen, laid_succ l n k j x hx (by omega)] at HOWN
      have HS := Lib.hid (sameTo_succ l n k j y x hx hy)
      have HN := Lib.hid hnr
      clear hor hor' hnr hx hy hly hlen hc
      cases hsame : sameTo l n k j
      · rw [hsame] at HS
        clear hsame
        have hkl : k + j < l.length := by omega
        go_wp2
        go_quiet (fail)
        go_wp2
        go_roundw
        case rel =>
          refine ⟨j + 1, by go_num, by rw [HS.out]; rfl, by omega, (below_drewN hbr _).setCell (p := ⟨g, k + j, none⟩) (show w.heap.size ≤ g by omega) _, HOWN.out, fun t ht => ?_⟩
          have h1 := HN.out t ht
          rw [World.cell?_setCell_other _ _ _ _ (by intro e; injection e; omega)]
          exact h1
        case measure => simp [intOf]; omega
      · rw [hsame] at HS
        clear hsame
        have hkl : k + j < l.length := by omega
        go_wp2
        go_quiet (fail)
        go_wp2
        go_roundw
        case rel =>
          refine ⟨j + 1, by go_num, by rw [HS.out, beq_toNat]; rfl, by omega, (below_drewN hbr _).setCell (p := ⟨g, k + j, none⟩) (show w.heap.size ≤ g by omega) _, HOWN.out, fun t ht => ?_⟩
          have h1 := HN.out t ht
          rw [World.cell?_setCell_other _ _ _ _ (by intro e; injection e; omega)]
          exact h1
        case measure => simp [intOf]; omega
    · obtain rfl : j = 8 := by omega
      have slc : Sl wr (.slice (some ⟨g, 0, none⟩) l.length cap1) (bytes (laid l n k 8)) := by
        have := hor.sl
        exact this
      have sll := hl.below hbr
      have told := beq_told _ _ _ (number_told l n k hn8 (by omega))
      have hlen : (laid l n k 8).length = l.length := laid_length _ _ _ _ (by omega) (by omega)
      have HLEN := Lib.hid hlen
      clear hlen hor hnr hc
      generalize hs8 : sameTo l n k 8 = s8 at *
      clear hs8
      go_wp2_with fail
      refine (sum_any _ l _ sll (by omega)).mono ?_
      rintro e w' ⟨rfl, rfl⟩
      go_wp2_with fail
      refine (sum_any _ _ _ slc (by rw [HLEN.out]; omega)).mono ?_
      rintro e w' ⟨rfl, rfl⟩
      go_wp2_with fail
      refine (goes_any _).mono ?_
      rintro e w' ⟨rfl, hb'⟩
      go_wp2_with fail
      go_ret
      exact ⟨rfl, hbr.trans (hb'.mono hbr.size)⟩

theorem own_crcNumber : ownKnob Try.prog.godebug = none := by kernel_rfl
theorem laidOut_crcNumber : laidOutB Try.prog = true := by kernel_rfl
set_option maxRecDepth 100000 in
theorem lifted_crcNumber (os : Os) (started : os.Started) (H : Type) (enc : TypeId × Value → H) :
    ReturnsInHanded {} Try.checked os 4 .any (Rows.crcNumberSpec.pre6 enc Try.prog Try.f4 Rows.crcNumberRow.domain false) (Rows.crcNumberSpec.post enc Try.prog Try.f4 false true false false) := by
  refine returnsInHanded_of_change (C := Try.checked) own_crcNumber started (by kernel_rfl) Try.func4
    (ChangeSpec.witness6 (enc := enc) (C := Try.checked) false ⟨#[], #[.slice none 0 0, .int .u16 0, .agg #[.int .u8 0, .int .u8 0, .int .u8 0, .int .u8 0, .int .u8 0, .int .u8 0, .int .u8 0, .int .u8 0]], []⟩ 8 (by kernel_rfl) (by kernel_rfl) (by kernel_rfl) (by kernel_rfl)) ?_
  intro W base args ds gs before hval0 hW hcnd _
  have hval : ∀ (j : Nat) t v, Try.f4.params[j]? = some t → args[j]? = some v → Value.okWide Try.prog W .any base t v := hval0
  have hW' := hW
  obtain ⟨p, q, hA0, hV, rfl, hfz, hnd⟩ := hW
  have hA : DataW.TrodAll enc Try.prog W 0 (fun _ => true) true Try.f4.params.toList args.toList ds p := hA0
  rw [Try.params4] at hA hval
  obtain ⟨v0, vs0, d0, ds0, p0, q0, hargs, rfl, rfl, k0, r0⟩ := trodAll_cons hA
  obtain ⟨v1, vs1, d1, ds1, p1, q1, rfl, rfl, rfl, k1, r1⟩ := trodAll_cons r0
  obtain ⟨v2, vs2, d2, ds2, p2, q2, rfl, rfl, rfl, k2, r2⟩ := trodAll_cons r1
  obtain ⟨rfl, rfl, rfl⟩ := trodAll_nil r2
  obtain rfl : args = #[v0, v1, v2] := by cases args; simp_all
  obtain ⟨rfl, rfl⟩ := trodVars_none hV
  have lt0 : ∀ x ∈ p0, x.block < W.heap.size := by obtain ⟨m, hm⟩ := k0; exact DataW.trod_lt m _ _ _ hm
  have lt1 : ∀ x ∈ p1, x.block < W.heap.size := by obtain ⟨m, hm⟩ := k1; exact DataW.trod_lt m _ _ _ hm
  have lt2 : ∀ x ∈ p2, x.block < W.heap.size := by obtain ⟨m, hm⟩ := k2; exact DataW.trod_lt m _ _ _ hm
  obtain ⟨l0, s0, w0⟩ := open_bytes Try.underlying22 Try.underlying5 (by kernel_rfl) (hval 0 22 v0 rfl rfl) k0
  obtain ⟨a1, rfl, w1⟩ := open_nat rfl Try.underlying27 (hval 1 27 v1 rfl rfl) k1
  obtain ⟨l2, rfl, w2⟩ := open_byte_array Try.underlying28 Try.underlying5 (by kernel_rfl) (by kernel_rfl) (hval 2 28 v2 rfl rfl) k2
  clear hA0 hval0
  refine (number_walk W v0 l0 l2 s0 w2 a1 w1  ).mono fun e W' ⟨he, bel⟩ => ?_
  subst he
  exact ⟨_, rfl, _, _, _, [], _, [], hW', trodAll_mk1 (shut_bool Try.underlying4 _), (trodAll_cons_mk (Below.trod laidOut_crcNumber (by kernel_rfl) (of_decide_eq_true (by kernel_rfl)) k0 bel lt0) (trodAll_cons_mk (Below.trod laidOut_crcNumber (by kernel_rfl) (of_decide_eq_true (by kernel_rfl)) k1 bel lt1) (trodAll_cons_mk (Below.trod laidOut_crcNumber (by kernel_rfl) (of_decide_eq_true (by kernel_rfl)) k2 bel lt2) trodAll_mk0))), rfl, bel.frame _, fun h => by cases h⟩

theorem over_crcNumber : Rows.crcNumberRow.holds Try.pinned (OpenSpec.ofChange Rows.crcNumberSpec) :=
  OpenClaim.holds_of_wide 4 Try.f4 rfl rfl rfl rfl rfl rfl rfl ⟨rfl, rfl, rfl, rfl, rfl⟩ rfl rfl rfl rfl rfl (by kernel_rfl) Try.func4 (by kernel_rfl)
    (of_decide_eq_true (by kernel_rfl)) (by unfold Func.isWrapper; first | (rw [if_pos (by decide +kernel)]; kernel_rfl) | (rw [if_neg (by decide +kernel)]; exact ⟨rfl, rfl⟩))
    (fun os started H enc _ => lifted_crcNumber os started H enc)

theorem crcNumber_proved : Rows.CrcNumberSaid := over_crcNumber
#print axioms crcNumber_proved
end Go.Proofs.Ytjomimbclcjkcaa
