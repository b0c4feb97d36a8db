/-
  The document's reader: a state.
-/
import Derived.Test.YtgilijkmmcpfjaaZB
import Derived.Test.YtgilijkmmcpfjaaZA
set_option linter.unusedVariables false
namespace Go.Proofs.Ytgilijkmmcpfjaa
open Go.RowKit
set_option maxHeartbeats 400000 in
theorem refvalue_any (v : Value) (l : List UInt8) (w : World) (hs : Sl w v (bytes l)) (hl : l.length ≤ 8) :
    Calls Try.prog 35 #[v] w fun e w' => e = .returned (.int .u64 (val l : Int)) ∧ w = w' := by
  obtain ⟨a, cap, rfl, hcap, hc⟩ := hs.bytes
  rcases hc with rfl | ⟨b, off, rfl, hb, hc⟩
  · go_enter Try.func35, Try.ntmps35
    go_wp2
    go_loop [3, 4] (fun n i => i = .int .i64 0 ∧ n = .int .u64 0) (fun _ _ => 0)
    case atStart => exact ⟨rfl, rfl⟩
    case round =>
      obtain ⟨rfl, rfl⟩ := hrel
      go_wp2
      go_ret
      exact ⟨rfl, rfl⟩
  · go_enter Try.func35, Try.ntmps35
    go_wp2
    go_loop [3, 4] (fun n i => ∃ k : Nat, k ≤ l.length ∧ i = .int .i64 k ∧ n = .int .u64 (val (l.take k) : Int)) (fun _ i => l.length - (intOf i).toNat)
    case atStart => exact ⟨0, Nat.zero_le _, rfl, rfl⟩
    case round =>
      obtain ⟨k, hk, rfl, rfl⟩ := hrel
      by_cases hlt : k < l.length
      · have g := hc k hlt
        have h1 := val_take_lt l k (by omega)
        have h2 := UInt8.toNat_lt l[k]
        have HT := Lib.hid (val_take_succ l k hlt)
        go_wp2
        go_round
        case rel => exact ⟨k + 1, by omega, by go_num, val_int (by rw [HT.out]; omega)⟩
        case measure => simp [intOf]; omega
      · obtain rfl : k = l.length := by omega
        go_wp2
        go_ret
        exact ⟨ret_int (by first | rfl | rw [List.take_of_length_le (Nat.le_refl _)]), rfl⟩
/-- Block h is a state over the bytes L (the slice ab, cb), at s. -/
def St (w : World) (h : Nat) (ab : Option Addr) (cb : Nat) (L : List UInt8) (s : RS) : Prop :=
  ∃ at_ : Nat, w.heap[h]? = some (.cells #[.slice ab L.length cb, .int .i64 (at_ : Int), .bool s.2] 71 (0, 0)) ∧ at_ ≤ L.length ∧ L.drop at_ = s.1
theorem St.lt {w : World} {h : Nat} {ab : Option Addr} {cb : Nat} {L : List UInt8} {s : RS} (hs : St w h ab cb L s) : h < w.heap.size := by
  obtain ⟨_, hh, _⟩ := hs
  exact block_lt hh
theorem St.ch {w w' : World} {h : Nat} {ab : Option Addr} {cb : Nat} {L : List UInt8} {s : RS} {ρ : Nat → Prop} (hs : St w h ab cb L s) (hc : Ch ρ w w') (hn : ¬ ρ h) : St w' h ab cb L s := by
  obtain ⟨a, hh, h1, h2⟩ := hs
  exact ⟨a, by rw [hc.block h (block_lt hh) hn]; exact hh, h1, h2⟩
theorem sl_chN {ρ : Nat → Prop} {w w' : World} {v : Value} {xs : List Value} (h : Sl w v xs) (hg : Ch ρ w w') (hne : xs = [] ∨ ∀ k, v.ownBlock = some k → ¬ ρ k) : Sl w' v xs := by
  rcases hne with rfl | hne
  · obtain ⟨a, cap, rfl, hcap, _⟩ := h
    exact Sl.nil _ _ _
  · exact h.ch hg hne
theorem sl_part {w : World} {a : Option Addr} {cap : Nat} {L : List UInt8} (h : Sl w (.slice a L.length cap) (bytes L)) (lo hi : Nat) (h1 : lo ≤ hi) (h2 : hi ≤ L.length) :
    Sl w (Go.sliced a lo hi cap 1) (bytes ((L.take hi).drop lo)) ∧ (∀ k, (Go.sliced a lo hi cap 1).ownBlock = some k → (Value.slice a L.length cap).ownBlock = some k) := by
  have hs2 : Sl w (.slice a (bytes L).length cap) (bytes L) := by rw [bytes_length]; exact h
  have hcap : L.length ≤ cap := by obtain ⟨a', c', he, hc, _⟩ := h; injection he with _ _ e3; subst e3; rw [bytes_length] at hc; exact hc
  have := hs2.sliced lo hi cap h1 (by omega) (Nat.le_refl _) (by rw [bytes_length]; omega)
  rw [bytes_take, bytes_drop] at this
  exact ⟨this, fun k hk => by rw [ownBlock_sliced a L.length cap] at hk; exact hk⟩
set_option maxHeartbeats 1000000 in
theorem ref_take (w : World) (q n : Nat) (ab : Option Addr) (cb : Nat) (L : List UInt8) (s : RS) (hs : St w q ab cb L s) (hb : Sl w (.slice ab L.length cb) (bytes L)) (hne : bytes L = [] ∨ ∀ k, (Value.slice ab L.length cb).ownBlock = some k → k ≠ q)
    (hn : n < 2 ^ 64) (hl : L.length ≤ 1000000000) :
    Calls Try.prog 36 #[.pointer (some ⟨q, 0, none⟩), .int .u64 (n : Int)] w fun e w' => ∃ v, e = .returned v ∧ Sl w' v (bytes (rTake n s).1) ∧ (bytes (rTake n s).1 = [] ∨ ∀ k, v.ownBlock = some k → (Value.slice ab L.length cb).ownBlock = some k) ∧ St w' q ab cb L (rTake n s).2 ∧ w.grownBy w' (some q) := by
  obtain ⟨l, bad⟩ := s
  obtain ⟨at_, hh, hle, hd⟩ := hs
  simp only at hh hd
  have c0 : w.cell? ⟨q, 0, none⟩ = some (.slice ab L.length cb) := by rw [cell_of_block hh]; rfl
  have c1 : w.cell? ⟨q, 1, none⟩ = some (.int .i64 (at_ : Int)) := by rw [cell_of_block hh]; rfl
  have c2 : w.cell? ⟨q, 2, none⟩ = some (.bool bad) := by rw [cell_of_block hh]; rfl
  have hlt : q < w.drew.heap.size := by simpa using block_lt hh
  have d0 : w.drew.cell? ⟨q, 0, none⟩ = some (.slice ab L.length cb) := by simpa using c0
  have d1 : w.drew.cell? ⟨q, 1, none⟩ = some (.int .i64 (at_ : Int)) := by simpa using c1
  have d2 : w.drew.cell? ⟨q, 2, none⟩ = some (.bool bad) := by simpa using c2
  have hcb : L.length ≤ cb := by obtain ⟨a', c', he, hc, _⟩ := hb; injection he with _ _ e3; subst e3; rw [bytes_length] at hc; exact hc
  have f1 := unfrozen_of_block hh 1
  have f2 := unfrozen_of_block hh 2
  obtain ⟨m, hm, HM⟩ : ∃ m, m + at_ = L.length ∧ Hid (m = l.length) := ⟨l.length, by rw [← hd, List.length_drop]; omega, Lib.hid rfl⟩
  have HD := Lib.hid hd
  clear hd
  cases bad with
  | true =>
    go_enter Try.func36, Try.ntmps36
    go_wp2
    apply wp_region_draw_grow (.eq _ :: .eq _ :: .eq _ :: .eq _ :: .eq _ :: .eq _ :: .eq _ :: .eq _ :: .eq _ :: .eq _ :: .eq _ :: .eq _ :: .eq _ :: .eq _ :: .eq _ :: .eq _ :: .eq _ :: .eq _ :: .eq _ :: []) (by kernel_rfl) (by kernel_rfl) trivial
    iterate 3
     apply wpG_eq
     · intro W hW hs
       unfold opG
       go_simp
       first | exact resG_eq_mk _ _ _ | rfl
     simp only [Act.put, pt1, pt2, pt3]
    apply wpG_eq
    · intro W hW hs
      have h1 := (hW.cell (p := ⟨q, 2, none⟩) hlt).trans d2
      unfold opG
      go_simp
      first | exact resG_eq_mk _ _ _ | rfl
    simp only [Act.put, pt1, pt2, pt3]
    iterate 15
     apply wpG_eq
     · intro W hW hs
       unfold opG
       go_simp
       first | exact resG_eq_mk _ _ _ | rfl
     simp only [Act.put, pt1, pt2, pt3]
    apply wpG_nil
    intro W9 hW9 hsAll
    have hh9 : W9.heap[q]? = _ := (hW9.block q hlt).trans hh
    have e0 : W9.cell? ⟨q, 0, none⟩ = some (.slice ab L.length cb) := by rw [cell_of_block hh9]; rfl
    have e1 : W9.cell? ⟨q, 1, none⟩ = some (.int .i64 (at_ : Int)) := by rw [cell_of_block hh9]; rfl
    have e2 : W9.cell? ⟨q, 2, none⟩ = some (.bool true) := by rw [cell_of_block hh9]; rfl
    have f91 := unfrozen_of_block hh9 1
    have f92 := unfrozen_of_block hh9 2
    have b9 : Below w.heap.size w W9 := (below_drewN (Below.refl _ w) 1).trans hW9
    have s9 := hb.below b9
    clear c0 c1 c2 d0 d1 d2 f1 f2 hW9 hh
    go_wp2
    go_ret
    rw [rTake_bad]
    refine ⟨_, rfl, Sl.nil _ none 0, .inl rfl, ⟨at_, ?_, hle, HD.out⟩, grownBy_trans (below_grownBy b9 _) (grownBy_setCell _ _ _ _)⟩
    rw [block_setCell hh9]; rfl
  | false =>
    by_cases hlt2 : m < n
    · go_enter Try.func36, Try.ntmps36
      go_wp2
      apply wp_region_draw_grow (.eq _ :: .eq _ :: .eq _ :: .eq _ :: .eq _ :: .eq _ :: .eq _ :: .eq _ :: .eq _ :: .eq _ :: .eq _ :: .eq _ :: .eq _ :: .eq _ :: .eq _ :: .eq _ :: .eq _ :: .eq _ :: .eq _ :: []) (by kernel_rfl) (by kernel_rfl) trivial
      iterate 3
       apply wpG_eq
       · intro W hW hs
         unfold opG
         go_simp
         first | exact resG_eq_mk _ _ _ | rfl
       simp only [Act.put, pt1, pt2, pt3]
      apply wpG_eq
      · intro W hW hs
        have h1 := (hW.cell (p := ⟨q, 2, none⟩) hlt).trans d2
        unfold opG
        go_simp
        first | exact resG_eq_mk _ _ _ | rfl
      simp only [Act.put, pt1, pt2, pt3]
      iterate 5
       apply wpG_eq
       · intro W hW hs
         unfold opG
         go_simp
         first | exact resG_eq_mk _ _ _ | rfl
       simp only [Act.put, pt1, pt2, pt3]
      apply wpG_eq
      · intro W hW hs
        have h1 := (hW.cell (p := ⟨q, 0, none⟩) hlt).trans d0
        unfold opG
        go_simp
        first | exact resG_eq_mk _ _ _ | rfl
      simp only [Act.put, pt1, pt2, pt3]
      iterate 4
       apply wpG_eq
       · intro W hW hs
         unfold opG
         go_simp
         first | exact resG_eq_mk _ _ _ | rfl
       simp only [Act.put, pt1, pt2, pt3]
      apply wpG_eq
      · intro W hW hs
        have h1 := (hW.cell (p := ⟨q, 1, none⟩) hlt).trans d1
        unfold opG
        go_simp
        first | exact resG_eq_mk _ _ _ | rfl
      simp only [Act.put, pt1, pt2, pt3]
      apply wpG_eq
      · intro W hW hs
        have h1 : IntKind.i64.wrap ((L.length : Int) - (at_ : Int)) = (m : Int) := by rw [IntKind.wrap_i64]; omega
        unfold opG
        go_simp
        first | exact resG_eq_mk _ _ _ | rfl
      simp only [Act.put, pt1, pt2, pt3]
      apply wpG_eq
      · intro W hW hs
        have h1 : IntKind.u64.wrap (m : Int) = (m : Int) := by simp [IntKind.wrap, IntKind.bits, IntKind.signed]; omega
        unfold opG
        go_simp
        first | exact resG_eq_mk _ _ _ | rfl
      simp only [Act.put, pt1, pt2, pt3]
      apply wpG_eq
      · intro W hW hs
        have h1 : decide ((m : Int) < (n : Int)) = true := by simp; omega
        unfold opG
        go_simp
        first | exact resG_eq_mk _ _ _ | rfl
      simp only [Act.put, pt1, pt2, pt3]
      apply wpG_eq
      · intro W hW hs
        unfold opG
        go_simp
        first | exact resG_eq_mk _ _ _ | rfl
      simp only [Act.put, pt1, pt2, pt3]
      apply wpG_nil
      intro W9 hW9 hsAll
      have hh9 : W9.heap[q]? = _ := (hW9.block q hlt).trans hh
      have e0 : W9.cell? ⟨q, 0, none⟩ = some (.slice ab L.length cb) := by rw [cell_of_block hh9]; rfl
      have e1 : W9.cell? ⟨q, 1, none⟩ = some (.int .i64 (at_ : Int)) := by rw [cell_of_block hh9]; rfl
      have e2 : W9.cell? ⟨q, 2, none⟩ = some (.bool false) := by rw [cell_of_block hh9]; rfl
      have f91 := unfrozen_of_block hh9 1
      have f92 := unfrozen_of_block hh9 2
      have b9 : Below w.heap.size w W9 := (below_drewN (Below.refl _ w) 1).trans hW9
      have s9 := hb.below b9
      clear c0 c1 c2 d0 d1 d2 f1 f2 hW9 hh
      go_wp2
      go_ret
      rw [rTake_short n l (by rw [← HM.out]; exact hlt2)]
      refine ⟨_, rfl, Sl.nil _ none 0, .inl rfl, ⟨at_, ?_, hle, HD.out⟩, grownBy_trans (below_grownBy b9 _) (grownBy_setCell _ _ _ _)⟩
      rw [block_setCell hh9]; rfl
    · go_enter Try.func36, Try.ntmps36
      go_wp2
      apply wp_region_draw_grow (.eq _ :: .eq _ :: .eq _ :: .eq _ :: .eq _ :: .eq _ :: .eq _ :: .eq _ :: .eq _ :: .eq _ :: .eq _ :: .eq _ :: .eq _ :: .eq _ :: .eq _ :: .eq _ :: .eq _ :: .eq _ :: .eq _ :: []) (by kernel_rfl) (by kernel_rfl) trivial
      iterate 3
       apply wpG_eq
       · intro W hW hs
         unfold opG
         go_simp
         first | exact resG_eq_mk _ _ _ | rfl
       simp only [Act.put, pt1, pt2, pt3]
      apply wpG_eq
      · intro W hW hs
        have h1 := (hW.cell (p := ⟨q, 2, none⟩) hlt).trans d2
        unfold opG
        go_simp
        first | exact resG_eq_mk _ _ _ | rfl
      simp only [Act.put, pt1, pt2, pt3]
      iterate 5
       apply wpG_eq
       · intro W hW hs
         unfold opG
         go_simp
         first | exact resG_eq_mk _ _ _ | rfl
       simp only [Act.put, pt1, pt2, pt3]
      apply wpG_eq
      · intro W hW hs
        have h1 := (hW.cell (p := ⟨q, 0, none⟩) hlt).trans d0
        unfold opG
        go_simp
        first | exact resG_eq_mk _ _ _ | rfl
      simp only [Act.put, pt1, pt2, pt3]
      iterate 4
       apply wpG_eq
       · intro W hW hs
         unfold opG
         go_simp
         first | exact resG_eq_mk _ _ _ | rfl
       simp only [Act.put, pt1, pt2, pt3]
      apply wpG_eq
      · intro W hW hs
        have h1 := (hW.cell (p := ⟨q, 1, none⟩) hlt).trans d1
        unfold opG
        go_simp
        first | exact resG_eq_mk _ _ _ | rfl
      simp only [Act.put, pt1, pt2, pt3]
      apply wpG_eq
      · intro W hW hs
        have h1 : IntKind.i64.wrap ((L.length : Int) - (at_ : Int)) = (m : Int) := by rw [IntKind.wrap_i64]; omega
        unfold opG
        go_simp
        first | exact resG_eq_mk _ _ _ | rfl
      simp only [Act.put, pt1, pt2, pt3]
      apply wpG_eq
      · intro W hW hs
        have h1 : IntKind.u64.wrap (m : Int) = (m : Int) := by simp [IntKind.wrap, IntKind.bits, IntKind.signed]; omega
        unfold opG
        go_simp
        first | exact resG_eq_mk _ _ _ | rfl
      simp only [Act.put, pt1, pt2, pt3]
      apply wpG_eq
      · intro W hW hs
        have h1 : decide ((m : Int) < (n : Int)) = false := by simp; omega
        unfold opG
        go_simp
        first | exact resG_eq_mk _ _ _ | rfl
      simp only [Act.put, pt1, pt2, pt3]
      apply wpG_eq
      · intro W hW hs
        unfold opG
        go_simp
        first | exact resG_eq_mk _ _ _ | rfl
      simp only [Act.put, pt1, pt2, pt3]
      apply wpG_nil
      intro W9 hW9 hsAll
      have hh9 : W9.heap[q]? = _ := (hW9.block q hlt).trans hh
      have e0 : W9.cell? ⟨q, 0, none⟩ = some (.slice ab L.length cb) := by rw [cell_of_block hh9]; rfl
      have e1 : W9.cell? ⟨q, 1, none⟩ = some (.int .i64 (at_ : Int)) := by rw [cell_of_block hh9]; rfl
      have e2 : W9.cell? ⟨q, 2, none⟩ = some (.bool false) := by rw [cell_of_block hh9]; rfl
      have f91 := unfrozen_of_block hh9 1
      have f92 := unfrozen_of_block hh9 2
      have b9 : Below w.heap.size w W9 := (below_drewN (Below.refl _ w) 1).trans hW9
      have s9 := hb.below b9
      clear c0 c1 c2 d0 d1 d2 f1 f2 hW9 hh
      have hw1 : IntKind.i64.wrap (n : Int) = (n : Int) := by rw [IntKind.wrap_i64]; omega
      have hw2 : IntKind.i64.wrap ((at_ : Int) + (n : Int)) = (at_ : Int) + (n : Int) := by rw [IntKind.wrap_i64]; omega
      go_wp2
      obtain ⟨W10, hW10⟩ : ∃ W10, W10 = W9.setCell ⟨q, 1, none⟩ (.int .i64 ((at_ : Int) + (n : Int))) := ⟨_, rfl⟩
      rw [← hW10]
      have hh10 : W10.heap[q]? = some (.cells #[.slice ab L.length cb, .int .i64 ((at_ : Int) + (n : Int)), .bool false] 71 (0, 0)) := by rw [hW10, block_setCell hh9]; rfl
      have g10 : w.grownBy W10 (some q) := by rw [hW10]; exact grownBy_trans (below_grownBy b9 _) (grownBy_setCell _ _ _ _)
      have s10 : Sl W10 (.slice ab L.length cb) (bytes L) := by rw [hW10]; exact sl_chN s9 (Ch.of_grownBy (ρ := fun k => k = q) (grownBy_setCell W9 q 1 _) (fun k hk => by cases hk; rfl)) hne
      have hlt10 : q < W10.drew.heap.size := block_lt hh10
      have k0 : W10.drew.cell? ⟨q, 0, none⟩ = some (.slice ab L.length cb) := by rw [cell_of_block (w := W10.drew) hh10]; rfl
      have k1 : W10.drew.cell? ⟨q, 1, none⟩ = some (.int .i64 ((at_ : Int) + (n : Int))) := by rw [cell_of_block (w := W10.drew) hh10]; rfl
      clear hW10 e0 e1 e2 f91 f92 hw2 hh9
      apply wp_region_draw_grow (.eq _ :: .eq _ :: .eq _ :: .eq _ :: .eq _ :: .eq _ :: .eq _ :: .eq _ :: .eq _ :: .eq _ :: .eq _ :: .eq _ :: .eq _ :: .eq _ :: .eq _ :: .eq _ :: .eq _ :: []) (by kernel_rfl) (by kernel_rfl) trivial
      iterate 3
       apply wpG_eq
       · intro W hW hs
         unfold opG
         go_simp
         first | exact resG_eq_mk _ _ _ | rfl
       simp only [Act.put, pt1, pt2, pt3]
      apply wpG_eq
      · intro W hW hs
        have h1 := (hW.cell (p := ⟨q, 0, none⟩) hlt10).trans k0
        unfold opG
        go_simp
        first | exact resG_eq_mk _ _ _ | rfl
      simp only [Act.put, pt1, pt2, pt3]
      iterate 3
       apply wpG_eq
       · intro W hW hs
         unfold opG
         go_simp
         first | exact resG_eq_mk _ _ _ | rfl
       simp only [Act.put, pt1, pt2, pt3]
      apply wpG_eq
      · intro W hW hs
        have h1 := (hW.cell (p := ⟨q, 1, none⟩) hlt10).trans k1
        unfold opG
        go_simp
        first | exact resG_eq_mk _ _ _ | rfl
      simp only [Act.put, pt1, pt2, pt3]
      iterate 2
       apply wpG_eq
       · intro W hW hs
         unfold opG
         go_simp
         first | exact resG_eq_mk _ _ _ | rfl
       simp only [Act.put, pt1, pt2, pt3]
      apply wpG_eq
      · intro W hW hs
        have h1 : IntKind.i64.wrap (at_ : Int) = (at_ : Int) := by rw [IntKind.wrap_i64]; omega
        unfold opG
        go_simp
        first | exact resG_eq_mk _ _ _ | rfl
      simp only [Act.put, pt1, pt2, pt3]
      iterate 3
       apply wpG_eq
       · intro W hW hs
         unfold opG
         go_simp
         first | exact resG_eq_mk _ _ _ | rfl
       simp only [Act.put, pt1, pt2, pt3]
      apply wpG_eq
      · intro W hW hs
        have h1 := (hW.cell (p := ⟨q, 1, none⟩) hlt10).trans k1
        unfold opG
        go_simp
        first | exact resG_eq_mk _ _ _ | rfl
      simp only [Act.put, pt1, pt2, pt3]
      apply wpG_eq
      · intro W hW hs
        have h1 : (0 : Int) ≤ (at_ : Int) := by omega
        have h2 : (at_ : Int) ≤ (at_ : Int) + (n : Int) := by omega
        have h3 : (at_ : Int) + (n : Int) ≤ (cb : Int) := by omega
        unfold opG
        go_simp
        first | exact resG_eq_mk _ _ _ | rfl
      simp only [Act.put, pt1, pt2, pt3]
      apply wpG_eq
      · intro W hW hs
        unfold opG
        go_simp
        first | exact resG_eq_mk _ _ _ | rfl
      simp only [Act.put, pt1, pt2, pt3]
      apply wpG_nil
      intro W11 hW11 hsAll
      have ev : Value.slice (if cb = at_ then ab else Option.map (fun x => x.add at_) ab) (((at_ : Int) + (n : Int)).toNat - at_) (cb - at_) = Go.sliced ab at_ (at_ + n) cb 1 := by
        have e3 : ((at_ : Int) + (n : Int)).toNat = at_ + n := by omega
        unfold Go.sliced
        rw [e3]
        by_cases hc : cb = at_
        · simp [hc]
        · simp [hc]
      rw [ev]
      have b11 : Below W10.heap.size W10 W11 := (below_drewN (Below.refl _ W10) 1).trans hW11
      have s11 := s10.below b11
      obtain ⟨p1, p2⟩ := sl_part s11 at_ (at_ + n) (by omega) (by omega)
      rw [List.drop_take, show at_ + n - at_ = n by omega, HD.out] at p1
      have hh11 : W11.heap[q]? = _ := (hW11.block q hlt10).trans hh10
      have et : rTake n (l, false) = (l.take n, (l.drop n, false)) := by simp [rTake, rdTake, rdLeft, rdBad, show ¬ l.length < n by rw [← HM.out]; exact hlt2]
      have eq1 : L.drop (at_ + n) = l.drop n := by rw [← HD.out, List.drop_drop]
      clear ev s10 k0 k1 hW11
      go_wp2
      go_ret
      rw [et]
      exact ⟨_, rfl, p1, .inr p2, ⟨at_ + n, by rw [hh11]; simp, by omega, eq1⟩, grownBy_trans g10 (below_grownBy b11 _)⟩
/-- What a call on the state leaves. -/
def StL (w : World) (q : Nat) (ab : Option Addr) (cb : Nat) (L : List UInt8) (v : Value) (s : RS) (e : Ending) (w' : World) : Prop := e = .returned v ∧ St w' q ab cb L s ∧ w.grownBy w' (some q)
theorem ref_uint (w : World) (q : Nat) (ab : Option Addr) (cb : Nat) (L : List UInt8) (s : RS) (hs : St w q ab cb L s) (hb : Sl w (.slice ab L.length cb) (bytes L)) (hne : bytes L = [] ∨ ∀ k, (Value.slice ab L.length cb).ownBlock = some k → k ≠ q) (hl : L.length ≤ 1000000000) :
    Calls Try.prog 40 #[.pointer (some ⟨q, 0, none⟩)] w (StL w q ab cb L (.int .u64 ((rUint s).1 : Int)) (rUint s).2) := by
  go_enter Try.func40, Try.ntmps40
  go_wp2_with fail
  refine (ref_take _ q 8 ab cb L s hs hb hne (by decide) hl).mono ?_
  rintro e w1 ⟨v1, rfl, hs1, _, hst, hg⟩
  go_wp2_with fail
  refine (refvalue_any _ _ _ hs1 (rTake_length 8 s)).mono ?_
  rintro e w2 ⟨rfl, rfl⟩
  go_wp2
  go_ret
  exact ⟨rfl, hst, hg⟩
theorem ref_text (w : World) (q : Nat) (ab : Option Addr) (cb : Nat) (L : List UInt8) (s : RS) (hs : St w q ab cb L s) (hb : Sl w (.slice ab L.length cb) (bytes L)) (hne : bytes L = [] ∨ ∀ k, (Value.slice ab L.length cb).ownBlock = some k → k ≠ q) (hl : L.length ≤ 1000000000) :
    Calls Try.prog 101 #[.pointer (some ⟨q, 0, none⟩)] w fun e w' => ∃ v, e = .returned v ∧ Sl w' v (bytes (rText s).1) ∧ (bytes (rText s).1 = [] ∨ ∀ k, v.ownBlock = some k → (Value.slice ab L.length cb).ownBlock = some k) ∧ St w' q ab cb L (rText s).2 ∧ w.grownBy w' (some q) := by
  go_enter Try.func101, Try.ntmps101
  go_wp2_with fail
  refine (ref_take _ q 4 ab cb L s hs hb hne (by decide) hl).mono ?_
  rintro e w1 ⟨v1, rfl, hs1, _, hst, hg⟩
  go_wp2_with fail
  refine (refvalue_any _ _ _ hs1 (Nat.le_trans (rTake_length 4 s) (by decide))).mono ?_
  rintro e w2 ⟨rfl, rfl⟩
  have h4 := val4_lt s
  have hb1 := sl_chN hb (Ch.of_grownBy (ρ := fun k => k = q) hg (fun k hk => by cases hk; rfl)) hne
  obtain ⟨at_, hh, hle, hd⟩ := hst
  have c2 : w1.cell? ⟨q, 2, none⟩ = some (.bool (rTake 4 s).2.2) := by rw [cell_of_block hh]; rfl
  cases hbad : (rTake 4 s).2.2 with
  | true =>
    rw [hbad] at c2 hh
    have hr : rText s = ([], ((rTake 4 s).2.1, true)) := by
      unfold rText
      rw [show (rTake 4 s).2 = ((rTake 4 s).2.1, true) from Prod.ext rfl hbad]
      exact rTake_bad _ _
    go_wp2
    go_ret
    rw [hr]
    exact ⟨_, rfl, Sl.nil _ none 0, .inl rfl, ⟨at_, hh, hle, hd⟩, hg⟩
  | false =>
    have hst : St w1 q ab cb L (rTake 4 s).2 := ⟨at_, hh, hle, hd⟩
    rw [hbad] at c2
    clear hh hd
    go_wp2_with fail
    refine (ref_take _ q _ ab cb L _ hst hb1 hne (by omega) hl).mono ?_
    rintro e w2 ⟨v2, rfl, hs2, ho2, hst2, hg2⟩
    go_wp2
    go_ret
    exact ⟨_, rfl, hs2, ho2, hst2, grownBy_trans hg hg2⟩
theorem ref_bad (w : World) (q : Nat) (ab : Option Addr) (cb : Nat) (L : List UInt8) (s : RS) (hs : St w q ab cb L s) : St (w.setCell ⟨q, 2, none⟩ (.bool true)) q ab cb L (rBad s) := by
  obtain ⟨at_, hh, hle, hd⟩ := hs
  exact ⟨at_, by rw [block_setCell hh]; rfl, hle, hd⟩
theorem i64_small (n : Nat) (h : n < 9223372036854775808) : i64 n = (n : Int) := by unfold i64 wrap64; omega
theorem ref_count (w : World) (q : Nat) (ab : Option Addr) (cb : Nat) (L : List UInt8) (s : RS) (m : Int) (hm : m ≤ 9223372036854775807) (hs : St w q ab cb L s) (hb : Sl w (.slice ab L.length cb) (bytes L)) (hne : bytes L = [] ∨ ∀ k, (Value.slice ab L.length cb).ownBlock = some k → k ≠ q) (hl : L.length ≤ 1000000000) :
    Calls Try.prog 38 #[.pointer (some ⟨q, 0, none⟩), .int .i64 m] w (StL w q ab cb L (.int .i64 (i64 (rCount m s).1)) (rCount m s).2) := by
  have hlt := rUint_lt s
  by_cases h0 : m < 0
  · have hc : rCount m s = (0, rBad (rUint s).2) := by unfold rCount; rw [if_pos (.inl h0)]
    rw [hc]
    go_enter Try.func38, Try.ntmps38
    go_wp2_with fail
    refine (ref_uint _ q ab cb L s hs hb hne hl).mono ?_
    rintro e w1 ⟨rfl, hst, hg⟩
    have hst2 := ref_bad _ _ _ _ _ _ hst
    obtain ⟨at_, hh, _, _⟩ := hst
    have e2 : w1.cell? ⟨q, 2, none⟩ = some (.bool (rUint s).2.2) := by rw [cell_of_block hh]; rfl
    have f2 := unfrozen_of_block hh 2
    clear hh
    go_wp2
    go_ret
    exact ⟨ret_int (by unfold i64 wrap64; decide), hst2, grownBy_trans hg (grownBy_setCell _ _ _ _)⟩
  · obtain ⟨k, rfl⟩ := Int.eq_ofNat_of_zero_le (show 0 ≤ m by omega)
    have hwr : IntKind.u64.wrap ((k : Nat) : Int) = ((k : Nat) : Int) := by simp [IntKind.wrap, IntKind.bits, IntKind.signed]; omega
    by_cases hk : k < (rUint s).1
    · have hc : rCount (k : Int) s = (0, rBad (rUint s).2) := by unfold rCount; rw [if_pos (.inr (by omega))]
      rw [hc]
      go_enter Try.func38, Try.ntmps38
      go_wp2_with fail
      refine (ref_uint _ q ab cb L s hs hb hne hl).mono ?_
      rintro e w1 ⟨rfl, hst, hg⟩
      have hst2 := ref_bad _ _ _ _ _ _ hst
      obtain ⟨at_, hh, _, _⟩ := hst
      have e2 : w1.cell? ⟨q, 2, none⟩ = some (.bool (rUint s).2.2) := by rw [cell_of_block hh]; rfl
      have f2 := unfrozen_of_block hh 2
      clear hh
      go_wp2
      all_goals (go_ret; exact ⟨ret_int (by unfold i64 wrap64; decide), hst2, grownBy_trans hg (grownBy_setCell _ _ _ _)⟩)
    · have hc : rCount (k : Int) s = rUint s := by unfold rCount; rw [if_neg (by omega)]
      rw [hc]
      go_enter Try.func38, Try.ntmps38
      go_wp2_with fail
      refine (ref_uint _ q ab cb L s hs hb hne hl).mono ?_
      rintro e w1 ⟨rfl, hst, hg⟩
      go_wp2
      all_goals (go_ret; exact ⟨ret_int (i64_small _ (by omega)).symm, hst, hg⟩)
theorem rCount_le (m : Int) (s : RS) (hm : m ≤ 9223372036854775807) : (rCount m s).1 < 9223372036854775808 := by
  unfold rCount; split
  · show 0 < 9223372036854775808; decide
  · omega
theorem ref_done (w : World) (q : Nat) (ab : Option Addr) (cb : Nat) (L : List UInt8) (s : RS) (hs : St w q ab cb L s) (hl : L.length ≤ 1000000000) :
    Calls Try.prog 41 #[.pointer (some ⟨q, 0, none⟩)] w fun e w' => e = .returned (.bool (decide (rDone s = 0))) ∧ Below w.heap.size w w' := by
  obtain ⟨l, bad⟩ := s
  obtain ⟨at_, hh, hle, hd⟩ := hs
  simp only at hh hd
  have hlt : q < w.drew.heap.size := by simpa using block_lt hh
  have d0 : w.drew.cell? ⟨q, 0, none⟩ = some (.slice ab L.length cb) := by rw [cell_of_block (w := w.drew) hh]; rfl
  have d1 : w.drew.cell? ⟨q, 1, none⟩ = some (.int .i64 (at_ : Int)) := by rw [cell_of_block (w := w.drew) hh]; rfl
  have d2 : w.drew.cell? ⟨q, 2, none⟩ = some (.bool bad) := by rw [cell_of_block (w := w.drew) hh]; rfl
  have HL : Hid (l.length = L.length - at_) := Lib.hid (by rw [← hd, List.length_drop])
  clear hd hh
  cases bad with
  | true =>
    go_enter Try.func41, Try.ntmps41
    go_wp2
    apply wp_region_draw_grow (.eq _ :: .eq _ :: .eq _ :: .eq _ :: .eq _ :: .eq _ :: .eq _ :: .eq _ :: .eq _ :: .eq _ :: .eq _ :: .eq _ :: .eq _ :: .eq _ :: .eq _ :: .eq _ :: .eq _ :: .eq _ :: []) (by kernel_rfl) (by kernel_rfl) trivial
    iterate 3
     apply wpG_eq
     · intro W hW hs
       unfold opG
       go_simp
       first | exact resG_eq_mk _ _ _ | rfl
     simp only [Act.put, pt1, pt2, pt3]
    apply wpG_eq
    · intro W hW hs
      have h1 := (hW.cell (p := ⟨q, 2, none⟩) hlt).trans d2
      unfold opG
      go_simp
      first | exact resG_eq_mk _ _ _ | rfl
    simp only [Act.put, pt1, pt2, pt3]
    iterate 14
     apply wpG_eq
     · intro W hW hs
       unfold opG
       go_simp
       first | exact resG_eq_mk _ _ _ | rfl
     simp only [Act.put, pt1, pt2, pt3]
    apply wpG_nil
    intro W9 hW9 hsAll
    have b9 : Below w.heap.size w W9 := (below_drewN (Below.refl _ w) 1).trans hW9
    go_wp2
    go_ret
    exact ⟨rfl, b9⟩
  | false =>
    go_enter Try.func41, Try.ntmps41
    go_wp2
    apply wp_region_draw_grow (.eq _ :: .eq _ :: .eq _ :: .eq _ :: .eq _ :: .eq _ :: .eq _ :: .eq _ :: .eq _ :: .eq _ :: .eq _ :: .eq _ :: .eq _ :: .eq _ :: .eq _ :: .eq _ :: .eq _ :: .eq _ :: []) (by kernel_rfl) (by kernel_rfl) trivial
    iterate 3
     apply wpG_eq
     · intro W hW hs
       unfold opG
       go_simp
       first | exact resG_eq_mk _ _ _ | rfl
     simp only [Act.put, pt1, pt2, pt3]
    apply wpG_eq
    · intro W hW hs
      have h1 := (hW.cell (p := ⟨q, 2, none⟩) hlt).trans d2
      unfold opG
      go_simp
      first | exact resG_eq_mk _ _ _ | rfl
    simp only [Act.put, pt1, pt2, pt3]
    iterate 5
     apply wpG_eq
     · intro W hW hs
       unfold opG
       go_simp
       first | exact resG_eq_mk _ _ _ | rfl
     simp only [Act.put, pt1, pt2, pt3]
    apply wpG_eq
    · intro W hW hs
      have h1 := (hW.cell (p := ⟨q, 1, none⟩) hlt).trans d1
      unfold opG
      go_simp
      first | exact resG_eq_mk _ _ _ | rfl
    simp only [Act.put, pt1, pt2, pt3]
    iterate 3
     apply wpG_eq
     · intro W hW hs
       unfold opG
       go_simp
       first | exact resG_eq_mk _ _ _ | rfl
     simp only [Act.put, pt1, pt2, pt3]
    apply wpG_eq
    · intro W hW hs
      have h1 := (hW.cell (p := ⟨q, 0, none⟩) hlt).trans d0
      unfold opG
      go_simp
      first | exact resG_eq_mk _ _ _ | rfl
    simp only [Act.put, pt1, pt2, pt3]
    iterate 4
     apply wpG_eq
     · intro W hW hs
       unfold opG
       go_simp
       first | exact resG_eq_mk _ _ _ | rfl
     simp only [Act.put, pt1, pt2, pt3]
    apply wpG_nil
    intro W9 hW9 hsAll
    have b9 : Below w.heap.size w W9 := (below_drewN (Below.refl _ w) 1).trans hW9
    go_wp2
    go_ret
    refine ⟨congrArg (fun b => Ending.returned (Value.bool b)) ?_, b9⟩
    have := HL.out
    by_cases h0 : 0 < l.length
    · rw [show rDone (l, false) = 2 by simp [rDone, h0], Bool.eq_iff_iff]; simp; omega
    · rw [show rDone (l, false) = 0 by simp [rDone, h0], Bool.eq_iff_iff]; simp; omega
end Go.Proofs.Ytgilijkmmcpfjaa
