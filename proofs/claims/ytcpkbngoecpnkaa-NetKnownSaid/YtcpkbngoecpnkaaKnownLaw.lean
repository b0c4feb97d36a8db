/-
  NetKnown: the chapter's examples of a net, its limits, no net, and new memory. Closed; no conditions.
-/
import Derived.Test.YtcpkbngoecpnkaaNetKn
set_option linter.unusedVariables false
namespace Go.Proofs.Ytcpkbngoecpnkaa
open Go.RowKit

theorem sl_ints {W : World} {B n : Nat} {xs : List Int} (h : CellsAt W B (ints xs).toArray 3) (hn : n = xs.length) : Sl W (.slice (some ⟨B, 0, Option.none⟩) n n) (ints xs) := by
  subst hn
  refine ⟨_, xs.length, by simp [ints], by simp [ints], .inr ⟨B, 0, rfl, h.lt, fun k hk => ?_⟩⟩
  rw [Nat.zero_add, h.cell k]
  simp [List.getElem?_eq_getElem hk]
theorem make_big (w : World) (n : Nat) (hn : n ≤ 4194304) :
    ∃ w', (Instr.makeSlice 23 (.int .i64 (n : Int)) (.int .i64 (n : Int))).run Try.prog w = .ok (.slice (some ⟨w.heap.size, 0, none⟩) n n) w' ∧
      Sl w' (.slice (some ⟨w.heap.size, 0, none⟩) n n) (bytes (List.replicate n 0)) ∧ Gr w w' := by
  obtain ⟨i0, hi0, hz0, hz1, hz2⟩ := info_parts info_u8
  obtain ⟨w', h1, h2, h3⟩ := run_make_full (P := Try.prog) w w.heap.size 23 5 i0 _ 1 Try.underlying23 hi0 hz0 hz1 .i64 .i64 n (by rw [hz2]; omega) (by unfold maxLen; omega) (Nat.le_refl _)
  refine ⟨w', h1, ?_, grownBy_below h3 (Nat.le_refl _) (by intro k hk; cases hk)⟩
  have e : (madeCells (Value.int .u8 0).cells (n * 1)).toList = bytes (List.replicate n 0) := by
    have := toList_madeCells_one (.int .u8 0) (n * 1)
    rw [Nat.mul_one] at this ⊢
    have e2 : (Value.int .u8 0).cells = #[.int .u8 0] := rfl
    rw [e2, this]
    simp [bytes, byte]
  rw [e] at h2
  have h4 : Own w' w.heap.size 5 (.slice (some ⟨w.heap.size, 0, none⟩) n n) (bytes (List.replicate n 0)) := by
    unfold Own
    rw [bytes_length, List.length_replicate]
    exact h2
  exact h4.sl
theorem send_big {big : List UInt8} (h : big.length = 2097153) : sendE S31 0 ⟨(0, 0), (1, 0), big⟩ = 1 := by
  unfold sendE
  rw [show linkV S31 ((⟨(0, 0), (1, 0), big⟩ : LetD)).src ((⟨(0, 0), (1, 0), big⟩ : LetD)).dst = true from rfl, if_neg (by decide), if_pos (by show 2097152 < big.length; omega)]
theorem drop_rep (x : LetD) (n : Nat) : (List.replicate (n + 1) x).eraseIdx (0 : Int).toNat = List.replicate n x := by
  rw [List.replicate_succ]; rfl
theorem dbl_rep (x : LetD) (n : Nat) : List.replicate (n + 1) x ++ ((List.replicate (n + 1) x)[(0 : Int).toNat]?).toList = List.replicate (n + 2) x := by
  have h : (List.replicate (n + 1) x)[(0 : Int).toNat]? = some x := by rw [List.replicate_succ]; rfl
  rw [h, List.replicate_succ' (n := n + 1)]
  rfl
theorem own_form {W : World} {B : Nat} {v : Value} {bs : List UInt8} (h : Own W B 5 v (bytes bs)) (h3 : bs = [97, 98, 99]) : ∃ J c, v = .slice (some ⟨J, 0, Option.none⟩) 3 c ∧ B ≤ J ∧ (∃ cs, W.heap[J]? = some (.cells cs 5 (0, 0))) ∧ W.cell? ⟨J, 0, Option.none⟩ = some (.int .u8 97) := by
  subst h3
  rcases h.2 with ⟨_, h0⟩ | ⟨g, cap, cur, rfl, h1, h2, _⟩
  · cases h0
  · have hs := h.sl
    obtain ⟨a, c, e, _, hx⟩ := hs
    injection e with e1 e2 e3
    rcases hx with hx | ⟨b, off, e4, _, hc⟩
    · cases hx
    · rw [← e1] at e4
      injection e4 with e4
      injection e4 with e5 e6
      have h9 := hc 0 (by decide)
      rw [← e5, ← e6] at h9
      exact ⟨g, cap, rfl, h1, ⟨cur, h2⟩, h9⟩
set_option maxHeartbeats 0 in
set_option maxRecDepth 100000 in
theorem known_walk (w : World) : Calls Try.prog 7 #[] w fun e w' => e = .returned (.bool true) ∧ Below w.heap.size w w' := by
  obtain ⟨wa, hwa⟩ : ∃ wa, wa = ((((w.alloc (.cells #[.int .i64 0] 3)).alloc (.cells #[.int .i64 4] 3)).alloc (.cells #[.int .i64 1, .int .i64 1, .int .i64 1, .int .i64 1, .int .i64 1] 3)).alloc (.cells #[.int .i64 3, .int .i64 (-1)] 3)) := ⟨_, rfl⟩
  have ga : Gr w wa := by rw [hwa]; exact ((((Gr.refl w).alloc _).alloc _).alloc _).alloc _
  have c0 : CellsAt wa w.heap.size #[.int .i64 0] 3 := by rw [hwa]; exact (CellsAt.new _ _ _).gr ((((Gr.refl _).alloc _).alloc _).alloc _)
  have c1 : CellsAt wa (w.heap.size + 1) #[.int .i64 4] 3 := by rw [hwa]; exact (CellsAt.newAt (w.alloc (.cells #[.int .i64 0] 3)) _ _ (by simp)).gr (((Gr.refl _).alloc _).alloc _)
  have c2 : CellsAt wa (w.heap.size + 2) #[.int .i64 1, .int .i64 1, .int .i64 1, .int .i64 1, .int .i64 1] 3 := by rw [hwa]; exact (CellsAt.newAt ((w.alloc (.cells #[.int .i64 0] 3)).alloc (.cells #[.int .i64 4] 3)) _ _ (by simp)).gr ((Gr.refl _).alloc _)
  have c3 : CellsAt wa (w.heap.size + 3) #[.int .i64 3, .int .i64 (-1)] 3 := by rw [hwa]; exact CellsAt.newAt (((w.alloc (.cells #[.int .i64 0] 3)).alloc (.cells #[.int .i64 4] 3)).alloc (.cells #[.int .i64 1, .int .i64 1, .int .i64 1, .int .i64 1, .int .i64 1] 3)) _ _ (by simp)
  have hsa : wa.heap.size = w.heap.size + 4 := by rw [hwa]; simp
  obtain ⟨wb, hwb⟩ : ∃ wb, wb = wa.alloc (.cells #[.slice Option.none 0 0, .slice (some ⟨w.heap.size, 0, Option.none⟩) 1 1, .slice (some ⟨w.heap.size + 1, 0, Option.none⟩) 1 1, .slice (some ⟨w.heap.size + 2, 0, Option.none⟩) 5 5, .slice (some ⟨w.heap.size + 3, 0, Option.none⟩) 2 2] 29) := ⟨_, rfl⟩
  have gb : Gr wa wb := by rw [hwb]; exact (Gr.refl _).alloc _
  have cb : CellsAt wb (w.heap.size + 4) #[.slice Option.none 0 0, .slice (some ⟨w.heap.size, 0, Option.none⟩) 1 1, .slice (some ⟨w.heap.size + 1, 0, Option.none⟩) 1 1, .slice (some ⟨w.heap.size + 2, 0, Option.none⟩) 5 5, .slice (some ⟨w.heap.size + 3, 0, Option.none⟩) 2 2] 29 := by rw [hwb]; exact CellsAt.newAt wa _ _ hsa.symm
  have CB := Lib.hid cb
  have C0 := Lib.hid (c0.gr gb)
  have C1 := Lib.hid (c1.gr gb)
  have C2 := Lib.hid (c2.gr gb)
  have C3 := Lib.hid (c3.gr gb)
  have GB := Lib.hid (Below.trans ga (gb.mono ga.size))
  go_enter Try.func7, Try.ntmps7
  go_upto_region 2 with fail
  rw [← hwa, ← hwb]
  clear hwa hwb ga gb c0 c1 c2 c3 cb hsa
  go_wp2
  go_loopw [2, 3, 4] (fun i s3 s4 W => ∃ k : Nat, k ≤ 5 ∧ i = .int .i64 k ∧ Gr wb W) (fun i _ _ _ => 5 - (intOf i).toNat)
  case atStart => exact ⟨0, by decide, rfl, Gr.refl _⟩
  case round =>
    obtain ⟨k, hk, rfl, gW⟩ := hrel
    obtain ⟨W9, hW9⟩ : ∃ W9, W9 = wr := ⟨_, rfl⟩
    rw [← hW9] at gW ⊢
    clear hW9
    by_cases hlt : k < 5
    · skip
      obtain rfl | rfl | rfl | rfl | rfl : k = 0 ∨ k = 1 ∨ k = 2 ∨ k = 3 ∨ k = 4 := by omega
      · have hq : W9.cell? ⟨w.heap.size + 4, 0, Option.none⟩ = some (.slice Option.none 0 0) := (CB.out.gr gW).cell 0
        go_wp2_with fail
        clear hq
        refine (new_any W9 _ [] (Sl.nil _ _ _)).mono ?_
        rintro e w2 hp
        obtain ⟨rfl, g2⟩ := newPost_no (by rfl) hp
        have G2 := Lib.hid (Gr.trans gW g2)
        clear hp g2
        go_wp2
        exact ⟨⟨1, by decide, by first | rfl | go_num, G2.out⟩, by simp [intOf]⟩
      · have hq : W9.cell? ⟨w.heap.size + 4, 1, Option.none⟩ = some (.slice (some ⟨w.heap.size, 0, Option.none⟩) 1 1) := (CB.out.gr gW).cell 1
        go_wp2_with fail
        clear hq
        refine (new_any W9 _ [0] (sl_ints (xs := [0]) ((C0.out.gr gW)) (by rfl))).mono ?_
        rintro e w2 hp
        obtain ⟨rfl, g2⟩ := newPost_no (by rfl) hp
        have G2 := Lib.hid (Gr.trans gW g2)
        clear hp g2
        go_wp2
        exact ⟨⟨2, by decide, by first | rfl | go_num, G2.out⟩, by simp [intOf]⟩
      · have hq : W9.cell? ⟨w.heap.size + 4, 2, Option.none⟩ = some (.slice (some ⟨w.heap.size + 1, 0, Option.none⟩) 1 1) := (CB.out.gr gW).cell 2
        go_wp2_with fail
        clear hq
        refine (new_any W9 _ [4] (sl_ints (xs := [4]) ((C1.out.gr gW)) (by rfl))).mono ?_
        rintro e w2 hp
        obtain ⟨rfl, g2⟩ := newPost_no (by rfl) hp
        have G2 := Lib.hid (Gr.trans gW g2)
        clear hp g2
        go_wp2
        exact ⟨⟨3, by decide, by first | rfl | go_num, G2.out⟩, by simp [intOf]⟩
      · have hq : W9.cell? ⟨w.heap.size + 4, 3, Option.none⟩ = some (.slice (some ⟨w.heap.size + 2, 0, Option.none⟩) 5 5) := (CB.out.gr gW).cell 3
        go_wp2_with fail
        clear hq
        refine (new_any W9 _ [1, 1, 1, 1, 1] (sl_ints (xs := [1, 1, 1, 1, 1]) ((C2.out.gr gW)) (by rfl))).mono ?_
        rintro e w2 hp
        obtain ⟨rfl, g2⟩ := newPost_no (by rfl) hp
        have G2 := Lib.hid (Gr.trans gW g2)
        clear hp g2
        go_wp2
        exact ⟨⟨4, by decide, by first | rfl | go_num, G2.out⟩, by simp [intOf]⟩
      · have hq : W9.cell? ⟨w.heap.size + 4, 4, Option.none⟩ = some (.slice (some ⟨w.heap.size + 3, 0, Option.none⟩) 2 2) := (CB.out.gr gW).cell 4
        go_wp2_with fail
        clear hq
        refine (new_any W9 _ [3, -1] (sl_ints (xs := [3, -1]) ((C3.out.gr gW)) (by rfl))).mono ?_
        rintro e w2 hp
        obtain ⟨rfl, g2⟩ := newPost_no (by rfl) hp
        have G2 := Lib.hid (Gr.trans gW g2)
        clear hp g2
        go_wp2
        exact ⟨⟨5, by decide, by first | rfl | go_num, G2.out⟩, by simp [intOf]⟩
    · obtain rfl : k = 5 := by omega
      have GW := Lib.hid (Below.trans GB.out (gW.mono GB.out.size))
      clear gW hk hlt CB C0 C1 C2 C3
      obtain ⟨w0, hw0⟩ : ∃ w0, w0 = W9.alloc (.cells #[.int .i64 3, .int .i64 1] 3) := ⟨_, rfl⟩
      have g0 : Gr W9 w0 := by rw [hw0]; exact (Gr.refl _).alloc _
      have hs0 : Sl w0 (.slice (some ⟨W9.heap.size, 0, Option.none⟩) 2 2) (ints [3, 1]) := by rw [hw0]; exact Sl.new W9 (ints [3, 1]) 3 (0, 0) 2 2 rfl (Nat.le_refl _)
      go_wp2_with fail
      rw [← hw0]
      refine (new_any w0 _ [3, 1] hs0).mono ?_
      rintro e w1 hp
      obtain ⟨N, M, rfl, h1, g1⟩ := newPost_ok (by rfl) hp
      have K1 : Hid (K0 w w1 N M 0) := Lib.hid ⟨_, h1.monoB (Nat.le_trans GW.out.size g0.size), Below.trans (Below.trans GW.out (g0.mono GW.out.size)) (g1.mono (Nat.le_trans GW.out.size g0.size))⟩
      clear hw0 g0 hs0 hp h1 g1
      go_wp2_with fail
      refine (letter_any w1 0 0 0 0 []).mono ?_
      rintro e w2 ⟨bv2, rfl, hs2, hf2, hg2⟩
      have S2 := Lib.hid (K1.out.fresh hg2 hs2 hf2)
      clear hs2 hf2 hg2 K1
      go_wp2_with fail
      refine (K0s.send (l := ⟨(0, 0), (0, 0), []⟩) S2.out (by decide) (by rfl)).mono ?_
      rintro e w3 ⟨rfl, k3⟩
      have K3 := Lib.hid k3
      clear k3 S2
      go_wp2_with fail
      refine (letter_any w3 0 3 1 0 []).mono ?_
      rintro e w4 ⟨bv4, rfl, hs4, hf4, hg4⟩
      have S4 := Lib.hid (K3.out.fresh hg4 hs4 hf4)
      clear hs4 hf4 hg4 K3
      go_wp2_with fail
      refine (K0s.send (l := ⟨(0, 3), (1, 0), []⟩) S4.out (by decide) (by rfl)).mono ?_
      rintro e w5 ⟨rfl, k5⟩
      have K5 := Lib.hid k5
      clear k5 S4
      go_wp2_with fail
      refine (letter_any w5 0 0 2 0 []).mono ?_
      rintro e w6 ⟨bv6, rfl, hs6, hf6, hg6⟩
      have S6 := Lib.hid (K5.out.fresh hg6 hs6 hf6)
      clear hs6 hf6 hg6 K5
      go_wp2_with fail
      refine (K0s.send (l := ⟨(0, 0), (2, 0), []⟩) S6.out (by decide) (by rfl)).mono ?_
      rintro e w7 ⟨rfl, k7⟩
      have K7 := Lib.hid k7
      clear k7 S6
      go_wp2_with fail
      refine (letter_any w7 0 0 1 (-1) []).mono ?_
      rintro e w8 ⟨bv8, rfl, hs8, hf8, hg8⟩
      have S8 := Lib.hid (K7.out.fresh hg8 hs8 hf8)
      clear hs8 hf8 hg8 K7
      go_wp2_with fail
      refine (K0s.send (l := ⟨(0, 0), (1, (-1)), []⟩) S8.out (by decide) (by rfl)).mono ?_
      rintro e w9 ⟨rfl, k9⟩
      have K9 := Lib.hid k9
      clear k9 S8
      obtain ⟨w10, r10, s10, g10⟩ := make_big w9 2097153 (by decide)
      obtain ⟨big, hbig⟩ : ∃ b, b = List.replicate 2097153 (0 : UInt8) := ⟨_, rfl⟩
      have hlb : Hid (big.length = 2097153) := Lib.hid (by rw [hbig, List.length_replicate])
      rw [← hbig] at s10
      have r10' : (Instr.makeSlice 23 (.int .i64 2097153) (.int .i64 2097153)).run Try.prog w9 = .ok (.slice (some ⟨w9.heap.size, 0, none⟩) 2097153 2097153) w10 := r10
      have S10 := Lib.hid (K9.out.fresh g10 s10 (fun j hj => by have e : some w9.heap.size = some j := hj; injection e with e; omega))
      clear r10 s10 g10 hbig K9
      go_wp2_with fail
      clear r10'
      refine (K0s.send (l := ⟨(0, 0), (1, 0), big⟩) S10.out (by show big.length ≤ _; rw [hlb.out]; decide) (send_big hlb.out)).mono ?_
      rintro e w11 ⟨rfl, k11⟩
      have K11 := Lib.hid k11
      clear k11 S10
      go_wp2_with fail
      refine (K0.cut K11.out (by decide) (0, 0) (0, 0) ⟨by decide, by decide, by decide, by decide⟩ ⟨by decide, by decide, by decide, by decide⟩ (by rfl)).mono ?_
      rintro e w12 ⟨rfl, k12⟩
      have K12 := Lib.hid k12
      clear k12 K11
      go_wp2_with fail
      refine (K0.heal K12.out (by decide) (0, 0) (0, 3) ⟨by decide, by decide, by decide, by decide⟩ ⟨by decide, by decide, by decide, by decide⟩ (by rfl)).mono ?_
      rintro e w13 ⟨rfl, k13⟩
      have K13 : Hid (K0 w w13 N M 2) := Lib.hid k13
      clear k13 K12
      go_wp2_with fail
      refine (K0.len K13.out).mono ?_
      rintro e w14 ⟨rfl, hw14⟩
      subst w14
      have kc := Lib.run_convert_bytes_const (P := Try.prog) w13 23 5 #[.int .u8 97, .int .u8 98, .int .u8 99] 3 3 Try.underlying23 Try.underlying5
      go_upto_region 14 with fail
      obtain ⟨I, hI⟩ : ∃ I, I = w13.heap.size := ⟨_, rfl⟩
      rw [← hI]
      clear kc
      obtain ⟨w14, hw14⟩ : ∃ w14, w14 = (w13.alloc (.cells #[.int .u8 97, .int .u8 98, .int .u8 99] 5 (3, 4))).alloc (.cells #[.int .i64 0, .int .i64 0, .int .i64 1, .int .i64 0, .slice (some ⟨I, 0, Option.none⟩) 3 3] 35) := ⟨_, rfl⟩
      have g14 : Gr w13 w14 := by rw [hw14]; exact ((Gr.refl _).alloc _).alloc _
      have cI : MarkAt w14 I [97, 98, 99] := by rw [hw14, hI]; exact (show MarkAt (w13.alloc (.cells #[.int .u8 97, .int .u8 98, .int .u8 99] 5 (3, 4))) w13.heap.size [97, 98, 99] from heap_alloc_new w13 _).gr ((Gr.refl _).alloc _)
      have cX : CellsAt w14 (I + 1) #[.int .i64 0, .int .i64 0, .int .i64 1, .int .i64 0, .slice (some ⟨I, 0, Option.none⟩) 3 3] 35 := by rw [hw14]; exact CellsAt.newAt (w13.alloc (.cells #[.int .u8 97, .int .u8 98, .int .u8 99] 5 (3, 4))) _ _ (by rw [hI]; simp)
      have K14 := Lib.hid (K0.start K13.out g14 cI cX (by omega) (by omega))
      have LI : Hid (w.heap.size ≤ I) := Lib.hid (by rw [hI]; exact K13.out.below.size)
      rw [← hw14]
      clear hw14 g14 cI cX K13 hI
      go_wp2
      go_loopw [10] (fun i W => ∃ k : Nat, k ≤ 4096 ∧ i = .int .i64 k ∧ K1 w W N M 2 I (I + 1) [97, 98, 99] (List.replicate k (xl [97, 98, 99]))) (fun i _ => 4096 - (intOf i).toNat)
      case atStart => exact ⟨0, by decide, rfl, K14.out⟩
      case round =>
        clear K14
        obtain ⟨k, hk, rfl, hK⟩ := hrel
        have KK := Lib.hid hK
        clear hK
        have q0 := KK.out.two.cells.2.cell 0
        have q1 := KK.out.two.cells.2.cell 1
        have q2 := KK.out.two.cells.2.cell 2
        have q3 := KK.out.two.cells.2.cell 3
        have q4 := KK.out.two.cells.2.cell 4
        by_cases hlt : k < 4096
        · go_wp2_with fail
          clear q0 q1 q2 q3 q4
          refine (K1.send KK.out (by rfl) (by rw [List.length_replicate]; exact hlt)).mono ?_
          rintro e w15 ⟨rfl, k15⟩
          rw [← List.replicate_succ'] at k15
          have K15 := Lib.hid k15
          clear k15 KK
          go_wp2
          exact ⟨⟨k + 1, by omega, by go_num, K15.out⟩, by simp [intOf]; omega⟩
        · obtain rfl : k = 4096 := by omega
          clear q0 q1 q2 q3 q4
          have qI := (show MarkAt wr I [97, 98, 99] from KK.out.two.cells.1).cell 0
          have qF := (show MarkAt wr I [97, 98, 99] from KK.out.two.cells.1).frozen
          go_upto_region 20 with fail
          clear qI qF
          obtain ⟨w15, hw15⟩ : ∃ w15, w15 = wr.setCell ⟨I, 0, Option.none⟩ (.int .u8 122) := ⟨_, rfl⟩
          have K15 : Hid (K2 w w15 N M 2 I (I + 1) [122, 98, 99] (List.replicate 4096 (xl [97, 98, 99]))) := Lib.hid (by rw [hw15]; exact KK.out.store LI.out)
          rw [← hw15]
          clear hw15 KK hlt hk
          have q0 := K15.out.cells.2.cell 0
          have q1 := K15.out.cells.2.cell 1
          have q2 := K15.out.cells.2.cell 2
          have q3 := K15.out.cells.2.cell 3
          have q4 := K15.out.cells.2.cell 4
          go_wp2_with fail
          clear q0 q1 q2 q3 q4
          refine (K2.send_full K15.out (by rfl) (by rw [List.length_replicate]; exact Nat.le_refl _)).mono ?_
          rintro e w16 ⟨rfl, k16⟩
          have K16 := Lib.hid k16
          clear k16 K15
          go_wp2_with fail
          refine (K2.double K16.out 0 (fun l hl => by rw [List.eq_of_mem_replicate hl]; decide) (z := 4) (ls' := List.replicate 4096 (xl [97, 98, 99])) (by rw [List.length_replicate]; rfl) (by rw [if_neg (by decide)])).mono ?_
          rintro e w17 ⟨rfl, k17⟩
          have K17 := Lib.hid k17
          clear k17 K16
          go_wp2_with fail
          refine (K2.drop K17.out 4096 (z := 1) (ls' := List.replicate 4096 (xl [97, 98, 99])) (by rw [List.length_replicate]; rfl) (by rw [if_neg (by decide)])).mono ?_
          rintro e w18 ⟨rfl, k18⟩
          have K18 := Lib.hid k18
          clear k18 K17
          go_wp2_with fail
          refine (K2.drop K18.out 0 (z := 0) (ls' := List.replicate 4095 (xl [97, 98, 99])) (by rw [List.length_replicate]; rfl) (by rw [if_pos rfl]; exact drop_rep _ _)).mono ?_
          rintro e w19 ⟨rfl, k19⟩
          have K19 := Lib.hid k19
          clear k19 K18
          go_wp2_with fail
          refine (K2.double K19.out 0 (fun l hl => by rw [List.eq_of_mem_replicate hl]; decide) (z := 0) (ls' := List.replicate 4096 (xl [97, 98, 99])) (by rw [List.length_replicate]; rfl) (by rw [if_pos rfl]; exact dbl_rep _ 4094)).mono ?_
          rintro e w20 ⟨rfl, k20⟩
          have K20 := Lib.hid k20
          clear k20 K19
          go_wp2_with fail
          refine (K2.letters K20.out (fun l hl => by rw [List.eq_of_mem_replicate hl]; decide)).mono ?_
          rintro e w21 ⟨v21, ps, rfl, l21, m21, g21⟩
          have hpl : ps.length = 4096 := by rw [← List.length_map Prod.fst, m21, List.length_replicate]
          have hp0 : 0 < ps.length := by omega
          obtain ⟨g, cap, rfl, hgb, hgl, c0, c1, c2, c3, c4, hown⟩ := l21.at 0 hp0
          have hx : (ps[0]'hp0).1 = (xl [97, 98, 99]) := by
            have h9 : (ps.map Prod.fst)[0]'(by simpa using hp0) ∈ List.replicate 4096 (xl [97, 98, 99]) := by rw [← m21]; exact List.getElem_mem _
            simpa using List.eq_of_mem_replicate h9
          rw [hx] at hown
          obtain ⟨J, cj, ej, hjl, hjf, hjs⟩ := own_form hown (by decide)
          rw [ej] at c4
          rw [hpl]
          have HJ := Lib.hid (And.intro hjl hjf)
          have K21 := Lib.hid (And.intro K20.out g21)
          have C4 : Hid (w21.cell? ⟨g, 4, Option.none⟩ = some (.slice (some ⟨J, 0, Option.none⟩) 3 cj)) := Lib.hid c4
          clear c0 c1 c2 c3 c4 hown hx l21 m21 hp0 hgb hgl ej hjl hjf K20 hpl
          have c4 := C4.out
          have cj0 := hjs
          have fj0 : w21.frozen? ⟨J, 0, Option.none⟩ = false := by obtain ⟨cs, h9⟩ := HJ.out.2; exact frozen_of_row _ _ _ _ _ h9
          go_upto_region 25 with fail
          obtain ⟨w22, hw22⟩ : ∃ w22, w22 = w21.setCell ⟨J, 0, Option.none⟩ (.int .u8 121) := ⟨_, rfl⟩
          have K22 : Hid (K2 w w22 N M 2 I (I + 1) [122, 98, 99] (List.replicate 4096 (xl [97, 98, 99]))) := Lib.hid (by rw [hw22]; obtain ⟨cs, h9⟩ := HJ.out.2; exact K2.write K21.out.1 K21.out.2 h9 HJ.out.1 0 _)
          rw [← hw22]
          clear hw22 c4 cj0 fj0 C4 hjs HJ K21
          go_wp2_with fail
          refine (K2.take K22.out (xl [97, 98, 99]) (List.replicate 4095 (xl [97, 98, 99])) (List.replicate_succ) (fun l hl => by rw [List.eq_of_mem_replicate hl]; exact xl_ok _)).mono ?_
          rintro e w23 ⟨bv, rfl, hs23, k23⟩
          have hs23' : Sl w23 bv (bytes [97, 98, 99]) := hs23
          obtain ⟨ab, cb, rfl, _⟩ := hs23'.bytes
          have K23 := Lib.hid k23
          have S23 : Hid (Sl w23 (.slice ab 3 cb) (bytes [97, 98, 99])) := Lib.hid hs23'
          clear k23 hs23 hs23' K22
          rw [show letV (xl [97, 98, 99]) (.slice ab ([97, 98, 99] : List UInt8).length cb) = .agg #[.int .i64 0, .int .i64 0, .int .i64 1, .int .i64 0, .slice ab 3 cb] from rfl]
          go_upto_region 26 with fail
          obtain ⟨w24, hw24⟩ : ∃ w24, w24 = w23.alloc (.cells #[.int .i64 0, .int .i64 0, .int .i64 1, .int .i64 0, .slice ab 3 cb] 35) := ⟨_, rfl⟩
          have g24 : Gr w23 w24 := by rw [hw24]; exact (Gr.refl _).alloc _
          have C24 : Hid (CellsAt w24 w23.heap.size #[.int .i64 0, .int .i64 0, .int .i64 1, .int .i64 0, .slice ab 3 cb] 35) := Lib.hid (by rw [hw24]; exact CellsAt.new _ _ _)
          have K24 := Lib.hid (K23.out.go g24)
          have S24 := Lib.hid (S23.out.below g24)
          rw [← hw24]
          clear hw24 g24 K23 S23
          go_wp2_with fail
          refine (nil_take w24 0).mono ?_
          rintro e w25 ⟨rfl, g25⟩
          have C25 := Lib.hid (C24.out.gr g25)
          have K25 := Lib.hid (K24.out.go g25)
          have S25 := Lib.hid (S24.out.below g25)
          clear g25 K24 S24 C24
          go_upto_region 28 with fail
          obtain ⟨w26, hw26⟩ : ∃ w26, w26 = w25.alloc (.cells #[.int .i64 0, .int .i64 0, .int .i64 0, .int .i64 0, .slice Option.none 0 0] 35) := ⟨_, rfl⟩
          have g26 : Gr w25 w26 := by rw [hw26]; exact (Gr.refl _).alloc _
          have y4 := (C25.out.gr g26).cell 4
          have K26 := Lib.hid (K25.out.go g26)
          have s1 := run_string_sl (P := Try.prog) 23 5 9 Try.underlying23 Try.underlying5 Try.underlying9 (S25.out.below g26)
          rw [← hw26]
          clear hw26 g26 K25 S25 C25
          have q0 := K26.out.cells.2.cell 0
          have q1 := K26.out.cells.2.cell 1
          have q2 := K26.out.cells.2.cell 2
          have q3 := K26.out.cells.2.cell 3
          have q4 := K26.out.cells.2.cell 4
          go_wp2_with fail
          clear y4 s1
          clear q0 q1 q2 q3 q4
          refine (nil_send _ _ ⟨_, _, _, _, _, rfl⟩).mono ?_
          rintro e w27 ⟨rfl, g27⟩
          have K27 := Lib.hid (K26.out.go g27)
          clear g27 K26
          go_wp2_with fail
          refine (nil_len _).mono ?_
          rintro e w28 ⟨rfl, hw28⟩
          subst w28
          go_wp2_with fail
          refine (nil_letters _).mono ?_
          rintro e w28 ⟨rfl, hw28⟩
          subst w28
          go_wp2_with fail
          refine (nil_drop _ 0).mono ?_
          rintro e w28 ⟨rfl, hw28⟩
          subst w28
          go_wp2_with fail
          refine (nil_double _ 0).mono ?_
          rintro e w28 ⟨rfl, hw28⟩
          subst w28
          go_wp2_with fail
          refine (nil_hold _ 0).mono ?_
          rintro e w28 ⟨rfl, hw28⟩
          subst w28
          have q0 := K27.out.cells.2.cell 0
          have q1 := K27.out.cells.2.cell 1
          have q2 := K27.out.cells.2.cell 2
          have q3 := K27.out.cells.2.cell 3
          go_wp2_with fail
          clear q0 q1 q2 q3
          refine (nil_cut _ (0, 0) (1, 0)).mono ?_
          rintro e w28 ⟨rfl, g28⟩
          have K28 := Lib.hid (K27.out.go g28)
          clear g28 K27
          have q0 := K28.out.cells.2.cell 0
          have q1 := K28.out.cells.2.cell 1
          have q2 := K28.out.cells.2.cell 2
          have q3 := K28.out.cells.2.cell 3
          go_wp2_with fail
          clear q0 q1 q2 q3
          refine (nil_heal _ (0, 0) (1, 0)).mono ?_
          rintro e w29 ⟨rfl, g29⟩
          have K29 := Lib.hid (K28.out.go g29)
          clear g29 K28
          have q0 := K29.out.cells.2.cell 0
          have q1 := K29.out.cells.2.cell 1
          have q2 := K29.out.cells.2.cell 2
          have q3 := K29.out.cells.2.cell 3
          go_wp2_with fail
          clear q0 q1 q2 q3
          refine (nil_cuts _ (0, 0) (1, 0)).mono ?_
          rintro e w30 ⟨rfl, g30⟩
          have K30 := Lib.hid (K29.out.go g30)
          clear g30 K29
          go_wp2_with fail
          refine (goes_any _).mono ?_
          rintro e w31 ⟨rfl, g31⟩
          have K31 := Lib.hid (K30.out.go g31)
          clear g31 K30
          go_wp2
          go_ret
          exact ⟨rfl, K31.out.below⟩

open Go.ChangeShapes Go.WideShapes Go.ChangeAt Go.RowKit
open Go.ChangeMaps (open_string shut_string)
theorem own_netKnown : ownKnob Try.prog.godebug = none := by kernel_rfl
theorem laidOut_netKnown : laidOutB Try.prog = true := by kernel_rfl
set_option maxRecDepth 100000 in
theorem lifted_netKnown (os : Os) (started : os.Started) (H : Type) (enc : TypeId × Value → H) :
    ReturnsInHanded {} Try.checked os 7 .any (Rows.netKnownSpec.pre6 enc Try.prog Try.f7 Rows.netKnownRow.domain false) (Rows.netKnownSpec.post enc Try.prog Try.f7 false true false false) := by
  refine returnsInHanded_of_change (C := Try.checked) own_netKnown started (by kernel_rfl) Try.func7
    (ChangeSpec.witness6 (enc := enc) (C := Try.checked) false ⟨#[], #[], []⟩ 8 (by kernel_rfl) (by kernel_rfl) (by kernel_rfl) (by kernel_rfl)) ?_
  intro W base args ds gs before hval0 hW hcnd _
  have hval : ∀ (j : Nat) t v, Try.f7.params[j]? = some t → args[j]? = some v → Value.okWide Try.prog W .any base t v := hval0
  have hW' := hW
  obtain ⟨p, q, hA0, hV, rfl, hfz, hnd⟩ := hW
  have hA : DataW.TrodAll enc Try.prog W 0 (fun _ => true) true Try.f7.params.toList args.toList ds p := hA0
  rw [Try.params7] at hA hval
  obtain ⟨rfl, rfl, rfl⟩ := trodAll_none hA
  obtain ⟨rfl, rfl⟩ := trodVars_none hV
  clear hA0 hval0
  simp only [List.append_nil] at hW'
  refine (known_walk W ).mono fun e W' ⟨he, bel⟩ => ?_
  subst he
  exact ⟨_, rfl, _, _, _, [], _, [], hW', trodAll_mk1 (shut_bool Try.underlying4 _), trodAll_mk0, rfl, bel.frame _, fun h => by cases h⟩

theorem over_netKnown : Rows.netKnownRow.holds Try.pinned (OpenSpec.ofChange Rows.netKnownSpec) :=
  OpenClaim.holds_of_wide 7 Try.f7 rfl rfl rfl rfl rfl rfl rfl ⟨rfl, rfl, rfl, rfl, rfl⟩ rfl rfl rfl rfl rfl (by kernel_rfl) Try.func7 (by kernel_rfl)
    (of_decide_eq_true (by kernel_rfl)) (by unfold Func.isWrapper; first | (rw [if_pos (by decide +kernel)]; kernel_rfl) | (rw [if_neg (by decide +kernel)]; exact ⟨rfl, rfl⟩))
    (fun os started H enc _ => lifted_netKnown os started H enc)

theorem netKnown_proved : Rows.NetKnownSaid := over_netKnown
#print axioms netKnown_proved
end Go.Proofs.Ytcpkbngoecpnkaa
