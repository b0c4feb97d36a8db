/-
  A known net does what it must.
-/
import Derived.Test.YtcpkbngoecpnkaaNetW
set_option linter.unusedVariables false
namespace Go.Proofs.Ytcpkbngoecpnkaa
open Go.RowKit
theorem below_ch {w W W' : World} {B N M n : Nat} {lv : Value} {ps : List (LetD × Value)} {sizes : List Int} {cut : AdD × AdD → Bool} (hb : Below B w W) (h : NetIs W B N M n lv ps sizes cut) (c : Ch (netB N M lv) W W') : Below B w W' :=
  Below.trans hb (c.below h.bB (fun k hk => (h.ltB k hk).1))
theorem newPost_ok {w w' : World} {sizes : List Int} {e : Ending} (h0 : newOk sizes = true) (h : NewPost w sizes e w') : ∃ N M, e = .returned (.tuple #[.pointer (some ⟨N, 0, Option.none⟩), .int .i64 0]) ∧ NetIs w' w.heap.size N M 0 (.slice Option.none 0 0) [] sizes (fun _ => false) ∧ Gr w w' := by
  unfold NewPost at h
  rw [h0] at h
  exact h
theorem newPost_no {w w' : World} {sizes : List Int} {e : Ending} (h0 : newOk sizes = false) (h : NewPost w sizes e w') : e = .returned (.tuple #[.pointer Option.none, .int .i64 1]) ∧ Gr w w' := by
  unfold NewPost at h
  rw [h0] at h
  exact h
theorem fresh_ne {w : World} {B N M n : Nat} {lv v : Value} {ps : List (LetD × Value)} {sizes : List Int} {cut : AdD × AdD → Bool} (h : NetIs w B N M n lv ps sizes cut) (hf : ∀ j, v.ownBlock = some j → w.heap.size ≤ j) : ∀ j, v.ownBlock = some j → lv.ownBlock ≠ some j := fun j hj e => by
  have := hf j hj
  have := (h.lets.lt j e).2
  omega
theorem fresh_nb {w : World} {B N M n : Nat} {lv : Value} {ps : List (LetD × Value)} {sizes : List Int} {cut : AdD × AdD → Bool} (h : NetIs w B N M n lv ps sizes cut) {X : Nat} (hX : w.heap.size ≤ X) : ¬ netB N M lv X := fun e => by
  have := (h.ltB X e).2
  omega
set_option maxHeartbeats 4000000 in
set_option maxRecDepth 100000 in
theorem goes_any (w : World) : Calls Try.prog 15 #[] w fun e w' => e = .returned (.bool true) ∧ Gr w w' := by
  obtain ⟨w0, hw0⟩ : ∃ w0, w0 = w.alloc (.cells #[.int .i64 1, .int .i64 2] 3) := ⟨_, rfl⟩
  have g0 : Gr w w0 := by rw [hw0]; exact (Gr.refl w).alloc _
  have hs0 : Sl w0 (.slice (some ⟨w.heap.size, 0, none⟩) 2 2) (ints [1, 2]) := by rw [hw0]; exact Sl.new w (ints [1, 2]) 3 (0, 0) 2 2 rfl (Nat.le_refl _)
  have hla : ∀ l ∈ ([] : List LetD), LetOk l := fun l h => by cases h
  have oka : LetOk (⟨(0, 0), (1, 0), [97]⟩ : LetD) := ⟨⟨by decide, by decide, by decide, by decide⟩, by decide, by decide, by decide, by decide⟩
  have okb : LetOk (⟨(1, 0), (1, 1), [98]⟩ : LetD) := ⟨⟨by decide, by decide, by decide, by decide⟩, by decide, by decide, by decide, by decide⟩
  have OKA := Lib.hid oka
  have OKB := Lib.hid okb
  clear hla oka okb
  go_enter Try.func15, Try.ntmps15
  go_wp2_with fail
  rw [← hw0]
  refine (new_any w0 _ [1, 2] hs0).mono ?_
  rintro e w1 hp
  obtain ⟨N, M, rfl, h1, g1⟩ := newPost_ok (by rfl) hp
  have hB1 : Below w.heap.size w w1 := Gr.trans g0 g1
  have h1b := h1.monoB (base' := w.heap.size) g0.size
  have H1 := Lib.hid h1b
  have B1 := Lib.hid hB1
  clear hw0 g0 hs0 hp h1 g1 hB1 h1b
  go_wp2_with fail
  refine (letter_any w1 0 0 1 0 [97]).mono ?_
  rintro e w2 ⟨bv2, rfl, hs2, hf2, hg2⟩
  have h2 := H1.out.gr hg2
  have hne2 := fresh_ne H1.out hf2
  have B2 := Lib.hid (Below.trans B1.out (hg2.mono B1.out.size))
  have H2 := Lib.hid h2
  have S2 := Lib.hid (And.intro hs2 hne2)
  clear h2 hs2 hf2 hg2 hne2 H1 B1
  go_wp2_with fail
  refine (send_w H2.out rfl (⟨(0, 0), (1, 0), [97]⟩ : LetD) bv2 S2.out.1 (by decide) (fun _ => S2.out.2) (z := 0) (ls' := [(⟨(0, 0), (1, 0), [97]⟩ : LetD)]) (by rfl) (by rfl)).mono ?_
  rintro e w3 ⟨rfl, lv3, ps3, h3, m3, c3, f3⟩
  have B3 := Lib.hid (below_ch B2.out H2.out c3)
  have H3 := Lib.hid h3
  have M3 := Lib.hid m3
  clear h3 m3 c3 f3 B2 H2 S2
  go_wp2_with fail
  refine (letter_any w3 1 0 1 1 [98]).mono ?_
  rintro e w4 ⟨bv4, rfl, hs4, hf4, hg4⟩
  have h4 := H3.out.gr hg4
  have hne4 := fresh_ne H3.out hf4
  have B4 := Lib.hid (Below.trans B3.out (hg4.mono B3.out.size))
  have H4 := Lib.hid h4
  have S4 := Lib.hid (And.intro hs4 hne4)
  clear h4 hs4 hf4 hg4 hne4 H3 B3
  go_wp2_with fail
  refine (send_w H4.out M3.out (⟨(1, 0), (1, 1), [98]⟩ : LetD) bv4 S4.out.1 (by decide) (fun _ => S4.out.2) (z := 0) (ls' := [(⟨(0, 0), (1, 0), [97]⟩ : LetD), (⟨(1, 0), (1, 1), [98]⟩ : LetD)]) (by rfl) (by rfl)).mono ?_
  rintro e w5 ⟨rfl, lv5, ps5, h5, m5, c5, f5⟩
  have B5 := Lib.hid (below_ch B4.out H4.out c5)
  have H5 := Lib.hid h5
  have M5 := Lib.hid m5
  clear h5 m5 c5 f5 B4 H4 S4
  go_wp2_with fail
  refine (hold_w H5.out M5.out 0 (z := 0) (ls' := [(⟨(1, 0), (1, 1), [98]⟩ : LetD), (⟨(0, 0), (1, 0), [97]⟩ : LetD)]) (by rfl) (by rfl)).mono ?_
  rintro e w6 ⟨rfl, lv6, ps6, h6, m6, c6, f6⟩
  have B6 := Lib.hid (below_ch B5.out H5.out c6)
  have H6 := Lib.hid h6
  have M6 := Lib.hid m6
  clear h6 m6 c6 f6 B5 H5 M5 M3
  go_wp2_with fail
  refine (take_w H6.out M6.out (fun l h => by rcases List.mem_cons.1 h with rfl | h; exact OKB.out; rw [List.mem_singleton.1 h]; exact OKA.out) 0 (r := ((⟨(1, 0), (1, 1), [98]⟩ : LetD), 0, [(⟨(0, 0), (1, 0), [97]⟩ : LetD)])) (by rfl)).mono ?_
  rintro e w7 ⟨bv7, rfl, o7, lv7, ps7, h7, m7, c7, f7⟩
  obtain ⟨av7, cv7, rfl⟩ := o7.shape
  rw [show letV (((⟨(1, 0), (1, 1), [98]⟩ : LetD), (0 : Int), [(⟨(0, 0), (1, 0), [97]⟩ : LetD)]) : LetD × Int × List LetD).1 (.slice av7 (bytes (((⟨(1, 0), (1, 1), [98]⟩ : LetD), (0 : Int), [(⟨(0, 0), (1, 0), [97]⟩ : LetD)]) : LetD × Int × List LetD).1.b).length cv7) = .agg #[.int .i64 1, .int .i64 0, .int .i64 1, .int .i64 1, .slice av7 1 cv7] from rfl]
  have g8 : Gr w7 (w7.alloc (.cells #[.int .i64 1, .int .i64 0, .int .i64 1, .int .i64 1, .slice av7 1 cv7] 35)) := (Gr.refl w7).alloc _
  have B7 := Lib.hid (below_ch B6.out H6.out c7)
  have H7 := Lib.hid h7
  have M7 := Lib.hid m7
  have O7 : Hid (Own w7 w.heap.size 5 (.slice av7 1 cv7) (bytes [98])) := Lib.hid o7
  clear o7 h7 m7 c7 f7 B6 H6 M6 g8
  go_wp2_with fail
  obtain ⟨w8, hw8⟩ : ∃ w8, w8 = w7.alloc (.cells #[.int .i64 1, .int .i64 0, .int .i64 1, .int .i64 1, .slice av7 1 cv7] 35) := ⟨_, rfl⟩
  have g8 : Gr w7 w8 := by rw [hw8]; exact (Gr.refl w7).alloc _
  have x8 : w8.cell? ⟨w7.heap.size, 4, Option.none⟩ = some (.slice av7 1 cv7) := by rw [hw8]; exact (CellsAt.new w7 _ 35).cell 4
  have X8 := Lib.hid x8
  have N8 := Lib.hid (fresh_nb H7.out (Nat.le_refl _))
  have H8 := Lib.hid (H7.out.gr g8)
  have B8 := Lib.hid (Below.trans B7.out (g8.mono B7.out.size))
  have O8 := Lib.hid (O7.out.gr g8)
  have L8 : Hid (w7.heap.size < w8.heap.size) := Lib.hid (by rw [hw8]; simp)
  rw [← hw8]
  clear hw8 g8 x8 H7 B7 O7
  refine (cut_any H8.out (by decide) (1, 0) (0, 0) ⟨by decide, by decide, by decide, by decide⟩ ⟨by decide, by decide, by decide, by decide⟩).mono ?_
  rintro e w9 ⟨rfl, h9, c9⟩
  rw [show turnE [1, 2] (1, 0) (0, 0) = 0 from rfl]
  have h9' : NetIs w9 w.heap.size N M 1 lv7 ps7 [1, 2] (setCut (fun _ => false) (keyV (1, 0) (0, 0)) true) := h9
  have X9 := Lib.hid (c9.cellT X8.out N8.out)
  have O9 := Lib.hid (O8.out.kb (.inl rfl) (H8.out.kb c9))
  have B9 := Lib.hid (below_ch B8.out H8.out c9)
  have L9 := Lib.hid (Nat.lt_of_lt_of_le L8.out c9.size)
  have H9 := Lib.hid h9'
  clear h9 h9' c9 X8 O8 B8 H8 L8
  go_wp2_with fail
  refine (take_w H9.out M7.out (fun l h => by rw [List.mem_singleton.1 h]; exact OKA.out) 0 (r := (zl, 65, [(⟨(0, 0), (1, 0), [97]⟩ : LetD)])) (by rfl)).mono ?_
  rintro e w10 ⟨bv10, rfl, o10, lv10, ps10, h10, m10, c10, f10⟩
  obtain ⟨av10, cv10, rfl⟩ := o10.shape
  rw [show letV ((zl, (65 : Int), [(⟨(0, 0), (1, 0), [97]⟩ : LetD)]) : LetD × Int × List LetD).1 (.slice av10 (bytes ((zl, (65 : Int), [(⟨(0, 0), (1, 0), [97]⟩ : LetD)]) : LetD × Int × List LetD).1.b).length cv10) = .agg #[.int .i64 0, .int .i64 0, .int .i64 0, .int .i64 0, .slice av10 0 cv10] from rfl]
  have X10 := Lib.hid (c10.cellT X9.out N8.out)
  have O10 := Lib.hid (O9.out.kb (.inl rfl) (H9.out.kb c10))
  have B10 := Lib.hid (below_ch B9.out H9.out c10)
  have N10 := Lib.hid (netB_step f10 L9.out N8.out)
  have L10 := Lib.hid (Nat.lt_of_lt_of_le L9.out c10.size)
  have H10 := Lib.hid h10
  have M10 := Lib.hid m10
  clear o10 h10 m10 c10 f10 X9 O9 B9 H9 L9 N8 M7
  go_wp2_with fail
  obtain ⟨w11, hw11⟩ : ∃ w11, w11 = w10.alloc (.cells #[.int .i64 0, .int .i64 0, .int .i64 0, .int .i64 0, .slice av10 0 cv10] 35) := ⟨_, rfl⟩
  have g11 : Gr w10 w11 := by rw [hw11]; exact (Gr.refl w10).alloc _
  have X11 := Lib.hid (g11.cellT X10.out)
  have O11 := Lib.hid (O10.out.gr g11)
  have B11 := Lib.hid (Below.trans B10.out (g11.mono B10.out.size))
  have H11 := Lib.hid (H10.out.gr g11)
  have L11 := Lib.hid (Nat.lt_of_lt_of_le L10.out g11.size)
  rw [← hw11]
  clear hw11 g11 X10 O10 B10 H10 L10
  refine (heal_any H11.out (by decide) (0, 0) (1, 0) ⟨by decide, by decide, by decide, by decide⟩ ⟨by decide, by decide, by decide, by decide⟩).mono ?_
  rintro e w12 ⟨rfl, h12, c12⟩
  rw [show turnE [1, 2] (0, 0) (1, 0) = 0 from rfl]
  have h12' : NetIs w12 w.heap.size N M 2 lv10 ps10 [1, 2] (setCut (setCut (fun _ => false) (keyV (1, 0) (0, 0)) true) (keyV (0, 0) (1, 0)) false) := h12
  have X12 := Lib.hid (c12.cellT X11.out N10.out)
  have O12 := Lib.hid (O11.out.kb (.inl rfl) (H11.out.kb c12))
  have B12 := Lib.hid (below_ch B11.out H11.out c12)
  have L12 := Lib.hid (Nat.lt_of_lt_of_le L11.out c12.size)
  have H12 := Lib.hid h12'
  clear h12 h12' c12 X11 O11 B11 H11 L11
  go_wp2_with fail
  refine (take_w H12.out M10.out (fun l h => by rw [List.mem_singleton.1 h]; exact OKA.out) 0 (r := ((⟨(0, 0), (1, 0), [97]⟩ : LetD), 0, [])) (by rfl)).mono ?_
  rintro e w13 ⟨bv13, rfl, o13, lv13, ps13, h13, m13, c13, f13⟩
  obtain ⟨av13, cv13, rfl⟩ := o13.shape
  rw [show letV (((⟨(0, 0), (1, 0), [97]⟩ : LetD), (0 : Int), []) : LetD × Int × List LetD).1 (.slice av13 (bytes (((⟨(0, 0), (1, 0), [97]⟩ : LetD), (0 : Int), []) : LetD × Int × List LetD).1.b).length cv13) = .agg #[.int .i64 0, .int .i64 0, .int .i64 1, .int .i64 0, .slice av13 1 cv13] from rfl]
  have X13 := Lib.hid (c13.cellT X12.out N10.out)
  have O13 := Lib.hid (O12.out.kb (.inl rfl) (H12.out.kb c13))
  have P13 : Hid (Own w13 w.heap.size 5 (.slice av13 1 cv13) (bytes [97])) := Lib.hid o13
  have B13 := Lib.hid (below_ch B12.out H12.out c13)
  have H13 := Lib.hid h13
  have M13 := Lib.hid m13
  clear o13 h13 m13 c13 f13 X12 O12 B12 H12 L12 N10 M10
  have g14 : Gr w13 (w13.alloc (.cells #[.int .i64 0, .int .i64 0, .int .i64 1, .int .i64 0, .slice av13 1 cv13] 35)) := (Gr.refl w13).alloc _
  have x3 := g14.cellT X13.out
  have s1 := run_string_sl (P := Try.prog) 23 5 9 Try.underlying23 Try.underlying5 Try.underlying9 (O13.out.sl.below g14)
  have s2 := run_string_sl (P := Try.prog) 23 5 9 Try.underlying23 Try.underlying5 Try.underlying9 (P13.out.sl.below g14)
  have HLEN := Lib.hid (len_w (H13.out.gr g14) M13.out)
  have B14 := Lib.hid (Below.trans B13.out (g14.mono B13.out.size))
  clear g14 X13 O13 P13 B13 H13 M13
  go_wp2_with fail
  refine HLEN.out.mono ?_
  rintro e w15 ⟨rfl, hw15⟩
  rw [hw15]
  clear hw15 w15
  go_wp2_with fail
  go_ret
  exact ⟨rfl, B14.out⟩
end Go.Proofs.Ytcpkbngoecpnkaa
