/-
  Of the document: Put.
-/
import Derived.Test.YtclicammiopjlaaRefB
import Derived.Test.YtclicammiopjlaaRdRef
import Derived.Test.YtclicammiopjlaaGrowTail
import Derived.Test.YtclicammiopjlaaGetA
set_option linter.unusedVariables false
namespace Go.Proofs.Ytclicammiopjlaa
open Go.RowKit

/-- The cells of a message's block. -/
def MsgAt1 (w : World) (b : Nat) (m : MsgD) (lv : Value) : Prop := w.heap[b]? = some (.cells (msgCells m lv) 25 (0, 0))
theorem MsgAt1.cells {w : World} {b : Nat} {m : MsgD} {lv : Value} (h : MsgAt1 w b m lv) : w.cell? ⟨b, 0, none⟩ = some (.int .u8 (m.kind : Int)) ∧ w.cell? ⟨b, 1, none⟩ = some (.int .u64 (m.epoch : Int)) ∧ w.cell? ⟨b, 2, none⟩ = some (.int .u64 (m.current : Int)) ∧
    w.cell? ⟨b, 3, none⟩ = some (.int .i64 m.at_) ∧ w.cell? ⟨b, 4, none⟩ = some (.int .i64 m.commit) ∧ w.cell? ⟨b, 5, none⟩ = some lv := by
  unfold MsgAt1 at h
  exact ⟨by rw [cell_of_block h]; rfl, by rw [cell_of_block h]; rfl, by rw [cell_of_block h]; rfl, by rw [cell_of_block h]; rfl, by rw [cell_of_block h]; rfl, by rw [cell_of_block h]; rfl⟩
theorem MsgAt1.block {w w' : World} {b : Nat} {m : MsgD} {lv : Value} (h : MsgAt1 w b m lv) (he : w'.heap[b]? = w.heap[b]?) : MsgAt1 w' b m lv := he.trans h
theorem MsgAt1.lt {w : World} {b : Nat} {m : MsgD} {lv : Value} (h : MsgAt1 w b m lv) : b < w.heap.size := block_lt h
/-- Bytes of the call's own behind block B, in a world that has only grown from there. -/
def OutB (B : Nat) (w0 w : World) (v : Value) (l : List UInt8) : Prop := Own w B 5 v (bytes l) ∧ Below B w0 w ∧ B ≤ w.heap.size
theorem OutB.gr {B : Nat} {w0 w w' : World} {v : Value} {l : List UInt8} (h : OutB B w0 w v l) (g : Gr w w') : OutB B w0 w' v l := ⟨h.1.gr g, h.2.1.trans (Below.mono g h.2.2), Nat.le_trans h.2.2 g.size⟩
theorem OutB.append {B : Nat} {w0 w : World} {v y : Value} {l l2 : List UInt8} (h : OutB B w0 w v l) (hy : Sl w y (bytes l2)) (hl : l.length + l2.length ≤ 100000000) :
    ∃ a n c w', (Builtin.append_ #[27, 27] 27 #[v, y]).run Try.prog w = .ok (.slice a n c) w' ∧ OutB B w0 w' (.slice a n c) (l ++ l2) := by
  obtain ⟨v', w', hr, ho, hg⟩ := run_append_u8 w B v y l l2 h.1 hy (by omega) h.2.2
  obtain ⟨a, c, rfl⟩ := ho.shape
  rw [bytes_length] at ho hr
  exact ⟨a, _, c, w', hr, ⟨ho, h.2.1.grown hg h.2.2 (fun k hk => (h.1.lt' k hk).1), Nat.le_trans h.2.2 hg.size⟩⟩
theorem be1_byte (x : Nat) (hx : x < 256) : bytes (be 1 x) = [.int .u8 (x : Int)] := by
  have h := val_be1 x hx
  have hl := be_length 1 x
  obtain ⟨c, hc⟩ := List.length_eq_one_iff.1 hl
  rw [hc] at h ⊢
  have : c.toNat = x := by simpa [val] using h
  simp [bytes, byte, this]
theorem OutB.lit (w : World) (x : Nat) (hx : x < 256) : OutB w.heap.size w (w.alloc (.cells #[.int .u8 (x : Int)] 5)) (.slice (some ⟨w.heap.size, 0, none⟩) 1 1) (be 1 x) :=
  ⟨by rw [be1_byte x hx]; exact World.ownsRow_lit w #[.int .u8 (x : Int)] 1 (Nat.le_refl _) (by decide) rfl, (Below.refl _ _).alloc (Nat.le_refl _) _, by simp⟩
theorem OutB.cell {B : Nat} {w0 w : World} {v : Value} {l : List UInt8} (h : OutB B w0 w v l) {p : Addr} (hp : p.block < B) : w.cell? p = w0.cell? p := h.2.1.cell (p := p) hp
theorem RetBytes.own {w : World} {l : List UInt8} {e : Ending} {w' : World} (h : RetBytes w l e w') : ∃ a c, e = .returned (.slice a l.length c) ∧ Sl w' (.slice a l.length c) (bytes l) ∧ Gr w w' := by
  obtain ⟨v, rfl, ho, hb⟩ := h
  obtain ⟨a, c, rfl⟩ := ho.shape
  rw [bytes_length] at ho
  exact ⟨a, c, by rw [bytes_length], ho.sl, hb⟩

set_option maxHeartbeats 4000000 in
theorem refput_any (w : World) (m : MsgD) (lv : Value) (hl : Lines w lv m.ls) (hok : MsgOk m) (hlen : m.ls.length ≤ maxLen) :
    Calls Try.prog 11 #[.agg (msgCells m lv)] w (RetPut w m) := by
  obtain ⟨a, cap, rfl⟩ := hl.shape
  have gA : ∀ o, Gr w (w.alloc o) := fun o => (Gr.refl w).alloc o
  have hmx : m.ls.length ≤ 9223372036854775807 := Nat.le_trans hlen (by decide)
  have HA : Hid ((.agg #[.int .u8 (m.kind : Int), .int .u64 (m.epoch : Int), .int .u64 (m.current : Int), .int .i64 m.at_, .int .i64 m.commit, .slice a m.ls.length cap] : Value) = .agg (msgCells m (.slice a m.ls.length cap))) := Lib.hid rfl
  obtain ⟨w1, hw1⟩ : ∃ w1, w1 = w.alloc (.cells #[.int .u8 (m.kind : Int), .int .u64 (m.epoch : Int), .int .u64 (m.current : Int), .int .i64 m.at_, .int .i64 m.commit, .slice a m.ls.length cap] 25) := ⟨_, rfl⟩
  have g1 : Gr w w1 := by rw [hw1]; exact gA _
  have b1 : MsgAt1 w1 w.heap.size m (.slice a m.ls.length cap) := by unfold MsgAt1; rw [hw1]; exact heap_alloc_new w _
  have h1 := hl.below g1
  have HW1 := Lib.hid hw1
  have HG1 := Lib.hid g1
  have HL := Lib.hid h1
  have HB1 := Lib.hid b1
  have HOK := Lib.hid hok
  have HLEN := Lib.hid hlen
  clear hw1 g1 h1 b1 hok hlen hl gA
  unfold msgCells
  cases hmay : mayV m with
  | false =>
    have R : ∀ w', Gr w w' → RetPut w m (.returned (.tuple #[.slice none 0 0, .int .i64 1])) w' := fun w' hg => ⟨hg, by rw [hmay]; rfl⟩
    have RR := Lib.hid R
    have F := Lib.hid hmay
    clear R hmay
    go_enter Try.func11, Try.ntmps11
    go_wp2_with fail
    rw [← HW1.out, HA.out]
    refine (refmay_any _ m _ HL.out HOK.out HLEN.out).mono ?_
    rw [F.out]
    rintro e w2 ⟨rfl, g2⟩
    have G2 := Lib.hid (Gr.trans HG1.out g2)
    clear g2
    go_wp2
    exact bodyPost_ret (v := .tuple #[.slice none 0 0, .int .i64 1]) (by simp [results, Try.f11, go_sem]) rfl (RR.out _ G2.out)
  | true =>
    have R : ∀ v w', Gr w w' → Sl w' v (bytes (putV m)) → RetPut w m (.returned (.tuple #[v, .int .i64 0])) w' := fun v w' hg hs => ⟨hg, by rw [hmay]; exact ⟨v, rfl, hs⟩⟩
    have RR := Lib.hid R
    have F := Lib.hid hmay
    obtain ⟨k1, k2, e1, e2, c1, a1, a2, b1, b2, n1, hlines⟩ := mayV_facts hmay
    clear R hmay
    obtain ⟨at9, hat⟩ := Int.eq_ofNat_of_zero_le a1
    obtain ⟨co9, hco⟩ := Int.eq_ofNat_of_zero_le b1
    have hfive : headB m = be 1 m.kind ++ be 8 m.epoch ++ be 8 m.current ++ be 8 at9 ++ be 8 co9 ++ be 8 m.ls.length := by unfold headB five; rw [hat, hco]; simp
    have F5 := Lib.hid hfive
    have HLN := Lib.hid hlines
    have w1u : IntKind.u64.wrap m.at_ = ((at9 : Nat) : Int) := by rw [hat]; simp [IntKind.wrap, IntKind.bits, IntKind.signed] <;> omega
    have w2u : IntKind.u64.wrap m.commit = ((co9 : Nat) : Int) := by rw [hco]; simp [IntKind.wrap, IntKind.bits, IntKind.signed] <;> omega
    have w3u : IntKind.u64.wrap ((m.ls.length : Nat) : Int) = ((m.ls.length : Nat) : Int) := by simp [IntKind.wrap, IntKind.bits, IntKind.signed] <;> omega
    have A9 : at9 ≤ 256 := by omega
    have C9 : co9 ≤ 256 := by omega
    have hk8 := HOK.out.1
    have E64 : m.epoch < 2 ^ 64 := by omega
    have C64 : m.current < 2 ^ 64 := by omega
    clear hfive hlines hat hco a1 a2 b1 b2 e1 e2 c1 k1 k2
    go_enter Try.func11, Try.ntmps11
    go_wp2_with fail
    rw [← HW1.out, HA.out]
    refine (refmay_any _ m _ HL.out HOK.out HLEN.out).mono ?_
    rw [F.out]
    rintro e w2 ⟨rfl, g2⟩
    have b2 : MsgAt1 w2 w.heap.size m (.slice a m.ls.length cap) := HB1.out.block (g2.block _ HB1.out.lt)
    have hlt : w.heap.size < w2.heap.size := b2.lt
    have HL2 := Lib.hid (HL.out.below g2)
    have G2 := Lib.hid (Gr.trans HG1.out g2)
    have cells : ∀ W v l, OutB w2.heap.size w2 W v l → MsgAt1 W w.heap.size m (.slice a m.ls.length cap) := fun W v l h => b2.block (h.2.1.block _ hlt)
    have CS := Lib.hid cells
    have ob3 := OutB.lit w2 m.kind hk8
    have OB3 := Lib.hid ob3
    obtain ⟨p0, p1, p2, p3, p4, p5⟩ := b2.cells
    have b3 := CS.out _ _ _ ob3
    obtain ⟨q0, q1, q2, q3, q4, q5⟩ := b3.cells
    clear b2 b3 ob3 cells g2 HL HB1 HG1 HW1
    generalize hB : w2.heap.size = B at *
    go_wp2_with fail
    refine (refnumber_any (m.epoch) 8 _ (E64) (by decide)).mono ?_
    rintro e x4 hy
    clear p0 p1 p2 p3 p4 p5
    obtain ⟨y4, d4, rfl, s4, g4⟩ := hy.own
    rw [be_length] at s4 ⊢
    obtain ⟨va4, vn4, vc4, wa4, hr, ob⟩ := (OB3.out.gr g4).append s4 (by simp [be_length])
    obtain ⟨q0, q1, q2, q3, q4, q5⟩ := (CS.out _ _ _ (OB3.out.gr g4)).cells
    obtain ⟨r0, r1, r2, r3, r4, r5⟩ := (CS.out _ _ _ ob).cells
    have OB4 := Lib.hid ob
    have HR := Lib.hid hr
    clear ob hr g4 s4 OB3 hy
    go_wp2_with (at_builtin; refine wpList_run_append HR.out rfl _ _ rfl rfl rfl ?_; clear HR q0 q1 q2 q3 q4 q5)
    go_wp2_with fail
    refine (refnumber_any (m.current) 8 _ (C64) (by decide)).mono ?_
    rintro e x5 hy
    clear r0 r1 r2 r3 r4 r5
    obtain ⟨y5, d5, rfl, s5, g5⟩ := hy.own
    rw [be_length] at s5 ⊢
    obtain ⟨va5, vn5, vc5, wa5, hr, ob⟩ := (OB4.out.gr g5).append s5 (by simp [be_length])
    obtain ⟨q0, q1, q2, q3, q4, q5⟩ := (CS.out _ _ _ (OB4.out.gr g5)).cells
    obtain ⟨r0, r1, r2, r3, r4, r5⟩ := (CS.out _ _ _ ob).cells
    have OB5 := Lib.hid ob
    have HR := Lib.hid hr
    clear ob hr g5 s5 OB4 hy
    go_wp2_with (at_builtin; refine wpList_run_append HR.out rfl _ _ rfl rfl rfl ?_; clear HR q0 q1 q2 q3 q4 q5)
    go_wp2_with fail
    refine (refnumber_any (at9) 8 _ (by omega) (by decide)).mono ?_
    rintro e x6 hy
    clear r0 r1 r2 r3 r4 r5
    obtain ⟨y6, d6, rfl, s6, g6⟩ := hy.own
    rw [be_length] at s6 ⊢
    obtain ⟨va6, vn6, vc6, wa6, hr, ob⟩ := (OB5.out.gr g6).append s6 (by simp [be_length])
    obtain ⟨q0, q1, q2, q3, q4, q5⟩ := (CS.out _ _ _ (OB5.out.gr g6)).cells
    obtain ⟨r0, r1, r2, r3, r4, r5⟩ := (CS.out _ _ _ ob).cells
    have OB6 := Lib.hid ob
    have HR := Lib.hid hr
    clear ob hr g6 s6 OB5 hy
    go_wp2_with (at_builtin; refine wpList_run_append HR.out rfl _ _ rfl rfl rfl ?_; clear HR q0 q1 q2 q3 q4 q5)
    go_wp2_with fail
    refine (refnumber_any (co9) 8 _ (by omega) (by decide)).mono ?_
    rintro e x7 hy
    clear r0 r1 r2 r3 r4 r5
    obtain ⟨y7, d7, rfl, s7, g7⟩ := hy.own
    rw [be_length] at s7 ⊢
    obtain ⟨va7, vn7, vc7, wa7, hr, ob⟩ := (OB6.out.gr g7).append s7 (by simp [be_length])
    obtain ⟨q0, q1, q2, q3, q4, q5⟩ := (CS.out _ _ _ (OB6.out.gr g7)).cells
    obtain ⟨r0, r1, r2, r3, r4, r5⟩ := (CS.out _ _ _ ob).cells
    have OB7 := Lib.hid ob
    have HR := Lib.hid hr
    clear ob hr g7 s7 OB6 hy
    go_wp2_with (at_builtin; refine wpList_run_append HR.out rfl _ _ rfl rfl rfl ?_; clear HR q0 q1 q2 q3 q4 q5)
    go_wp2_with fail
    refine (refnumber_any (m.ls.length) 8 _ (by omega) (by decide)).mono ?_
    rintro e x8 hy
    clear r0 r1 r2 r3 r4 r5
    obtain ⟨y8, d8, rfl, s8, g8⟩ := hy.own
    rw [be_length] at s8 ⊢
    obtain ⟨va8, vn8, vc8, wa8, hr, ob⟩ := (OB7.out.gr g8).append s8 (by simp [be_length])
    obtain ⟨q0, q1, q2, q3, q4, q5⟩ := (CS.out _ _ _ (OB7.out.gr g8)).cells
    obtain ⟨r0, r1, r2, r3, r4, r5⟩ := (CS.out _ _ _ ob).cells
    have OB8 := Lib.hid ob
    have HR := Lib.hid hr
    clear ob hr g8 s8 OB7 hy
    go_wp2_with (at_builtin; refine wpList_run_append HR.out rfl _ _ rfl rfl rfl ?_; clear HR q0 q1 q2 q3 q4 q5)
    have ob9 := OB8.out
    rw [← F5.out] at ob9
    have OB9 := Lib.hid ob9
    have HLC := Lib.hid (HL2.out)
    clear ob9 OB8 HL2
    go_wp2_with fail
    go_loopw [4, 5] (fun v i wr => ∃ k : Nat, k ≤ m.ls.length ∧ i = .int .i64 k ∧ ∃ a n c, v = .slice a n c ∧ OutB B w2 wr (.slice a n c) (headB m ++ (m.ls.take k).flatMap lineB)) (fun _ i _ => m.ls.length - (intOf i).toNat)
    case atStart => exact ⟨0, Nat.zero_le _, rfl, _, _, _, rfl, by simpa using OB9.out⟩
    case round =>
      clear OB9
      obtain ⟨k, hk, rfl, va, vn, vc, rfl, ob⟩ := hrel
      obtain ⟨q0, q1, q2, q3, q4, q5⟩ := (CS.out _ _ _ ob).cells
      by_cases hlt : k < m.ls.length
      · obtain ⟨Bl, o, ba, bc, rfl, hBl, c0, c1, hsb, he⟩ := HLC.out.row k hlt
        obtain ⟨x, hx⟩ : ∃ x, x = m.ls[k] := ⟨_, rfl⟩
        have hlv := lineV_facts (HLN.out _ (List.getElem_mem hlt))
        have enext : (headB m ++ (m.ls.take k).flatMap lineB) ++ be 8 x.e ++ (be 4 x.b.length ++ x.b) = headB m ++ (m.ls.take (k + 1)).flatMap lineB := by
          rw [List.take_add_one, List.getElem?_eq_getElem hlt, ← hx, List.flatMap_append]; simp [lineB]
        have hpre : (headB m ++ (m.ls.take k).flatMap lineB).length ≤ 2000000 := by
          have h1 := flat_le (ls := m.ls.take k) (fun y hy => HLN.out y (List.mem_of_mem_take hy))
          have h2 := five_length m 5
          have h3 : (five m).take 5 = five m := List.take_of_length_le (by simp [five])
          rw [h3] at h2
          rw [List.length_append, headB, List.length_append, be_length]
          simp only [List.length_take] at h1
          have h4 : min k m.ls.length ≤ 256 := by omega
          omega
        rw [← hx] at c0 c1 hsb he hlv
        have EN := Lib.hid enext
        generalize (headB m ++ (m.ls.take k).flatMap lineB) = pre at *
        clear hx enext
        have i1 : (0 : Int) ≤ (k : Int) := by omega
        have i2 : (k : Int) < (m.ls.length : Int) := by omega
        have gB : ∀ W v l, OutB B w2 W v l → Below B w2 W := fun W v l h => h.2.1
        have d0 := ((gB _ _ _ ob).cell (p := ⟨Bl, o + k * 2, none⟩) (hB ▸ hBl)).trans c0
        have HC1 := Lib.hid c1
        have HSB := Lib.hid hsb
        have OB := Lib.hid ob
        clear ob c0 c1 hsb
        go_wp2_with fail
        refine (refnumber_any x.e 8 _ he (by decide)).mono ?_
        rintro e xw hy
        obtain ⟨y1, d1, rfl, s1, g1⟩ := hy.own
        rw [be_length] at s1 ⊢
        have og := OB.out.gr g1
        obtain ⟨va1, vn1, vc1, wa1, hr, ob1⟩ := og.append s1 (by simp [be_length]; omega)
        obtain ⟨r0, r1, r2, r3, r4, r5⟩ := (CS.out _ _ _ ob1).cells
        have c1' := ((gB _ _ _ ob1).cell (p := ⟨Bl, o + k * 2 + 1, none⟩) (hB ▸ hBl)).trans HC1.out
        have hsb1 : Sl wa1 (.slice ba x.b.length bc) (bytes x.b) := HSB.out.below (by rw [hB]; exact gB _ _ _ ob1)
        have OB1 := Lib.hid ob1
        have HR := Lib.hid hr
        have HSB1 := Lib.hid hsb1
        clear ob1 hr g1 s1 OB hy q0 q1 q2 q3 q4 q5 d0 hsb1 og HSB
        go_wp2_with (at_builtin; refine wpList_run_append HR.out rfl _ _ rfl rfl rfl ?_; clear HR)
        refine (reftext_any _ x.b _ HSB1.out (by omega)).mono ?_
        rintro e xw2 hy
        obtain ⟨y2, d2, rfl, s2, g2⟩ := hy.own
        have hl4 : (be 4 x.b.length ++ x.b).length = 4 + x.b.length := by simp [be_length]
        rw [hl4] at s2 ⊢
        clear hl4
        have og := OB1.out.gr g2
        obtain ⟨va2, vn2, vc2, wa2, hr, ob2⟩ := og.append s2 (by simp [be_length]; omega)
        rw [EN.out] at ob2
        have OB2 := Lib.hid ob2
        have HR := Lib.hid hr
        clear ob2 hr g2 s2 OB1 hy r0 r1 r2 r3 r4 r5 c1' og HSB1
        go_wp2_with (at_builtin; refine wpList_run_append HR.out rfl _ _ rfl rfl rfl ?_; clear HR)
        go_roundw
        case rel => exact ⟨k + 1, by omega, by go_num, _, _, _, rfl, OB2.out⟩
        case measure => simp [intOf]; omega
      · obtain rfl : k = m.ls.length := by omega
        rw [List.take_length] at ob
        have hfin := RR.out _ wr (Gr.trans G2.out (by unfold Gr; rw [hB]; exact ob.2.1)) ob.1.sl
        have HF := Lib.hid hfin
        clear hfin ob
        go_wp2
        exact bodyPost_ret (v := .tuple #[.slice va vn vc, .int .i64 0]) (by simp [results, Try.f11, go_sem]) rfl HF.out
end Go.Proofs.Ytclicammiopjlaa
