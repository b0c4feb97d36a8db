/-
  NetCuts: while a link is cut no letter of it is taken, either way, and all stay; others are; healed, all come. Every input; no conditions.
-/
import Derived.Test.YtcpkbngoecpnkaaNetTwo
import Derived.Deep.DeepCutAuto
import Derived.SizedLaws
set_option linter.unusedVariables false
namespace Go.Proofs.Ytcpkbngoecpnkaa
open Go.RowKit

theorem greatV_no {xs : List ActD} (h : greatV xs = false) : xs.length ≤ 60 ∧ ∀ x ∈ xs, x.l.b.length ≤ 200 := by
  unfold greatV at h
  simp only [Bool.or_eq_false_iff, decide_eq_false_iff_not, List.any_eq_false, decide_eq_true_eq] at h
  exact ⟨by omega, fun x hx => by have := h.2 x hx; omega⟩
theorem midN_le (a b : AdD) (all : List LetD) (k : Nat) : midN a b all k ≤ k := by
  unfold midN
  exact Nat.le_trans (List.length_filter_le _ _) (by rw [List.length_take]; omega)
def SmallL (l : LetD) : Prop := LetOk l ∧ l.b.length ≤ 200 ∧ linkV S231 l.src l.dst = true
def RowL (ls : List LetD) : Sp := fun r W => ∃ a c, r = .slice (some ⟨a, 0, Option.none⟩) ls.length c ∧ Lets W r ls
theorem RowL.mono (ls : List LetD) : MonoSp (RowL ls) := fun _ _ _ g ⟨a, c, e, h⟩ => ⟨a, c, e, h.gr g⟩
/-- How many letters the net has, read off its object. -/
def lenAt (N : Nat) (W : World) : Nat := match W.cell? ⟨N, 1, none⟩ with | some (.slice _ n _) => n | _ => 0
theorem two_lenAt {w W : World} {N M N' M' c : Nat} {cut : AdD × AdD → Bool} {v : Value} {ls ms vs : List LetD} (h : Two w W N M N' M' c cut v ls ms vs) : lenAt N W = ls.length := by
  obtain ⟨lv, ps, lv', ps', qs, h1, h2, h3, h4, h5, h6, h7, h8, h9⟩ := h
  obtain ⟨sv, k1, _⟩ := h1.obj
  obtain ⟨a, cap, e⟩ := h1.lets.shape
  unfold lenAt
  rw [k1.cell 1, e]
  show ps.length = ls.length
  rw [← h4, List.length_map]
section
open Go.ChangeShapes Go.WideShapes Go.ChangeAt Go.Deep
variable {H : Type} {enc : TypeId × Value → H} {w : World}
theorem open_addr {r : Reach} {b0 : Nat} {v : Value} {d : DataW H} {ps : List MemPlace}
    (hval : Value.okWide Try.prog w r b0 33 v) (hd : DataW.Trod enc Try.prog w 0 (fun _ => true) true 33 v d ps) :
    ∃ a : AdD, v = .agg #[.int .i64 a.1, .int .i64 a.2] ∧ AdOk a := by
  obtain ⟨cs, rfl, hsz, m, y, h⟩ := open_struct Try.underlying33 hval hd
  have h2 : cs.size = 2 := by rw [hsz]; kernel_rfl
  obtain ⟨c0, c1, rfl⟩ : ∃ c0 c1, cs = #[c0, c1] := by
    refine ⟨cs[0], cs[1], ?_⟩
    apply Array.ext
    · simp [h2]
    · intro j hj1 hj2
      have hj : j = 0 ∨ j = 1 := by omega
      rcases hj with rfl | rfl <;> rfl
  obtain ⟨_, _, a0⟩ := trod_at (cs := [c0, c1]) Try.underlying33 h 0 _ rfl
  obtain ⟨_, _, a1⟩ := trod_at (cs := [c0, c1]) Try.underlying33 h 1 _ rfl
  obtain ⟨n0, e0, l0, u0⟩ := cell_int (v := c0) Try.underlying3 a0
  obtain ⟨n1, e1, l1, u1⟩ := cell_int (v := c1) Try.underlying3 a1
  exact ⟨(n0, n1), by rw [e0, e1], l0, u0, l1, u1⟩
end
set_option maxHeartbeats 0 in
set_option maxRecDepth 100000 in
theorem cuts_walk (w : World) (v0 : Value) (xs : List ActD) (pa pb : AdD) (hA : Acts w v0 xs) (hm : xs.length ≤ maxLen) (hpa : AdOk pa) (hpb : AdOk pb) :
    Calls Try.prog 4 #[v0, .agg #[.int .i64 pa.1, .int .i64 pa.2], .agg #[.int .i64 pb.1, .int .i64 pb.2]] w fun e w' => e = .returned (.bool true) ∧ Below w.heap.size w w' := by
  obtain ⟨a0, c0, rfl⟩ := hA.shape
  obtain ⟨w0, hw0⟩ : ∃ w0, w0 = (w.alloc (.cells #[.int .i64 pa.1, .int .i64 pa.2] 33)).alloc (.cells #[.int .i64 pb.1, .int .i64 pb.2] 33) := ⟨_, rfl⟩
  have g0 : Gr w w0 := by rw [hw0]; exact ((Gr.refl w).alloc _).alloc _
  have cA : CellsAt w0 w.heap.size #[.int .i64 pa.1, .int .i64 pa.2] 33 := by rw [hw0]; exact (CellsAt.new _ _ _).gr ((Gr.refl _).alloc _)
  have cB : CellsAt w0 (w.heap.size + 1) #[.int .i64 pb.1, .int .i64 pb.2] 33 := by rw [hw0]; exact CellsAt.newAt (w.alloc (.cells #[.int .i64 pa.1, .int .i64 pa.2] 33)) _ _ (by simp)
  have HA := Lib.hid (hA.gr g0)
  have CAB := Lib.hid (And.intro cA cB)
  have TB : Hid (∀ W, Gr w0 W → W.cell? ⟨w.heap.size, 0, Option.none⟩ = some (.int .i64 pa.1) ∧ W.cell? ⟨w.heap.size, 1, Option.none⟩ = some (.int .i64 pa.2) ∧ W.cell? ⟨w.heap.size + 1, 0, Option.none⟩ = some (.int .i64 pb.1) ∧ W.cell? ⟨w.heap.size + 1, 1, Option.none⟩ = some (.int .i64 pb.2)) :=
    Lib.hid fun W g => ⟨(cA.gr g).cell 0, (cA.gr g).cell 1, (cB.gr g).cell 0, (cB.gr g).cell 1⟩
  have hgt := great_any w0 _ xs HA.out hm
  obtain ⟨gv, hgv⟩ : ∃ gv, gv = greatV xs := ⟨_, rfl⟩
  rw [← hgv] at hgt
  have HGV := Lib.hid hgv
  obtain ⟨n, hn⟩ : ∃ n, n = xs.length := ⟨_, rfl⟩
  rw [← hn] at hgt hm ⊢
  have HN := Lib.hid hn
  have G0 := Lib.hid g0
  have HAB := Lib.hid (And.intro hpa hpb)
  unfold maxLen at hm
  clear hgv hA hn cA cB g0 hpa hpb
  go_enter Try.func4, Try.ntmps4
  go_upto_region 1 with fail
  rw [← hw0]
  clear hw0
  go_wp2_with fail
  refine hgt.mono ?_
  rintro e w1 ⟨rfl, hw1⟩
  subst w1
  clear hgt
  cases gv with
  | true =>
    go_wp2
    go_ret
    exact ⟨rfl, G0.out⟩
  | false =>
  have HGR := Lib.hid (greatV_no HGV.out.symm)
  have hn60 : n ≤ 60 := by rw [HN.out]; exact HGR.out.1
  go_wp2_with fail
  obtain ⟨w1, hw1⟩ : ∃ w1, w1 = w0.alloc (.cells #[.int .i64 2, .int .i64 3, .int .i64 1] 3) := ⟨_, rfl⟩
  have g1 : Gr w0 w1 := by rw [hw1]; exact (Gr.refl w0).alloc _
  have hs1 : Sl w1 (.slice (some ⟨w0.heap.size, 0, none⟩) 3 3) (ints [2, 3, 1]) := by rw [hw1]; exact Sl.new w0 (ints [2, 3, 1]) 3 (0, 0) 3 3 rfl (Nat.le_refl _)
  rw [← hw1]
  refine (new_any w1 _ [2, 3, 1] hs1).mono ?_
  rintro e w2 hp
  obtain ⟨N, M, rfl, h2, g2⟩ := newPost_ok (by rfl) hp
  have hg2 : Gr w0 w2 := Below.trans g1 (g2.mono g1.size)
  have H2 := Lib.hid (And.intro (h2.monoB g1.size) hg2)
  clear hw1 g1 hs1 hp h2 g2 hg2
  go_wp2_with fail
  obtain ⟨w3, hw3⟩ : ∃ w3, w3 = w2.alloc (.cells #[.int .i64 2, .int .i64 3, .int .i64 1] 3) := ⟨_, rfl⟩
  have g3 : Gr w2 w3 := by rw [hw3]; exact (Gr.refl w2).alloc _
  have hs3 : Sl w3 (.slice (some ⟨w2.heap.size, 0, none⟩) 3 3) (ints [2, 3, 1]) := by rw [hw3]; exact Sl.new w2 (ints [2, 3, 1]) 3 (0, 0) 3 3 rfl (Nat.le_refl _)
  rw [← hw3]
  refine (new_any w3 _ [2, 3, 1] hs3).mono ?_
  rintro e w4 hp
  obtain ⟨N', M', rfl, h4, g4⟩ := newPost_ok (by rfl) hp
  have hg4 : Gr w0 w4 := Below.trans H2.out.2 ((Below.trans g3 (g4.mono g3.size)).mono H2.out.2.size)
  have hO : Two w0 w4 N M N' M' 0 (fun _ => false) (.slice Option.none 0 0) [] [] [] := by
    have h24 := (H2.out.1.gr g3).gr g4
    refine ⟨_, [], _, [], [], h24, h4.monoB (Nat.le_trans H2.out.2.size g3.size), LetsR.nil _ _, rfl, rfl, rfl, fun j hj hj' => ?_, (fun j hj => by cases hj), hg4⟩
    have h5 := (H2.out.1.ltB j hj).2
    have h6 := (h4.ltB j hj').1
    have := g3.size
    omega
  have HO := Lib.hid hO
  clear hw3 g3 hs3 hp h4 g4 hg4 hO H2
  go_wp2_with fail
  go_loopw [11] (fun i W => ∃ (k : Nat) (ls : List LetD), k ≤ n ∧ i = .int .i64 k ∧ Two w0 W N M N' M' 0 (fun _ => false) (.slice Option.none 0 0) ls ls [] ∧ ls.length ≤ k ∧ ∀ l ∈ ls, SmallL l) (fun i _ => n - (intOf i).toNat)
  case atStart => exact ⟨0, [], Nat.zero_le _, rfl, HO.out, Nat.le_refl _, fun l h => by cases h⟩
  case round =>
    clear HO
    obtain ⟨k, ls, hk, rfl, hO, hll, hsm⟩ := hrel
    have HO := Lib.hid hO
    have HSM := Lib.hid hsm
    clear hO hsm
    by_cases hlt : k < n
    · skip
      obtain ⟨B, o, bv, rfl, hBl, hbv, q0, q1, q2, q3, q4, q5, q6, hsl, hok⟩ := HA.out.at k (by rw [← HN.out]; exact hlt)
      have hx2 : (xs[k]'(by rw [← HN.out]; exact hlt)).l.b.length ≤ 200 := HGR.out.2 _ (List.getElem_mem _)
      obtain ⟨x, hx⟩ : ∃ x, x = xs[k]'(by rw [← HN.out]; exact hlt) := ⟨_, rfl⟩
      rw [← hx] at q2 q3 q4 q5 hsl hok hx2 hbv
      clear hx q0 q1
      obtain ⟨op, ix, ⟨⟨x1, x2⟩, ⟨x3, x4⟩, b⟩⟩ := x
      simp only at q2 q3 q4 q5 hsl hok hx2 hbv
      obtain ⟨ab, cb, rfl, _⟩ := hsl.bytes
      have HS : Hid (∀ W, Gr w0 W → Sl W (.slice ab b.length cb) (bytes b)) := Lib.hid fun W hW => hsl.below hW
      have HBV := Lib.hid hbv
      have HX : Hid (LetOk ⟨(x1, x2), (x3, x4), b⟩ ∧ b.length ≤ 200) := Lib.hid ⟨hok.2.2.2, hx2⟩
      have T : Hid (∀ W, Gr w0 W → W.cell? ⟨B, o + k * 7 + 2, Option.none⟩ = some (.int .i64 x1) ∧ W.cell? ⟨B, o + k * 7 + 3, Option.none⟩ = some (.int .i64 x2) ∧ W.cell? ⟨B, o + k * 7 + 4, Option.none⟩ = some (.int .i64 x3) ∧ W.cell? ⟨B, o + k * 7 + 5, Option.none⟩ = some (.int .i64 x4) ∧ W.cell? ⟨B, o + k * 7 + 6, Option.none⟩ = some (.slice ab b.length cb)) :=
        Lib.hid fun W g => ⟨g.cellT q2, g.cellT q3, g.cellT q4, g.cellT q5, g.cellT q6⟩
      clear q2 q3 q4 q5 q6 hsl hok hbv hx2
      have hk0 : (0 : Int) ≤ (k : Int) := by omega
      have hk1 : (k : Int) < (n : Int) := by omega
      obtain ⟨t2, t3, t4, t5, t6⟩ := T.out _ HO.out.below
      go_wp2_with fail
      clear t2 t3 t4 t5 t6
      refine (two_send1 HO.out (⟨(x1, x2), (x3, x4), b⟩ : LetD) _ (HS.out _ HO.out.below) (Nat.le_trans HX.out.2 (by decide)) HBV.out).mono ?_
      rintro e w5 ⟨rfl, hO5⟩
      have H5 := Lib.hid hO5
      clear hO5
      obtain ⟨t2, t3, t4, t5, t6⟩ := T.out _ H5.out.below
      go_wp2_with fail
      clear t2 t3 t4 t5 t6
      refine (two_send2 H5.out (⟨(x1, x2), (x3, x4), b⟩ : LetD) _ (HS.out _ H5.out.below) (Nat.le_trans HX.out.2 (by decide)) HBV.out).mono ?_
      rintro e w6 ⟨rfl, hO6⟩
      have H6 : Hid (∃ ls', Two w0 w6 N M N' M' 0 (fun _ => false) (.slice Option.none 0 0) ls' ls' [] ∧ ls'.length ≤ k + 1 ∧ ∀ l ∈ ls', SmallL l) := Lib.hid (by
        refine ⟨_, hO6, ?_, fun l hl => ?_⟩
        · split
          · simp; omega
          · omega
        · by_cases e0 : sendE S231 ls.length (⟨(x1, x2), (x3, x4), b⟩ : LetD) = 0
          · rw [if_pos e0] at hl
            exact (List.mem_append.1 hl).elim (HSM.out l) (fun h => by rw [List.mem_singleton.1 h]; exact ⟨HX.out.1, HX.out.2, sendE_link e0⟩)
          · rw [if_neg e0] at hl
            exact HSM.out l hl)
      clear hO6 H5
      go_wp2
      obtain ⟨ls', r1, r2, r3⟩ := H6.out
      go_roundw
      case rel => exact ⟨k + 1, ls', by omega, by go_num, r1, r2, r3⟩
      case measure => simp [intOf]; omega
    · obtain rfl : k = n := by omega
      have HLEN : Hid (ls.length ≤ 60) := Lib.hid (by omega)
      clear hll hk hlt
      obtain ⟨b1, b2, b3, b4⟩ := TB.out _ HO.out.below
      obtain ⟨z, hz⟩ : ∃ z, turnE S231 pa pb = z := ⟨_, rfl⟩
      obtain ⟨ct, hct⟩ : ∃ ct, (if linkV S231 pa pb then setCut (fun _ => false) (keyV pa pb) true else (fun _ => false)) = ct := ⟨_, rfl⟩
      go_wp2_with fail
      clear b1 b2 b3 b4
      refine (two_cut HO.out (by decide) pa pb HAB.out.1 HAB.out.2 hz hct).mono ?_
      rintro e w5 ⟨rfl, hO5⟩
      by_cases hlk : linkV S231 pa pb = true
      · have hz0 : z = 0 := by rw [← hz]; unfold turnE; rw [if_pos hlk]
        rw [if_pos hlk] at hct
        subst hz0 hct
        have H5 : Hid (Two w0 w5 N M N' M' 1 (cutOne pa pb) (.slice Option.none 0 0) ls ls []) := Lib.hid hO5
        have HLK := Lib.hid hlk
        clear hO5 hz hlk HO
        go_wp2_with fail
        refine (two_letters1 H5.out (fun l hl => Nat.le_trans (HSM.out l hl).2.1 (by decide))).mono ?_
        rintro e w6 ⟨va, rfl, hO6, g6⟩
        obtain ⟨av, cv, rfl⟩ := hO6.shape
        have H6 := Lib.hid hO6
        clear hO6 g6 H5
        have HLNK : Hid (∀ l ∈ ls, linkV S231 l.src l.dst = true) := Lib.hid fun l hl => (HSM.out l hl).2.2
        obtain ⟨L, hL⟩ : ∃ L, L = ls.length := ⟨_, rfl⟩
        rw [← hL] at H6 HLEN ⊢
        have HL := Lib.hid hL
        have hl60 : L ≤ 60 := HLEN.out
        have hLcv : L ≤ cv := by
          obtain ⟨R, ⟨a9, c9, e9, h9, _⟩, _⟩ := H6.out.reads
          injection e9 with _ e7 e8
          omega
        clear hL
        go_wp2
        go_loopw [13, 14, 15, 16, 17] (fun i kk s15 s16 s17 W => ∃ q : Nat, q ≤ L ∧ i = .int .i64 (midN pa pb ls q : Int) ∧ kk = .int .i64 q ∧ Two w0 W N M N' M' 1 (cutOne pa pb) (.slice av L cv) (midL pa pb ls q) ls ls) (fun _ kk _ _ _ _ => L - (intOf kk).toNat)
        case atStart => exact ⟨0, Nat.zero_le _, rfl, rfl, by simpa [midL] using H6.out⟩
        case round =>
          clear H6
          obtain ⟨q, hq, rfl, rfl, hO⟩ := hrel
          have HO := Lib.hid hO
          clear hO
          obtain ⟨mn, hmn⟩ : ∃ mn, mn = midN pa pb ls q := ⟨_, rfl⟩
          rw [← hmn]
          have HMN := Lib.hid hmn
          clear hmn
          by_cases hlt : q < L
          · skip
            obtain ⟨B, o, bx, eB, hB, q0, q1, q2, q3, q4, hsx⟩ := HO.out.reads.at q (by rw [← HL.out]; exact hlt)
            obtain ⟨x, hx⟩ : ∃ x, x = ls[q]'(by rw [← HL.out]; exact hlt) := ⟨_, rfl⟩
            rw [← hx] at q0 q1 q2 q3 hsx
            subst eB
            have HX := Lib.hid hx
            have hon : onV pa pb (ls[q]'(by rw [← HL.out]; exact hlt)) = onV pa pb x := by rw [hx]
            clear hx
            obtain ⟨⟨x1, x2⟩, ⟨x3, x4⟩, b⟩ := x
            simp only at q0 q1 q2 q3 hsx
            obtain ⟨ab, cb, rfl, _⟩ := hsx.bytes
            have T : Hid (∀ W, Gr wr W → W.cell? ⟨B, o + q * 5, Option.none⟩ = some (.int .i64 x1) ∧ W.cell? ⟨B, o + q * 5 + 1, Option.none⟩ = some (.int .i64 x2) ∧ W.cell? ⟨B, o + q * 5 + 2, Option.none⟩ = some (.int .i64 x3) ∧ W.cell? ⟨B, o + q * 5 + 3, Option.none⟩ = some (.int .i64 x4)) :=
              Lib.hid fun W g => ⟨g.cellT q0, g.cellT q1, g.cellT q2, g.cellT q3⟩
            have TC : Hid (∀ W, Gr wr W → W.cell? ⟨w.heap.size, 0, Option.none⟩ = some (.int .i64 pa.1) ∧ W.cell? ⟨w.heap.size, 1, Option.none⟩ = some (.int .i64 pa.2) ∧ W.cell? ⟨w.heap.size + 1, 0, Option.none⟩ = some (.int .i64 pb.1) ∧ W.cell? ⟨w.heap.size + 1, 1, Option.none⟩ = some (.int .i64 pb.2)) :=
              Lib.hid fun W g => TB.out W (Below.trans HO.out.below (g.mono HO.out.below.size))
            obtain ⟨e1, he1⟩ : ∃ r, r = decide (((x1, x2) : AdD) = pa) := ⟨_, rfl⟩
            have HE1 : Hid (∀ W : World, (if x1 = pa.1 then if x2 = pa.2 then Result.ok (Next.value (Value.bool true)) W else Result.ok (Next.value (Value.bool false)) W else Result.ok (Next.value (Value.bool false)) W) = Result.ok (Next.value (.bool e1)) W) := Lib.hid fun W => by
              rw [he1]
              obtain ⟨y1, y2⟩ := pa
              by_cases e1 : x1 = y1 <;> by_cases e2 : x2 = y2 <;> simp_all
            obtain ⟨e2, he2⟩ : ∃ r, r = decide (((x3, x4) : AdD) = pb) := ⟨_, rfl⟩
            have HE2 : Hid (∀ W : World, (if x3 = pb.1 then if x4 = pb.2 then Result.ok (Next.value (Value.bool true)) W else Result.ok (Next.value (Value.bool false)) W else Result.ok (Next.value (Value.bool false)) W) = Result.ok (Next.value (.bool e2)) W) := Lib.hid fun W => by
              rw [he2]
              obtain ⟨y1, y2⟩ := pb
              by_cases e1 : x3 = y1 <;> by_cases e2 : x4 = y2 <;> simp_all
            obtain ⟨e3, he3⟩ : ∃ r, r = decide (((x1, x2) : AdD) = pb) := ⟨_, rfl⟩
            have HE3 : Hid (∀ W : World, (if x1 = pb.1 then if x2 = pb.2 then Result.ok (Next.value (Value.bool true)) W else Result.ok (Next.value (Value.bool false)) W else Result.ok (Next.value (Value.bool false)) W) = Result.ok (Next.value (.bool e3)) W) := Lib.hid fun W => by
              rw [he3]
              obtain ⟨y1, y2⟩ := pb
              by_cases e1 : x1 = y1 <;> by_cases e2 : x2 = y2 <;> simp_all
            obtain ⟨e4, he4⟩ : ∃ r, r = decide (((x3, x4) : AdD) = pa) := ⟨_, rfl⟩
            have HE4 : Hid (∀ W : World, (if x3 = pa.1 then if x4 = pa.2 then Result.ok (Next.value (Value.bool true)) W else Result.ok (Next.value (Value.bool false)) W else Result.ok (Next.value (Value.bool false)) W) = Result.ok (Next.value (.bool e4)) W) := Lib.hid fun W => by
              rw [he4]
              obtain ⟨y1, y2⟩ := pa
              by_cases e1 : x3 = y1 <;> by_cases e2 : x4 = y2 <;> simp_all
            obtain ⟨r, hr⟩ : ∃ r, r = onV pa pb (⟨(x1, x2), (x3, x4), b⟩ : LetD) := ⟨_, rfl⟩
            have HR : Hid (r = (e1 && e2 || e3 && e4)) := Lib.hid (by rw [hr, he1, he2, he3, he4]; rfl)
            rw [← hr] at hon
            have HON := Lib.hid hon
            clear q0 q1 q2 q3 q4 hsx hon hr he1 he2 he3 he4
            have hq0 : (0 : Int) ≤ (q : Int) := by omega
            have hq1 : (q : Int) < (L : Int) := by omega
            go_upto_region 19 with fail
            go_cut [15] (fun s15 wx => s15 = .bool r ∧ Gr wr wx)
            case first =>
              cases e1 with
              | true =>
                cases e2 with
                | true =>
                  apply wp_region_draw_grow (.eq _ :: .eq _ :: .eq _ :: .eq _ :: .eq _ :: .eq _ :: .eq _ :: .eq _ :: .eq _ :: .eq _ :: .eq _ :: .eq _ :: .eq _ :: .eq _ :: .eq _ :: .eq _ :: .eq _ :: .eq _ :: .eq _ :: .eq _ :: .eq _ :: .eq _ :: .eq _ :: .eq _ :: .eq _ :: .eq _ :: .eq _ :: .eq _ :: .eq _ :: .eq _ :: .eq _ :: .eq _ :: .eq _ :: .eq _ :: .eq _ :: []) (by kernel_rfl) (by kernel_rfl) trivial
                  apply wpG_eq
                  · intro W hW hs
                    unfold opG
                    go_simp
                    first | exact resG_eq_mk _ _ _ | rfl
                  simp only [Act.put, List.setIfInBounds_toArray, List.set_cons_zero, List.set_cons_succ]
                  apply wpG_eq
                  · intro W hW hs
                    unfold opG
                    go_simp
                    first | exact resG_eq_mk _ _ _ | rfl
                  simp only [Act.put, List.setIfInBounds_toArray, List.set_cons_zero, List.set_cons_succ]
                  apply wpG_eq
                  · intro W hW hs
                    unfold opG
                    go_simp
                    first | exact resG_eq_mk _ _ _ | rfl
                  simp only [Act.put, List.setIfInBounds_toArray, List.set_cons_zero, List.set_cons_succ]
                  apply wpG_eq
                  · intro W hW hs
                    unfold opG
                    go_simp
                    first | exact resG_eq_mk _ _ _ | rfl
                  simp only [Act.put, List.setIfInBounds_toArray, List.set_cons_zero, List.set_cons_succ]
                  apply wpG_eq
                  · intro W hW hs
                    obtain ⟨t0, t1, t2, t3⟩ := T.out W (Gr.trans ((Gr.refl wr).drew) hW)
                    unfold opG
                    go_simp
                    first | exact resG_eq_mk _ _ _ | rfl
                  simp only [Act.put, List.setIfInBounds_toArray, List.set_cons_zero, List.set_cons_succ]
                  apply wpG_eq
                  · intro W hW hs
                    obtain ⟨t0, t1, t2, t3⟩ := TC.out W (Gr.trans ((Gr.refl wr).drew) hW)
                    unfold opG
                    go_simp
                    first | exact resG_eq_mk _ _ _ | rfl
                  simp only [Act.put, List.setIfInBounds_toArray, List.set_cons_zero, List.set_cons_succ]
                  apply wpG_eq
                  · intro W hW hs
                    unfold opG
                    go_simp
                    rw [HE1.out W]
                    exact ⟨Gr.refl _, rfl⟩
                  simp only [Act.put, List.setIfInBounds_toArray, List.set_cons_zero, List.set_cons_succ]
                  apply wpG_eq
                  · intro W hW hs
                    unfold opG
                    go_simp
                    first | exact resG_eq_mk _ _ _ | rfl
                  simp only [Act.put, List.setIfInBounds_toArray, List.set_cons_zero, List.set_cons_succ]
                  apply wpG_eq
                  · intro W hW hs
                    unfold opG
                    go_simp
                    first | exact resG_eq_mk _ _ _ | rfl
                  simp only [Act.put, List.setIfInBounds_toArray, List.set_cons_zero, List.set_cons_succ]
                  apply wpG_eq
                  · intro W hW hs
                    unfold opG
                    go_simp
                    first | exact resG_eq_mk _ _ _ | rfl
                  simp only [Act.put, List.setIfInBounds_toArray, List.set_cons_zero, List.set_cons_succ]
                  apply wpG_eq
                  · intro W hW hs
                    unfold opG
                    go_simp
                    first | exact resG_eq_mk _ _ _ | rfl
                  simp only [Act.put, List.setIfInBounds_toArray, List.set_cons_zero, List.set_cons_succ]
                  apply wpG_eq
                  · intro W hW hs
                    unfold opG
                    go_simp
                    first | exact resG_eq_mk _ _ _ | rfl
                  simp only [Act.put, List.setIfInBounds_toArray, List.set_cons_zero, List.set_cons_succ]
                  apply wpG_eq
                  · intro W hW hs
                    obtain ⟨t0, t1, t2, t3⟩ := T.out W (Gr.trans ((Gr.refl wr).drew) hW)
                    unfold opG
                    go_simp
                    first | exact resG_eq_mk _ _ _ | rfl
                  simp only [Act.put, List.setIfInBounds_toArray, List.set_cons_zero, List.set_cons_succ]
                  apply wpG_eq
                  · intro W hW hs
                    obtain ⟨t0, t1, t2, t3⟩ := TC.out W (Gr.trans ((Gr.refl wr).drew) hW)
                    unfold opG
                    go_simp
                    first | exact resG_eq_mk _ _ _ | rfl
                  simp only [Act.put, List.setIfInBounds_toArray, List.set_cons_zero, List.set_cons_succ]
                  apply wpG_eq
                  · intro W hW hs
                    unfold opG
                    go_simp
                    rw [HE2.out W]
                    exact ⟨Gr.refl _, rfl⟩
                  simp only [Act.put, List.setIfInBounds_toArray, List.set_cons_zero, List.set_cons_succ]
                  apply wpG_eq
                  · intro W hW hs
                    unfold opG
                    go_simp
                    first | exact resG_eq_mk _ _ _ | rfl
                  simp only [Act.put, List.setIfInBounds_toArray, List.set_cons_zero, List.set_cons_succ]
                  apply wpG_eq
                  · intro W hW hs
                    unfold opG
                    go_simp
                    first | exact resG_eq_mk _ _ _ | rfl
                  simp only [Act.put, List.setIfInBounds_toArray, List.set_cons_zero, List.set_cons_succ]
                  apply wpG_eq
                  · intro W hW hs
                    unfold opG
                    go_simp
                    first | exact resG_eq_mk _ _ _ | rfl
                  simp only [Act.put, List.setIfInBounds_toArray, List.set_cons_zero, List.set_cons_succ]
                  apply wpG_eq
                  · intro W hW hs
                    unfold opG
                    go_simp
                    first | exact resG_eq_mk _ _ _ | rfl
                  simp only [Act.put, List.setIfInBounds_toArray, List.set_cons_zero, List.set_cons_succ]
                  apply wpG_eq
                  · intro W hW hs
                    unfold opG
                    go_simp
                    first | exact resG_eq_mk _ _ _ | rfl
                  simp only [Act.put, List.setIfInBounds_toArray, List.set_cons_zero, List.set_cons_succ]
                  apply wpG_eq
                  · intro W hW hs
                    unfold opG
                    go_simp
                    first | exact resG_eq_mk _ _ _ | rfl
                  simp only [Act.put, List.setIfInBounds_toArray, List.set_cons_zero, List.set_cons_succ]
                  apply wpG_eq
                  · intro W hW hs
                    unfold opG
                    go_simp
                    first | exact resG_eq_mk _ _ _ | rfl
                  simp only [Act.put, List.setIfInBounds_toArray, List.set_cons_zero, List.set_cons_succ]
                  apply wpG_eq
                  · intro W hW hs
                    unfold opG
                    go_simp
                    first | exact resG_eq_mk _ _ _ | rfl
                  simp only [Act.put, List.setIfInBounds_toArray, List.set_cons_zero, List.set_cons_succ]
                  apply wpG_eq
                  · intro W hW hs
                    unfold opG
                    go_simp
                    first | exact resG_eq_mk _ _ _ | rfl
                  simp only [Act.put, List.setIfInBounds_toArray, List.set_cons_zero, List.set_cons_succ]
                  apply wpG_eq
                  · intro W hW hs
                    unfold opG
                    go_simp
                    first | exact resG_eq_mk _ _ _ | rfl
                  simp only [Act.put, List.setIfInBounds_toArray, List.set_cons_zero, List.set_cons_succ]
                  apply wpG_eq
                  · intro W hW hs
                    unfold opG
                    go_simp
                    first | exact resG_eq_mk _ _ _ | rfl
                  simp only [Act.put, List.setIfInBounds_toArray, List.set_cons_zero, List.set_cons_succ]
                  apply wpG_eq
                  · intro W hW hs
                    unfold opG
                    go_simp
                    first | exact resG_eq_mk _ _ _ | rfl
                  simp only [Act.put, List.setIfInBounds_toArray, List.set_cons_zero, List.set_cons_succ]
                  apply wpG_eq
                  · intro W hW hs
                    unfold opG
                    go_simp
                    first | exact resG_eq_mk _ _ _ | rfl
                  simp only [Act.put, List.setIfInBounds_toArray, List.set_cons_zero, List.set_cons_succ]
                  apply wpG_eq
                  · intro W hW hs
                    unfold opG
                    go_simp
                    first | exact resG_eq_mk _ _ _ | rfl
                  simp only [Act.put, List.setIfInBounds_toArray, List.set_cons_zero, List.set_cons_succ]
                  apply wpG_eq
                  · intro W hW hs
                    unfold opG
                    go_simp
                    first | exact resG_eq_mk _ _ _ | rfl
                  simp only [Act.put, List.setIfInBounds_toArray, List.set_cons_zero, List.set_cons_succ]
                  apply wpG_eq
                  · intro W hW hs
                    unfold opG
                    go_simp
                    first | exact resG_eq_mk _ _ _ | rfl
                  simp only [Act.put, List.setIfInBounds_toArray, List.set_cons_zero, List.set_cons_succ]
                  apply wpG_eq
                  · intro W hW hs
                    unfold opG
                    go_simp
                    first | exact resG_eq_mk _ _ _ | rfl
                  simp only [Act.put, List.setIfInBounds_toArray, List.set_cons_zero, List.set_cons_succ]
                  apply wpG_eq
                  · intro W hW hs
                    unfold opG
                    go_simp
                    first | exact resG_eq_mk _ _ _ | rfl
                  simp only [Act.put, List.setIfInBounds_toArray, List.set_cons_zero, List.set_cons_succ]
                  apply wpG_eq
                  · intro W hW hs
                    unfold opG
                    go_simp
                    first | exact resG_eq_mk _ _ _ | rfl
                  simp only [Act.put, List.setIfInBounds_toArray, List.set_cons_zero, List.set_cons_succ]
                  apply wpG_eq
                  · intro W hW hs
                    unfold opG
                    go_simp
                    first | exact resG_eq_mk _ _ _ | rfl
                  simp only [Act.put, List.setIfInBounds_toArray, List.set_cons_zero, List.set_cons_succ]
                  apply wpG_nil
                  intro wq hWq hsAll
                  have gq : Gr wr wq := Gr.trans ((Gr.refl wr).drew) hWq
                  clear hsAll hWq
                  go_wp2
                  go_meet
                  exact ⟨by rw [HR.out]; rfl, gq⟩
                | false =>
                  cases e3 with
                  | true =>
                    cases e4 with
                    | true =>
                      apply wp_region_draw_grow (.eq _ :: .eq _ :: .eq _ :: .eq _ :: .eq _ :: .eq _ :: .eq _ :: .eq _ :: .eq _ :: .eq _ :: .eq _ :: .eq _ :: .eq _ :: .eq _ :: .eq _ :: .eq _ :: .eq _ :: .eq _ :: .eq _ :: .eq _ :: .eq _ :: .eq _ :: .eq _ :: .eq _ :: .eq _ :: .eq _ :: .eq _ :: .eq _ :: .eq _ :: .eq _ :: .eq _ :: .eq _ :: .eq _ :: .eq _ :: .eq _ :: []) (by kernel_rfl) (by kernel_rfl) trivial
                      apply wpG_eq
                      · intro W hW hs
                        unfold opG
                        go_simp
                        first | exact resG_eq_mk _ _ _ | rfl
                      simp only [Act.put, List.setIfInBounds_toArray, List.set_cons_zero, List.set_cons_succ]
                      apply wpG_eq
                      · intro W hW hs
                        unfold opG
                        go_simp
                        first | exact resG_eq_mk _ _ _ | rfl
                      simp only [Act.put, List.setIfInBounds_toArray, List.set_cons_zero, List.set_cons_succ]
                      apply wpG_eq
                      · intro W hW hs
                        unfold opG
                        go_simp
                        first | exact resG_eq_mk _ _ _ | rfl
                      simp only [Act.put, List.setIfInBounds_toArray, List.set_cons_zero, List.set_cons_succ]
                      apply wpG_eq
                      · intro W hW hs
                        unfold opG
                        go_simp
                        first | exact resG_eq_mk _ _ _ | rfl
                      simp only [Act.put, List.setIfInBounds_toArray, List.set_cons_zero, List.set_cons_succ]
                      apply wpG_eq
                      · intro W hW hs
                        obtain ⟨t0, t1, t2, t3⟩ := T.out W (Gr.trans ((Gr.refl wr).drew) hW)
                        unfold opG
                        go_simp
                        first | exact resG_eq_mk _ _ _ | rfl
                      simp only [Act.put, List.setIfInBounds_toArray, List.set_cons_zero, List.set_cons_succ]
                      apply wpG_eq
                      · intro W hW hs
                        obtain ⟨t0, t1, t2, t3⟩ := TC.out W (Gr.trans ((Gr.refl wr).drew) hW)
                        unfold opG
                        go_simp
                        first | exact resG_eq_mk _ _ _ | rfl
                      simp only [Act.put, List.setIfInBounds_toArray, List.set_cons_zero, List.set_cons_succ]
                      apply wpG_eq
                      · intro W hW hs
                        unfold opG
                        go_simp
                        rw [HE1.out W]
                        exact ⟨Gr.refl _, rfl⟩
                      simp only [Act.put, List.setIfInBounds_toArray, List.set_cons_zero, List.set_cons_succ]
                      apply wpG_eq
                      · intro W hW hs
                        unfold opG
                        go_simp
                        first | exact resG_eq_mk _ _ _ | rfl
                      simp only [Act.put, List.setIfInBounds_toArray, List.set_cons_zero, List.set_cons_succ]
                      apply wpG_eq
                      · intro W hW hs
                        unfold opG
                        go_simp
                        first | exact resG_eq_mk _ _ _ | rfl
                      simp only [Act.put, List.setIfInBounds_toArray, List.set_cons_zero, List.set_cons_succ]
                      apply wpG_eq
                      · intro W hW hs
                        unfold opG
                        go_simp
                        first | exact resG_eq_mk _ _ _ | rfl
                      simp only [Act.put, List.setIfInBounds_toArray, List.set_cons_zero, List.set_cons_succ]
                      apply wpG_eq
                      · intro W hW hs
                        unfold opG
                        go_simp
                        first | exact resG_eq_mk _ _ _ | rfl
                      simp only [Act.put, List.setIfInBounds_toArray, List.set_cons_zero, List.set_cons_succ]
                      apply wpG_eq
                      · intro W hW hs
                        unfold opG
                        go_simp
                        first | exact resG_eq_mk _ _ _ | rfl
                      simp only [Act.put, List.setIfInBounds_toArray, List.set_cons_zero, List.set_cons_succ]
                      apply wpG_eq
                      · intro W hW hs
                        obtain ⟨t0, t1, t2, t3⟩ := T.out W (Gr.trans ((Gr.refl wr).drew) hW)
                        unfold opG
                        go_simp
                        first | exact resG_eq_mk _ _ _ | rfl
                      simp only [Act.put, List.setIfInBounds_toArray, List.set_cons_zero, List.set_cons_succ]
                      apply wpG_eq
                      · intro W hW hs
                        obtain ⟨t0, t1, t2, t3⟩ := TC.out W (Gr.trans ((Gr.refl wr).drew) hW)
                        unfold opG
                        go_simp
                        first | exact resG_eq_mk _ _ _ | rfl
                      simp only [Act.put, List.setIfInBounds_toArray, List.set_cons_zero, List.set_cons_succ]
                      apply wpG_eq
                      · intro W hW hs
                        unfold opG
                        go_simp
                        rw [HE2.out W]
                        exact ⟨Gr.refl _, rfl⟩
                      simp only [Act.put, List.setIfInBounds_toArray, List.set_cons_zero, List.set_cons_succ]
                      apply wpG_eq
                      · intro W hW hs
                        unfold opG
                        go_simp
                        first | exact resG_eq_mk _ _ _ | rfl
                      simp only [Act.put, List.setIfInBounds_toArray, List.set_cons_zero, List.set_cons_succ]
                      apply wpG_eq
                      · intro W hW hs
                        unfold opG
                        go_simp
                        first | exact resG_eq_mk _ _ _ | rfl
                      simp only [Act.put, List.setIfInBounds_toArray, List.set_cons_zero, List.set_cons_succ]
                      apply wpG_eq
                      · intro W hW hs
                        unfold opG
                        go_simp
                        first | exact resG_eq_mk _ _ _ | rfl
                      simp only [Act.put, List.setIfInBounds_toArray, List.set_cons_zero, List.set_cons_succ]
                      apply wpG_eq
                      · intro W hW hs
                        unfold opG
                        go_simp
                        first | exact resG_eq_mk _ _ _ | rfl
                      simp only [Act.put, List.setIfInBounds_toArray, List.set_cons_zero, List.set_cons_succ]
                      apply wpG_eq
                      · intro W hW hs
                        unfold opG
                        go_simp
                        first | exact resG_eq_mk _ _ _ | rfl
                      simp only [Act.put, List.setIfInBounds_toArray, List.set_cons_zero, List.set_cons_succ]
                      apply wpG_eq
                      · intro W hW hs
                        unfold opG
                        go_simp
                        first | exact resG_eq_mk _ _ _ | rfl
                      simp only [Act.put, List.setIfInBounds_toArray, List.set_cons_zero, List.set_cons_succ]
                      apply wpG_eq
                      · intro W hW hs
                        obtain ⟨t0, t1, t2, t3⟩ := T.out W (Gr.trans ((Gr.refl wr).drew) hW)
                        unfold opG
                        go_simp
                        first | exact resG_eq_mk _ _ _ | rfl
                      simp only [Act.put, List.setIfInBounds_toArray, List.set_cons_zero, List.set_cons_succ]
                      apply wpG_eq
                      · intro W hW hs
                        obtain ⟨t0, t1, t2, t3⟩ := TC.out W (Gr.trans ((Gr.refl wr).drew) hW)
                        unfold opG
                        go_simp
                        first | exact resG_eq_mk _ _ _ | rfl
                      simp only [Act.put, List.setIfInBounds_toArray, List.set_cons_zero, List.set_cons_succ]
                      apply wpG_eq
                      · intro W hW hs
                        unfold opG
                        go_simp
                        rw [HE3.out W]
                        exact ⟨Gr.refl _, rfl⟩
                      simp only [Act.put, List.setIfInBounds_toArray, List.set_cons_zero, List.set_cons_succ]
                      apply wpG_eq
                      · intro W hW hs
                        unfold opG
                        go_simp
                        first | exact resG_eq_mk _ _ _ | rfl
                      simp only [Act.put, List.setIfInBounds_toArray, List.set_cons_zero, List.set_cons_succ]
                      apply wpG_eq
                      · intro W hW hs
                        unfold opG
                        go_simp
                        first | exact resG_eq_mk _ _ _ | rfl
                      simp only [Act.put, List.setIfInBounds_toArray, List.set_cons_zero, List.set_cons_succ]
                      apply wpG_eq
                      · intro W hW hs
                        unfold opG
                        go_simp
                        first | exact resG_eq_mk _ _ _ | rfl
                      simp only [Act.put, List.setIfInBounds_toArray, List.set_cons_zero, List.set_cons_succ]
                      apply wpG_eq
                      · intro W hW hs
                        unfold opG
                        go_simp
                        first | exact resG_eq_mk _ _ _ | rfl
                      simp only [Act.put, List.setIfInBounds_toArray, List.set_cons_zero, List.set_cons_succ]
                      apply wpG_eq
                      · intro W hW hs
                        unfold opG
                        go_simp
                        first | exact resG_eq_mk _ _ _ | rfl
                      simp only [Act.put, List.setIfInBounds_toArray, List.set_cons_zero, List.set_cons_succ]
                      apply wpG_eq
                      · intro W hW hs
                        obtain ⟨t0, t1, t2, t3⟩ := T.out W (Gr.trans ((Gr.refl wr).drew) hW)
                        unfold opG
                        go_simp
                        first | exact resG_eq_mk _ _ _ | rfl
                      simp only [Act.put, List.setIfInBounds_toArray, List.set_cons_zero, List.set_cons_succ]
                      apply wpG_eq
                      · intro W hW hs
                        obtain ⟨t0, t1, t2, t3⟩ := TC.out W (Gr.trans ((Gr.refl wr).drew) hW)
                        unfold opG
                        go_simp
                        first | exact resG_eq_mk _ _ _ | rfl
                      simp only [Act.put, List.setIfInBounds_toArray, List.set_cons_zero, List.set_cons_succ]
                      apply wpG_eq
                      · intro W hW hs
                        unfold opG
                        go_simp
                        rw [HE4.out W]
                        exact ⟨Gr.refl _, rfl⟩
                      simp only [Act.put, List.setIfInBounds_toArray, List.set_cons_zero, List.set_cons_succ]
                      apply wpG_eq
                      · intro W hW hs
                        unfold opG
                        go_simp
                        first | exact resG_eq_mk _ _ _ | rfl
                      simp only [Act.put, List.setIfInBounds_toArray, List.set_cons_zero, List.set_cons_succ]
                      apply wpG_eq
                      · intro W hW hs
                        unfold opG
                        go_simp
                        first | exact resG_eq_mk _ _ _ | rfl
                      simp only [Act.put, List.setIfInBounds_toArray, List.set_cons_zero, List.set_cons_succ]
                      apply wpG_eq
                      · intro W hW hs
                        unfold opG
                        go_simp
                        first | exact resG_eq_mk _ _ _ | rfl
                      simp only [Act.put, List.setIfInBounds_toArray, List.set_cons_zero, List.set_cons_succ]
                      apply wpG_nil
                      intro wq hWq hsAll
                      have gq : Gr wr wq := Gr.trans ((Gr.refl wr).drew) hWq
                      clear hsAll hWq
                      go_wp2
                      go_meet
                      exact ⟨by rw [HR.out]; rfl, gq⟩
                    | false =>
                      apply wp_region_draw_grow (.eq _ :: .eq _ :: .eq _ :: .eq _ :: .eq _ :: .eq _ :: .eq _ :: .eq _ :: .eq _ :: .eq _ :: .eq _ :: .eq _ :: .eq _ :: .eq _ :: .eq _ :: .eq _ :: .eq _ :: .eq _ :: .eq _ :: .eq _ :: .eq _ :: .eq _ :: .eq _ :: .eq _ :: .eq _ :: .eq _ :: .eq _ :: .eq _ :: .eq _ :: .eq _ :: .eq _ :: .eq _ :: .eq _ :: .eq _ :: .eq _ :: []) (by kernel_rfl) (by kernel_rfl) trivial
                      apply wpG_eq
                      · intro W hW hs
                        unfold opG
                        go_simp
                        first | exact resG_eq_mk _ _ _ | rfl
                      simp only [Act.put, List.setIfInBounds_toArray, List.set_cons_zero, List.set_cons_succ]
                      apply wpG_eq
                      · intro W hW hs
                        unfold opG
                        go_simp
                        first | exact resG_eq_mk _ _ _ | rfl
                      simp only [Act.put, List.setIfInBounds_toArray, List.set_cons_zero, List.set_cons_succ]
                      apply wpG_eq
                      · intro W hW hs
                        unfold opG
                        go_simp
                        first | exact resG_eq_mk _ _ _ | rfl
                      simp only [Act.put, List.setIfInBounds_toArray, List.set_cons_zero, List.set_cons_succ]
                      apply wpG_eq
                      · intro W hW hs
                        unfold opG
                        go_simp
                        first | exact resG_eq_mk _ _ _ | rfl
                      simp only [Act.put, List.setIfInBounds_toArray, List.set_cons_zero, List.set_cons_succ]
                      apply wpG_eq
                      · intro W hW hs
                        obtain ⟨t0, t1, t2, t3⟩ := T.out W (Gr.trans ((Gr.refl wr).drew) hW)
                        unfold opG
                        go_simp
                        first | exact resG_eq_mk _ _ _ | rfl
                      simp only [Act.put, List.setIfInBounds_toArray, List.set_cons_zero, List.set_cons_succ]
                      apply wpG_eq
                      · intro W hW hs
                        obtain ⟨t0, t1, t2, t3⟩ := TC.out W (Gr.trans ((Gr.refl wr).drew) hW)
                        unfold opG
                        go_simp
                        first | exact resG_eq_mk _ _ _ | rfl
                      simp only [Act.put, List.setIfInBounds_toArray, List.set_cons_zero, List.set_cons_succ]
                      apply wpG_eq
                      · intro W hW hs
                        unfold opG
                        go_simp
                        rw [HE1.out W]
                        exact ⟨Gr.refl _, rfl⟩
                      simp only [Act.put, List.setIfInBounds_toArray, List.set_cons_zero, List.set_cons_succ]
                      apply wpG_eq
                      · intro W hW hs
                        unfold opG
                        go_simp
                        first | exact resG_eq_mk _ _ _ | rfl
                      simp only [Act.put, List.setIfInBounds_toArray, List.set_cons_zero, List.set_cons_succ]
                      apply wpG_eq
                      · intro W hW hs
                        unfold opG
                        go_simp
                        first | exact resG_eq_mk _ _ _ | rfl
                      simp only [Act.put, List.setIfInBounds_toArray, List.set_cons_zero, List.set_cons_succ]
                      apply wpG_eq
                      · intro W hW hs
                        unfold opG
                        go_simp
                        first | exact resG_eq_mk _ _ _ | rfl
                      simp only [Act.put, List.setIfInBounds_toArray, List.set_cons_zero, List.set_cons_succ]
                      apply wpG_eq
                      · intro W hW hs
                        unfold opG
                        go_simp
                        first | exact resG_eq_mk _ _ _ | rfl
                      simp only [Act.put, List.setIfInBounds_toArray, List.set_cons_zero, List.set_cons_succ]
                      apply wpG_eq
                      · intro W hW hs
                        unfold opG
                        go_simp
                        first | exact resG_eq_mk _ _ _ | rfl
                      simp only [Act.put, List.setIfInBounds_toArray, List.set_cons_zero, List.set_cons_succ]
                      apply wpG_eq
                      · intro W hW hs
                        obtain ⟨t0, t1, t2, t3⟩ := T.out W (Gr.trans ((Gr.refl wr).drew) hW)
                        unfold opG
                        go_simp
                        first | exact resG_eq_mk _ _ _ | rfl
                      simp only [Act.put, List.setIfInBounds_toArray, List.set_cons_zero, List.set_cons_succ]
                      apply wpG_eq
                      · intro W hW hs
                        obtain ⟨t0, t1, t2, t3⟩ := TC.out W (Gr.trans ((Gr.refl wr).drew) hW)
                        unfold opG
                        go_simp
                        first | exact resG_eq_mk _ _ _ | rfl
                      simp only [Act.put, List.setIfInBounds_toArray, List.set_cons_zero, List.set_cons_succ]
                      apply wpG_eq
                      · intro W hW hs
                        unfold opG
                        go_simp
                        rw [HE2.out W]
                        exact ⟨Gr.refl _, rfl⟩
                      simp only [Act.put, List.setIfInBounds_toArray, List.set_cons_zero, List.set_cons_succ]
                      apply wpG_eq
                      · intro W hW hs
                        unfold opG
                        go_simp
                        first | exact resG_eq_mk _ _ _ | rfl
                      simp only [Act.put, List.setIfInBounds_toArray, List.set_cons_zero, List.set_cons_succ]
                      apply wpG_eq
                      · intro W hW hs
                        unfold opG
                        go_simp
                        first | exact resG_eq_mk _ _ _ | rfl
                      simp only [Act.put, List.setIfInBounds_toArray, List.set_cons_zero, List.set_cons_succ]
                      apply wpG_eq
                      · intro W hW hs
                        unfold opG
                        go_simp
                        first | exact resG_eq_mk _ _ _ | rfl
                      simp only [Act.put, List.setIfInBounds_toArray, List.set_cons_zero, List.set_cons_succ]
                      apply wpG_eq
                      · intro W hW hs
                        unfold opG
                        go_simp
                        first | exact resG_eq_mk _ _ _ | rfl
                      simp only [Act.put, List.setIfInBounds_toArray, List.set_cons_zero, List.set_cons_succ]
                      apply wpG_eq
                      · intro W hW hs
                        unfold opG
                        go_simp
                        first | exact resG_eq_mk _ _ _ | rfl
                      simp only [Act.put, List.setIfInBounds_toArray, List.set_cons_zero, List.set_cons_succ]
                      apply wpG_eq
                      · intro W hW hs
                        unfold opG
                        go_simp
                        first | exact resG_eq_mk _ _ _ | rfl
                      simp only [Act.put, List.setIfInBounds_toArray, List.set_cons_zero, List.set_cons_succ]
                      apply wpG_eq
                      · intro W hW hs
                        obtain ⟨t0, t1, t2, t3⟩ := T.out W (Gr.trans ((Gr.refl wr).drew) hW)
                        unfold opG
                        go_simp
                        first | exact resG_eq_mk _ _ _ | rfl
                      simp only [Act.put, List.setIfInBounds_toArray, List.set_cons_zero, List.set_cons_succ]
                      apply wpG_eq
                      · intro W hW hs
                        obtain ⟨t0, t1, t2, t3⟩ := TC.out W (Gr.trans ((Gr.refl wr).drew) hW)
                        unfold opG
                        go_simp
                        first | exact resG_eq_mk _ _ _ | rfl
                      simp only [Act.put, List.setIfInBounds_toArray, List.set_cons_zero, List.set_cons_succ]
                      apply wpG_eq
                      · intro W hW hs
                        unfold opG
                        go_simp
                        rw [HE3.out W]
                        exact ⟨Gr.refl _, rfl⟩
                      simp only [Act.put, List.setIfInBounds_toArray, List.set_cons_zero, List.set_cons_succ]
                      apply wpG_eq
                      · intro W hW hs
                        unfold opG
                        go_simp
                        first | exact resG_eq_mk _ _ _ | rfl
                      simp only [Act.put, List.setIfInBounds_toArray, List.set_cons_zero, List.set_cons_succ]
                      apply wpG_eq
                      · intro W hW hs
                        unfold opG
                        go_simp
                        first | exact resG_eq_mk _ _ _ | rfl
                      simp only [Act.put, List.setIfInBounds_toArray, List.set_cons_zero, List.set_cons_succ]
                      apply wpG_eq
                      · intro W hW hs
                        unfold opG
                        go_simp
                        first | exact resG_eq_mk _ _ _ | rfl
                      simp only [Act.put, List.setIfInBounds_toArray, List.set_cons_zero, List.set_cons_succ]
                      apply wpG_eq
                      · intro W hW hs
                        unfold opG
                        go_simp
                        first | exact resG_eq_mk _ _ _ | rfl
                      simp only [Act.put, List.setIfInBounds_toArray, List.set_cons_zero, List.set_cons_succ]
                      apply wpG_eq
                      · intro W hW hs
                        unfold opG
                        go_simp
                        first | exact resG_eq_mk _ _ _ | rfl
                      simp only [Act.put, List.setIfInBounds_toArray, List.set_cons_zero, List.set_cons_succ]
                      apply wpG_eq
                      · intro W hW hs
                        obtain ⟨t0, t1, t2, t3⟩ := T.out W (Gr.trans ((Gr.refl wr).drew) hW)
                        unfold opG
                        go_simp
                        first | exact resG_eq_mk _ _ _ | rfl
                      simp only [Act.put, List.setIfInBounds_toArray, List.set_cons_zero, List.set_cons_succ]
                      apply wpG_eq
                      · intro W hW hs
                        obtain ⟨t0, t1, t2, t3⟩ := TC.out W (Gr.trans ((Gr.refl wr).drew) hW)
                        unfold opG
                        go_simp
                        first | exact resG_eq_mk _ _ _ | rfl
                      simp only [Act.put, List.setIfInBounds_toArray, List.set_cons_zero, List.set_cons_succ]
                      apply wpG_eq
                      · intro W hW hs
                        unfold opG
                        go_simp
                        rw [HE4.out W]
                        exact ⟨Gr.refl _, rfl⟩
                      simp only [Act.put, List.setIfInBounds_toArray, List.set_cons_zero, List.set_cons_succ]
                      apply wpG_eq
                      · intro W hW hs
                        unfold opG
                        go_simp
                        first | exact resG_eq_mk _ _ _ | rfl
                      simp only [Act.put, List.setIfInBounds_toArray, List.set_cons_zero, List.set_cons_succ]
                      apply wpG_eq
                      · intro W hW hs
                        unfold opG
                        go_simp
                        first | exact resG_eq_mk _ _ _ | rfl
                      simp only [Act.put, List.setIfInBounds_toArray, List.set_cons_zero, List.set_cons_succ]
                      apply wpG_eq
                      · intro W hW hs
                        unfold opG
                        go_simp
                        first | exact resG_eq_mk _ _ _ | rfl
                      simp only [Act.put, List.setIfInBounds_toArray, List.set_cons_zero, List.set_cons_succ]
                      apply wpG_nil
                      intro wq hWq hsAll
                      have gq : Gr wr wq := Gr.trans ((Gr.refl wr).drew) hWq
                      clear hsAll hWq
                      go_wp2
                      go_meet
                      exact ⟨by rw [HR.out]; rfl, gq⟩
                  | false =>
                    apply wp_region_draw_grow (.eq _ :: .eq _ :: .eq _ :: .eq _ :: .eq _ :: .eq _ :: .eq _ :: .eq _ :: .eq _ :: .eq _ :: .eq _ :: .eq _ :: .eq _ :: .eq _ :: .eq _ :: .eq _ :: .eq _ :: .eq _ :: .eq _ :: .eq _ :: .eq _ :: .eq _ :: .eq _ :: .eq _ :: .eq _ :: .eq _ :: .eq _ :: .eq _ :: .eq _ :: .eq _ :: .eq _ :: .eq _ :: .eq _ :: .eq _ :: .eq _ :: []) (by kernel_rfl) (by kernel_rfl) trivial
                    apply wpG_eq
                    · intro W hW hs
                      unfold opG
                      go_simp
                      first | exact resG_eq_mk _ _ _ | rfl
                    simp only [Act.put, List.setIfInBounds_toArray, List.set_cons_zero, List.set_cons_succ]
                    apply wpG_eq
                    · intro W hW hs
                      unfold opG
                      go_simp
                      first | exact resG_eq_mk _ _ _ | rfl
                    simp only [Act.put, List.setIfInBounds_toArray, List.set_cons_zero, List.set_cons_succ]
                    apply wpG_eq
                    · intro W hW hs
                      unfold opG
                      go_simp
                      first | exact resG_eq_mk _ _ _ | rfl
                    simp only [Act.put, List.setIfInBounds_toArray, List.set_cons_zero, List.set_cons_succ]
                    apply wpG_eq
                    · intro W hW hs
                      unfold opG
                      go_simp
                      first | exact resG_eq_mk _ _ _ | rfl
                    simp only [Act.put, List.setIfInBounds_toArray, List.set_cons_zero, List.set_cons_succ]
                    apply wpG_eq
                    · intro W hW hs
                      obtain ⟨t0, t1, t2, t3⟩ := T.out W (Gr.trans ((Gr.refl wr).drew) hW)
                      unfold opG
                      go_simp
                      first | exact resG_eq_mk _ _ _ | rfl
                    simp only [Act.put, List.setIfInBounds_toArray, List.set_cons_zero, List.set_cons_succ]
                    apply wpG_eq
                    · intro W hW hs
                      obtain ⟨t0, t1, t2, t3⟩ := TC.out W (Gr.trans ((Gr.refl wr).drew) hW)
                      unfold opG
                      go_simp
                      first | exact resG_eq_mk _ _ _ | rfl
                    simp only [Act.put, List.setIfInBounds_toArray, List.set_cons_zero, List.set_cons_succ]
                    apply wpG_eq
                    · intro W hW hs
                      unfold opG
                      go_simp
                      rw [HE1.out W]
                      exact ⟨Gr.refl _, rfl⟩
                    simp only [Act.put, List.setIfInBounds_toArray, List.set_cons_zero, List.set_cons_succ]
                    apply wpG_eq
                    · intro W hW hs
                      unfold opG
                      go_simp
                      first | exact resG_eq_mk _ _ _ | rfl
                    simp only [Act.put, List.setIfInBounds_toArray, List.set_cons_zero, List.set_cons_succ]
                    apply wpG_eq
                    · intro W hW hs
                      unfold opG
                      go_simp
                      first | exact resG_eq_mk _ _ _ | rfl
                    simp only [Act.put, List.setIfInBounds_toArray, List.set_cons_zero, List.set_cons_succ]
                    apply wpG_eq
                    · intro W hW hs
                      unfold opG
                      go_simp
                      first | exact resG_eq_mk _ _ _ | rfl
                    simp only [Act.put, List.setIfInBounds_toArray, List.set_cons_zero, List.set_cons_succ]
                    apply wpG_eq
                    · intro W hW hs
                      unfold opG
                      go_simp
                      first | exact resG_eq_mk _ _ _ | rfl
                    simp only [Act.put, List.setIfInBounds_toArray, List.set_cons_zero, List.set_cons_succ]
                    apply wpG_eq
                    · intro W hW hs
                      unfold opG
                      go_simp
                      first | exact resG_eq_mk _ _ _ | rfl
                    simp only [Act.put, List.setIfInBounds_toArray, List.set_cons_zero, List.set_cons_succ]
                    apply wpG_eq
                    · intro W hW hs
                      obtain ⟨t0, t1, t2, t3⟩ := T.out W (Gr.trans ((Gr.refl wr).drew) hW)
                      unfold opG
                      go_simp
                      first | exact resG_eq_mk _ _ _ | rfl
                    simp only [Act.put, List.setIfInBounds_toArray, List.set_cons_zero, List.set_cons_succ]
                    apply wpG_eq
                    · intro W hW hs
                      obtain ⟨t0, t1, t2, t3⟩ := TC.out W (Gr.trans ((Gr.refl wr).drew) hW)
                      unfold opG
                      go_simp
                      first | exact resG_eq_mk _ _ _ | rfl
                    simp only [Act.put, List.setIfInBounds_toArray, List.set_cons_zero, List.set_cons_succ]
                    apply wpG_eq
                    · intro W hW hs
                      unfold opG
                      go_simp
                      rw [HE2.out W]
                      exact ⟨Gr.refl _, rfl⟩
                    simp only [Act.put, List.setIfInBounds_toArray, List.set_cons_zero, List.set_cons_succ]
                    apply wpG_eq
                    · intro W hW hs
                      unfold opG
                      go_simp
                      first | exact resG_eq_mk _ _ _ | rfl
                    simp only [Act.put, List.setIfInBounds_toArray, List.set_cons_zero, List.set_cons_succ]
                    apply wpG_eq
                    · intro W hW hs
                      unfold opG
                      go_simp
                      first | exact resG_eq_mk _ _ _ | rfl
                    simp only [Act.put, List.setIfInBounds_toArray, List.set_cons_zero, List.set_cons_succ]
                    apply wpG_eq
                    · intro W hW hs
                      unfold opG
                      go_simp
                      first | exact resG_eq_mk _ _ _ | rfl
                    simp only [Act.put, List.setIfInBounds_toArray, List.set_cons_zero, List.set_cons_succ]
                    apply wpG_eq
                    · intro W hW hs
                      unfold opG
                      go_simp
                      first | exact resG_eq_mk _ _ _ | rfl
                    simp only [Act.put, List.setIfInBounds_toArray, List.set_cons_zero, List.set_cons_succ]
                    apply wpG_eq
                    · intro W hW hs
                      unfold opG
                      go_simp
                      first | exact resG_eq_mk _ _ _ | rfl
                    simp only [Act.put, List.setIfInBounds_toArray, List.set_cons_zero, List.set_cons_succ]
                    apply wpG_eq
                    · intro W hW hs
                      unfold opG
                      go_simp
                      first | exact resG_eq_mk _ _ _ | rfl
                    simp only [Act.put, List.setIfInBounds_toArray, List.set_cons_zero, List.set_cons_succ]
                    apply wpG_eq
                    · intro W hW hs
                      obtain ⟨t0, t1, t2, t3⟩ := T.out W (Gr.trans ((Gr.refl wr).drew) hW)
                      unfold opG
                      go_simp
                      first | exact resG_eq_mk _ _ _ | rfl
                    simp only [Act.put, List.setIfInBounds_toArray, List.set_cons_zero, List.set_cons_succ]
                    apply wpG_eq
                    · intro W hW hs
                      obtain ⟨t0, t1, t2, t3⟩ := TC.out W (Gr.trans ((Gr.refl wr).drew) hW)
                      unfold opG
                      go_simp
                      first | exact resG_eq_mk _ _ _ | rfl
                    simp only [Act.put, List.setIfInBounds_toArray, List.set_cons_zero, List.set_cons_succ]
                    apply wpG_eq
                    · intro W hW hs
                      unfold opG
                      go_simp
                      rw [HE3.out W]
                      exact ⟨Gr.refl _, rfl⟩
                    simp only [Act.put, List.setIfInBounds_toArray, List.set_cons_zero, List.set_cons_succ]
                    apply wpG_eq
                    · intro W hW hs
                      unfold opG
                      go_simp
                      first | exact resG_eq_mk _ _ _ | rfl
                    simp only [Act.put, List.setIfInBounds_toArray, List.set_cons_zero, List.set_cons_succ]
                    apply wpG_eq
                    · intro W hW hs
                      unfold opG
                      go_simp
                      first | exact resG_eq_mk _ _ _ | rfl
                    simp only [Act.put, List.setIfInBounds_toArray, List.set_cons_zero, List.set_cons_succ]
                    apply wpG_eq
                    · intro W hW hs
                      unfold opG
                      go_simp
                      first | exact resG_eq_mk _ _ _ | rfl
                    simp only [Act.put, List.setIfInBounds_toArray, List.set_cons_zero, List.set_cons_succ]
                    apply wpG_eq
                    · intro W hW hs
                      unfold opG
                      go_simp
                      first | exact resG_eq_mk _ _ _ | rfl
                    simp only [Act.put, List.setIfInBounds_toArray, List.set_cons_zero, List.set_cons_succ]
                    apply wpG_eq
                    · intro W hW hs
                      unfold opG
                      go_simp
                      first | exact resG_eq_mk _ _ _ | rfl
                    simp only [Act.put, List.setIfInBounds_toArray, List.set_cons_zero, List.set_cons_succ]
                    apply wpG_eq
                    · intro W hW hs
                      unfold opG
                      go_simp
                      first | exact resG_eq_mk _ _ _ | rfl
                    simp only [Act.put, List.setIfInBounds_toArray, List.set_cons_zero, List.set_cons_succ]
                    apply wpG_eq
                    · intro W hW hs
                      unfold opG
                      go_simp
                      first | exact resG_eq_mk _ _ _ | rfl
                    simp only [Act.put, List.setIfInBounds_toArray, List.set_cons_zero, List.set_cons_succ]
                    apply wpG_eq
                    · intro W hW hs
                      unfold opG
                      go_simp
                      first | exact resG_eq_mk _ _ _ | rfl
                    simp only [Act.put, List.setIfInBounds_toArray, List.set_cons_zero, List.set_cons_succ]
                    apply wpG_eq
                    · intro W hW hs
                      unfold opG
                      go_simp
                      first | exact resG_eq_mk _ _ _ | rfl
                    simp only [Act.put, List.setIfInBounds_toArray, List.set_cons_zero, List.set_cons_succ]
                    apply wpG_eq
                    · intro W hW hs
                      unfold opG
                      go_simp
                      first | exact resG_eq_mk _ _ _ | rfl
                    simp only [Act.put, List.setIfInBounds_toArray, List.set_cons_zero, List.set_cons_succ]
                    apply wpG_eq
                    · intro W hW hs
                      unfold opG
                      go_simp
                      first | exact resG_eq_mk _ _ _ | rfl
                    simp only [Act.put, List.setIfInBounds_toArray, List.set_cons_zero, List.set_cons_succ]
                    apply wpG_nil
                    intro wq hWq hsAll
                    have gq : Gr wr wq := Gr.trans ((Gr.refl wr).drew) hWq
                    clear hsAll hWq
                    go_wp2
                    go_meet
                    exact ⟨by rw [HR.out]; rfl, gq⟩
              | false =>
                cases e3 with
                | true =>
                  cases e4 with
                  | true =>
                    apply wp_region_draw_grow (.eq _ :: .eq _ :: .eq _ :: .eq _ :: .eq _ :: .eq _ :: .eq _ :: .eq _ :: .eq _ :: .eq _ :: .eq _ :: .eq _ :: .eq _ :: .eq _ :: .eq _ :: .eq _ :: .eq _ :: .eq _ :: .eq _ :: .eq _ :: .eq _ :: .eq _ :: .eq _ :: .eq _ :: .eq _ :: .eq _ :: .eq _ :: .eq _ :: .eq _ :: .eq _ :: .eq _ :: .eq _ :: .eq _ :: .eq _ :: .eq _ :: []) (by kernel_rfl) (by kernel_rfl) trivial
                    apply wpG_eq
                    · intro W hW hs
                      unfold opG
                      go_simp
                      first | exact resG_eq_mk _ _ _ | rfl
                    simp only [Act.put, List.setIfInBounds_toArray, List.set_cons_zero, List.set_cons_succ]
                    apply wpG_eq
                    · intro W hW hs
                      unfold opG
                      go_simp
                      first | exact resG_eq_mk _ _ _ | rfl
                    simp only [Act.put, List.setIfInBounds_toArray, List.set_cons_zero, List.set_cons_succ]
                    apply wpG_eq
                    · intro W hW hs
                      unfold opG
                      go_simp
                      first | exact resG_eq_mk _ _ _ | rfl
                    simp only [Act.put, List.setIfInBounds_toArray, List.set_cons_zero, List.set_cons_succ]
                    apply wpG_eq
                    · intro W hW hs
                      unfold opG
                      go_simp
                      first | exact resG_eq_mk _ _ _ | rfl
                    simp only [Act.put, List.setIfInBounds_toArray, List.set_cons_zero, List.set_cons_succ]
                    apply wpG_eq
                    · intro W hW hs
                      obtain ⟨t0, t1, t2, t3⟩ := T.out W (Gr.trans ((Gr.refl wr).drew) hW)
                      unfold opG
                      go_simp
                      first | exact resG_eq_mk _ _ _ | rfl
                    simp only [Act.put, List.setIfInBounds_toArray, List.set_cons_zero, List.set_cons_succ]
                    apply wpG_eq
                    · intro W hW hs
                      obtain ⟨t0, t1, t2, t3⟩ := TC.out W (Gr.trans ((Gr.refl wr).drew) hW)
                      unfold opG
                      go_simp
                      first | exact resG_eq_mk _ _ _ | rfl
                    simp only [Act.put, List.setIfInBounds_toArray, List.set_cons_zero, List.set_cons_succ]
                    apply wpG_eq
                    · intro W hW hs
                      unfold opG
                      go_simp
                      rw [HE1.out W]
                      exact ⟨Gr.refl _, rfl⟩
                    simp only [Act.put, List.setIfInBounds_toArray, List.set_cons_zero, List.set_cons_succ]
                    apply wpG_eq
                    · intro W hW hs
                      unfold opG
                      go_simp
                      first | exact resG_eq_mk _ _ _ | rfl
                    simp only [Act.put, List.setIfInBounds_toArray, List.set_cons_zero, List.set_cons_succ]
                    apply wpG_eq
                    · intro W hW hs
                      unfold opG
                      go_simp
                      first | exact resG_eq_mk _ _ _ | rfl
                    simp only [Act.put, List.setIfInBounds_toArray, List.set_cons_zero, List.set_cons_succ]
                    apply wpG_eq
                    · intro W hW hs
                      unfold opG
                      go_simp
                      first | exact resG_eq_mk _ _ _ | rfl
                    simp only [Act.put, List.setIfInBounds_toArray, List.set_cons_zero, List.set_cons_succ]
                    apply wpG_eq
                    · intro W hW hs
                      unfold opG
                      go_simp
                      first | exact resG_eq_mk _ _ _ | rfl
                    simp only [Act.put, List.setIfInBounds_toArray, List.set_cons_zero, List.set_cons_succ]
                    apply wpG_eq
                    · intro W hW hs
                      unfold opG
                      go_simp
                      first | exact resG_eq_mk _ _ _ | rfl
                    simp only [Act.put, List.setIfInBounds_toArray, List.set_cons_zero, List.set_cons_succ]
                    apply wpG_eq
                    · intro W hW hs
                      unfold opG
                      go_simp
                      first | exact resG_eq_mk _ _ _ | rfl
                    simp only [Act.put, List.setIfInBounds_toArray, List.set_cons_zero, List.set_cons_succ]
                    apply wpG_eq
                    · intro W hW hs
                      unfold opG
                      go_simp
                      first | exact resG_eq_mk _ _ _ | rfl
                    simp only [Act.put, List.setIfInBounds_toArray, List.set_cons_zero, List.set_cons_succ]
                    apply wpG_eq
                    · intro W hW hs
                      unfold opG
                      go_simp
                      first | exact resG_eq_mk _ _ _ | rfl
                    simp only [Act.put, List.setIfInBounds_toArray, List.set_cons_zero, List.set_cons_succ]
                    apply wpG_eq
                    · intro W hW hs
                      unfold opG
                      go_simp
                      first | exact resG_eq_mk _ _ _ | rfl
                    simp only [Act.put, List.setIfInBounds_toArray, List.set_cons_zero, List.set_cons_succ]
                    apply wpG_eq
                    · intro W hW hs
                      unfold opG
                      go_simp
                      first | exact resG_eq_mk _ _ _ | rfl
                    simp only [Act.put, List.setIfInBounds_toArray, List.set_cons_zero, List.set_cons_succ]
                    apply wpG_eq
                    · intro W hW hs
                      unfold opG
                      go_simp
                      first | exact resG_eq_mk _ _ _ | rfl
                    simp only [Act.put, List.setIfInBounds_toArray, List.set_cons_zero, List.set_cons_succ]
                    apply wpG_eq
                    · intro W hW hs
                      unfold opG
                      go_simp
                      first | exact resG_eq_mk _ _ _ | rfl
                    simp only [Act.put, List.setIfInBounds_toArray, List.set_cons_zero, List.set_cons_succ]
                    apply wpG_eq
                    · intro W hW hs
                      unfold opG
                      go_simp
                      first | exact resG_eq_mk _ _ _ | rfl
                    simp only [Act.put, List.setIfInBounds_toArray, List.set_cons_zero, List.set_cons_succ]
                    apply wpG_eq
                    · intro W hW hs
                      unfold opG
                      go_simp
                      first | exact resG_eq_mk _ _ _ | rfl
                    simp only [Act.put, List.setIfInBounds_toArray, List.set_cons_zero, List.set_cons_succ]
                    apply wpG_eq
                    · intro W hW hs
                      obtain ⟨t0, t1, t2, t3⟩ := T.out W (Gr.trans ((Gr.refl wr).drew) hW)
                      unfold opG
                      go_simp
                      first | exact resG_eq_mk _ _ _ | rfl
                    simp only [Act.put, List.setIfInBounds_toArray, List.set_cons_zero, List.set_cons_succ]
                    apply wpG_eq
                    · intro W hW hs
                      obtain ⟨t0, t1, t2, t3⟩ := TC.out W (Gr.trans ((Gr.refl wr).drew) hW)
                      unfold opG
                      go_simp
                      first | exact resG_eq_mk _ _ _ | rfl
                    simp only [Act.put, List.setIfInBounds_toArray, List.set_cons_zero, List.set_cons_succ]
                    apply wpG_eq
                    · intro W hW hs
                      unfold opG
                      go_simp
                      rw [HE3.out W]
                      exact ⟨Gr.refl _, rfl⟩
                    simp only [Act.put, List.setIfInBounds_toArray, List.set_cons_zero, List.set_cons_succ]
                    apply wpG_eq
                    · intro W hW hs
                      unfold opG
                      go_simp
                      first | exact resG_eq_mk _ _ _ | rfl
                    simp only [Act.put, List.setIfInBounds_toArray, List.set_cons_zero, List.set_cons_succ]
                    apply wpG_eq
                    · intro W hW hs
                      unfold opG
                      go_simp
                      first | exact resG_eq_mk _ _ _ | rfl
                    simp only [Act.put, List.setIfInBounds_toArray, List.set_cons_zero, List.set_cons_succ]
                    apply wpG_eq
                    · intro W hW hs
                      unfold opG
                      go_simp
                      first | exact resG_eq_mk _ _ _ | rfl
                    simp only [Act.put, List.setIfInBounds_toArray, List.set_cons_zero, List.set_cons_succ]
                    apply wpG_eq
                    · intro W hW hs
                      unfold opG
                      go_simp
                      first | exact resG_eq_mk _ _ _ | rfl
                    simp only [Act.put, List.setIfInBounds_toArray, List.set_cons_zero, List.set_cons_succ]
                    apply wpG_eq
                    · intro W hW hs
                      unfold opG
                      go_simp
                      first | exact resG_eq_mk _ _ _ | rfl
                    simp only [Act.put, List.setIfInBounds_toArray, List.set_cons_zero, List.set_cons_succ]
                    apply wpG_eq
                    · intro W hW hs
                      obtain ⟨t0, t1, t2, t3⟩ := T.out W (Gr.trans ((Gr.refl wr).drew) hW)
                      unfold opG
                      go_simp
                      first | exact resG_eq_mk _ _ _ | rfl
                    simp only [Act.put, List.setIfInBounds_toArray, List.set_cons_zero, List.set_cons_succ]
                    apply wpG_eq
                    · intro W hW hs
                      obtain ⟨t0, t1, t2, t3⟩ := TC.out W (Gr.trans ((Gr.refl wr).drew) hW)
                      unfold opG
                      go_simp
                      first | exact resG_eq_mk _ _ _ | rfl
                    simp only [Act.put, List.setIfInBounds_toArray, List.set_cons_zero, List.set_cons_succ]
                    apply wpG_eq
                    · intro W hW hs
                      unfold opG
                      go_simp
                      rw [HE4.out W]
                      exact ⟨Gr.refl _, rfl⟩
                    simp only [Act.put, List.setIfInBounds_toArray, List.set_cons_zero, List.set_cons_succ]
                    apply wpG_eq
                    · intro W hW hs
                      unfold opG
                      go_simp
                      first | exact resG_eq_mk _ _ _ | rfl
                    simp only [Act.put, List.setIfInBounds_toArray, List.set_cons_zero, List.set_cons_succ]
                    apply wpG_eq
                    · intro W hW hs
                      unfold opG
                      go_simp
                      first | exact resG_eq_mk _ _ _ | rfl
                    simp only [Act.put, List.setIfInBounds_toArray, List.set_cons_zero, List.set_cons_succ]
                    apply wpG_eq
                    · intro W hW hs
                      unfold opG
                      go_simp
                      first | exact resG_eq_mk _ _ _ | rfl
                    simp only [Act.put, List.setIfInBounds_toArray, List.set_cons_zero, List.set_cons_succ]
                    apply wpG_nil
                    intro wq hWq hsAll
                    have gq : Gr wr wq := Gr.trans ((Gr.refl wr).drew) hWq
                    clear hsAll hWq
                    go_wp2
                    go_meet
                    exact ⟨by rw [HR.out]; rfl, gq⟩
                  | false =>
                    apply wp_region_draw_grow (.eq _ :: .eq _ :: .eq _ :: .eq _ :: .eq _ :: .eq _ :: .eq _ :: .eq _ :: .eq _ :: .eq _ :: .eq _ :: .eq _ :: .eq _ :: .eq _ :: .eq _ :: .eq _ :: .eq _ :: .eq _ :: .eq _ :: .eq _ :: .eq _ :: .eq _ :: .eq _ :: .eq _ :: .eq _ :: .eq _ :: .eq _ :: .eq _ :: .eq _ :: .eq _ :: .eq _ :: .eq _ :: .eq _ :: .eq _ :: .eq _ :: []) (by kernel_rfl) (by kernel_rfl) trivial
                    apply wpG_eq
                    · intro W hW hs
                      unfold opG
                      go_simp
                      first | exact resG_eq_mk _ _ _ | rfl
                    simp only [Act.put, List.setIfInBounds_toArray, List.set_cons_zero, List.set_cons_succ]
                    apply wpG_eq
                    · intro W hW hs
                      unfold opG
                      go_simp
                      first | exact resG_eq_mk _ _ _ | rfl
                    simp only [Act.put, List.setIfInBounds_toArray, List.set_cons_zero, List.set_cons_succ]
                    apply wpG_eq
                    · intro W hW hs
                      unfold opG
                      go_simp
                      first | exact resG_eq_mk _ _ _ | rfl
                    simp only [Act.put, List.setIfInBounds_toArray, List.set_cons_zero, List.set_cons_succ]
                    apply wpG_eq
                    · intro W hW hs
                      unfold opG
                      go_simp
                      first | exact resG_eq_mk _ _ _ | rfl
                    simp only [Act.put, List.setIfInBounds_toArray, List.set_cons_zero, List.set_cons_succ]
                    apply wpG_eq
                    · intro W hW hs
                      obtain ⟨t0, t1, t2, t3⟩ := T.out W (Gr.trans ((Gr.refl wr).drew) hW)
                      unfold opG
                      go_simp
                      first | exact resG_eq_mk _ _ _ | rfl
                    simp only [Act.put, List.setIfInBounds_toArray, List.set_cons_zero, List.set_cons_succ]
                    apply wpG_eq
                    · intro W hW hs
                      obtain ⟨t0, t1, t2, t3⟩ := TC.out W (Gr.trans ((Gr.refl wr).drew) hW)
                      unfold opG
                      go_simp
                      first | exact resG_eq_mk _ _ _ | rfl
                    simp only [Act.put, List.setIfInBounds_toArray, List.set_cons_zero, List.set_cons_succ]
                    apply wpG_eq
                    · intro W hW hs
                      unfold opG
                      go_simp
                      rw [HE1.out W]
                      exact ⟨Gr.refl _, rfl⟩
                    simp only [Act.put, List.setIfInBounds_toArray, List.set_cons_zero, List.set_cons_succ]
                    apply wpG_eq
                    · intro W hW hs
                      unfold opG
                      go_simp
                      first | exact resG_eq_mk _ _ _ | rfl
                    simp only [Act.put, List.setIfInBounds_toArray, List.set_cons_zero, List.set_cons_succ]
                    apply wpG_eq
                    · intro W hW hs
                      unfold opG
                      go_simp
                      first | exact resG_eq_mk _ _ _ | rfl
                    simp only [Act.put, List.setIfInBounds_toArray, List.set_cons_zero, List.set_cons_succ]
                    apply wpG_eq
                    · intro W hW hs
                      unfold opG
                      go_simp
                      first | exact resG_eq_mk _ _ _ | rfl
                    simp only [Act.put, List.setIfInBounds_toArray, List.set_cons_zero, List.set_cons_succ]
                    apply wpG_eq
                    · intro W hW hs
                      unfold opG
                      go_simp
                      first | exact resG_eq_mk _ _ _ | rfl
                    simp only [Act.put, List.setIfInBounds_toArray, List.set_cons_zero, List.set_cons_succ]
                    apply wpG_eq
                    · intro W hW hs
                      unfold opG
                      go_simp
                      first | exact resG_eq_mk _ _ _ | rfl
                    simp only [Act.put, List.setIfInBounds_toArray, List.set_cons_zero, List.set_cons_succ]
                    apply wpG_eq
                    · intro W hW hs
                      unfold opG
                      go_simp
                      first | exact resG_eq_mk _ _ _ | rfl
                    simp only [Act.put, List.setIfInBounds_toArray, List.set_cons_zero, List.set_cons_succ]
                    apply wpG_eq
                    · intro W hW hs
                      unfold opG
                      go_simp
                      first | exact resG_eq_mk _ _ _ | rfl
                    simp only [Act.put, List.setIfInBounds_toArray, List.set_cons_zero, List.set_cons_succ]
                    apply wpG_eq
                    · intro W hW hs
                      unfold opG
                      go_simp
                      first | exact resG_eq_mk _ _ _ | rfl
                    simp only [Act.put, List.setIfInBounds_toArray, List.set_cons_zero, List.set_cons_succ]
                    apply wpG_eq
                    · intro W hW hs
                      unfold opG
                      go_simp
                      first | exact resG_eq_mk _ _ _ | rfl
                    simp only [Act.put, List.setIfInBounds_toArray, List.set_cons_zero, List.set_cons_succ]
                    apply wpG_eq
                    · intro W hW hs
                      unfold opG
                      go_simp
                      first | exact resG_eq_mk _ _ _ | rfl
                    simp only [Act.put, List.setIfInBounds_toArray, List.set_cons_zero, List.set_cons_succ]
                    apply wpG_eq
                    · intro W hW hs
                      unfold opG
                      go_simp
                      first | exact resG_eq_mk _ _ _ | rfl
                    simp only [Act.put, List.setIfInBounds_toArray, List.set_cons_zero, List.set_cons_succ]
                    apply wpG_eq
                    · intro W hW hs
                      unfold opG
                      go_simp
                      first | exact resG_eq_mk _ _ _ | rfl
                    simp only [Act.put, List.setIfInBounds_toArray, List.set_cons_zero, List.set_cons_succ]
                    apply wpG_eq
                    · intro W hW hs
                      unfold opG
                      go_simp
                      first | exact resG_eq_mk _ _ _ | rfl
                    simp only [Act.put, List.setIfInBounds_toArray, List.set_cons_zero, List.set_cons_succ]
                    apply wpG_eq
                    · intro W hW hs
                      unfold opG
                      go_simp
                      first | exact resG_eq_mk _ _ _ | rfl
                    simp only [Act.put, List.setIfInBounds_toArray, List.set_cons_zero, List.set_cons_succ]
                    apply wpG_eq
                    · intro W hW hs
                      obtain ⟨t0, t1, t2, t3⟩ := T.out W (Gr.trans ((Gr.refl wr).drew) hW)
                      unfold opG
                      go_simp
                      first | exact resG_eq_mk _ _ _ | rfl
                    simp only [Act.put, List.setIfInBounds_toArray, List.set_cons_zero, List.set_cons_succ]
                    apply wpG_eq
                    · intro W hW hs
                      obtain ⟨t0, t1, t2, t3⟩ := TC.out W (Gr.trans ((Gr.refl wr).drew) hW)
                      unfold opG
                      go_simp
                      first | exact resG_eq_mk _ _ _ | rfl
                    simp only [Act.put, List.setIfInBounds_toArray, List.set_cons_zero, List.set_cons_succ]
                    apply wpG_eq
                    · intro W hW hs
                      unfold opG
                      go_simp
                      rw [HE3.out W]
                      exact ⟨Gr.refl _, rfl⟩
                    simp only [Act.put, List.setIfInBounds_toArray, List.set_cons_zero, List.set_cons_succ]
                    apply wpG_eq
                    · intro W hW hs
                      unfold opG
                      go_simp
                      first | exact resG_eq_mk _ _ _ | rfl
                    simp only [Act.put, List.setIfInBounds_toArray, List.set_cons_zero, List.set_cons_succ]
                    apply wpG_eq
                    · intro W hW hs
                      unfold opG
                      go_simp
                      first | exact resG_eq_mk _ _ _ | rfl
                    simp only [Act.put, List.setIfInBounds_toArray, List.set_cons_zero, List.set_cons_succ]
                    apply wpG_eq
                    · intro W hW hs
                      unfold opG
                      go_simp
                      first | exact resG_eq_mk _ _ _ | rfl
                    simp only [Act.put, List.setIfInBounds_toArray, List.set_cons_zero, List.set_cons_succ]
                    apply wpG_eq
                    · intro W hW hs
                      unfold opG
                      go_simp
                      first | exact resG_eq_mk _ _ _ | rfl
                    simp only [Act.put, List.setIfInBounds_toArray, List.set_cons_zero, List.set_cons_succ]
                    apply wpG_eq
                    · intro W hW hs
                      unfold opG
                      go_simp
                      first | exact resG_eq_mk _ _ _ | rfl
                    simp only [Act.put, List.setIfInBounds_toArray, List.set_cons_zero, List.set_cons_succ]
                    apply wpG_eq
                    · intro W hW hs
                      obtain ⟨t0, t1, t2, t3⟩ := T.out W (Gr.trans ((Gr.refl wr).drew) hW)
                      unfold opG
                      go_simp
                      first | exact resG_eq_mk _ _ _ | rfl
                    simp only [Act.put, List.setIfInBounds_toArray, List.set_cons_zero, List.set_cons_succ]
                    apply wpG_eq
                    · intro W hW hs
                      obtain ⟨t0, t1, t2, t3⟩ := TC.out W (Gr.trans ((Gr.refl wr).drew) hW)
                      unfold opG
                      go_simp
                      first | exact resG_eq_mk _ _ _ | rfl
                    simp only [Act.put, List.setIfInBounds_toArray, List.set_cons_zero, List.set_cons_succ]
                    apply wpG_eq
                    · intro W hW hs
                      unfold opG
                      go_simp
                      rw [HE4.out W]
                      exact ⟨Gr.refl _, rfl⟩
                    simp only [Act.put, List.setIfInBounds_toArray, List.set_cons_zero, List.set_cons_succ]
                    apply wpG_eq
                    · intro W hW hs
                      unfold opG
                      go_simp
                      first | exact resG_eq_mk _ _ _ | rfl
                    simp only [Act.put, List.setIfInBounds_toArray, List.set_cons_zero, List.set_cons_succ]
                    apply wpG_eq
                    · intro W hW hs
                      unfold opG
                      go_simp
                      first | exact resG_eq_mk _ _ _ | rfl
                    simp only [Act.put, List.setIfInBounds_toArray, List.set_cons_zero, List.set_cons_succ]
                    apply wpG_eq
                    · intro W hW hs
                      unfold opG
                      go_simp
                      first | exact resG_eq_mk _ _ _ | rfl
                    simp only [Act.put, List.setIfInBounds_toArray, List.set_cons_zero, List.set_cons_succ]
                    apply wpG_nil
                    intro wq hWq hsAll
                    have gq : Gr wr wq := Gr.trans ((Gr.refl wr).drew) hWq
                    clear hsAll hWq
                    go_wp2
                    go_meet
                    exact ⟨by rw [HR.out]; rfl, gq⟩
                | false =>
                  apply wp_region_draw_grow (.eq _ :: .eq _ :: .eq _ :: .eq _ :: .eq _ :: .eq _ :: .eq _ :: .eq _ :: .eq _ :: .eq _ :: .eq _ :: .eq _ :: .eq _ :: .eq _ :: .eq _ :: .eq _ :: .eq _ :: .eq _ :: .eq _ :: .eq _ :: .eq _ :: .eq _ :: .eq _ :: .eq _ :: .eq _ :: .eq _ :: .eq _ :: .eq _ :: .eq _ :: .eq _ :: .eq _ :: .eq _ :: .eq _ :: .eq _ :: .eq _ :: []) (by kernel_rfl) (by kernel_rfl) trivial
                  apply wpG_eq
                  · intro W hW hs
                    unfold opG
                    go_simp
                    first | exact resG_eq_mk _ _ _ | rfl
                  simp only [Act.put, List.setIfInBounds_toArray, List.set_cons_zero, List.set_cons_succ]
                  apply wpG_eq
                  · intro W hW hs
                    unfold opG
                    go_simp
                    first | exact resG_eq_mk _ _ _ | rfl
                  simp only [Act.put, List.setIfInBounds_toArray, List.set_cons_zero, List.set_cons_succ]
                  apply wpG_eq
                  · intro W hW hs
                    unfold opG
                    go_simp
                    first | exact resG_eq_mk _ _ _ | rfl
                  simp only [Act.put, List.setIfInBounds_toArray, List.set_cons_zero, List.set_cons_succ]
                  apply wpG_eq
                  · intro W hW hs
                    unfold opG
                    go_simp
                    first | exact resG_eq_mk _ _ _ | rfl
                  simp only [Act.put, List.setIfInBounds_toArray, List.set_cons_zero, List.set_cons_succ]
                  apply wpG_eq
                  · intro W hW hs
                    obtain ⟨t0, t1, t2, t3⟩ := T.out W (Gr.trans ((Gr.refl wr).drew) hW)
                    unfold opG
                    go_simp
                    first | exact resG_eq_mk _ _ _ | rfl
                  simp only [Act.put, List.setIfInBounds_toArray, List.set_cons_zero, List.set_cons_succ]
                  apply wpG_eq
                  · intro W hW hs
                    obtain ⟨t0, t1, t2, t3⟩ := TC.out W (Gr.trans ((Gr.refl wr).drew) hW)
                    unfold opG
                    go_simp
                    first | exact resG_eq_mk _ _ _ | rfl
                  simp only [Act.put, List.setIfInBounds_toArray, List.set_cons_zero, List.set_cons_succ]
                  apply wpG_eq
                  · intro W hW hs
                    unfold opG
                    go_simp
                    rw [HE1.out W]
                    exact ⟨Gr.refl _, rfl⟩
                  simp only [Act.put, List.setIfInBounds_toArray, List.set_cons_zero, List.set_cons_succ]
                  apply wpG_eq
                  · intro W hW hs
                    unfold opG
                    go_simp
                    first | exact resG_eq_mk _ _ _ | rfl
                  simp only [Act.put, List.setIfInBounds_toArray, List.set_cons_zero, List.set_cons_succ]
                  apply wpG_eq
                  · intro W hW hs
                    unfold opG
                    go_simp
                    first | exact resG_eq_mk _ _ _ | rfl
                  simp only [Act.put, List.setIfInBounds_toArray, List.set_cons_zero, List.set_cons_succ]
                  apply wpG_eq
                  · intro W hW hs
                    unfold opG
                    go_simp
                    first | exact resG_eq_mk _ _ _ | rfl
                  simp only [Act.put, List.setIfInBounds_toArray, List.set_cons_zero, List.set_cons_succ]
                  apply wpG_eq
                  · intro W hW hs
                    unfold opG
                    go_simp
                    first | exact resG_eq_mk _ _ _ | rfl
                  simp only [Act.put, List.setIfInBounds_toArray, List.set_cons_zero, List.set_cons_succ]
                  apply wpG_eq
                  · intro W hW hs
                    unfold opG
                    go_simp
                    first | exact resG_eq_mk _ _ _ | rfl
                  simp only [Act.put, List.setIfInBounds_toArray, List.set_cons_zero, List.set_cons_succ]
                  apply wpG_eq
                  · intro W hW hs
                    unfold opG
                    go_simp
                    first | exact resG_eq_mk _ _ _ | rfl
                  simp only [Act.put, List.setIfInBounds_toArray, List.set_cons_zero, List.set_cons_succ]
                  apply wpG_eq
                  · intro W hW hs
                    unfold opG
                    go_simp
                    first | exact resG_eq_mk _ _ _ | rfl
                  simp only [Act.put, List.setIfInBounds_toArray, List.set_cons_zero, List.set_cons_succ]
                  apply wpG_eq
                  · intro W hW hs
                    unfold opG
                    go_simp
                    first | exact resG_eq_mk _ _ _ | rfl
                  simp only [Act.put, List.setIfInBounds_toArray, List.set_cons_zero, List.set_cons_succ]
                  apply wpG_eq
                  · intro W hW hs
                    unfold opG
                    go_simp
                    first | exact resG_eq_mk _ _ _ | rfl
                  simp only [Act.put, List.setIfInBounds_toArray, List.set_cons_zero, List.set_cons_succ]
                  apply wpG_eq
                  · intro W hW hs
                    unfold opG
                    go_simp
                    first | exact resG_eq_mk _ _ _ | rfl
                  simp only [Act.put, List.setIfInBounds_toArray, List.set_cons_zero, List.set_cons_succ]
                  apply wpG_eq
                  · intro W hW hs
                    unfold opG
                    go_simp
                    first | exact resG_eq_mk _ _ _ | rfl
                  simp only [Act.put, List.setIfInBounds_toArray, List.set_cons_zero, List.set_cons_succ]
                  apply wpG_eq
                  · intro W hW hs
                    unfold opG
                    go_simp
                    first | exact resG_eq_mk _ _ _ | rfl
                  simp only [Act.put, List.setIfInBounds_toArray, List.set_cons_zero, List.set_cons_succ]
                  apply wpG_eq
                  · intro W hW hs
                    unfold opG
                    go_simp
                    first | exact resG_eq_mk _ _ _ | rfl
                  simp only [Act.put, List.setIfInBounds_toArray, List.set_cons_zero, List.set_cons_succ]
                  apply wpG_eq
                  · intro W hW hs
                    unfold opG
                    go_simp
                    first | exact resG_eq_mk _ _ _ | rfl
                  simp only [Act.put, List.setIfInBounds_toArray, List.set_cons_zero, List.set_cons_succ]
                  apply wpG_eq
                  · intro W hW hs
                    obtain ⟨t0, t1, t2, t3⟩ := T.out W (Gr.trans ((Gr.refl wr).drew) hW)
                    unfold opG
                    go_simp
                    first | exact resG_eq_mk _ _ _ | rfl
                  simp only [Act.put, List.setIfInBounds_toArray, List.set_cons_zero, List.set_cons_succ]
                  apply wpG_eq
                  · intro W hW hs
                    obtain ⟨t0, t1, t2, t3⟩ := TC.out W (Gr.trans ((Gr.refl wr).drew) hW)
                    unfold opG
                    go_simp
                    first | exact resG_eq_mk _ _ _ | rfl
                  simp only [Act.put, List.setIfInBounds_toArray, List.set_cons_zero, List.set_cons_succ]
                  apply wpG_eq
                  · intro W hW hs
                    unfold opG
                    go_simp
                    rw [HE3.out W]
                    exact ⟨Gr.refl _, rfl⟩
                  simp only [Act.put, List.setIfInBounds_toArray, List.set_cons_zero, List.set_cons_succ]
                  apply wpG_eq
                  · intro W hW hs
                    unfold opG
                    go_simp
                    first | exact resG_eq_mk _ _ _ | rfl
                  simp only [Act.put, List.setIfInBounds_toArray, List.set_cons_zero, List.set_cons_succ]
                  apply wpG_eq
                  · intro W hW hs
                    unfold opG
                    go_simp
                    first | exact resG_eq_mk _ _ _ | rfl
                  simp only [Act.put, List.setIfInBounds_toArray, List.set_cons_zero, List.set_cons_succ]
                  apply wpG_eq
                  · intro W hW hs
                    unfold opG
                    go_simp
                    first | exact resG_eq_mk _ _ _ | rfl
                  simp only [Act.put, List.setIfInBounds_toArray, List.set_cons_zero, List.set_cons_succ]
                  apply wpG_eq
                  · intro W hW hs
                    unfold opG
                    go_simp
                    first | exact resG_eq_mk _ _ _ | rfl
                  simp only [Act.put, List.setIfInBounds_toArray, List.set_cons_zero, List.set_cons_succ]
                  apply wpG_eq
                  · intro W hW hs
                    unfold opG
                    go_simp
                    first | exact resG_eq_mk _ _ _ | rfl
                  simp only [Act.put, List.setIfInBounds_toArray, List.set_cons_zero, List.set_cons_succ]
                  apply wpG_eq
                  · intro W hW hs
                    unfold opG
                    go_simp
                    first | exact resG_eq_mk _ _ _ | rfl
                  simp only [Act.put, List.setIfInBounds_toArray, List.set_cons_zero, List.set_cons_succ]
                  apply wpG_eq
                  · intro W hW hs
                    unfold opG
                    go_simp
                    first | exact resG_eq_mk _ _ _ | rfl
                  simp only [Act.put, List.setIfInBounds_toArray, List.set_cons_zero, List.set_cons_succ]
                  apply wpG_eq
                  · intro W hW hs
                    unfold opG
                    go_simp
                    first | exact resG_eq_mk _ _ _ | rfl
                  simp only [Act.put, List.setIfInBounds_toArray, List.set_cons_zero, List.set_cons_succ]
                  apply wpG_eq
                  · intro W hW hs
                    unfold opG
                    go_simp
                    first | exact resG_eq_mk _ _ _ | rfl
                  simp only [Act.put, List.setIfInBounds_toArray, List.set_cons_zero, List.set_cons_succ]
                  apply wpG_eq
                  · intro W hW hs
                    unfold opG
                    go_simp
                    first | exact resG_eq_mk _ _ _ | rfl
                  simp only [Act.put, List.setIfInBounds_toArray, List.set_cons_zero, List.set_cons_succ]
                  apply wpG_eq
                  · intro W hW hs
                    unfold opG
                    go_simp
                    first | exact resG_eq_mk _ _ _ | rfl
                  simp only [Act.put, List.setIfInBounds_toArray, List.set_cons_zero, List.set_cons_succ]
                  apply wpG_nil
                  intro wq hWq hsAll
                  have gq : Gr wr wq := Gr.trans ((Gr.refl wr).drew) hWq
                  clear hsAll hWq
                  go_wp2
                  go_meet
                  exact ⟨by rw [HR.out]; rfl, gq⟩
            case rest =>
              obtain ⟨rfl, hcut⟩ := hcut
              have HO2 := Lib.hid (HO.out.go hcut)
              clear hcut HO T TC HE1 HE2 HE3 HE4 HR
              have hk9 : q < ls.length := by rw [← HL.out]; exact hlt
              cases r with
              | true =>
                go_wp2_with fail
                refine (two_take HO2.out (mn : Int) (fun x hx => (HSM.out x (midL_sub hx)).1) (r := (zl, 65, midL pa pb ls (q + 1))) (by rw [HMN.out, mid_take hk9 HLNK.out, HON.out]; rfl)).mono ?_
                rintro e w5 ⟨bx, rfl, hs5, hO5⟩
                obtain ⟨ax, cx, rfl, _⟩ := hs5.bytes
                rw [show letV ((zl, (65 : Int), midL pa pb ls (q + 1)) : LetD × Int × List LetD).1 (.slice ax ((zl, (65 : Int), midL pa pb ls (q + 1)) : LetD × Int × List LetD).1.b.length cx) = .agg #[.int .i64 0, .int .i64 0, .int .i64 0, .int .i64 0, .slice ax 0 cx] from rfl]
                have H5 : Hid (Two w0 w5 N M N' M' 1 (cutOne pa pb) (.slice (some ⟨B, o, Option.none⟩) L cv) (midL pa pb ls (q + 1)) ls ls) := Lib.hid hO5
                clear hs5 hO5 HO2
                go_upto_region 21 with fail
                obtain ⟨w6, hw6⟩ : ∃ w6, w6 = w5.alloc (.cells #[.int .i64 0, .int .i64 0, .int .i64 0, .int .i64 0, .slice ax 0 cx] 35) := ⟨_, rfl⟩
                have H6 := Lib.hid (H5.out.go (by rw [hw6]; exact (Gr.refl _).alloc _ : Gr w5 w6))
                rw [← hw6]
                clear hw6 H5
                apply wp_region_draw_grow (.eq _ :: .eq _ :: .eq _ :: .eq _ :: .eq _ :: .eq _ :: .eq _ :: .eq _ :: .eq _ :: .eq _ :: .eq _ :: .eq _ :: .eq _ :: .eq _ :: .eq _ :: .eq _ :: .eq _ :: .eq _ :: .eq _ :: .eq _ :: .eq _ :: .eq _ :: .eq _ :: []) (by kernel_rfl) (by kernel_rfl) trivial
                apply wpG_eq
                · intro W hW hs
                  unfold opG
                  go_simp
                  first | exact resG_eq_mk _ _ _ | rfl
                simp only [Act.put, List.setIfInBounds_toArray, List.set_cons_zero, List.set_cons_succ]
                apply wpG_eq
                · intro W hW hs
                  unfold opG
                  go_simp
                  first | exact resG_eq_mk _ _ _ | rfl
                simp only [Act.put, List.setIfInBounds_toArray, List.set_cons_zero, List.set_cons_succ]
                apply wpG_eq
                · intro W hW hs
                  unfold opG
                  go_simp
                  first | exact resG_eq_mk _ _ _ | rfl
                simp only [Act.put, List.setIfInBounds_toArray, List.set_cons_zero, List.set_cons_succ]
                apply wpG_eq
                · intro W hW hs
                  unfold opG
                  go_simp
                  first | exact resG_eq_mk _ _ _ | rfl
                simp only [Act.put, List.setIfInBounds_toArray, List.set_cons_zero, List.set_cons_succ]
                apply wpG_eq
                · intro W hW hs
                  unfold opG
                  go_simp
                  first | exact resG_eq_mk _ _ _ | rfl
                simp only [Act.put, List.setIfInBounds_toArray, List.set_cons_zero, List.set_cons_succ]
                apply wpG_eq
                · intro W hW hs
                  unfold opG
                  go_simp
                  first | exact resG_eq_mk _ _ _ | rfl
                simp only [Act.put, List.setIfInBounds_toArray, List.set_cons_zero, List.set_cons_succ]
                apply wpG_eq
                · intro W hW hs
                  unfold opG
                  go_simp
                  first | exact resG_eq_mk _ _ _ | rfl
                simp only [Act.put, List.setIfInBounds_toArray, List.set_cons_zero, List.set_cons_succ]
                apply wpG_eq
                · intro W hW hs
                  unfold opG
                  go_simp
                  first | exact resG_eq_mk _ _ _ | rfl
                simp only [Act.put, List.setIfInBounds_toArray, List.set_cons_zero, List.set_cons_succ]
                apply wpG_eq
                · intro W hW hs
                  unfold opG
                  go_simp
                  first | exact resG_eq_mk _ _ _ | rfl
                simp only [Act.put, List.setIfInBounds_toArray, List.set_cons_zero, List.set_cons_succ]
                apply wpG_eq
                · intro W hW hs
                  unfold opG
                  go_simp
                  first | exact resG_eq_mk _ _ _ | rfl
                simp only [Act.put, List.setIfInBounds_toArray, List.set_cons_zero, List.set_cons_succ]
                apply wpG_eq
                · intro W hW hs
                  unfold opG
                  go_simp
                  first | exact resG_eq_mk _ _ _ | rfl
                simp only [Act.put, List.setIfInBounds_toArray, List.set_cons_zero, List.set_cons_succ]
                apply wpG_eq
                · intro W hW hs
                  unfold opG
                  go_simp
                  first | exact resG_eq_mk _ _ _ | rfl
                simp only [Act.put, List.setIfInBounds_toArray, List.set_cons_zero, List.set_cons_succ]
                apply wpG_eq
                · intro W hW hs
                  unfold opG
                  go_simp
                  first | exact resG_eq_mk _ _ _ | rfl
                simp only [Act.put, List.setIfInBounds_toArray, List.set_cons_zero, List.set_cons_succ]
                apply wpG_eq
                · intro W hW hs
                  unfold opG
                  go_simp
                  first | exact resG_eq_mk _ _ _ | rfl
                simp only [Act.put, List.setIfInBounds_toArray, List.set_cons_zero, List.set_cons_succ]
                apply wpG_eq
                · intro W hW hs
                  unfold opG
                  go_simp
                  first | exact resG_eq_mk _ _ _ | rfl
                simp only [Act.put, List.setIfInBounds_toArray, List.set_cons_zero, List.set_cons_succ]
                apply wpG_eq
                · intro W hW hs
                  unfold opG
                  go_simp
                  first | exact resG_eq_mk _ _ _ | rfl
                simp only [Act.put, List.setIfInBounds_toArray, List.set_cons_zero, List.set_cons_succ]
                apply wpG_eq
                · intro W hW hs
                  unfold opG
                  go_simp
                  first | exact resG_eq_mk _ _ _ | rfl
                simp only [Act.put, List.setIfInBounds_toArray, List.set_cons_zero, List.set_cons_succ]
                apply wpG_eq
                · intro W hW hs
                  unfold opG
                  go_simp
                  first | exact resG_eq_mk _ _ _ | rfl
                simp only [Act.put, List.setIfInBounds_toArray, List.set_cons_zero, List.set_cons_succ]
                apply wpG_eq
                · intro W hW hs
                  unfold opG
                  go_simp
                  first | exact resG_eq_mk _ _ _ | rfl
                simp only [Act.put, List.setIfInBounds_toArray, List.set_cons_zero, List.set_cons_succ]
                apply wpG_eq
                · intro W hW hs
                  unfold opG
                  go_simp
                  first | exact resG_eq_mk _ _ _ | rfl
                simp only [Act.put, List.setIfInBounds_toArray, List.set_cons_zero, List.set_cons_succ]
                apply wpG_eq
                · intro W hW hs
                  unfold opG
                  go_simp
                  first | exact resG_eq_mk _ _ _ | rfl
                simp only [Act.put, List.setIfInBounds_toArray, List.set_cons_zero, List.set_cons_succ]
                apply wpG_eq
                · intro W hW hs
                  unfold opG
                  go_simp
                  first | exact resG_eq_mk _ _ _ | rfl
                simp only [Act.put, List.setIfInBounds_toArray, List.set_cons_zero, List.set_cons_succ]
                apply wpG_eq
                · intro W hW hs
                  unfold opG
                  go_simp
                  first | exact resG_eq_mk _ _ _ | rfl
                simp only [Act.put, List.setIfInBounds_toArray, List.set_cons_zero, List.set_cons_succ]
                apply wpG_nil
                intro wq hWq hsAll
                have H7 := Lib.hid (H6.out.go (Gr.trans ((Gr.refl w6).drew) hWq))
                clear hsAll hWq H6
                have hmn : Hid (midN pa pb ls (q + 1) = mn + 1) := Lib.hid (by rw [midN_succ hk9, HON.out, HMN.out]; rfl)
                have hm60 : mn ≤ 60 := by rw [HMN.out]; exact Nat.le_trans (midN_le pa pb ls q) (by omega)
                go_wp2
                exact ⟨⟨q + 1, by omega, by rw [hmn.out]; go_num, by go_num, H7.out⟩, by simp [intOf]; omega⟩
              | false =>
                go_wp2_with fail
                refine (two_take HO2.out (mn : Int) (fun x hx => (HSM.out x (midL_sub hx)).1) (r := ((⟨(x1, x2), (x3, x4), b⟩ : LetD), 0, midL pa pb ls (q + 1))) (by rw [HMN.out, mid_take hk9 HLNK.out, HON.out, ← HX.out]; rfl)).mono ?_
                rintro e w5 ⟨bx, rfl, hs5, hO5⟩
                have hs5' : Sl w5 bx (bytes b) := hs5
                obtain ⟨ax, cx, rfl, _⟩ := hs5'.bytes
                rw [show letV (((⟨(x1, x2), (x3, x4), b⟩ : LetD), (0 : Int), midL pa pb ls (q + 1)) : LetD × Int × List LetD).1 (.slice ax b.length cx) = .agg #[.int .i64 x1, .int .i64 x2, .int .i64 x3, .int .i64 x4, .slice ax b.length cx] from rfl]
                have H5 : Hid (Two w0 w5 N M N' M' 1 (cutOne pa pb) (.slice (some ⟨B, o, Option.none⟩) L cv) (midL pa pb ls (q + 1)) ls ls) := Lib.hid hO5
                have S5 := Lib.hid hs5'
                clear hs5 hs5' hO5 HO2
                go_upto_region 21 with fail
                obtain ⟨w6, hw6⟩ : ∃ w6, w6 = w5.alloc (.cells #[.int .i64 x1, .int .i64 x2, .int .i64 x3, .int .i64 x4, .slice ax b.length cx] 35) := ⟨_, rfl⟩
                have g6 : Gr w5 w6 := by rw [hw6]; exact (Gr.refl _).alloc _
                have C6 : Hid (CellsAt w6 w5.heap.size #[.int .i64 x1, .int .i64 x2, .int .i64 x3, .int .i64 x4, .slice ax b.length cx] 35) := Lib.hid (by rw [hw6]; exact CellsAt.new _ _ _)
                have H6 := Lib.hid (H5.out.go g6)
                have S6 := Lib.hid (S5.out.below g6)
                rw [← hw6]
                clear hw6 H5 S5 g6
                have HW1 : Hid (IntKind.i64.wrap ((q : Int) + 1) = (q : Int) + 1) := Lib.hid (by simp [IntKind.wrap, IntKind.bits, IntKind.signed]; omega)
                have hSub : Hid (∀ W, Gr w6 W → Lets W (.slice (some ⟨B, o + q * 5, Option.none⟩) 1 (cv - q)) [(⟨(x1, x2), (x3, x4), b⟩ : LetD)]) := Lib.hid fun W hW => by
                  have h9 := ((H6.out.go hW).reads).sub q hk9 (c' := cv - q) (by omega)
                  rw [← HX.out] at h9
                  exact h9
                have hcv : ¬ cv = q := by omega
                apply wp_region_draw_grow (.eq _ :: .eq _ :: .eq _ :: .eq _ :: .eq _ :: .eq _ :: .eq _ :: .eq _ :: .eq _ :: .eq _ :: .eq _ :: .eq _ :: .ok (RowL [(⟨(x1, x2), (x3, x4), b⟩ : LetD)]) :: .eq _ :: .eq _ :: .eq _ :: .eq _ :: .eq (.slice (some ⟨B, o + q * 5, Option.none⟩) 1 (cv - q)) :: .eq (.bool true) :: .eq _ :: .eq _ :: .eq _ :: .eq _ :: []) (by kernel_rfl) (by kernel_rfl) ⟨RowL.mono _, trivial⟩
                apply wpG_eq
                · intro W hW hs
                  unfold opG
                  go_simp
                  first | exact resG_eq_mk _ _ _ | rfl
                simp only [Act.put, List.setIfInBounds_toArray, List.set_cons_zero, List.set_cons_succ]
                apply wpG_eq
                · intro W hW hs
                  unfold opG
                  go_simp
                  first | exact resG_eq_mk _ _ _ | rfl
                simp only [Act.put, List.setIfInBounds_toArray, List.set_cons_zero, List.set_cons_succ]
                apply wpG_eq
                · intro W hW hs
                  unfold opG
                  go_simp
                  first | exact resG_eq_mk _ _ _ | rfl
                simp only [Act.put, List.setIfInBounds_toArray, List.set_cons_zero, List.set_cons_succ]
                apply wpG_eq
                · intro W hW hs
                  unfold opG
                  go_simp
                  first | exact resG_eq_mk _ _ _ | rfl
                simp only [Act.put, List.setIfInBounds_toArray, List.set_cons_zero, List.set_cons_succ]
                apply wpG_eq
                · intro W hW hs
                  unfold opG
                  go_simp
                  first | exact resG_eq_mk _ _ _ | rfl
                simp only [Act.put, List.setIfInBounds_toArray, List.set_cons_zero, List.set_cons_succ]
                apply wpG_eq
                · intro W hW hs
                  unfold opG
                  go_simp
                  first | exact resG_eq_mk _ _ _ | rfl
                simp only [Act.put, List.setIfInBounds_toArray, List.set_cons_zero, List.set_cons_succ]
                apply wpG_eq
                · intro W hW hs
                  unfold opG
                  go_simp
                  first | exact resG_eq_mk _ _ _ | rfl
                simp only [Act.put, List.setIfInBounds_toArray, List.set_cons_zero, List.set_cons_succ]
                apply wpG_eq
                · intro W hW hs
                  unfold opG
                  go_simp
                  first | exact resG_eq_mk _ _ _ | rfl
                simp only [Act.put, List.setIfInBounds_toArray, List.set_cons_zero, List.set_cons_succ]
                apply wpG_eq
                · intro W hW hs
                  unfold opG
                  go_simp
                  first | exact resG_eq_mk _ _ _ | rfl
                simp only [Act.put, List.setIfInBounds_toArray, List.set_cons_zero, List.set_cons_succ]
                apply wpG_eq
                · intro W hW hs
                  unfold opG
                  go_simp
                  first | exact resG_eq_mk _ _ _ | rfl
                simp only [Act.put, List.setIfInBounds_toArray, List.set_cons_zero, List.set_cons_succ]
                apply wpG_eq
                · intro W hW hs
                  unfold opG
                  go_simp
                  first | exact resG_eq_mk _ _ _ | rfl
                simp only [Act.put, List.setIfInBounds_toArray, List.set_cons_zero, List.set_cons_succ]
                apply wpG_eq
                · intro W hW hs
                  have p0 := hW.drew0 (C6.out.cell 0)
                  have p1 := hW.drew0 (C6.out.cell 1)
                  have p2 := hW.drew0 (C6.out.cell 2)
                  have p3 := hW.drew0 (C6.out.cell 3)
                  have p4 := hW.drew0 (C6.out.cell 4)
                  unfold opG
                  go_simp
                  first | exact resG_eq_mk _ _ _ | rfl
                simp only [Act.put, List.setIfInBounds_toArray, List.set_cons_zero, List.set_cons_succ]
                apply wpG_ok
                · intro W hW hs
                  unfold opG
                  go_simp
                  exact resG_mk ((Gr.refl W).alloc _) ⟨_, 1, rfl, Lets.one (CellsAt.new _ _ _) (S6.out.below (Gr.trans (Gr.trans ((Gr.refl w6).drew) hW) ((Gr.refl W).alloc _)))⟩
                intro vy
                simp only [Act.put, List.setIfInBounds_toArray, List.set_cons_zero, List.set_cons_succ]
                apply wpG_eq
                · intro W hW hs
                  unfold opG
                  go_simp
                  first | exact resG_eq_mk _ _ _ | rfl
                simp only [Act.put, List.setIfInBounds_toArray, List.set_cons_zero, List.set_cons_succ]
                apply wpG_eq
                · intro W hW hs
                  unfold opG
                  go_simp
                  first | exact resG_eq_mk _ _ _ | rfl
                simp only [Act.put, List.setIfInBounds_toArray, List.set_cons_zero, List.set_cons_succ]
                apply wpG_eq
                · intro W hW hs
                  unfold opG
                  go_simp
                  first | exact resG_eq_mk _ _ _ | rfl
                simp only [Act.put, List.setIfInBounds_toArray, List.set_cons_zero, List.set_cons_succ]
                apply wpG_eq
                · intro W hW hs
                  unfold opG
                  go_simp
                  rw [HW1.out]
                  exact ⟨Gr.refl _, rfl⟩
                simp only [Act.put, List.setIfInBounds_toArray, List.set_cons_zero, List.set_cons_succ]
                apply wpG_eq
                · intro W hW hs
                  unfold opG
                  go_simp
                  rw [if_pos ⟨by omega, by omega⟩]
                  exact ⟨Gr.refl _, rfl⟩
                simp only [Act.put, List.setIfInBounds_toArray, List.set_cons_zero, List.set_cons_succ]
                apply wpG_eq
                · intro W hW hs
                  have gW := Gr.trans ((Gr.refl w6).drew) hW
                  have h9 : RowL [(⟨(x1, x2), (x3, x4), b⟩ : LetD)] vy W := hs _ (.head _) rfl
                  have H9 : Hid (Lets W vy [(⟨(x1, x2), (x3, x4), b⟩ : LetD)]) := Lib.hid (by obtain ⟨_, _, _, h⟩ := h9; exact h)
                  clear h9 hs
                  unfold opG
                  go_simp
                  refine resG_call ((same_true W vy _ [(⟨(x1, x2), (x3, x4), b⟩ : LetD)] H9.out (hSub.out W gW) (by simp)).mono ?_)
                  rintro e W2 ⟨rfl, g2⟩
                  exact ⟨_, rfl, g2, rfl⟩
                simp only [Act.put, List.setIfInBounds_toArray, List.set_cons_zero, List.set_cons_succ]
                apply wpG_eq
                · intro W hW hs
                  unfold opG
                  go_simp
                  first | exact resG_eq_mk _ _ _ | rfl
                simp only [Act.put, List.setIfInBounds_toArray, List.set_cons_zero, List.set_cons_succ]
                apply wpG_eq
                · intro W hW hs
                  unfold opG
                  go_simp
                  first | exact resG_eq_mk _ _ _ | rfl
                simp only [Act.put, List.setIfInBounds_toArray, List.set_cons_zero, List.set_cons_succ]
                apply wpG_eq
                · intro W hW hs
                  unfold opG
                  go_simp
                  first | exact resG_eq_mk _ _ _ | rfl
                simp only [Act.put, List.setIfInBounds_toArray, List.set_cons_zero, List.set_cons_succ]
                apply wpG_eq
                · intro W hW hs
                  unfold opG
                  go_simp
                  first | exact resG_eq_mk _ _ _ | rfl
                simp only [Act.put, List.setIfInBounds_toArray, List.set_cons_zero, List.set_cons_succ]
                apply wpG_nil
                intro wq hWq hsAll
                have H7 := Lib.hid (H6.out.go (Gr.trans ((Gr.refl w6).drew) hWq))
                clear hsAll hWq H6 C6 S6 hSub
                have hmn : Hid (midN pa pb ls (q + 1) = mn) := Lib.hid (by rw [midN_succ hk9, HON.out, HMN.out]; rfl)
                go_wp2
                exact ⟨⟨q + 1, by omega, by rw [hmn.out], by go_num, H7.out⟩, by simp [intOf]; omega⟩
          · obtain rfl : q = L := by omega
            have hl9 : Hid ((midL pa pb ls q).length = mn) := Lib.hid (by rw [HMN.out, HL.out]; exact midL_end pa pb ls)
            go_wp2_with fail
            refine (two_len HO.out).mono ?_
            rintro e w5 ⟨rfl, hw5⟩
            subst w5
            rw [hl9.out]
            obtain ⟨b1, b2, b3, b4⟩ := TB.out _ HO.out.below
            go_wp2_with fail
            clear b1 b2 b3 b4
            refine (two_heal HO.out (by decide) pb pa HAB.out.2 HAB.out.1 (z := 0) (by unfold turnE; rw [linkV_swap, HLK.out]; rfl) (cut' := noCut pa pb) (by rw [linkV_swap, HLK.out]; rfl)).mono ?_
            rintro e w5 ⟨rfl, hO5⟩
            rw [noCut_all] at hO5
            have H5 := Lib.hid hO5
            have HOK : Hid (∀ l ∈ midL pa pb ls q, LetOk l) := Lib.hid fun l hl => (HSM.out l (midL_sub hl)).1
            clear hO5 HO
            obtain ⟨ls5, hls5⟩ : ∃ l, l = midL pa pb ls q := ⟨_, rfl⟩
            rw [← hls5] at H5 HOK
            clear hls5
            go_wp2
            go_loopw [18, 19] (fun s18 s19 W => ∃ ls', Two w0 W N M N' M' 2 (fun _ => false) (.slice av q cv) ls' ls ls ∧ ∀ l ∈ ls', LetOk l) (fun _ _ W => lenAt N W)
            case atStart => exact ⟨ls5, H5.out, HOK.out⟩
            case round =>
              clear H5 HOK
              obtain ⟨ls6, hO, hok⟩ := hrel
              have HO := Lib.hid hO
              have HOK := Lib.hid hok
              have HLA := Lib.hid (two_lenAt hO)
              clear hO hok
              cases ls6 with
              | nil =>
                go_wp2_with fail
                refine (two_len HO.out).mono ?_
                rintro e w6 ⟨rfl, hw6⟩
                subst w6
                rw [show (([] : List LetD).length : Int) = 0 from rfl]
                go_wp2_with fail
                refine (two_letters2 HO.out (fun l hl => Nat.le_trans (HSM.out l hl).2.1 (by decide))).mono ?_
                rintro e w6 ⟨va, rfl, hL6, g6⟩
                have H6 := Lib.hid (HO.out.go g6)
                have L6 := Lib.hid hL6
                clear hL6 g6 HO
                go_wp2_with fail
                refine (same_true _ va _ ls L6.out (by have h9 := H6.out.reads; exact h9) (Nat.le_trans (by rw [← HL.out]; exact HLEN.out) (by decide))).mono ?_
                rintro e w7 ⟨rfl, g7⟩
                have H7 := Lib.hid (H6.out.go g7)
                clear g7 H6 L6
                go_wp2_with fail
                refine (goes_any _).mono ?_
                rintro e w8 ⟨rfl, g8⟩
                have H8 := Lib.hid (H7.out.go g8)
                clear g8 H7
                go_wp2
                go_ret
                exact ⟨rfl, Below.trans G0.out (H8.out.below.mono G0.out.size)⟩
              | cons l6 tl =>
                go_wp2_with fail
                refine (two_len HO.out).mono ?_
                rintro e w6 ⟨rfl, hw6⟩
                subst w6
                have hlen9 : (0 : Int) < ((l6 :: tl).length : Int) := by simp only [List.length_cons]; omega
                obtain ⟨m9, hm9⟩ : ∃ m, m = (l6 :: tl).length := ⟨_, rfl⟩
                rw [← hm9] at hlen9 HLA ⊢
                have HM9 := Lib.hid hm9
                clear hm9
                go_wp2_with fail
                refine (two_take HO.out 0 HOK.out (takeV_front _ l6 tl)).mono ?_
                rintro e w6 ⟨bx, rfl, hs6, hO6⟩
                obtain ⟨ax, cx, rfl, _⟩ := hs6.bytes
                have H6 : Hid (Two w0 w6 N M N' M' 2 (fun _ => false) (.slice av q cv) tl ls ls) := Lib.hid hO6
                clear hs6 hO6 HO
                obtain ⟨bl, hbl⟩ : ∃ n, n = ((l6, (0 : Int), tl) : LetD × Int × List LetD).1.b.length := ⟨_, rfl⟩
                rw [← hbl]
                clear hbl
                obtain ⟨⟨y1, y2⟩, ⟨y3, y4⟩, yb⟩ := l6
                rw [show letV (((⟨(y1, y2), (y3, y4), yb⟩ : LetD), (0 : Int), tl) : LetD × Int × List LetD).1 (.slice ax bl cx) = .agg #[.int .i64 y1, .int .i64 y2, .int .i64 y3, .int .i64 y4, .slice ax bl cx] from rfl]
                have T6 : Hid (∀ W, Gr w6 W → (∃ ls', Two w0 W N M N' M' 2 (fun _ => false) (.slice av q cv) ls' ls ls ∧ ∀ l ∈ ls', LetOk l) ∧ lenAt N W < m9) := Lib.hid fun W g => by
                  have h9 := H6.out.go g
                  exact ⟨⟨tl, h9, fun l hl => HOK.out l (List.mem_cons_of_mem _ hl)⟩, by rw [two_lenAt h9, HM9.out]; simp⟩
                clear H6 HOK
                go_wp2
                rw [HLA.out]
                exact T6.out _ ((Gr.refl w6).alloc _)
      · simp only [Bool.not_eq_true] at hlk
        have hz0 : z = 1 := by rw [← hz]; unfold turnE; rw [hlk]; rfl
        rw [hlk] at hct
        subst hz0
        have H5 := Lib.hid hO5
        have HLK := Lib.hid hlk
        clear hO5 hz hlk HO
        obtain ⟨b1, b2, b3, b4⟩ := TB.out _ H5.out.below
        go_wp2_with fail
        clear b1 b2 b3 b4
        refine (two_cuts H5.out pa pb HAB.out.1 HAB.out.2 (r := false) (by unfold cutsV; rw [HLK.out]; rfl)).mono ?_
        rintro e w6 ⟨rfl, g6⟩
        have H6 := Lib.hid (H5.out.go g6)
        clear g6 H5
        go_wp2_with fail
        refine (goes_any _).mono ?_
        rintro e w7 ⟨rfl, g7⟩
        have H7 := Lib.hid (H6.out.go g7)
        clear g7 H6
        go_wp2
        go_ret
        exact ⟨rfl, Below.trans G0.out (H7.out.below.mono G0.out.size)⟩

open Go.ChangeShapes Go.WideShapes Go.ChangeAt Go.RowKit
open Go.ChangeMaps (open_string shut_string)
theorem own_netCuts : ownKnob Try.prog.godebug = none := by kernel_rfl
theorem laidOut_netCuts : laidOutB Try.prog = true := by kernel_rfl
set_option maxRecDepth 100000 in
theorem lifted_netCuts (os : Os) (started : os.Started) (H : Type) (enc : TypeId × Value → H) :
    ReturnsInHanded {} Try.checked os 4 .any (Rows.netCutsSpec.pre6 enc Try.prog Try.f4 Rows.netCutsRow.domain false) (Rows.netCutsSpec.post enc Try.prog Try.f4 false true false false) := by
  refine returnsInHanded_of_change (C := Try.checked) own_netCuts started (by kernel_rfl) Try.func4
    (ChangeSpec.witness6 (enc := enc) (C := Try.checked) false ⟨#[], #[.slice Option.none 0 0, .agg #[.int .i64 0, .int .i64 0], .agg #[.int .i64 0, .int .i64 0]], []⟩ 8 (by kernel_rfl) (by kernel_rfl) (by kernel_rfl) (by kernel_rfl)) ?_
  intro W base args ds gs before hval0 hW hcnd _
  have hval : ∀ (j : Nat) t v, Try.f4.params[j]? = some t → args[j]? = some v → Value.okWide Try.prog W .any base t v := hval0
  have hW' := hW
  obtain ⟨p, q, hA0, hV, rfl, hfz, hnd⟩ := hW
  have hA : DataW.TrodAll enc Try.prog W 0 (fun _ => true) true Try.f4.params.toList args.toList ds p := hA0
  rw [Try.params4] at hA hval
  obtain ⟨v0, vs0, d0, ds0, p0, q0, hargs, rfl, rfl, k0, r0⟩ := trodAll_cons hA
  obtain ⟨v1, vs1, d1, ds1, p1, q1, rfl, rfl, rfl, k1, r1⟩ := trodAll_cons r0
  obtain ⟨v2, vs2, d2, ds2, p2, q2, rfl, rfl, rfl, k2, r2⟩ := trodAll_cons r1
  obtain ⟨rfl, rfl, rfl⟩ := trodAll_nil r2
  obtain rfl : args = #[v0, v1, v2] := by cases args; simp_all
  obtain ⟨rfl, rfl⟩ := trodVars_none hV
  have lt0 : ∀ x ∈ p0, x.block < W.heap.size := by obtain ⟨m, hm⟩ := k0; exact DataW.trod_lt m _ _ _ hm
  have lt1 : ∀ x ∈ p1, x.block < W.heap.size := by obtain ⟨m, hm⟩ := k1; exact DataW.trod_lt m _ _ _ hm
  have lt2 : ∀ x ∈ p2, x.block < W.heap.size := by obtain ⟨m, hm⟩ := k2; exact DataW.trod_lt m _ _ _ hm
  obtain ⟨l0, s0, m0⟩ := open_acts (hval 0 22 v0 rfl rfl) k0
  obtain ⟨a1, rfl, o1⟩ := open_addr (hval 1 33 v1 rfl rfl) k1
  obtain ⟨a2, rfl, o2⟩ := open_addr (hval 2 33 v2 rfl rfl) k2
  clear hA0 hval0
  refine (cuts_walk W v0 l0 a1 a2 s0 m0 o1 o2  ).mono fun e W' ⟨he, bel⟩ => ?_
  subst he
  exact ⟨_, rfl, _, _, _, [], _, [], hW', trodAll_mk1 (shut_bool Try.underlying4 _), (trodAll_cons_mk (Below.trod laidOut_netCuts (by kernel_rfl) (of_decide_eq_true (by kernel_rfl)) k0 bel lt0) (trodAll_cons_mk (Below.trod laidOut_netCuts (by kernel_rfl) (of_decide_eq_true (by kernel_rfl)) k1 bel lt1) (trodAll_cons_mk (Below.trod laidOut_netCuts (by kernel_rfl) (of_decide_eq_true (by kernel_rfl)) k2 bel lt2) trodAll_mk0))), rfl, bel.frame _, fun h => by cases h⟩

theorem over_netCuts : Rows.netCutsRow.holds Try.pinned (OpenSpec.ofChange Rows.netCutsSpec) :=
  OpenClaim.holds_of_wide 4 Try.f4 rfl rfl rfl rfl rfl rfl rfl ⟨rfl, rfl, rfl, rfl, rfl⟩ rfl rfl rfl rfl rfl (by kernel_rfl) Try.func4 (by kernel_rfl)
    (of_decide_eq_true (by kernel_rfl)) (by unfold Func.isWrapper; first | (rw [if_pos (by decide +kernel)]; kernel_rfl) | (rw [if_neg (by decide +kernel)]; exact ⟨rfl, rfl⟩))
    (fun os started H enc _ => lifted_netCuts os started H enc)

theorem netCuts_proved : Rows.NetCutsSaid := over_netCuts
#print axioms netCuts_proved
end Go.Proofs.Ytcpkbngoecpnkaa
