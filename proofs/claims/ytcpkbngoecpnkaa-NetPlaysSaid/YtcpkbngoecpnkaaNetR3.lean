/-
  The document's net: Turn.
-/
import Derived.Test.YtcpkbngoecpnkaaNetR2
set_option linter.unusedVariables false
namespace Go.Proofs.Ytcpkbngoecpnkaa
open Go.RowKit

theorem info_pair : (Try.prog.info? 76).map (fun i => (i.zero, i.size, i.bytes)) = some (some (.agg #[.int .i64 0, .int .i64 0, .int .i64 0, .int .i64 0]), 4, 32) := by kernel_rfl
theorem run_append_pair {W : World} {base : Nat} {v : Value} {cs : List (AdD × AdD)} (h : OwnR W base 76 4 v (cs.map rowC)) (x : AdD × AdD) (Y : Nat) (hc : CellsAt W Y #[.int .i64 x.1.1, .int .i64 x.1.2, .int .i64 x.2.1, .int .i64 x.2.2] 76) (hl : cs.length ≤ 100000) (hB : base ≤ W.heap.size) :
    ∃ v' w', (Builtin.append_ #[55, 55] 55 #[v, .slice (some ⟨Y, 0, none⟩) 1 1]).run Try.prog W = .ok v' w' ∧ OwnR w' base 76 4 v' ((cs ++ [x]).map rowC) ∧ Ch (fun j => v.ownBlock = some j) W w' ∧ (v'.ownBlock = v.ownBlock ∨ ∃ j, v'.ownBlock = some j ∧ W.heap.size ≤ j) := by
  obtain ⟨i0, hi0, hz0, hz1, hz2⟩ := info_parts info_pair
  have hrow : Rows W (.slice (some ⟨Y, 0, none⟩) 1 1) 1 4 (fun _ j => (rowC x).getD j (.bool false)) := by
    refine ⟨_, 1, rfl, Nat.le_refl _, .inr ⟨Y, 0, rfl, hc.lt, fun i hi j hj => ?_⟩⟩
    have hi0 : i = 0 := by omega
    subst hi0
    have := hc.cell j
    simp only [Nat.zero_mul, Nat.zero_add]
    rw [this]
    have hj5 : j < (rowC x).length := by simpa [rowC] using hj
    show (rowC x).toArray[j]? = _
    simp [List.getElem?_eq_getElem hj5]
  obtain ⟨v', w', hr, h1, h2, h3, _⟩ := run_append_rows (P := Try.prog) W base 55 55 76 i0 _ 4 32 Try.underlying55 hi0 hz0 hz1 hz2 rfl v _ (cs.map rowC) [rowC x] h _ hrow
    (fun i hi => by
      have hi0 : i = 0 := by simpa using hi
      subst hi0
      exact ⟨rfl, fun j hj => by
        have hj2 : j < (rowC x).length := hj
        show (rowC x)[j] = (rowC x).getD j (.bool false)
        rw [List.getD_eq_getElem?_getD, List.getElem?_eq_getElem hj2, Option.getD_some]⟩)
    (fun r hr u hu => by
      rw [List.mem_singleton.1 hr] at hu
      simp only [rowC, List.mem_cons, List.not_mem_nil, or_false] at hu
      rcases hu with rfl | rfl | rfl | rfl <;> rfl)
    (by rw [List.length_map]; unfold maxLen; simp; omega) (by rw [List.length_map]; simp; omega) hB
  exact ⟨v', w', hr, by rw [List.map_append]; exact h1, Ch.of_grownBy h2 (fun k hk => hk), h3⟩
/-- A method of the document's net was done. -/
def RDid (w0 w : World) (Q : Nat) (sv lv cv : Value) (sizes : List Int) (ls : List LetD) (cuts : List (AdD × AdD)) (w' : World) : Prop :=
  ∃ lv' cv' ps', RNet w0 w' Q sv lv' cv' ps' cuts sizes ∧ ps'.map Prod.fst = ls ∧ Ch (refB Q lv cv) w w' ∧ (∀ j, lv'.ownBlock = some j → lv.ownBlock = some j ∨ w.heap.size ≤ j) ∧ ∀ j, cv'.ownBlock = some j → cv.ownBlock = some j ∨ w.heap.size ≤ j
section
variable {w0 w w' : World} {Q : Nat} {sv lv cv : Value} {ps : List (LetD × Value)} {cuts : List (AdD × AdD)} {sizes : List Int}
theorem RNet.QR (h : RNet w0 w Q sv lv cv ps cuts sizes) : lv.ownBlock ≠ some Q ∧ cv.ownBlock ≠ some Q := by
  refine ⟨fun e => ?_, fun e => ?_⟩
  · obtain ⟨cs', hc'⟩ := h.lets.cells Q e
    cases cells_type h.obj hc'
  · obtain ⟨cs', hc'⟩ := h.cuts.cellsC Q e
    cases cells_type h.obj hc'
/-- The pairs were stored anew. -/
theorem RNet.setC {cv' : Value} {cuts' : List (AdD × AdD)} (h : RNet w0 w Q sv lv cv ps cuts sizes) (h2 : OwnR w w0.heap.size 76 4 cv' (cuts'.map rowC)) :
    RNet w0 (w.setCell ⟨Q, 2, none⟩ cv') Q sv lv cv' ps cuts' sizes ∧ Ch (fun j => j = Q) w (w.setCell ⟨Q, 2, none⟩ cv') := by
  have gs := ch_setCell w Q 2 cv'
  have hQc : cv'.ownBlock ≠ some Q := fun e => by
    obtain ⟨cs', hc'⟩ := h2.cellsC Q e
    cases cells_type h.obj hc'
  have hk : Kb w (w.setCell ⟨Q, 2, none⟩ cv') := Kb.ch gs (fun j cs t fr hj hc => by
    have e : j = Q := hj
    subst e
    rw [cells_type hc h.obj]
    exact ⟨by decide, by decide⟩)
  refine ⟨⟨?_, h.szs, h.szl, h.lets.keep hk (fun j hj => gs.block j (h.lets.lt j hj).2 (fun e => h.QR.1 (by rw [← (show j = Q from e)]; exact hj))), h2.block (fun j hj => gs.block j (h2.lt j hj).2 (fun e => hQc (by rw [← (show j = Q from e)]; exact hj))), h.bQ, Below.trans h.gr (gs.below h.gr.size (fun k hk => by have e : k = Q := hk; have := h.bQ; omega))⟩, gs⟩
  have := h.obj.set 2 cv'
  exact this
end
def matchV (a b : AdD) (p : AdD × AdD) : Bool := decide (p.1 = a) && decide (p.2 = b) || decide (p.1 = b) && decide (p.2 = a)
def turnC (cuts : List (AdD × AdD)) (a b : AdD) (v : Bool) : List (AdD × AdD) := cuts.filter (fun p => !matchV a b p) ++ if v then [(a, b)] else []

set_option maxHeartbeats 0 in
set_option maxRecDepth 100000 in
/-- the document's Turn -/
theorem refturn_any {w0 w : World} {Q : Nat} {sv lv cv : Value} {ps : List (LetD × Value)} {cuts : List (AdD × AdD)} {sizes : List Int} (h : RNet w0 w Q sv lv cv ps cuts sizes) (hl : cuts.length ≤ 10000) (a b : AdD) (v : Bool) :
    Calls Try.prog 23 #[.pointer (some ⟨Q, 0, Option.none⟩), adV a, adV b, .bool v] w fun e w' => e = .returned (.int .i64 (turnE sizes a b)) ∧ RDid w0 w Q sv lv cv sizes (ps.map Prod.fst) (if linkV sizes a b then turnC cuts a b v else cuts) w' := by
  obtain ⟨a1, a2⟩ := a
  obtain ⟨b1, b2⟩ := b
  obtain ⟨ac, cc, rfl⟩ := h.capC
  obtain ⟨wb, hwb⟩ : ∃ wb, wb = (w.alloc (.cells #[.int .i64 a1, .int .i64 a2] 33)).alloc (.cells #[.int .i64 b1, .int .i64 b2] 33) := ⟨_, rfl⟩
  have gb : Gr w wb := by rw [hwb]; exact ((Gr.refl w).alloc _).alloc _
  have cA : CellsAt wb w.heap.size #[.int .i64 a1, .int .i64 a2] 33 := by rw [hwb]; exact (CellsAt.new _ _ _).gr ((Gr.refl _).alloc _)
  have cB : CellsAt wb (w.heap.size + 1) #[.int .i64 b1, .int .i64 b2] 33 := by rw [hwb]; exact CellsAt.newAt (w.alloc (.cells #[.int .i64 a1, .int .i64 a2] 33)) _ _ (by simp)
  have HD0 : Hid (∀ W, Gr w W → RDid w0 w Q sv lv (.slice ac cuts.length cc) sizes (ps.map Prod.fst) cuts W) := Lib.hid fun W g => ⟨lv, _, ps, h.go g, rfl, Ch.of_gr g, fun j hj => .inl hj, fun j hj => .inl hj⟩
  have H := Lib.hid (h.go gb)
  have HW := Lib.hid h
  obtain ⟨L, hL⟩ : ∃ L, L = cuts.length := ⟨_, rfl⟩
  rw [← hL] at H hl HD0 HW
  rw [← hL]
  have HL := Lib.hid hL
  have TB : Hid (∀ W, Gr wb W → W.cell? ⟨w.heap.size, 0, Option.none⟩ = some (.int .i64 a1) ∧ W.cell? ⟨w.heap.size, 1, Option.none⟩ = some (.int .i64 a2) ∧ W.cell? ⟨w.heap.size + 1, 0, Option.none⟩ = some (.int .i64 b1) ∧ W.cell? ⟨w.heap.size + 1, 1, Option.none⟩ = some (.int .i64 b2) ∧ W.cell? ⟨Q, 2, Option.none⟩ = some (.slice ac L cc)) :=
    Lib.hid fun W g => ⟨(cA.gr g).cell 0, (cA.gr g).cell 1, (cB.gr g).cell 0, (cB.gr g).cell 1, (H.out.obj.gr g).cell 2⟩
  have GB := Lib.hid gb
  obtain ⟨ok, hok⟩ : ∃ ok, ok = linkV sizes (a1, a2) (b1, b2) := ⟨_, rfl⟩
  have hte : turnE sizes (a1, a2) (b1, b2) = if ok then 0 else 1 := by unfold turnE; rw [hok]
  have HOK := Lib.hid hok
  rw [hte, ← hok]
  unfold adV
  clear h hL cA cB gb hok hte
  obtain ⟨y1, y2, y3, y4, y5⟩ := TB.out _ (Gr.refl _)
  go_enter Try.func23, Try.ntmps23
  go_upto_region 1 with fail
  rw [← hwb]
  clear hwb
  go_wp2_with fail
  clear y1 y2 y3 y4 y5
  refine (reflink_any wb Q sv sizes (a1, a2) (b1, b2) (H.out.obj.cell 0) (H.out.szs.below H.out.gr) (by have := H.out.szl; omega)).mono ?_
  rintro e w1 ⟨rfl, g1⟩
  rw [← HOK.out]
  have G1 := Lib.hid g1
  clear g1
  cases ok with
  | false =>
    have HF := Lib.hid (HD0.out _ (Gr.trans GB.out G1.out))
    go_wp2
    go_ret
    exact ⟨rfl, HF.out⟩
  | true =>
  clear HD0
  go_wp2
  go_loopw [9, 10, 11] (fun v9 i s11 W => ∃ k : Nat, k ≤ L ∧ i = .int .i64 k ∧ (∃ m c x, v9 = .slice x m c ∧ m = ((cuts.take k).filter (fun p => !matchV (a1, a2) (b1, b2) p)).length) ∧ OwnR W wb.heap.size 76 4 v9 (((cuts.take k).filter (fun p => !matchV (a1, a2) (b1, b2) p)).map rowC) ∧ Gr wb W) (fun _ i _ _ => L - (intOf i).toNat)
  case atStart => exact ⟨0, Nat.zero_le _, rfl, ⟨0, 0, none, rfl, rfl⟩, OwnR.nil _ _ _ _, G1.out⟩
  case round =>
    obtain ⟨k, hk, rfl, ⟨m9, c9, x9, rfl, hm9⟩, ho, hg⟩ := hrel
    have HO := Lib.hid ho
    have HM9 := Lib.hid hm9
    have HG := Lib.hid hg
    have hm9l : m9 ≤ 10000 := by rw [hm9]; exact Nat.le_trans (List.length_filter_le _ _) (by rw [List.length_take]; omega)
    clear ho hm9 hg
    obtain ⟨y1, y2, y3, y4, y5⟩ := TB.out _ HG.out
    by_cases hlt : k < L
    · skip
      have hkc : k < cuts.length := by rw [← HL.out]; exact hlt
      have hkr : k < (cuts.map rowC).length := by rw [List.length_map]; exact hkc
      obtain ⟨g, cap, e9, _, hgl, _, hcell⟩ := H.out.cuts.formN (by omega)
      injection e9 with e1 e2 e3
      subst e1 e3
      clear e2
      obtain ⟨x, hx⟩ : ∃ x, x = cuts[k] := ⟨_, rfl⟩
      have hr : (cuts.map rowC)[k] = rowC x := by rw [hx]; simp
      have hcc : ∀ j (hj : j < 4), wb.cell? ⟨g, k * 4 + j, none⟩ = (rowC x)[j]? := fun j hj => by
        rw [hcell k hkr j (by rw [hr]; exact hj), ← List.getElem?_eq_getElem, hr]
      have HX := Lib.hid hx
      clear hx hr hcell
      obtain ⟨⟨x1, x2⟩, ⟨x3, x4⟩⟩ := x
      have q0 : wr.cell? ⟨g, k * 4, none⟩ = some (.int .i64 x1) := HG.out.cellT (hcc 0 (by decide))
      have q1 : wr.cell? ⟨g, k * 4 + 1, none⟩ = some (.int .i64 x2) := HG.out.cellT (hcc 1 (by decide))
      have q2 : wr.cell? ⟨g, k * 4 + 2, none⟩ = some (.int .i64 x3) := HG.out.cellT (hcc 2 (by decide))
      have q3 : wr.cell? ⟨g, k * 4 + 3, none⟩ = some (.int .i64 x4) := HG.out.cellT (hcc 3 (by decide))
      have hk0 : (0 : Int) ≤ (k : Int) := by omega
      have hk1 : (k : Int) < (L : Int) := by omega
      go_upto_region 8 with fail
      obtain ⟨w2, hw2⟩ : ∃ w2, w2 = wr.alloc (.cells #[.int .i64 x1, .int .i64 x2, .int .i64 x3, .int .i64 x4] 76) := ⟨_, rfl⟩
      have g2 : Gr wr w2 := by rw [hw2]; exact (Gr.refl _).alloc _
      have c2 : CellsAt w2 wr.heap.size #[.int .i64 x1, .int .i64 x2, .int .i64 x3, .int .i64 x4] 76 := by rw [hw2]; exact CellsAt.new _ _ _
      rw [← hw2]
      clear q0 q1 q2 q3 hcc y1 y2 y3 y4 y5 hw2
      have C2 := Lib.hid c2
      have HG2 := Lib.hid (Gr.trans HG.out g2)
      have HO2 := Lib.hid (HO.out.block (w' := w2) (fun j hj => g2.block j (HO.out.lt j hj).2))
      clear c2 g2 HO HG
      obtain ⟨e1, he1⟩ : ∃ r, r = decide (((x1, x2) : AdD) = (a1, a2)) := ⟨_, rfl⟩
      have heq1 : (∀ W : World, (if x1 = a1 then if x2 = a2 then Result.ok (Next.value (Value.bool true)) W else Result.ok (Next.value (Value.bool false)) W else Result.ok (Next.value (Value.bool false)) W) = Result.ok (Next.value (.bool e1)) W) := fun W => by
        rw [he1]
        by_cases e1 : x1 = a1 <;> by_cases e2 : x2 = a2 <;> simp_all
      obtain ⟨e2, he2⟩ : ∃ r, r = decide (((x3, x4) : AdD) = (b1, b2)) := ⟨_, rfl⟩
      have heq2 : (∀ W : World, (if x3 = b1 then if x4 = b2 then Result.ok (Next.value (Value.bool true)) W else Result.ok (Next.value (Value.bool false)) W else Result.ok (Next.value (Value.bool false)) W) = Result.ok (Next.value (.bool e2)) W) := fun W => by
        rw [he2]
        by_cases e1 : x3 = b1 <;> by_cases e2 : x4 = b2 <;> simp_all
      obtain ⟨e3, he3⟩ : ∃ r, r = decide (((x1, x2) : AdD) = (b1, b2)) := ⟨_, rfl⟩
      have heq3 : (∀ W : World, (if x1 = b1 then if x2 = b2 then Result.ok (Next.value (Value.bool true)) W else Result.ok (Next.value (Value.bool false)) W else Result.ok (Next.value (Value.bool false)) W) = Result.ok (Next.value (.bool e3)) W) := fun W => by
        rw [he3]
        by_cases e1 : x1 = b1 <;> by_cases e2 : x2 = b2 <;> simp_all
      obtain ⟨e4, he4⟩ : ∃ r, r = decide (((x3, x4) : AdD) = (a1, a2)) := ⟨_, rfl⟩
      have heq4 : (∀ W : World, (if x3 = a1 then if x4 = a2 then Result.ok (Next.value (Value.bool true)) W else Result.ok (Next.value (Value.bool false)) W else Result.ok (Next.value (Value.bool false)) W) = Result.ok (Next.value (.bool e4)) W) := fun W => by
        rw [he4]
        by_cases e1 : x3 = a1 <;> by_cases e2 : x4 = a2 <;> simp_all
      have HE1 := Lib.hid heq1
      have HE2 := Lib.hid heq2
      have HE3 := Lib.hid heq3
      have HE4 := Lib.hid heq4
      obtain ⟨r, hr⟩ : ∃ r, r = (e1 && e2 || e3 && e4) := ⟨_, rfl⟩
      have HR := Lib.hid hr
      have HON : Hid ((cuts.take (k + 1)).filter (fun p => !matchV (a1, a2) (b1, b2) p) = (cuts.take k).filter (fun p => !matchV (a1, a2) (b1, b2) p) ++ if r then [] else [((x1, x2), (x3, x4))]) := Lib.hid (by
        have h8 : matchV (a1, a2) (b1, b2) cuts[k] = r := by rw [hr, he1, he2, he3, he4, ← HX.out]; rfl
        rw [List.take_add_one, List.getElem?_eq_getElem hkc, Option.toList_some, List.filter_append]
        congr 1
        cases r with
        | true => rw [List.filter_cons_of_neg (by rw [h8]; simp)]; rfl
        | false => rw [List.filter_cons_of_pos (by rw [h8]; rfl), ← HX.out]; rfl)
      clear hr he1 he2 he3 he4 heq1 heq2 heq3 heq4
      go_cut [55] (fun s55 wx => s55 = .bool (!r) ∧ wx = w2)
      case first =>
        obtain ⟨y1, y2, y3, y4, y5⟩ := TB.out _ HG2.out
        have q0 := C2.out.cell 0
        have q1 := C2.out.cell 1
        have q2 := C2.out.cell 2
        have q3 := C2.out.cell 3
        cases e1 with
        | true =>
          cases e2 with
          | true =>
            have r1 := HE1.out
            have r2 := HE2.out
            go_wp2
            go_meet
            exact ⟨by rw [HR.out]; rfl, rfl⟩
          | false =>
            cases e3 with
            | true =>
              cases e4 with
              | true =>
                have r1 := HE1.out
                have r2 := HE2.out
                have r3 := HE3.out
                have r4 := HE4.out
                go_wp2
                go_meet
                exact ⟨by rw [HR.out]; rfl, rfl⟩
              | false =>
                have r1 := HE1.out
                have r2 := HE2.out
                have r3 := HE3.out
                have r4 := HE4.out
                go_wp2
                go_meet
                exact ⟨by rw [HR.out]; rfl, rfl⟩
            | false =>
              have r1 := HE1.out
              have r2 := HE2.out
              have r3 := HE3.out
              go_wp2
              go_meet
              exact ⟨by rw [HR.out]; rfl, rfl⟩
        | false =>
          cases e3 with
          | true =>
            cases e4 with
            | true =>
              have r1 := HE1.out
              have r3 := HE3.out
              have r4 := HE4.out
              go_wp2
              go_meet
              exact ⟨by rw [HR.out]; rfl, rfl⟩
            | false =>
              have r1 := HE1.out
              have r3 := HE3.out
              have r4 := HE4.out
              go_wp2
              go_meet
              exact ⟨by rw [HR.out]; rfl, rfl⟩
          | false =>
            have r1 := HE1.out
            have r3 := HE3.out
            go_wp2
            go_meet
            exact ⟨by rw [HR.out]; rfl, rfl⟩
      case rest =>
        obtain ⟨rfl, rfl⟩ := hcut
        cases r with
        | true =>
          have HNX : Hid ((cuts.take (k + 1)).filter (fun p => !matchV (a1, a2) (b1, b2) p) = (cuts.take k).filter (fun p => !matchV (a1, a2) (b1, b2) p)) := Lib.hid (by rw [HON.out]; simp)
          clear HON HE1 HE2 HE3 HE4 HR
          go_wp2
          exact ⟨⟨k + 1, by omega, by go_num, ⟨m9, c9, x9, rfl, by rw [HNX.out]; exact HM9.out⟩, by rw [HNX.out]; exact HO2.out, HG2.out⟩, by simp [intOf]; omega⟩
        | false =>
          have HNX : Hid ((cuts.take (k + 1)).filter (fun p => !matchV (a1, a2) (b1, b2) p) = (cuts.take k).filter (fun p => !matchV (a1, a2) (b1, b2) p) ++ [((x1, x2), (x3, x4))]) := Lib.hid (by rw [HON.out]; rfl)
          clear HON HE1 HE2 HE3 HE4 HR
          have q0 := C2.out.cell 0
          have q1 := C2.out.cell 1
          have q2 := C2.out.cell 2
          have q3 := C2.out.cell 3
          obtain ⟨w3, hw3⟩ : ∃ w3, w3 = wc.alloc (.cells #[.int .i64 x1, .int .i64 x2, .int .i64 x3, .int .i64 x4] 76) := ⟨_, rfl⟩
          have g3 : Gr wc w3 := by rw [hw3]; exact (Gr.refl _).alloc _
          have c3 : CellsAt w3 wc.heap.size #[.int .i64 x1, .int .i64 x2, .int .i64 x3, .int .i64 x4] 76 := by rw [hw3]; exact CellsAt.new _ _ _
          obtain ⟨v4, w4, hr4, ho4, hc4, _⟩ := run_append_pair (HO2.out.block (w' := w3) (fun j hj => g3.block j (HO2.out.lt j hj).2)) ((x1, x2), (x3, x4)) wc.heap.size c3 (by rw [← HM9.out]; omega) (Nat.le_trans HG2.out.size g3.size)
          have hg4 : Gr wb w4 := Below.trans (Gr.trans HG2.out g3) (hc4.below (Nat.le_trans HG2.out.size g3.size) (fun j hj => (HO2.out.lt j hj).1))
          have hsh := ho4.shape
          rw [List.length_map] at hsh
          obtain ⟨x4', c4', e4'⟩ := hsh
          have hln : ((cuts.take k).filter (fun p => !matchV (a1, a2) (b1, b2) p) ++ [((x1, x2), (x3, x4))]).length = m9 + 1 := by rw [List.length_append, ← HM9.out]; rfl
          rw [hln] at e4'
          subst e4'
          rw [hw3] at hr4
          have HR4 := Lib.hid hr4
          have HO4 := Lib.hid ho4
          have HG4 := Lib.hid hg4
          have HLN := Lib.hid hln
          clear hr4 ho4 hg4 hc4 c3 g3 hw3 hln
          go_wp2_with (first | (at_builtin; refine wpList_run_append HR4.out rfl _ _ rfl rfl rfl ?_; clear HR4) | fail)
          exact ⟨⟨k + 1, by omega, by go_num, ⟨m9 + 1, _, _, rfl, by rw [HNX.out, HLN.out]⟩, by rw [HNX.out]; exact HO4.out, HG4.out⟩, by simp [intOf]; omega⟩
    · obtain rfl : k = L := by omega
      have hall : (cuts.take k).filter (fun p => !matchV (a1, a2) (b1, b2) p) = cuts.filter (fun p => !matchV (a1, a2) (b1, b2) p) := by rw [HL.out, List.take_length]
      rw [hall] at HO HM9
      have HFIN : Hid (∀ W cv' cuts', Gr wb W → OwnR W wb.heap.size 76 4 cv' (cuts'.map rowC) → RDid w0 w Q sv lv (.slice ac k cc) sizes (ps.map Prod.fst) cuts' (W.setCell ⟨Q, 2, none⟩ cv')) := Lib.hid fun W cv' cuts' gW ho => by
        have hw : w0.heap.size ≤ wb.heap.size := Nat.le_trans HW.out.gr.size GB.out.size
        obtain ⟨k1, k2⟩ := (H.out.go gW).setC (ho.mono hw)
        exact ⟨lv, cv', ps, k1, rfl, (Ch.of_gr (Gr.trans GB.out gW)).transN k2 (fun j hj _ => .inl hj), fun j hj => .inl hj, fun j hj => .inr (Nat.le_trans GB.out.size (ho.lt j hj).1)⟩
      have HT : Hid (∀ W, Gr wb W → W.cell? ⟨Q, 2, none⟩ = some (.slice ac k cc) ∧ W.frozen? ⟨Q, 2, none⟩ = false) := Lib.hid fun W gW => ⟨(H.out.obj.gr gW).cell 2, (H.out.obj.gr gW).frozen 2⟩
      clear hall H HW
      cases v with
      | false =>
        obtain ⟨z1, z2⟩ := HT.out _ HG.out
        have HF := Lib.hid (HFIN.out _ _ _ HG.out HO.out)
        go_wp2
        go_ret
        exact ⟨rfl, by unfold turnC; rw [if_neg (by decide), List.append_nil]; exact HF.out⟩
      | true =>
        obtain ⟨w3, hw3⟩ : ∃ w3, w3 = wr.alloc (.cells #[.int .i64 a1, .int .i64 a2, .int .i64 b1, .int .i64 b2] 76) := ⟨_, rfl⟩
        have g3 : Gr wr w3 := by rw [hw3]; exact (Gr.refl _).alloc _
        have c3 : CellsAt w3 wr.heap.size #[.int .i64 a1, .int .i64 a2, .int .i64 b1, .int .i64 b2] 76 := by rw [hw3]; exact CellsAt.new _ _ _
        obtain ⟨v4, w4, hr4, ho4, hc4, _⟩ := run_append_pair (HO.out.block (w' := w3) (fun j hj => g3.block j (HO.out.lt j hj).2)) ((a1, a2), (b1, b2)) wr.heap.size c3 (by rw [← HM9.out]; omega) (Nat.le_trans HG.out.size g3.size)
        have hg4 : Gr wb w4 := Below.trans (Gr.trans HG.out g3) (hc4.below (Nat.le_trans HG.out.size g3.size) (fun j hj => (HO.out.lt j hj).1))
        obtain ⟨x4, c4, e4⟩ := ho4.shape
        obtain ⟨m4, hm4⟩ : ∃ m, m = ((cuts.filter (fun p => !matchV (a1, a2) (b1, b2) p) ++ [((a1, a2), (b1, b2))]).map rowC).length := ⟨_, rfl⟩
        rw [← hm4] at e4
        subst e4
        rw [hw3] at hr4
        obtain ⟨z1, z2⟩ := HT.out _ hg4
        have HR4 := Lib.hid hr4
        have HF := Lib.hid (HFIN.out _ _ _ hg4 ho4)
        clear hr4 ho4 hg4 hc4 c3 g3 hw3 hm4
        go_wp2_with (first | (at_builtin; refine wpList_run_append HR4.out rfl _ _ rfl rfl rfl ?_; clear HR4) | fail)
        go_ret
        exact ⟨rfl, by unfold turnC; rw [if_pos rfl]; exact HF.out⟩
end Go.Proofs.Ytcpkbngoecpnkaa
