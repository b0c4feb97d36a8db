/-
  NetPlays: any acts, each answer, all letters, and whether the link is cut, behind each, as the document says. Every input; no conditions.
-/
import Derived.Test.YtcpkbngoecpnkaaNetP1
import Derived.SizedLaws
set_option linter.unusedVariables false
namespace Go.Proofs.Ytcpkbngoecpnkaa
open Go.RowKit

theorem greatV_no {xs : List ActD} (h : greatV xs = false) : xs.length ≤ 60 ∧ ∀ x ∈ xs, x.l.b.length ≤ 200 := by
  unfold greatV at h
  simp only [Bool.or_eq_false_iff, decide_eq_false_iff_not, List.any_eq_false, decide_eq_true_eq] at h
  exact ⟨by omega, fun x hx => by have := h.2 x hx; omega⟩
def SmallO (l : LetD) : Prop := LetOk l ∧ l.b.length ≤ 200
def RowL (ls : List LetD) : Sp := fun r W => ∃ a c, r = .slice (some ⟨a, 0, Option.none⟩) ls.length c ∧ Lets W r ls
theorem RowL.mono (ls : List LetD) : MonoSp (RowL ls) := fun _ _ _ g ⟨a, c, e, h⟩ => ⟨a, c, e, h.gr g⟩
/-- A copy of the sizes. -/
def LetsW (ls : List LetD) : Sp := fun r W => (∃ a c, r = .slice a ls.length c) ∧ Lets W r ls
theorem LetsW.mono (ls : List LetD) : MonoSp (LetsW ls) := fun _ _ _ g ⟨e, h⟩ => ⟨e, h.gr g⟩
theorem copy_sizes (w : World) (v : Value) (sizes : List Int) (hs : Sl w v (ints sizes)) (hl : sizes.length ≤ 1000) :
    ∃ a c w', (Builtin.append_ #[29, 29] 29 #[.slice (some ⟨w.heap.size, 0, none⟩) 0 0, v]).run Try.prog (w.alloc (.cells #[] 3)) = .ok (.slice a sizes.length c) w' ∧ Own w' w.heap.size 3 (.slice a sizes.length c) (ints sizes) ∧ Gr w w' := by
  obtain ⟨i0, hi0, hz0, hz1, hz2⟩ := info_parts info_int
  have g1 : Gr w (w.alloc (.cells #[] 3)) := (Gr.refl w).alloc _
  have hlen : (ints sizes).length = sizes.length := by unfold ints; rw [List.length_map]
  have hown : Own (w.alloc (.cells #[] 3)) w.heap.size 3 (.slice (some ⟨w.heap.size, 0, none⟩) 0 0) [] := ⟨rfl, .inr ⟨w.heap.size, 0, #[], rfl, Nat.le_refl _, heap_alloc_new w _, by simp, by decide, by simp, by simp⟩⟩
  obtain ⟨v', w', hr, h1, h2⟩ := run_append_sl (P := Try.prog) (w.alloc (.cells #[] 3)) w.heap.size 29 29 3 i0 _ 8 Try.underlying29 hi0 hz0 hz1 hz2 rfl (.slice (some ⟨w.heap.size, 0, none⟩) 0 0) v [] (ints sizes) hown (hs.below g1) (fun u hu => by
    obtain ⟨c, _, rfl⟩ := List.mem_map.1 hu
    rfl) (by rw [hlen]; unfold maxLen; simp; omega) (by rw [hlen]; simp; omega) g1.size
  rw [List.nil_append] at h1
  obtain ⟨a, c, e⟩ := h1.shape
  rw [hlen] at e
  subst e
  exact ⟨a, c, w', hr, h1, Below.grown g1 h2 g1.size (fun j hj => by have : w.heap.size = j := Option.some.inj hj; omega)⟩
/-- Lower blocks were written. -/
theorem NetIs.low {W W' : World} {base N M n : Nat} {lv : Value} {ps : List (LetD × Value)} {sizes : List Int} {cut : AdD × AdD → Bool} {ρ : Nat → Prop} (h : NetIs W base N M n lv ps sizes cut) (hc : Ch ρ W W') (hρ : ∀ j, ρ j → j < base) : NetIs W' base N M n lv ps sizes cut := by
  obtain ⟨sv, h1, h2⟩ := h.obj
  obtain ⟨f, h3, h4⟩ := h.map
  have keep : ∀ j, base ≤ j → j < W.heap.size → W'.heap[j]? = W.heap[j]? := fun j hj hl => hc.block j hl (fun e => by have := hρ j e; omega)
  have kown : ∀ {e : TypeId} {v : Value} {xs : List Value}, Own W base e v xs → Own W' base e v xs := fun ho => ho.blockT fun j cs fr hj hown => keep j (World.ownsRow.lt ho j hown).1 (Array.getElem?_eq_some_iff.1 hj).1
  exact ⟨⟨sv, h1.block (keep N h.bN h.ltN), kown h2⟩, ⟨h.lets.rows.block (fun j hj => keep j (h.lets.lt j hj).1 (h.lets.lt j hj).2), fun p hp => kown (h.lets.own p hp)⟩, ⟨f, h3.block (keep M h.bM h.ltM), h4⟩, h.bN, h.bM, h.szs, h.len⟩
set_option maxHeartbeats 0 in
set_option maxRecDepth 100000 in
theorem plays_walk (w : World) (v0 v1 : Value) (sizes : List Int) (xs : List ActD) (hS : Sl w v0 (ints sizes)) (hsm : sizes.length ≤ maxLen) (hA : Acts w v1 xs) (hm : xs.length ≤ maxLen) :
    Calls Try.prog 5 #[v0, v1] w fun e w' => e = .returned (.bool true) ∧ Below w.heap.size w w' := by
  obtain ⟨a1, c1, rfl⟩ := hA.shape
  obtain ⟨a0, c0, rfl⟩ : ∃ a c, v0 = .slice a sizes.length c := by
    obtain ⟨a, c, e, _⟩ := hS
    exact ⟨a, c, by rw [e]; unfold ints; rw [List.length_map]⟩
  have hgt := great_any w _ xs hA hm
  obtain ⟨gv, hgv⟩ : ∃ gv, gv = greatV xs := ⟨_, rfl⟩
  rw [← hgv] at hgt
  have HGV := Lib.hid hgv
  have HA := Lib.hid hA
  obtain ⟨n, hn⟩ : ∃ n, n = xs.length := ⟨_, rfl⟩
  rw [← hn] at hgt hm ⊢
  have HN := Lib.hid hn
  obtain ⟨S, hS9⟩ : ∃ S, S = sizes.length := ⟨_, rfl⟩
  rw [← hS9] at hS hsm ⊢
  have HSL := Lib.hid hS9
  have HS := Lib.hid hS
  unfold maxLen at hm hsm
  clear hgv hA hn hS hS9
  go_enter Try.func5, Try.ntmps5
  go_wp2_with fail
  refine hgt.mono ?_
  rintro e w1 ⟨rfl, hw1⟩
  subst w1
  clear hgt
  cases gv with
  | true =>
    go_wp2
    go_ret
    exact ⟨rfl, Below.refl _ _⟩
  | false =>
  by_cases h20 : 20 < S
  · go_wp2
    go_ret
    exact ⟨rfl, Below.refl _ _⟩
  have HGR := Lib.hid (greatV_no HGV.out.symm)
  have hn60 : n ≤ 60 := by rw [HN.out]; exact HGR.out.1
  obtain ⟨ai, ci, w2, hr2, ho2, g2⟩ := copy_sizes w _ sizes HS.out (by rw [← HSL.out]; omega)
  rw [← HSL.out] at hr2 ho2
  have HR2 := Lib.hid hr2
  have HO2 := Lib.hid ho2
  have G2 := Lib.hid g2
  clear hr2 ho2 g2
  go_wp2_with (first | (at_builtin; refine wpList_run_append HR2.out rfl _ _ rfl rfl rfl ?_; clear HR2) | fail)
  refine (new_any w2 _ sizes HO2.out.sl).mono ?_
  rintro e w3 hp
  cases hok : newOk sizes with
  | false =>
    obtain ⟨rfl, g3⟩ := newPost_no hok hp
    have G3 := Lib.hid (Gr.trans G2.out g3)
    have HO3 := Lib.hid (HO2.out.gr g3)
    have HOK := Lib.hid hok
    clear hp g3 hok HO2
    go_wp2
    go_loopw [8] (fun i W => ∃ (k : Nat) (zs : List Int), k ≤ S ∧ i = .int .i64 k ∧ zs.length = S ∧ Own W w.heap.size 3 (.slice ai S ci) (ints zs) ∧ Gr w W) (fun i _ => S - (intOf i).toNat)
    case atStart => exact ⟨0, sizes, Nat.zero_le _, rfl, HSL.out.symm, HO3.out, G3.out⟩
    case round =>
      obtain ⟨k, zs, hk, rfl, hzl, ho, hg⟩ := hrel
      have HO := Lib.hid ho
      have HG := Lib.hid hg
      have HZL := Lib.hid hzl
      clear ho hg hzl G3 HO3
      by_cases hlt : k < S
      · have hne : ints zs ≠ [] := by intro e; have := congrArg List.length e; unfold ints at this; rw [List.length_map, HZL.out] at this; simp at this; omega
        obtain ⟨I, cI, eI, hIb, hIl, _⟩ := HO.out.form hne
        injection eI with e1 e2 e3
        subst e1 e3
        have hil : (ints zs).length = S := by unfold ints; rw [List.length_map]; exact HZL.out
        have ho' : Own wr w.heap.size 3 (.slice (some ⟨I, 0, none⟩) (ints zs).length ci) (ints zs) := by rw [hil]; exact HO.out
        obtain ⟨st1, st2⟩ := ho'.store k (.int .i64 0)
        have hst : Own (wr.setCell ⟨I, k, none⟩ (.int .i64 0)) w.heap.size 3 (.slice (some ⟨I, 0, none⟩) S ci) (ints (zs.set k 0)) := by
          have e9 : (ints zs).set k (.int .i64 0) = ints (zs.set k 0) := by unfold ints; rw [List.map_set]
          rw [e9] at st1
          rw [show (ints (zs.set k 0)).length = S by unfold ints; rw [List.length_map, List.length_set]; exact HZL.out] at st1
          exact st1
        have hcs : ∃ cs, wr.heap[I]? = some (.cells cs 3 (0, 0)) := by
          obtain ⟨_, cs, h9⟩ := HO.out.cells5 I rfl
          exact ⟨cs, h9⟩
        have q1 : wr.cell? ⟨I, k, none⟩ = some ((ints zs)[k]'(by rw [hil]; exact hlt)) := by
          obtain ⟨a9, c9, e9, _, hx⟩ := HO.out.sl
          injection e9 with e4 e5 e6
          obtain ⟨b9, o9, e7, _, hcell⟩ := hx.resolve_left hne
          rw [← e4] at e7
          injection e7 with e7
          injection e7 with e8 e10
          have h9 := hcell k (by rw [hil]; exact hlt)
          rw [← e8, ← e10, Nat.zero_add] at h9
          exact h9
        have q2 : wr.frozen? ⟨I, k, none⟩ = false := by obtain ⟨cs, h9⟩ := hcs; exact frozen_of_row _ _ _ _ _ h9
        have hch := ch_setCell wr I k (.int .i64 0)
        have HST := Lib.hid hst
        have HG2 : Hid (Gr w (wr.setCell ⟨I, k, none⟩ (.int .i64 0))) := Lib.hid (Below.trans HG.out (hch.below HG.out.size (fun j hj => by have e : j = I := hj; omega)))
        obtain ⟨u, hu⟩ : ∃ u, u = (ints zs)[k]'(by rw [hil]; exact hlt) := ⟨_, rfl⟩
        rw [← hu] at q1
        have hk0 : (0 : Int) ≤ (k : Int) := by omega
        have hk1 : (k : Int) < (S : Int) := by omega
        clear st1 st2 hst hcs hch hu ho' hne hil
        go_wp2
        exact ⟨⟨k + 1, zs.set k 0, by omega, by go_num, by rw [List.length_set]; exact HZL.out, HST.out, HG2.out⟩, by simp [intOf]; omega⟩
      · obtain rfl : k = S := by omega
        go_wp2_with fail
        refine (refnew_any wr _ sizes (HS.out.below HG.out) (by rw [← HSL.out]; omega)).mono ?_
        rintro e w4 hp
        unfold RNewPost at hp
        rw [HOK.out] at hp
        obtain ⟨rfl, g4⟩ := hp
        have G4 := Lib.hid (Below.trans HG.out (g4.mono HG.out.size))
        clear g4
        go_wp2_with fail
        refine (goes_any _).mono ?_
        rintro e w5 ⟨rfl, g5⟩
        have G5 := Lib.hid (Below.trans G4.out (g5.mono G4.out.size))
        clear g5
        go_wp2
        go_ret
        exact ⟨rfl, G5.out⟩
  | true =>
    obtain ⟨N, M, rfl, h3, g3⟩ := newPost_ok hok hp
    have G3 := Lib.hid (Gr.trans G2.out g3)
    have HO3 := Lib.hid (HO2.out.gr g3)
    have HN3 := Lib.hid h3
    have HB : Hid (∀ j, (Value.slice ai S ci).ownBlock = some j → j < w2.heap.size) := Lib.hid fun j hj => (World.ownsRow.lt HO2.out j hj).2
    have HOK := Lib.hid hok
    clear hp g3 hok HO2 h3
    go_wp2
    go_loopw [8] (fun i W => ∃ (k : Nat) (zs : List Int), k ≤ S ∧ i = .int .i64 k ∧ zs.length = S ∧ Own W w.heap.size 3 (.slice ai S ci) (ints zs) ∧ Gr w W ∧ NetIs W w2.heap.size N M 0 (.slice none 0 0) [] sizes (fun _ => false)) (fun i _ => S - (intOf i).toNat)
    case atStart => exact ⟨0, sizes, Nat.zero_le _, rfl, HSL.out.symm, HO3.out, G3.out, HN3.out⟩
    case round =>
      obtain ⟨k, zs, hk, rfl, hzl, ho, hg, hnt⟩ := hrel
      have HO := Lib.hid ho
      have HG := Lib.hid hg
      have HZL := Lib.hid hzl
      have HNT := Lib.hid hnt
      clear hnt
      clear ho hg hzl G3 HO3
      by_cases hlt : k < S
      · have hne : ints zs ≠ [] := by intro e; have := congrArg List.length e; unfold ints at this; rw [List.length_map, HZL.out] at this; simp at this; omega
        obtain ⟨I, cI, eI, hIb, hIl, _⟩ := HO.out.form hne
        injection eI with e1 e2 e3
        subst e1 e3
        have hil : (ints zs).length = S := by unfold ints; rw [List.length_map]; exact HZL.out
        have ho' : Own wr w.heap.size 3 (.slice (some ⟨I, 0, none⟩) (ints zs).length ci) (ints zs) := by rw [hil]; exact HO.out
        obtain ⟨st1, st2⟩ := ho'.store k (.int .i64 0)
        have hst : Own (wr.setCell ⟨I, k, none⟩ (.int .i64 0)) w.heap.size 3 (.slice (some ⟨I, 0, none⟩) S ci) (ints (zs.set k 0)) := by
          have e9 : (ints zs).set k (.int .i64 0) = ints (zs.set k 0) := by unfold ints; rw [List.map_set]
          rw [e9] at st1
          rw [show (ints (zs.set k 0)).length = S by unfold ints; rw [List.length_map, List.length_set]; exact HZL.out] at st1
          exact st1
        have hcs : ∃ cs, wr.heap[I]? = some (.cells cs 3 (0, 0)) := by
          obtain ⟨_, cs, h9⟩ := HO.out.cells5 I rfl
          exact ⟨cs, h9⟩
        have q1 : wr.cell? ⟨I, k, none⟩ = some ((ints zs)[k]'(by rw [hil]; exact hlt)) := by
          obtain ⟨a9, c9, e9, _, hx⟩ := HO.out.sl
          injection e9 with e4 e5 e6
          obtain ⟨b9, o9, e7, _, hcell⟩ := hx.resolve_left hne
          rw [← e4] at e7
          injection e7 with e7
          injection e7 with e8 e10
          have h9 := hcell k (by rw [hil]; exact hlt)
          rw [← e8, ← e10, Nat.zero_add] at h9
          exact h9
        have q2 : wr.frozen? ⟨I, k, none⟩ = false := by obtain ⟨cs, h9⟩ := hcs; exact frozen_of_row _ _ _ _ _ h9
        have hch := ch_setCell wr I k (.int .i64 0)
        have HST := Lib.hid hst
        have HG2 : Hid (Gr w (wr.setCell ⟨I, k, none⟩ (.int .i64 0))) := Lib.hid (Below.trans HG.out (hch.below HG.out.size (fun j hj => by have e : j = I := hj; omega)))
        have HNT2 := Lib.hid (HNT.out.low hch (fun j hj => by have e : j = I := hj; rw [e]; exact HB.out I rfl))
        obtain ⟨u, hu⟩ : ∃ u, u = (ints zs)[k]'(by rw [hil]; exact hlt) := ⟨_, rfl⟩
        rw [← hu] at q1
        have hk0 : (0 : Int) ≤ (k : Int) := by omega
        have hk1 : (k : Int) < (S : Int) := by omega
        clear st1 st2 hst hcs hch hu ho' hne hil
        go_wp2
        exact ⟨⟨k + 1, zs.set k 0, by omega, by go_num, by rw [List.length_set]; exact HZL.out, HST.out, HG2.out, HNT2.out⟩, by simp [intOf]; omega⟩
      · obtain rfl : k = S := by omega
        go_wp2_with fail
        refine (refnew_any wr _ sizes (HS.out.below HG.out) (by rw [← HSL.out]; omega)).mono ?_
        rintro e w4 hp
        unfold RNewPost at hp
        rw [HOK.out] at hp
        obtain ⟨Q, rfl, hq⟩ := hp
        have hpl : Duo w w4 N M Q 0 (.slice a0 k c0) sizes (fun _ => false) [] [] [] (fun _ => False) := by
          have hnt := HNT.out.gr hq.gr
          refine ⟨_, [], _, _, [], hnt.monoB G2.out.size, hq.rebase HG.out HS.out, rfl, rfl, fun j hj hj' => ?_, fun j hj => hj.elim⟩
          have h5 := (HNT.out.ltB j hj).2
          have h6 := (hq.ltB j hj').1
          omega
        have HP := Lib.hid hpl
        clear hpl hq HNT HO HB HN3
        go_wp2
        go_loopw [11, 12, 13, 14, 15, 16] (fun i s12 s13 s14 s15 s16 W => ∃ (q c : Nat) (cut : AdD × AdD → Bool) (cuts : List (AdD × AdD)) (ls : List LetD), q ≤ n ∧ i = .int .i64 q ∧ Duo w W N M Q c (.slice a0 k c0) sizes cut cuts ls ls (fun _ => False) ∧ Agree sizes cut cuts ∧ c ≤ q ∧ cuts.length ≤ q ∧ ls.length ≤ q ∧ ∀ l ∈ ls, SmallO l) (fun i _ _ _ _ _ _ => n - (intOf i).toNat)
        case atStart => exact ⟨0, 0, _, [], [], Nat.zero_le _, rfl, HP.out, Agree.start _, Nat.le_refl _, Nat.le_refl _, Nat.le_refl _, fun l h => by cases h⟩
        case round =>
          clear HP
          obtain ⟨q, c, cut, cuts, ls, hq, rfl, hpl, hag, hc, hcu, hll, hsm⟩ := hrel
          have HP := Lib.hid hpl
          have HAG := Lib.hid hag
          have HSM := Lib.hid hsm
          have HBIG : Hid (∀ l ∈ ls, LetOk l ∧ l.b.length ≤ 2097152) := Lib.hid fun l hl => ⟨(hsm l hl).1, Nat.le_trans (hsm l hl).2 (by decide)⟩
          clear hpl hag hsm
          by_cases hlt : q < n
          · skip
            obtain ⟨B, o, bv, rfl, hBl, hbv, q0, q1, q2, q3, q4, q5, q6, hsl, hok⟩ := HA.out.at q (by rw [← HN.out]; exact hlt)
            have hx2 : (xs[q]'(by rw [← HN.out]; exact hlt)).l.b.length ≤ 200 := HGR.out.2 _ (List.getElem_mem _)
            obtain ⟨x, hx⟩ : ∃ x, x = xs[q]'(by rw [← HN.out]; exact hlt) := ⟨_, rfl⟩
            rw [← hx] at q0 q1 q2 q3 q4 q5 hsl hok hx2 hbv
            clear hx
            obtain ⟨op, ix, ⟨⟨x1, x2⟩, ⟨x3, x4⟩, b⟩⟩ := x
            simp only at q0 q1 q2 q3 q4 q5 hsl hok hx2 hbv
            obtain ⟨ab, cb, rfl, _⟩ := hsl.bytes
            have HS2 : Hid (∀ W, Gr w W → Sl W (.slice ab b.length cb) (bytes b)) := Lib.hid fun W hW => hsl.below hW
            have HBV := Lib.hid hbv
            have HACT : Hid (ActOk (⟨op, ix, (⟨(x1, x2), (x3, x4), b⟩ : LetD)⟩ : ActD)) := Lib.hid hok
            have HX : Hid (SmallO (⟨(x1, x2), (x3, x4), b⟩ : LetD)) := Lib.hid ⟨hok.2.2.2, hx2⟩
            have hw : Gr w wr := HP.out.below
            replace q0 := hw.cellT q0
            replace q1 := hw.cellT q1
            replace q2 := hw.cellT q2
            replace q3 := hw.cellT q3
            replace q4 := hw.cellT q4
            replace q5 := hw.cellT q5
            replace q6 := hw.cellT q6
            clear hsl hok hbv hx2 hw
            have hk0 : (0 : Int) ≤ (q : Int) := by omega
            have hk1 : (q : Int) < (n : Int) := by omega
            have hop256 : op < 256 := HACT.out.1
            go_upto_region 18 with fail
            clear q0 q1 q2 q3 q4 q5 q6
            obtain ⟨w5, hw5⟩ : ∃ w5, w5 = wr.alloc (.cells #[.int .u8 (op : Int), .int .i64 ix, .int .i64 x1, .int .i64 x2, .int .i64 x3, .int .i64 x4, .slice ab b.length cb] 37) := ⟨_, rfl⟩
            have g5 : Gr wr w5 := by rw [hw5]; exact (Gr.refl _).alloc _
            obtain ⟨BA, hBA⟩ : ∃ BA, BA = wr.heap.size := ⟨_, rfl⟩
            have C5 : Hid (CellsAt w5 BA #[.int .u8 (op : Int), .int .i64 ix, .int .i64 x1, .int .i64 x2, .int .i64 x3, .int .i64 x4, .slice ab b.length cb] 37) := Lib.hid (by rw [hw5, hBA]; exact CellsAt.new _ _ _)
            have P5 := Lib.hid (HP.out.add g5 (B := BA) (by rw [hBA]; exact Nat.le_refl _) C5.out.lt)
            have LA : Hid (w.heap.size ≤ BA) := Lib.hid (by rw [hBA]; exact HP.out.below.size)
            rw [← hw5, ← hBA]
            clear hw5 g5 hBA HP
            obtain ⟨⟨⟨⟨r1, r2⟩, ⟨r3, r4⟩, rb⟩, z, ls2, cut2⟩, hr⟩ : ∃ r, doesV sizes cut ls (⟨op, ix, (⟨(x1, x2), (x3, x4), b⟩ : LetD)⟩ : ActD) = r := ⟨_, rfl⟩
            have HRR := Lib.hid hr
            have y0 := C5.out.cell 0
            have y1 := C5.out.cell 1
            have y2 := C5.out.cell 2
            have y3 := C5.out.cell 3
            have y4 := C5.out.cell 4
            have y5 := C5.out.cell 5
            have y6 := C5.out.cell 6
            go_wp2_with fail
            clear y0 y1 y2 y3 y4 y5 y6
            refine (Duo.does P5.out (by omega) (⟨op, ix, (⟨(x1, x2), (x3, x4), b⟩ : LetD)⟩ : ActD) (.slice ab b.length cb) HACT.out HBIG.out (HS2.out _ P5.out.below) (Nat.le_trans HX.out.2 (by decide)) HBV.out hr).mono ?_
            rintro e w6 ⟨bx, rfl, hox, hP6, hF6⟩
            have hox' : Own w6 w.heap.size 5 bx (bytes rb) := hox
            obtain ⟨ax, cx, rfl⟩ := hox'.shape
            have P6 : Hid (Duo w w6 N M Q (c + 1) (.slice a0 k c0) sizes cut2 cuts ls2 ls (fun j => j = BA ∨ False)) := Lib.hid hP6
            have O6 : Hid (Own w6 w.heap.size 5 (.slice ax rb.length cx) (bytes rb)) := Lib.hid (by have := hox'; rw [bytes_length] at this; exact this)
            have C6 := Lib.hid (C5.out.block (hF6 BA (.inl rfl)))
            rw [bytes_length]
            rw [show letV ((((⟨(r1, r2), (r3, r4), rb⟩ : LetD), z, ls2, cut2) : LetD × Int × List LetD × (AdD × AdD → Bool)).1) (.slice ax rb.length cx) = .agg #[.int .i64 r1, .int .i64 r2, .int .i64 r3, .int .i64 r4, .slice ax rb.length cx] from rfl]
            clear hP6 hox hox' hF6 P5 C5 hr
            go_upto_region 21 with fail
            obtain ⟨w7, hw7⟩ : ∃ w7, w7 = w6.alloc (.cells #[.int .i64 r1, .int .i64 r2, .int .i64 r3, .int .i64 r4, .slice ax rb.length cx] 35) := ⟨_, rfl⟩
            have g7 : Gr w6 w7 := by rw [hw7]; exact (Gr.refl _).alloc _
            obtain ⟨BP, hBP⟩ : ∃ BP, BP = w6.heap.size := ⟨_, rfl⟩
            have C7 : Hid (CellsAt w7 BP #[.int .i64 r1, .int .i64 r2, .int .i64 r3, .int .i64 r4, .slice ax rb.length cx] 35) := Lib.hid (by rw [hw7, hBP]; exact CellsAt.new _ _ _)
            have P7 := Lib.hid (P6.out.add g7 (B := BP) (by rw [hBP]; exact Nat.le_refl _) C7.out.lt)
            have hs7 : w7.heap.size = w6.heap.size + 1 := by rw [hw7]; simp
            obtain ⟨w8, hw8⟩ : ∃ w8, w8 = w7.alloc (.cells #[.int .i64 0, .int .i64 0, .int .i64 0, .int .i64 0, .slice none 0 0] 35) := ⟨_, rfl⟩
            have g8 : Gr w7 w8 := by rw [hw8]; exact (Gr.refl _).alloc _
            obtain ⟨BQ, hBQ⟩ : ∃ BQ, BQ = w7.heap.size := ⟨_, rfl⟩
            have C8Z : Hid (CellsAt w8 BQ #[.int .i64 0, .int .i64 0, .int .i64 0, .int .i64 0, .slice none 0 0] 35) := Lib.hid (by rw [hw8, hBQ]; exact CellsAt.new _ _ _)
            have P8 : Hid (Duo w w8 N M Q (c + 1) (.slice a0 k c0) sizes cut2 cuts ls2 ls (fun j => j = BQ ∨ j = BP ∨ j = BA ∨ False)) := Lib.hid (P7.out.add g8 (B := BQ) (by rw [hBQ]; exact Nat.le_refl _) C8Z.out.lt)
            have C8P := Lib.hid (C7.out.gr g8)
            have C8A := Lib.hid ((C6.out.gr g7).gr g8)
            have O8 := Lib.hid ((O6.out.gr g7).gr g8)
            have LQ : Hid (w.heap.size ≤ BQ) := Lib.hid (by rw [hBQ]; exact P7.out.below.size)
            have hBQ9 : w6.heap.size + 1 = BQ := by rw [hBQ, hs7]
            have hPQ : ¬ BP = BQ := by omega
            have hw9 : (w6.alloc (.cells #[.int .i64 r1, .int .i64 r2, .int .i64 r3, .int .i64 r4, .slice ax rb.length cx] 35)).alloc (.cells #[.int .i64 0, .int .i64 0, .int .i64 0, .int .i64 0, .slice none 0 0] 35) = w8 := by rw [hw8, hw7]
            rw [hw9, hBQ9, ← hBP]
            clear hw7 g7 hBP hs7 hw8 g8 hBQ hBQ9 hw9 P6 P7 C6 C7 O6
            have hl2 : ls2.length ≤ q + 1 := by
              have h9 := doesV_len (sizes := sizes) (cut := cut) (ls := ls) (a := (⟨op, ix, (⟨(x1, x2), (x3, x4), b⟩ : LetD)⟩ : ActD))
              rw [HRR.out] at h9
              have h9' : ls2.length ≤ ls.length + 1 := h9
              omega
            have HSM2 : Hid (∀ l ∈ ls2, SmallO l) := Lib.hid fun l hl => by
              have h9 := doesV_mem (sizes := sizes) (cut := cut) (ls := ls) (a := (⟨op, ix, (⟨(x1, x2), (x3, x4), b⟩ : LetD)⟩ : ActD)) (x := l) (by rw [HRR.out]; exact hl)
              rcases h9 with h9 | h9
              · exact HSM.out l h9
              · rw [h9]; exact HX.out
            have HSA := Lib.hid (same_answer HAG.out ls (⟨op, ix, (⟨(x1, x2), (x3, x4), b⟩ : LetD)⟩ : ActD))
            have hd7 : op % 7 < 7 := Nat.mod_lt _ (by decide)
            obtain hd | hd | hd | hd : op % 7 = 0 ∨ op % 7 = 5 ∨ op % 7 = 6 ∨ (op % 7 = 1 ∨ op % 7 = 2 ∨ op % 7 = 3 ∨ op % 7 = 4) := by omega
            · have hm1 : ((op : Int) % 7) = 0 := by omega
              have hm2 : ((op : Int).tmod 7) = 0 := by rw [Int.tmod_eq_emod_of_nonneg (by omega)]; omega
              have hsa := HSA.out
              have hrv : refV sizes cuts ls (⟨op, ix, (⟨(x1, x2), (x3, x4), b⟩ : LetD)⟩ : ActD) = (zl, sendE sizes ls.length (⟨(x1, x2), (x3, x4), b⟩ : LetD), (if sendE sizes ls.length (⟨(x1, x2), (x3, x4), b⟩ : LetD) = 0 then ls ++ [(⟨(x1, x2), (x3, x4), b⟩ : LetD)] else ls), cuts) := by unfold refV; rw [if_pos hd]
              rw [HRR.out, hrv] at hsa
              obtain ⟨s1, s2, s3, s4⟩ := hsa
              have HS1 := Lib.hid s1
              have HS4 : Hid (Agree sizes cut2 cuts) := Lib.hid s4
              have hcu2 : Hid (cuts.length ≤ q + 1) := Lib.hid (by omega)
              have hz9 : sendE sizes ls.length (⟨(x1, x2), (x3, x4), b⟩ : LetD) = z := s2
              have hl9 : (if z = 0 then ls ++ [(⟨(x1, x2), (x3, x4), b⟩ : LetD)] else ls) = ls2 := by rw [← hz9]; exact s3
              have HZ9 := Lib.hid hz9
              have HL9 := Lib.hid hl9
              clear hrv s1 s2 s3 s4 hz9 hl9
              have y0 := C8A.out.cell 0
              have y1 := C8A.out.cell 1
              have y2 := C8A.out.cell 2
              have y3 := C8A.out.cell 3
              have y4 := C8A.out.cell 4
              have y5 := C8A.out.cell 5
              have y6 := C8A.out.cell 6
              go_wp2_with fail
              clear y0 y1 y2 y3 y4 y5 y6
              refine (Duo.send P8.out (by omega) (⟨(x1, x2), (x3, x4), b⟩ : LetD) (.slice ab b.length cb) (HS2.out _ P8.out.below) (Nat.le_trans HX.out.2 (by decide)) HBV.out HZ9.out HL9.out).mono ?_
              rintro e w9 ⟨rfl, hP9, hF9, hK9⟩
              have P9 := Lib.hid hP9
              have C9A := Lib.hid (C8A.out.block (hF9 BA (.inr (.inr (.inl rfl)))))
              have C9P := Lib.hid (C8P.out.block (hF9 BP (.inr (.inl rfl))))
              have C9Z := Lib.hid (C8Z.out.block (hF9 BQ (.inl rfl)))
              have O9 := Lib.hid (O8.out.kb (.inl rfl) hK9)
              clear hP9 hF9 hK9 P8 C8A C8P C8Z O8
              have C9Q : Hid (CellsAt w9 BQ #[.int .i64 r1, .int .i64 r2, .int .i64 r3, .int .i64 r4, .slice (none : Option Addr) rb.length 0] 35) := Lib.hid (by
                have e : zl = (⟨(r1, r2), (r3, r4), rb⟩ : LetD) := HS1.out
                unfold zl at e
                injection e with e1 e2 e3
                injection e1 with e4 e5
                injection e2 with e6 e7
                rw [← e4, ← e5, ← e6, ← e7, ← e3]
                exact C9Z.out)
              have SQ : Hid (Sl w9 (.slice (none : Option Addr) rb.length 0) (bytes rb)) := Lib.hid (by
                have e : zl = (⟨(r1, r2), (r3, r4), rb⟩ : LetD) := HS1.out
                unfold zl at e
                injection e with e1 e2 e3
                rw [← e3]
                exact Sl.nil _ _ _)
              clear C9Z
              obtain ⟨c1v, hc1v⟩ : ∃ c1v, cutsV sizes cut2 (x1, x2) (x3, x4) = c1v := ⟨_, rfl⟩
              obtain ⟨c2v, hc2v⟩ : ∃ c2v, cutsV sizes cut2 (x3, x4) (x1, x2) = c2v := ⟨_, rfl⟩
              have HC1V := Lib.hid (And.intro hc1v (show cutsR cuts (x1, x2) (x3, x4) = c1v by rw [← hc1v]; exact (HS4.out _ _).symm))
              have HC2V := Lib.hid (And.intro hc2v (show cutsR cuts (x3, x4) (x1, x2) = c2v by rw [← hc2v]; exact (HS4.out _ _).symm))
              have hb1 : (c1v != c1v) = false := by simp
              have hb2 : (c2v != c2v) = false := by simp
              obtain ⟨aL, cL, hQ1, hQlt, hLQ⟩ := P9.out.rows
              have HQ := Lib.hid (And.intro hQ1 hLQ)
              have HADR : Hid (AdOk (x1, x2) ∧ AdOk (x3, x4)) := Lib.hid ⟨HACT.out.2.2.2.1, HACT.out.2.2.2.2⟩
              clear hc1v hc2v hQ1 hQlt hLQ
              (try go_upto_region 28 with fail)
              apply wp_region_draw_grow (.eq _ :: .eq _ :: .eq _ :: .eq _ :: .eq _ :: .ok (RowL [(⟨(r1, r2), (r3, r4), rb⟩ : LetD)]) :: .eq _ :: .ok (RowL [(⟨(r1, r2), (r3, r4), rb⟩ : LetD)]) :: .eq (.bool true) :: .eq _ :: .eq _ :: .eq _ :: .eq _ :: .ok (LetsW ls2) :: .eq _ :: .eq _ :: .eq _ :: .eq _ :: .eq (.bool true) :: .eq _ :: .eq _ :: .eq _ :: .eq _ :: .eq (.int .i64 (ls2.length : Int)) :: .eq _ :: .eq _ :: .eq _ :: .eq _ :: .eq _ :: .eq _ :: .eq _ :: .eq _ :: .eq _ :: .eq _ :: .eq _ :: .eq _ :: .eq _ :: .eq _ :: .eq _ :: .eq (.bool c1v) :: .eq _ :: .eq _ :: .eq _ :: .eq _ :: .eq _ :: .eq _ :: .eq _ :: .eq (.bool c1v) :: .eq _ :: .eq _ :: .eq _ :: .eq _ :: .eq _ :: .eq _ :: .eq _ :: .eq _ :: .eq _ :: .eq _ :: .eq (.bool c2v) :: .eq _ :: .eq _ :: .eq _ :: .eq _ :: .eq _ :: .eq _ :: .eq _ :: .eq (.bool c2v) :: .eq _ :: .eq _ :: []) (by kernel_rfl) (by kernel_rfl) ⟨RowL.mono _, RowL.mono _, LetsW.mono _, trivial⟩
              apply wpG_eq
              · intro W hW hs
                unfold opG
                go_simp
                first | exact resG_eq_mk _ _ _ | rfl
              simp only [Act.put, List.setIfInBounds_toArray, List.set_cons_zero, List.set_cons_succ]
              apply wpG_eq
              · intro W hW hs
                unfold opG
                go_simp
                first | exact resG_eq_mk _ _ _ | rfl
              simp only [Act.put, List.setIfInBounds_toArray, List.set_cons_zero, List.set_cons_succ]
              apply wpG_eq
              · intro W hW hs
                unfold opG
                go_simp
                first | exact resG_eq_mk _ _ _ | rfl
              simp only [Act.put, List.setIfInBounds_toArray, List.set_cons_zero, List.set_cons_succ]
              apply wpG_eq
              · intro W hW hs
                unfold opG
                go_simp
                first | exact resG_eq_mk _ _ _ | rfl
              simp only [Act.put, List.setIfInBounds_toArray, List.set_cons_zero, List.set_cons_succ]
              apply wpG_eq
              · intro W hW hs
                have u0 := hW.drew0 (C9P.out.cell 0)
                have u1 := hW.drew0 (C9P.out.cell 1)
                have u2 := hW.drew0 (C9P.out.cell 2)
                have u3 := hW.drew0 (C9P.out.cell 3)
                have u4 := hW.drew0 (C9P.out.cell 4)
                unfold opG
                go_simp
                first | exact resG_eq_mk _ _ _ | rfl
              simp only [Act.put, List.setIfInBounds_toArray, List.set_cons_zero, List.set_cons_succ]
              apply wpG_ok
              · intro W hW hs
                unfold opG
                go_simp
                exact resG_mk ((Gr.refl W).alloc _) ⟨_, 1, rfl, Lets.one (CellsAt.new _ _ _) ((O9.out.sl).below (Gr.trans (Gr.trans ((Gr.refl w9).drew) hW) ((Gr.refl W).alloc _)))⟩
              intro v5
              simp only [Act.put, List.setIfInBounds_toArray, List.set_cons_zero, List.set_cons_succ]
              apply wpG_eq
              · intro W hW hs
                have u0 := hW.drew0 (C9Q.out.cell 0)
                have u1 := hW.drew0 (C9Q.out.cell 1)
                have u2 := hW.drew0 (C9Q.out.cell 2)
                have u3 := hW.drew0 (C9Q.out.cell 3)
                have u4 := hW.drew0 (C9Q.out.cell 4)
                unfold opG
                go_simp
                first | exact resG_eq_mk _ _ _ | rfl
              simp only [Act.put, List.setIfInBounds_toArray, List.set_cons_zero, List.set_cons_succ]
              apply wpG_ok
              · intro W hW hs
                unfold opG
                go_simp
                exact resG_mk ((Gr.refl W).alloc _) ⟨_, 1, rfl, Lets.one (CellsAt.new _ _ _) ((SQ.out).below (Gr.trans (Gr.trans ((Gr.refl w9).drew) hW) ((Gr.refl W).alloc _)))⟩
              intro v7
              simp only [Act.put, List.setIfInBounds_toArray, List.set_cons_zero, List.set_cons_succ]
              apply wpG_eq
              · intro W hW hs
                have h7 : RowL [(⟨(r1, r2), (r3, r4), rb⟩ : LetD)] v7 W := hs _ (.head _) rfl
                have h5 : RowL [(⟨(r1, r2), (r3, r4), rb⟩ : LetD)] v5 W := hs _ (.tail _ (.head _)) rfl
                have H7 : Hid (Lets W v7 [(⟨(r1, r2), (r3, r4), rb⟩ : LetD)]) := Lib.hid (by obtain ⟨_, _, _, h⟩ := h7; exact h)
                have H5 : Hid (Lets W v5 [(⟨(r1, r2), (r3, r4), rb⟩ : LetD)]) := Lib.hid (by obtain ⟨_, _, _, h⟩ := h5; exact h)
                clear h7 h5 hs
                unfold opG
                go_simp
                refine resG_call ((same_true W v5 v7 [(⟨(r1, r2), (r3, r4), rb⟩ : LetD)] H5.out H7.out (by simp)).mono ?_)
                rintro e W2 ⟨rfl, g2⟩
                exact ⟨_, rfl, g2, rfl⟩
              simp only [Act.put, List.setIfInBounds_toArray, List.set_cons_zero, List.set_cons_succ]
              apply wpG_eq
              · intro W hW hs
                unfold opG
                go_simp
                first | exact resG_eq_mk _ _ _ | rfl
              simp only [Act.put, List.setIfInBounds_toArray, List.set_cons_zero, List.set_cons_succ]
              apply wpG_eq
              · intro W hW hs
                unfold opG
                go_simp
                first | exact resG_eq_mk _ _ _ | rfl
              simp only [Act.put, List.setIfInBounds_toArray, List.set_cons_zero, List.set_cons_succ]
              apply wpG_eq
              · intro W hW hs
                unfold opG
                go_simp
                first | exact resG_eq_mk _ _ _ | rfl
              simp only [Act.put, List.setIfInBounds_toArray, List.set_cons_zero, List.set_cons_succ]
              apply wpG_eq
              · intro W hW hs
                unfold opG
                go_simp
                first | exact resG_eq_mk _ _ _ | rfl
              simp only [Act.put, List.setIfInBounds_toArray, List.set_cons_zero, List.set_cons_succ]
              apply wpG_ok
              · intro W hW hs
                have gW := Gr.trans ((Gr.refl w9).drew) hW
                clear hs
                unfold opG
                go_simp
                refine resG_call ((Duo.letters (P9.out.go gW) (fun l hl => Nat.le_trans (HSM2.out l hl).2 (by decide))).mono ?_)
                rintro e W2 ⟨v, rfl, hl, g2⟩
                exact ⟨_, rfl, g2, hl.shape, hl⟩
              intro v13
              simp only [Act.put, List.setIfInBounds_toArray, List.set_cons_zero, List.set_cons_succ]
              apply wpG_eq
              · intro W hW hs
                unfold opG
                go_simp
                first | exact resG_eq_mk _ _ _ | rfl
              simp only [Act.put, List.setIfInBounds_toArray, List.set_cons_zero, List.set_cons_succ]
              apply wpG_eq
              · intro W hW hs
                unfold opG
                go_simp
                first | exact resG_eq_mk _ _ _ | rfl
              simp only [Act.put, List.setIfInBounds_toArray, List.set_cons_zero, List.set_cons_succ]
              apply wpG_eq
              · intro W hW hs
                unfold opG
                go_simp
                first | exact resG_eq_mk _ _ _ | rfl
              simp only [Act.put, List.setIfInBounds_toArray, List.set_cons_zero, List.set_cons_succ]
              apply wpG_eq
              · intro W hW hs
                have u1 := hW.drew0 HQ.out.1
                unfold opG
                go_simp
                first | exact resG_eq_mk _ _ _ | rfl
              simp only [Act.put, List.setIfInBounds_toArray, List.set_cons_zero, List.set_cons_succ]
              apply wpG_eq
              · intro W hW hs
                have gW := Gr.trans ((Gr.refl w9).drew) hW
                have h13 : LetsW ls2 v13 W := hs _ (.head _) rfl
                have H13 := Lib.hid h13.2
                clear h13 hs
                unfold opG
                go_simp
                refine resG_call ((same_true W v13 _ ls2 H13.out (HQ.out.2 W gW) (by omega)).mono ?_)
                rintro e W2 ⟨rfl, g2⟩
                exact ⟨_, rfl, g2, rfl⟩
              simp only [Act.put, List.setIfInBounds_toArray, List.set_cons_zero, List.set_cons_succ]
              apply wpG_eq
              · intro W hW hs
                unfold opG
                go_simp
                first | exact resG_eq_mk _ _ _ | rfl
              simp only [Act.put, List.setIfInBounds_toArray, List.set_cons_zero, List.set_cons_succ]
              apply wpG_eq
              · intro W hW hs
                unfold opG
                go_simp
                first | exact resG_eq_mk _ _ _ | rfl
              simp only [Act.put, List.setIfInBounds_toArray, List.set_cons_zero, List.set_cons_succ]
              apply wpG_eq
              · intro W hW hs
                unfold opG
                go_simp
                first | exact resG_eq_mk _ _ _ | rfl
              simp only [Act.put, List.setIfInBounds_toArray, List.set_cons_zero, List.set_cons_succ]
              apply wpG_eq
              · intro W hW hs
                unfold opG
                go_simp
                first | exact resG_eq_mk _ _ _ | rfl
              simp only [Act.put, List.setIfInBounds_toArray, List.set_cons_zero, List.set_cons_succ]
              apply wpG_eq
              · intro W hW hs
                have gW := Gr.trans ((Gr.refl w9).drew) hW
                clear hs
                unfold opG
                go_simp
                refine resG_call ((Duo.len (P9.out.go gW)).mono ?_)
                rintro e W2 ⟨rfl, hw⟩
                exact ⟨_, rfl, by rw [hw]; exact Gr.refl _, rfl⟩
              simp only [Act.put, List.setIfInBounds_toArray, List.set_cons_zero, List.set_cons_succ]
              apply wpG_eq
              · intro W hW hs
                unfold opG
                go_simp
                first | exact resG_eq_mk _ _ _ | rfl
              simp only [Act.put, List.setIfInBounds_toArray, List.set_cons_zero, List.set_cons_succ]
              apply wpG_eq
              · intro W hW hs
                unfold opG
                go_simp
                first | exact resG_eq_mk _ _ _ | rfl
              simp only [Act.put, List.setIfInBounds_toArray, List.set_cons_zero, List.set_cons_succ]
              apply wpG_eq
              · intro W hW hs
                unfold opG
                go_simp
                first | exact resG_eq_mk _ _ _ | rfl
              simp only [Act.put, List.setIfInBounds_toArray, List.set_cons_zero, List.set_cons_succ]
              apply wpG_eq
              · intro W hW hs
                have u1 := hW.drew0 HQ.out.1
                unfold opG
                go_simp
                first | exact resG_eq_mk _ _ _ | rfl
              simp only [Act.put, List.setIfInBounds_toArray, List.set_cons_zero, List.set_cons_succ]
              apply wpG_eq
              · intro W hW hs
                unfold opG
                go_simp
                first | exact resG_eq_mk _ _ _ | rfl
              simp only [Act.put, List.setIfInBounds_toArray, List.set_cons_zero, List.set_cons_succ]
              apply wpG_eq
              · intro W hW hs
                unfold opG
                go_simp
                first | exact resG_eq_mk _ _ _ | rfl
              simp only [Act.put, List.setIfInBounds_toArray, List.set_cons_zero, List.set_cons_succ]
              apply wpG_eq
              · intro W hW hs
                unfold opG
                go_simp
                first | exact resG_eq_mk _ _ _ | rfl
              simp only [Act.put, List.setIfInBounds_toArray, List.set_cons_zero, List.set_cons_succ]
              apply wpG_eq
              · intro W hW hs
                unfold opG
                go_simp
                first | exact resG_eq_mk _ _ _ | rfl
              simp only [Act.put, List.setIfInBounds_toArray, List.set_cons_zero, List.set_cons_succ]
              apply wpG_eq
              · intro W hW hs
                unfold opG
                go_simp
                first | exact resG_eq_mk _ _ _ | rfl
              simp only [Act.put, List.setIfInBounds_toArray, List.set_cons_zero, List.set_cons_succ]
              apply wpG_eq
              · intro W hW hs
                unfold opG
                go_simp
                first | exact resG_eq_mk _ _ _ | rfl
              simp only [Act.put, List.setIfInBounds_toArray, List.set_cons_zero, List.set_cons_succ]
              apply wpG_eq
              · intro W hW hs
                unfold opG
                go_simp
                first | exact resG_eq_mk _ _ _ | rfl
              simp only [Act.put, List.setIfInBounds_toArray, List.set_cons_zero, List.set_cons_succ]
              apply wpG_eq
              · intro W hW hs
                have u2 := hW.drew0 (C9A.out.cell 2)
                have u3 := hW.drew0 (C9A.out.cell 3)
                have u4 := hW.drew0 (C9A.out.cell 4)
                have u5 := hW.drew0 (C9A.out.cell 5)
                unfold opG
                go_simp
                first | exact resG_eq_mk _ _ _ | rfl
              simp only [Act.put, List.setIfInBounds_toArray, List.set_cons_zero, List.set_cons_succ]
              apply wpG_eq
              · intro W hW hs
                unfold opG
                go_simp
                first | exact resG_eq_mk _ _ _ | rfl
              simp only [Act.put, List.setIfInBounds_toArray, List.set_cons_zero, List.set_cons_succ]
              apply wpG_eq
              · intro W hW hs
                unfold opG
                go_simp
                first | exact resG_eq_mk _ _ _ | rfl
              simp only [Act.put, List.setIfInBounds_toArray, List.set_cons_zero, List.set_cons_succ]
              apply wpG_eq
              · intro W hW hs
                have u2 := hW.drew0 (C9A.out.cell 2)
                have u3 := hW.drew0 (C9A.out.cell 3)
                have u4 := hW.drew0 (C9A.out.cell 4)
                have u5 := hW.drew0 (C9A.out.cell 5)
                unfold opG
                go_simp
                first | exact resG_eq_mk _ _ _ | rfl
              simp only [Act.put, List.setIfInBounds_toArray, List.set_cons_zero, List.set_cons_succ]
              apply wpG_eq
              · intro W hW hs
                have gW := Gr.trans ((Gr.refl w9).drew) hW
                clear hs
                unfold opG
                go_simp
                refine resG_call ((Duo.cuts1 (P9.out.go gW) (x1, x2) (x3, x4) HADR.out.1 HADR.out.2 HC1V.out.1).mono ?_)
                rintro e W2 ⟨rfl, g2⟩
                exact ⟨_, rfl, g2, rfl⟩
              simp only [Act.put, List.setIfInBounds_toArray, List.set_cons_zero, List.set_cons_succ]
              apply wpG_eq
              · intro W hW hs
                unfold opG
                go_simp
                first | exact resG_eq_mk _ _ _ | rfl
              simp only [Act.put, List.setIfInBounds_toArray, List.set_cons_zero, List.set_cons_succ]
              apply wpG_eq
              · intro W hW hs
                unfold opG
                go_simp
                first | exact resG_eq_mk _ _ _ | rfl
              simp only [Act.put, List.setIfInBounds_toArray, List.set_cons_zero, List.set_cons_succ]
              apply wpG_eq
              · intro W hW hs
                unfold opG
                go_simp
                first | exact resG_eq_mk _ _ _ | rfl
              simp only [Act.put, List.setIfInBounds_toArray, List.set_cons_zero, List.set_cons_succ]
              apply wpG_eq
              · intro W hW hs
                have u2 := hW.drew0 (C9A.out.cell 2)
                have u3 := hW.drew0 (C9A.out.cell 3)
                have u4 := hW.drew0 (C9A.out.cell 4)
                have u5 := hW.drew0 (C9A.out.cell 5)
                unfold opG
                go_simp
                first | exact resG_eq_mk _ _ _ | rfl
              simp only [Act.put, List.setIfInBounds_toArray, List.set_cons_zero, List.set_cons_succ]
              apply wpG_eq
              · intro W hW hs
                unfold opG
                go_simp
                first | exact resG_eq_mk _ _ _ | rfl
              simp only [Act.put, List.setIfInBounds_toArray, List.set_cons_zero, List.set_cons_succ]
              apply wpG_eq
              · intro W hW hs
                unfold opG
                go_simp
                first | exact resG_eq_mk _ _ _ | rfl
              simp only [Act.put, List.setIfInBounds_toArray, List.set_cons_zero, List.set_cons_succ]
              apply wpG_eq
              · intro W hW hs
                have u2 := hW.drew0 (C9A.out.cell 2)
                have u3 := hW.drew0 (C9A.out.cell 3)
                have u4 := hW.drew0 (C9A.out.cell 4)
                have u5 := hW.drew0 (C9A.out.cell 5)
                unfold opG
                go_simp
                first | exact resG_eq_mk _ _ _ | rfl
              simp only [Act.put, List.setIfInBounds_toArray, List.set_cons_zero, List.set_cons_succ]
              apply wpG_eq
              · intro W hW hs
                have gW := Gr.trans ((Gr.refl w9).drew) hW
                clear hs
                unfold opG
                go_simp
                refine resG_call ((Duo.cuts2 (P9.out.go gW) (by have := hcu2.out; omega) (x1, x2) (x3, x4) HC1V.out.2).mono ?_)
                rintro e W2 ⟨rfl, g2⟩
                exact ⟨_, rfl, g2, rfl⟩
              simp only [Act.put, List.setIfInBounds_toArray, List.set_cons_zero, List.set_cons_succ]
              apply wpG_eq
              · intro W hW hs
                unfold opG
                go_simp
                first | exact resG_eq_mk _ _ _ | rfl
              simp only [Act.put, List.setIfInBounds_toArray, List.set_cons_zero, List.set_cons_succ]
              apply wpG_eq
              · intro W hW hs
                unfold opG
                go_simp
                first | exact resG_eq_mk _ _ _ | rfl
              simp only [Act.put, List.setIfInBounds_toArray, List.set_cons_zero, List.set_cons_succ]
              apply wpG_eq
              · intro W hW hs
                unfold opG
                go_simp
                first | exact resG_eq_mk _ _ _ | rfl
              simp only [Act.put, List.setIfInBounds_toArray, List.set_cons_zero, List.set_cons_succ]
              apply wpG_eq
              · intro W hW hs
                unfold opG
                go_simp
                first | exact resG_eq_mk _ _ _ | rfl
              simp only [Act.put, List.setIfInBounds_toArray, List.set_cons_zero, List.set_cons_succ]
              apply wpG_eq
              · intro W hW hs
                unfold opG
                go_simp
                first | exact resG_eq_mk _ _ _ | rfl
              simp only [Act.put, List.setIfInBounds_toArray, List.set_cons_zero, List.set_cons_succ]
              apply wpG_eq
              · intro W hW hs
                unfold opG
                go_simp
                first | exact resG_eq_mk _ _ _ | rfl
              simp only [Act.put, List.setIfInBounds_toArray, List.set_cons_zero, List.set_cons_succ]
              apply wpG_eq
              · intro W hW hs
                have u2 := hW.drew0 (C9A.out.cell 2)
                have u3 := hW.drew0 (C9A.out.cell 3)
                have u4 := hW.drew0 (C9A.out.cell 4)
                have u5 := hW.drew0 (C9A.out.cell 5)
                unfold opG
                go_simp
                first | exact resG_eq_mk _ _ _ | rfl
              simp only [Act.put, List.setIfInBounds_toArray, List.set_cons_zero, List.set_cons_succ]
              apply wpG_eq
              · intro W hW hs
                unfold opG
                go_simp
                first | exact resG_eq_mk _ _ _ | rfl
              simp only [Act.put, List.setIfInBounds_toArray, List.set_cons_zero, List.set_cons_succ]
              apply wpG_eq
              · intro W hW hs
                unfold opG
                go_simp
                first | exact resG_eq_mk _ _ _ | rfl
              simp only [Act.put, List.setIfInBounds_toArray, List.set_cons_zero, List.set_cons_succ]
              apply wpG_eq
              · intro W hW hs
                have u2 := hW.drew0 (C9A.out.cell 2)
                have u3 := hW.drew0 (C9A.out.cell 3)
                have u4 := hW.drew0 (C9A.out.cell 4)
                have u5 := hW.drew0 (C9A.out.cell 5)
                unfold opG
                go_simp
                first | exact resG_eq_mk _ _ _ | rfl
              simp only [Act.put, List.setIfInBounds_toArray, List.set_cons_zero, List.set_cons_succ]
              apply wpG_eq
              · intro W hW hs
                have gW := Gr.trans ((Gr.refl w9).drew) hW
                clear hs
                unfold opG
                go_simp
                refine resG_call ((Duo.cuts1 (P9.out.go gW) (x3, x4) (x1, x2) HADR.out.2 HADR.out.1 HC2V.out.1).mono ?_)
                rintro e W2 ⟨rfl, g2⟩
                exact ⟨_, rfl, g2, rfl⟩
              simp only [Act.put, List.setIfInBounds_toArray, List.set_cons_zero, List.set_cons_succ]
              apply wpG_eq
              · intro W hW hs
                unfold opG
                go_simp
                first | exact resG_eq_mk _ _ _ | rfl
              simp only [Act.put, List.setIfInBounds_toArray, List.set_cons_zero, List.set_cons_succ]
              apply wpG_eq
              · intro W hW hs
                unfold opG
                go_simp
                first | exact resG_eq_mk _ _ _ | rfl
              simp only [Act.put, List.setIfInBounds_toArray, List.set_cons_zero, List.set_cons_succ]
              apply wpG_eq
              · intro W hW hs
                unfold opG
                go_simp
                first | exact resG_eq_mk _ _ _ | rfl
              simp only [Act.put, List.setIfInBounds_toArray, List.set_cons_zero, List.set_cons_succ]
              apply wpG_eq
              · intro W hW hs
                have u2 := hW.drew0 (C9A.out.cell 2)
                have u3 := hW.drew0 (C9A.out.cell 3)
                have u4 := hW.drew0 (C9A.out.cell 4)
                have u5 := hW.drew0 (C9A.out.cell 5)
                unfold opG
                go_simp
                first | exact resG_eq_mk _ _ _ | rfl
              simp only [Act.put, List.setIfInBounds_toArray, List.set_cons_zero, List.set_cons_succ]
              apply wpG_eq
              · intro W hW hs
                unfold opG
                go_simp
                first | exact resG_eq_mk _ _ _ | rfl
              simp only [Act.put, List.setIfInBounds_toArray, List.set_cons_zero, List.set_cons_succ]
              apply wpG_eq
              · intro W hW hs
                unfold opG
                go_simp
                first | exact resG_eq_mk _ _ _ | rfl
              simp only [Act.put, List.setIfInBounds_toArray, List.set_cons_zero, List.set_cons_succ]
              apply wpG_eq
              · intro W hW hs
                have u2 := hW.drew0 (C9A.out.cell 2)
                have u3 := hW.drew0 (C9A.out.cell 3)
                have u4 := hW.drew0 (C9A.out.cell 4)
                have u5 := hW.drew0 (C9A.out.cell 5)
                unfold opG
                go_simp
                first | exact resG_eq_mk _ _ _ | rfl
              simp only [Act.put, List.setIfInBounds_toArray, List.set_cons_zero, List.set_cons_succ]
              apply wpG_eq
              · intro W hW hs
                have gW := Gr.trans ((Gr.refl w9).drew) hW
                clear hs
                unfold opG
                go_simp
                refine resG_call ((Duo.cuts2 (P9.out.go gW) (by have := hcu2.out; omega) (x3, x4) (x1, x2) HC2V.out.2).mono ?_)
                rintro e W2 ⟨rfl, g2⟩
                exact ⟨_, rfl, g2, rfl⟩
              simp only [Act.put, List.setIfInBounds_toArray, List.set_cons_zero, List.set_cons_succ]
              apply wpG_eq
              · intro W hW hs
                unfold opG
                go_simp
                first | exact resG_eq_mk _ _ _ | rfl
              simp only [Act.put, List.setIfInBounds_toArray, List.set_cons_zero, List.set_cons_succ]
              apply wpG_eq
              · intro W hW hs
                unfold opG
                go_simp
                first | exact resG_eq_mk _ _ _ | rfl
              simp only [Act.put, List.setIfInBounds_toArray, List.set_cons_zero, List.set_cons_succ]
              apply wpG_nil
              intro wq hWq hsAll
              have P11 := Lib.hid ((P9.out.go (Gr.trans ((Gr.refl w9).drew) hWq)).less (F' := fun _ => False) (fun j hj => hj.elim))
              clear hsAll hWq P9 C9A C9P C9Q O9 SQ
              go_wp2
              exact ⟨⟨q + 1, c + 1, cut2, cuts, ls2, by omega, by go_num, P11.out, HS4.out, by omega, hcu2.out, hl2, HSM2.out⟩, by simp [intOf]; omega⟩
            · have hm1 : ((op : Int) % 7) = 5 := by omega
              have hm2 : ((op : Int).tmod 7) = 5 := by rw [Int.tmod_eq_emod_of_nonneg (by omega)]; omega
              have hsa := HSA.out
              have hrv : refV sizes cuts ls (⟨op, ix, (⟨(x1, x2), (x3, x4), b⟩ : LetD)⟩ : ActD) = (zl, turnE sizes (x1, x2) (x3, x4), ls, if linkV sizes (x1, x2) (x3, x4) then turnC cuts (x1, x2) (x3, x4) true else cuts) := by unfold refV; rw [if_neg (by rw [hd]; decide), if_pos (.inl hd), hd]; rfl
              rw [HRR.out, hrv] at hsa
              obtain ⟨s1, s2, s3, s4⟩ := hsa
              have HS1 := Lib.hid s1
              obtain ⟨cuts2, hcuts2⟩ : ∃ cuts2, cuts2 = (if linkV sizes (x1, x2) (x3, x4) then turnC cuts (x1, x2) (x3, x4) true else cuts) := ⟨_, rfl⟩
              have HS4 : Hid (Agree sizes cut2 cuts2) := Lib.hid (by rw [hcuts2]; exact s4)
              have hcu2 : Hid (cuts2.length ≤ q + 1) := Lib.hid (by
                rw [hcuts2]
                split
                · unfold turnC
                  rw [List.length_append]
                  have := List.length_filter_le (fun p => !matchV (x1, x2) (x3, x4) p) cuts
                  have h9 : (if (true : Bool) = true then [((x1, x2), (x3, x4))] else []).length ≤ 1 := by simp
                  omega
                · omega)
              have HC2 := Lib.hid hcuts2
              have HZ9 : Hid (turnE sizes (x1, x2) (x3, x4) = z) := Lib.hid s2
              have HL9 : Hid (ls = ls2) := Lib.hid s3
              clear hrv s1 s2 s3 s4 hcuts2
              have y0 := C8A.out.cell 0
              have y1 := C8A.out.cell 1
              have y2 := C8A.out.cell 2
              have y3 := C8A.out.cell 3
              have y4 := C8A.out.cell 4
              have y5 := C8A.out.cell 5
              have y6 := C8A.out.cell 6
              go_wp2_with fail
              clear y0 y1 y2 y3 y4 y5 y6
              refine (Duo.turn P8.out (by omega) (x1, x2) (x3, x4) true).mono ?_
              rintro e w9 ⟨rfl, hP9, hF9, hK9⟩
              rw [HZ9.out]
              rw [← HC2.out, HL9.out] at hP9
              have P9 : Hid (Duo w w9 N M Q (c + 1) (.slice a0 k c0) sizes cut2 cuts2 ls2 ls2 (fun j => j = BQ ∨ j = BP ∨ j = BA ∨ False)) := Lib.hid hP9
              have C9A := Lib.hid (C8A.out.block (hF9 BA (.inr (.inr (.inl rfl)))))
              have C9P := Lib.hid (C8P.out.block (hF9 BP (.inr (.inl rfl))))
              have C9Z := Lib.hid (C8Z.out.block (hF9 BQ (.inl rfl)))
              have O9 := Lib.hid (O8.out.kb (.inl rfl) hK9)
              clear hP9 hF9 hK9 P8 C8A C8P C8Z O8
              have C9Q : Hid (CellsAt w9 BQ #[.int .i64 r1, .int .i64 r2, .int .i64 r3, .int .i64 r4, .slice (none : Option Addr) rb.length 0] 35) := Lib.hid (by
                have e : zl = (⟨(r1, r2), (r3, r4), rb⟩ : LetD) := HS1.out
                unfold zl at e
                injection e with e1 e2 e3
                injection e1 with e4 e5
                injection e2 with e6 e7
                rw [← e4, ← e5, ← e6, ← e7, ← e3]
                exact C9Z.out)
              have SQ : Hid (Sl w9 (.slice (none : Option Addr) rb.length 0) (bytes rb)) := Lib.hid (by
                have e : zl = (⟨(r1, r2), (r3, r4), rb⟩ : LetD) := HS1.out
                unfold zl at e
                injection e with e1 e2 e3
                rw [← e3]
                exact Sl.nil _ _ _)
              clear C9Z
              obtain ⟨c1v, hc1v⟩ : ∃ c1v, cutsV sizes cut2 (x1, x2) (x3, x4) = c1v := ⟨_, rfl⟩
              obtain ⟨c2v, hc2v⟩ : ∃ c2v, cutsV sizes cut2 (x3, x4) (x1, x2) = c2v := ⟨_, rfl⟩
              have HC1V := Lib.hid (And.intro hc1v (show cutsR cuts2 (x1, x2) (x3, x4) = c1v by rw [← hc1v]; exact (HS4.out _ _).symm))
              have HC2V := Lib.hid (And.intro hc2v (show cutsR cuts2 (x3, x4) (x1, x2) = c2v by rw [← hc2v]; exact (HS4.out _ _).symm))
              have hb1 : (c1v != c1v) = false := by simp
              have hb2 : (c2v != c2v) = false := by simp
              obtain ⟨aL, cL, hQ1, hQlt, hLQ⟩ := P9.out.rows
              have HQ := Lib.hid (And.intro hQ1 hLQ)
              have HADR : Hid (AdOk (x1, x2) ∧ AdOk (x3, x4)) := Lib.hid ⟨HACT.out.2.2.2.1, HACT.out.2.2.2.2⟩
              clear hc1v hc2v hQ1 hQlt hLQ
              (try go_upto_region 28 with fail)
              apply wp_region_draw_grow (.eq _ :: .eq _ :: .eq _ :: .eq _ :: .eq _ :: .ok (RowL [(⟨(r1, r2), (r3, r4), rb⟩ : LetD)]) :: .eq _ :: .ok (RowL [(⟨(r1, r2), (r3, r4), rb⟩ : LetD)]) :: .eq (.bool true) :: .eq _ :: .eq _ :: .eq _ :: .eq _ :: .ok (LetsW ls2) :: .eq _ :: .eq _ :: .eq _ :: .eq _ :: .eq (.bool true) :: .eq _ :: .eq _ :: .eq _ :: .eq _ :: .eq (.int .i64 (ls2.length : Int)) :: .eq _ :: .eq _ :: .eq _ :: .eq _ :: .eq _ :: .eq _ :: .eq _ :: .eq _ :: .eq _ :: .eq _ :: .eq _ :: .eq _ :: .eq _ :: .eq _ :: .eq _ :: .eq (.bool c1v) :: .eq _ :: .eq _ :: .eq _ :: .eq _ :: .eq _ :: .eq _ :: .eq _ :: .eq (.bool c1v) :: .eq _ :: .eq _ :: .eq _ :: .eq _ :: .eq _ :: .eq _ :: .eq _ :: .eq _ :: .eq _ :: .eq _ :: .eq (.bool c2v) :: .eq _ :: .eq _ :: .eq _ :: .eq _ :: .eq _ :: .eq _ :: .eq _ :: .eq (.bool c2v) :: .eq _ :: .eq _ :: []) (by kernel_rfl) (by kernel_rfl) ⟨RowL.mono _, RowL.mono _, LetsW.mono _, trivial⟩
              apply wpG_eq
              · intro W hW hs
                unfold opG
                go_simp
                first | exact resG_eq_mk _ _ _ | rfl
              simp only [Act.put, List.setIfInBounds_toArray, List.set_cons_zero, List.set_cons_succ]
              apply wpG_eq
              · intro W hW hs
                unfold opG
                go_simp
                first | exact resG_eq_mk _ _ _ | rfl
              simp only [Act.put, List.setIfInBounds_toArray, List.set_cons_zero, List.set_cons_succ]
              apply wpG_eq
              · intro W hW hs
                unfold opG
                go_simp
                first | exact resG_eq_mk _ _ _ | rfl
              simp only [Act.put, List.setIfInBounds_toArray, List.set_cons_zero, List.set_cons_succ]
              apply wpG_eq
              · intro W hW hs
                unfold opG
                go_simp
                first | exact resG_eq_mk _ _ _ | rfl
              simp only [Act.put, List.setIfInBounds_toArray, List.set_cons_zero, List.set_cons_succ]
              apply wpG_eq
              · intro W hW hs
                have u0 := hW.drew0 (C9P.out.cell 0)
                have u1 := hW.drew0 (C9P.out.cell 1)
                have u2 := hW.drew0 (C9P.out.cell 2)
                have u3 := hW.drew0 (C9P.out.cell 3)
                have u4 := hW.drew0 (C9P.out.cell 4)
                unfold opG
                go_simp
                first | exact resG_eq_mk _ _ _ | rfl
              simp only [Act.put, List.setIfInBounds_toArray, List.set_cons_zero, List.set_cons_succ]
              apply wpG_ok
              · intro W hW hs
                unfold opG
                go_simp
                exact resG_mk ((Gr.refl W).alloc _) ⟨_, 1, rfl, Lets.one (CellsAt.new _ _ _) ((O9.out.sl).below (Gr.trans (Gr.trans ((Gr.refl w9).drew) hW) ((Gr.refl W).alloc _)))⟩
              intro v5
              simp only [Act.put, List.setIfInBounds_toArray, List.set_cons_zero, List.set_cons_succ]
              apply wpG_eq
              · intro W hW hs
                have u0 := hW.drew0 (C9Q.out.cell 0)
                have u1 := hW.drew0 (C9Q.out.cell 1)
                have u2 := hW.drew0 (C9Q.out.cell 2)
                have u3 := hW.drew0 (C9Q.out.cell 3)
                have u4 := hW.drew0 (C9Q.out.cell 4)
                unfold opG
                go_simp
                first | exact resG_eq_mk _ _ _ | rfl
              simp only [Act.put, List.setIfInBounds_toArray, List.set_cons_zero, List.set_cons_succ]
              apply wpG_ok
              · intro W hW hs
                unfold opG
                go_simp
                exact resG_mk ((Gr.refl W).alloc _) ⟨_, 1, rfl, Lets.one (CellsAt.new _ _ _) ((SQ.out).below (Gr.trans (Gr.trans ((Gr.refl w9).drew) hW) ((Gr.refl W).alloc _)))⟩
              intro v7
              simp only [Act.put, List.setIfInBounds_toArray, List.set_cons_zero, List.set_cons_succ]
              apply wpG_eq
              · intro W hW hs
                have h7 : RowL [(⟨(r1, r2), (r3, r4), rb⟩ : LetD)] v7 W := hs _ (.head _) rfl
                have h5 : RowL [(⟨(r1, r2), (r3, r4), rb⟩ : LetD)] v5 W := hs _ (.tail _ (.head _)) rfl
                have H7 : Hid (Lets W v7 [(⟨(r1, r2), (r3, r4), rb⟩ : LetD)]) := Lib.hid (by obtain ⟨_, _, _, h⟩ := h7; exact h)
                have H5 : Hid (Lets W v5 [(⟨(r1, r2), (r3, r4), rb⟩ : LetD)]) := Lib.hid (by obtain ⟨_, _, _, h⟩ := h5; exact h)
                clear h7 h5 hs
                unfold opG
                go_simp
                refine resG_call ((same_true W v5 v7 [(⟨(r1, r2), (r3, r4), rb⟩ : LetD)] H5.out H7.out (by simp)).mono ?_)
                rintro e W2 ⟨rfl, g2⟩
                exact ⟨_, rfl, g2, rfl⟩
              simp only [Act.put, List.setIfInBounds_toArray, List.set_cons_zero, List.set_cons_succ]
              apply wpG_eq
              · intro W hW hs
                unfold opG
                go_simp
                first | exact resG_eq_mk _ _ _ | rfl
              simp only [Act.put, List.setIfInBounds_toArray, List.set_cons_zero, List.set_cons_succ]
              apply wpG_eq
              · intro W hW hs
                unfold opG
                go_simp
                first | exact resG_eq_mk _ _ _ | rfl
              simp only [Act.put, List.setIfInBounds_toArray, List.set_cons_zero, List.set_cons_succ]
              apply wpG_eq
              · intro W hW hs
                unfold opG
                go_simp
                first | exact resG_eq_mk _ _ _ | rfl
              simp only [Act.put, List.setIfInBounds_toArray, List.set_cons_zero, List.set_cons_succ]
              apply wpG_eq
              · intro W hW hs
                unfold opG
                go_simp
                first | exact resG_eq_mk _ _ _ | rfl
              simp only [Act.put, List.setIfInBounds_toArray, List.set_cons_zero, List.set_cons_succ]
              apply wpG_ok
              · intro W hW hs
                have gW := Gr.trans ((Gr.refl w9).drew) hW
                clear hs
                unfold opG
                go_simp
                refine resG_call ((Duo.letters (P9.out.go gW) (fun l hl => Nat.le_trans (HSM2.out l hl).2 (by decide))).mono ?_)
                rintro e W2 ⟨v, rfl, hl, g2⟩
                exact ⟨_, rfl, g2, hl.shape, hl⟩
              intro v13
              simp only [Act.put, List.setIfInBounds_toArray, List.set_cons_zero, List.set_cons_succ]
              apply wpG_eq
              · intro W hW hs
                unfold opG
                go_simp
                first | exact resG_eq_mk _ _ _ | rfl
              simp only [Act.put, List.setIfInBounds_toArray, List.set_cons_zero, List.set_cons_succ]
              apply wpG_eq
              · intro W hW hs
                unfold opG
                go_simp
                first | exact resG_eq_mk _ _ _ | rfl
              simp only [Act.put, List.setIfInBounds_toArray, List.set_cons_zero, List.set_cons_succ]
              apply wpG_eq
              · intro W hW hs
                unfold opG
                go_simp
                first | exact resG_eq_mk _ _ _ | rfl
              simp only [Act.put, List.setIfInBounds_toArray, List.set_cons_zero, List.set_cons_succ]
              apply wpG_eq
              · intro W hW hs
                have u1 := hW.drew0 HQ.out.1
                unfold opG
                go_simp
                first | exact resG_eq_mk _ _ _ | rfl
              simp only [Act.put, List.setIfInBounds_toArray, List.set_cons_zero, List.set_cons_succ]
              apply wpG_eq
              · intro W hW hs
                have gW := Gr.trans ((Gr.refl w9).drew) hW
                have h13 : LetsW ls2 v13 W := hs _ (.head _) rfl
                have H13 := Lib.hid h13.2
                clear h13 hs
                unfold opG
                go_simp
                refine resG_call ((same_true W v13 _ ls2 H13.out (HQ.out.2 W gW) (by omega)).mono ?_)
                rintro e W2 ⟨rfl, g2⟩
                exact ⟨_, rfl, g2, rfl⟩
              simp only [Act.put, List.setIfInBounds_toArray, List.set_cons_zero, List.set_cons_succ]
              apply wpG_eq
              · intro W hW hs
                unfold opG
                go_simp
                first | exact resG_eq_mk _ _ _ | rfl
              simp only [Act.put, List.setIfInBounds_toArray, List.set_cons_zero, List.set_cons_succ]
              apply wpG_eq
              · intro W hW hs
                unfold opG
                go_simp
                first | exact resG_eq_mk _ _ _ | rfl
              simp only [Act.put, List.setIfInBounds_toArray, List.set_cons_zero, List.set_cons_succ]
              apply wpG_eq
              · intro W hW hs
                unfold opG
                go_simp
                first | exact resG_eq_mk _ _ _ | rfl
              simp only [Act.put, List.setIfInBounds_toArray, List.set_cons_zero, List.set_cons_succ]
              apply wpG_eq
              · intro W hW hs
                unfold opG
                go_simp
                first | exact resG_eq_mk _ _ _ | rfl
              simp only [Act.put, List.setIfInBounds_toArray, List.set_cons_zero, List.set_cons_succ]
              apply wpG_eq
              · intro W hW hs
                have gW := Gr.trans ((Gr.refl w9).drew) hW
                clear hs
                unfold opG
                go_simp
                refine resG_call ((Duo.len (P9.out.go gW)).mono ?_)
                rintro e W2 ⟨rfl, hw⟩
                exact ⟨_, rfl, by rw [hw]; exact Gr.refl _, rfl⟩
              simp only [Act.put, List.setIfInBounds_toArray, List.set_cons_zero, List.set_cons_succ]
              apply wpG_eq
              · intro W hW hs
                unfold opG
                go_simp
                first | exact resG_eq_mk _ _ _ | rfl
              simp only [Act.put, List.setIfInBounds_toArray, List.set_cons_zero, List.set_cons_succ]
              apply wpG_eq
              · intro W hW hs
                unfold opG
                go_simp
                first | exact resG_eq_mk _ _ _ | rfl
              simp only [Act.put, List.setIfInBounds_toArray, List.set_cons_zero, List.set_cons_succ]
              apply wpG_eq
              · intro W hW hs
                unfold opG
                go_simp
                first | exact resG_eq_mk _ _ _ | rfl
              simp only [Act.put, List.setIfInBounds_toArray, List.set_cons_zero, List.set_cons_succ]
              apply wpG_eq
              · intro W hW hs
                have u1 := hW.drew0 HQ.out.1
                unfold opG
                go_simp
                first | exact resG_eq_mk _ _ _ | rfl
              simp only [Act.put, List.setIfInBounds_toArray, List.set_cons_zero, List.set_cons_succ]
              apply wpG_eq
              · intro W hW hs
                unfold opG
                go_simp
                first | exact resG_eq_mk _ _ _ | rfl
              simp only [Act.put, List.setIfInBounds_toArray, List.set_cons_zero, List.set_cons_succ]
              apply wpG_eq
              · intro W hW hs
                unfold opG
                go_simp
                first | exact resG_eq_mk _ _ _ | rfl
              simp only [Act.put, List.setIfInBounds_toArray, List.set_cons_zero, List.set_cons_succ]
              apply wpG_eq
              · intro W hW hs
                unfold opG
                go_simp
                first | exact resG_eq_mk _ _ _ | rfl
              simp only [Act.put, List.setIfInBounds_toArray, List.set_cons_zero, List.set_cons_succ]
              apply wpG_eq
              · intro W hW hs
                unfold opG
                go_simp
                first | exact resG_eq_mk _ _ _ | rfl
              simp only [Act.put, List.setIfInBounds_toArray, List.set_cons_zero, List.set_cons_succ]
              apply wpG_eq
              · intro W hW hs
                unfold opG
                go_simp
                first | exact resG_eq_mk _ _ _ | rfl
              simp only [Act.put, List.setIfInBounds_toArray, List.set_cons_zero, List.set_cons_succ]
              apply wpG_eq
              · intro W hW hs
                unfold opG
                go_simp
                first | exact resG_eq_mk _ _ _ | rfl
              simp only [Act.put, List.setIfInBounds_toArray, List.set_cons_zero, List.set_cons_succ]
              apply wpG_eq
              · intro W hW hs
                unfold opG
                go_simp
                first | exact resG_eq_mk _ _ _ | rfl
              simp only [Act.put, List.setIfInBounds_toArray, List.set_cons_zero, List.set_cons_succ]
              apply wpG_eq
              · intro W hW hs
                have u2 := hW.drew0 (C9A.out.cell 2)
                have u3 := hW.drew0 (C9A.out.cell 3)
                have u4 := hW.drew0 (C9A.out.cell 4)
                have u5 := hW.drew0 (C9A.out.cell 5)
                unfold opG
                go_simp
                first | exact resG_eq_mk _ _ _ | rfl
              simp only [Act.put, List.setIfInBounds_toArray, List.set_cons_zero, List.set_cons_succ]
              apply wpG_eq
              · intro W hW hs
                unfold opG
                go_simp
                first | exact resG_eq_mk _ _ _ | rfl
              simp only [Act.put, List.setIfInBounds_toArray, List.set_cons_zero, List.set_cons_succ]
              apply wpG_eq
              · intro W hW hs
                unfold opG
                go_simp
                first | exact resG_eq_mk _ _ _ | rfl
              simp only [Act.put, List.setIfInBounds_toArray, List.set_cons_zero, List.set_cons_succ]
              apply wpG_eq
              · intro W hW hs
                have u2 := hW.drew0 (C9A.out.cell 2)
                have u3 := hW.drew0 (C9A.out.cell 3)
                have u4 := hW.drew0 (C9A.out.cell 4)
                have u5 := hW.drew0 (C9A.out.cell 5)
                unfold opG
                go_simp
                first | exact resG_eq_mk _ _ _ | rfl
              simp only [Act.put, List.setIfInBounds_toArray, List.set_cons_zero, List.set_cons_succ]
              apply wpG_eq
              · intro W hW hs
                have gW := Gr.trans ((Gr.refl w9).drew) hW
                clear hs
                unfold opG
                go_simp
                refine resG_call ((Duo.cuts1 (P9.out.go gW) (x1, x2) (x3, x4) HADR.out.1 HADR.out.2 HC1V.out.1).mono ?_)
                rintro e W2 ⟨rfl, g2⟩
                exact ⟨_, rfl, g2, rfl⟩
              simp only [Act.put, List.setIfInBounds_toArray, List.set_cons_zero, List.set_cons_succ]
              apply wpG_eq
              · intro W hW hs
                unfold opG
                go_simp
                first | exact resG_eq_mk _ _ _ | rfl
              simp only [Act.put, List.setIfInBounds_toArray, List.set_cons_zero, List.set_cons_succ]
              apply wpG_eq
              · intro W hW hs
                unfold opG
                go_simp
                first | exact resG_eq_mk _ _ _ | rfl
              simp only [Act.put, List.setIfInBounds_toArray, List.set_cons_zero, List.set_cons_succ]
              apply wpG_eq
              · intro W hW hs
                unfold opG
                go_simp
                first | exact resG_eq_mk _ _ _ | rfl
              simp only [Act.put, List.setIfInBounds_toArray, List.set_cons_zero, List.set_cons_succ]
              apply wpG_eq
              · intro W hW hs
                have u2 := hW.drew0 (C9A.out.cell 2)
                have u3 := hW.drew0 (C9A.out.cell 3)
                have u4 := hW.drew0 (C9A.out.cell 4)
                have u5 := hW.drew0 (C9A.out.cell 5)
                unfold opG
                go_simp
                first | exact resG_eq_mk _ _ _ | rfl
              simp only [Act.put, List.setIfInBounds_toArray, List.set_cons_zero, List.set_cons_succ]
              apply wpG_eq
              · intro W hW hs
                unfold opG
                go_simp
                first | exact resG_eq_mk _ _ _ | rfl
              simp only [Act.put, List.setIfInBounds_toArray, List.set_cons_zero, List.set_cons_succ]
              apply wpG_eq
              · intro W hW hs
                unfold opG
                go_simp
                first | exact resG_eq_mk _ _ _ | rfl
              simp only [Act.put, List.setIfInBounds_toArray, List.set_cons_zero, List.set_cons_succ]
              apply wpG_eq
              · intro W hW hs
                have u2 := hW.drew0 (C9A.out.cell 2)
                have u3 := hW.drew0 (C9A.out.cell 3)
                have u4 := hW.drew0 (C9A.out.cell 4)
                have u5 := hW.drew0 (C9A.out.cell 5)
                unfold opG
                go_simp
                first | exact resG_eq_mk _ _ _ | rfl
              simp only [Act.put, List.setIfInBounds_toArray, List.set_cons_zero, List.set_cons_succ]
              apply wpG_eq
              · intro W hW hs
                have gW := Gr.trans ((Gr.refl w9).drew) hW
                clear hs
                unfold opG
                go_simp
                refine resG_call ((Duo.cuts2 (P9.out.go gW) (by have := hcu2.out; omega) (x1, x2) (x3, x4) HC1V.out.2).mono ?_)
                rintro e W2 ⟨rfl, g2⟩
                exact ⟨_, rfl, g2, rfl⟩
              simp only [Act.put, List.setIfInBounds_toArray, List.set_cons_zero, List.set_cons_succ]
              apply wpG_eq
              · intro W hW hs
                unfold opG
                go_simp
                first | exact resG_eq_mk _ _ _ | rfl
              simp only [Act.put, List.setIfInBounds_toArray, List.set_cons_zero, List.set_cons_succ]
              apply wpG_eq
              · intro W hW hs
                unfold opG
                go_simp
                first | exact resG_eq_mk _ _ _ | rfl
              simp only [Act.put, List.setIfInBounds_toArray, List.set_cons_zero, List.set_cons_succ]
              apply wpG_eq
              · intro W hW hs
                unfold opG
                go_simp
                first | exact resG_eq_mk _ _ _ | rfl
              simp only [Act.put, List.setIfInBounds_toArray, List.set_cons_zero, List.set_cons_succ]
              apply wpG_eq
              · intro W hW hs
                unfold opG
                go_simp
                first | exact resG_eq_mk _ _ _ | rfl
              simp only [Act.put, List.setIfInBounds_toArray, List.set_cons_zero, List.set_cons_succ]
              apply wpG_eq
              · intro W hW hs
                unfold opG
                go_simp
                first | exact resG_eq_mk _ _ _ | rfl
              simp only [Act.put, List.setIfInBounds_toArray, List.set_cons_zero, List.set_cons_succ]
              apply wpG_eq
              · intro W hW hs
                unfold opG
                go_simp
                first | exact resG_eq_mk _ _ _ | rfl
              simp only [Act.put, List.setIfInBounds_toArray, List.set_cons_zero, List.set_cons_succ]
              apply wpG_eq
              · intro W hW hs
                have u2 := hW.drew0 (C9A.out.cell 2)
                have u3 := hW.drew0 (C9A.out.cell 3)
                have u4 := hW.drew0 (C9A.out.cell 4)
                have u5 := hW.drew0 (C9A.out.cell 5)
                unfold opG
                go_simp
                first | exact resG_eq_mk _ _ _ | rfl
              simp only [Act.put, List.setIfInBounds_toArray, List.set_cons_zero, List.set_cons_succ]
              apply wpG_eq
              · intro W hW hs
                unfold opG
                go_simp
                first | exact resG_eq_mk _ _ _ | rfl
              simp only [Act.put, List.setIfInBounds_toArray, List.set_cons_zero, List.set_cons_succ]
              apply wpG_eq
              · intro W hW hs
                unfold opG
                go_simp
                first | exact resG_eq_mk _ _ _ | rfl
              simp only [Act.put, List.setIfInBounds_toArray, List.set_cons_zero, List.set_cons_succ]
              apply wpG_eq
              · intro W hW hs
                have u2 := hW.drew0 (C9A.out.cell 2)
                have u3 := hW.drew0 (C9A.out.cell 3)
                have u4 := hW.drew0 (C9A.out.cell 4)
                have u5 := hW.drew0 (C9A.out.cell 5)
                unfold opG
                go_simp
                first | exact resG_eq_mk _ _ _ | rfl
              simp only [Act.put, List.setIfInBounds_toArray, List.set_cons_zero, List.set_cons_succ]
              apply wpG_eq
              · intro W hW hs
                have gW := Gr.trans ((Gr.refl w9).drew) hW
                clear hs
                unfold opG
                go_simp
                refine resG_call ((Duo.cuts1 (P9.out.go gW) (x3, x4) (x1, x2) HADR.out.2 HADR.out.1 HC2V.out.1).mono ?_)
                rintro e W2 ⟨rfl, g2⟩
                exact ⟨_, rfl, g2, rfl⟩
              simp only [Act.put, List.setIfInBounds_toArray, List.set_cons_zero, List.set_cons_succ]
              apply wpG_eq
              · intro W hW hs
                unfold opG
                go_simp
                first | exact resG_eq_mk _ _ _ | rfl
              simp only [Act.put, List.setIfInBounds_toArray, List.set_cons_zero, List.set_cons_succ]
              apply wpG_eq
              · intro W hW hs
                unfold opG
                go_simp
                first | exact resG_eq_mk _ _ _ | rfl
              simp only [Act.put, List.setIfInBounds_toArray, List.set_cons_zero, List.set_cons_succ]
              apply wpG_eq
              · intro W hW hs
                unfold opG
                go_simp
                first | exact resG_eq_mk _ _ _ | rfl
              simp only [Act.put, List.setIfInBounds_toArray, List.set_cons_zero, List.set_cons_succ]
              apply wpG_eq
              · intro W hW hs
                have u2 := hW.drew0 (C9A.out.cell 2)
                have u3 := hW.drew0 (C9A.out.cell 3)
                have u4 := hW.drew0 (C9A.out.cell 4)
                have u5 := hW.drew0 (C9A.out.cell 5)
                unfold opG
                go_simp
                first | exact resG_eq_mk _ _ _ | rfl
              simp only [Act.put, List.setIfInBounds_toArray, List.set_cons_zero, List.set_cons_succ]
              apply wpG_eq
              · intro W hW hs
                unfold opG
                go_simp
                first | exact resG_eq_mk _ _ _ | rfl
              simp only [Act.put, List.setIfInBounds_toArray, List.set_cons_zero, List.set_cons_succ]
              apply wpG_eq
              · intro W hW hs
                unfold opG
                go_simp
                first | exact resG_eq_mk _ _ _ | rfl
              simp only [Act.put, List.setIfInBounds_toArray, List.set_cons_zero, List.set_cons_succ]
              apply wpG_eq
              · intro W hW hs
                have u2 := hW.drew0 (C9A.out.cell 2)
                have u3 := hW.drew0 (C9A.out.cell 3)
                have u4 := hW.drew0 (C9A.out.cell 4)
                have u5 := hW.drew0 (C9A.out.cell 5)
                unfold opG
                go_simp
                first | exact resG_eq_mk _ _ _ | rfl
              simp only [Act.put, List.setIfInBounds_toArray, List.set_cons_zero, List.set_cons_succ]
              apply wpG_eq
              · intro W hW hs
                have gW := Gr.trans ((Gr.refl w9).drew) hW
                clear hs
                unfold opG
                go_simp
                refine resG_call ((Duo.cuts2 (P9.out.go gW) (by have := hcu2.out; omega) (x3, x4) (x1, x2) HC2V.out.2).mono ?_)
                rintro e W2 ⟨rfl, g2⟩
                exact ⟨_, rfl, g2, rfl⟩
              simp only [Act.put, List.setIfInBounds_toArray, List.set_cons_zero, List.set_cons_succ]
              apply wpG_eq
              · intro W hW hs
                unfold opG
                go_simp
                first | exact resG_eq_mk _ _ _ | rfl
              simp only [Act.put, List.setIfInBounds_toArray, List.set_cons_zero, List.set_cons_succ]
              apply wpG_eq
              · intro W hW hs
                unfold opG
                go_simp
                first | exact resG_eq_mk _ _ _ | rfl
              simp only [Act.put, List.setIfInBounds_toArray, List.set_cons_zero, List.set_cons_succ]
              apply wpG_nil
              intro wq hWq hsAll
              have P11 := Lib.hid ((P9.out.go (Gr.trans ((Gr.refl w9).drew) hWq)).less (F' := fun _ => False) (fun j hj => hj.elim))
              clear hsAll hWq P9 C9A C9P C9Q O9 SQ
              go_wp2
              exact ⟨⟨q + 1, c + 1, cut2, cuts2, ls2, by omega, by go_num, P11.out, HS4.out, by omega, hcu2.out, hl2, HSM2.out⟩, by simp [intOf]; omega⟩
            · have hm1 : ((op : Int) % 7) = 6 := by omega
              have hm2 : ((op : Int).tmod 7) = 6 := by rw [Int.tmod_eq_emod_of_nonneg (by omega)]; omega
              have hsa := HSA.out
              have hrv : refV sizes cuts ls (⟨op, ix, (⟨(x1, x2), (x3, x4), b⟩ : LetD)⟩ : ActD) = (zl, turnE sizes (x1, x2) (x3, x4), ls, if linkV sizes (x1, x2) (x3, x4) then turnC cuts (x1, x2) (x3, x4) false else cuts) := by unfold refV; rw [if_neg (by rw [hd]; decide), if_pos (.inr hd), hd]; rfl
              rw [HRR.out, hrv] at hsa
              obtain ⟨s1, s2, s3, s4⟩ := hsa
              have HS1 := Lib.hid s1
              obtain ⟨cuts2, hcuts2⟩ : ∃ cuts2, cuts2 = (if linkV sizes (x1, x2) (x3, x4) then turnC cuts (x1, x2) (x3, x4) false else cuts) := ⟨_, rfl⟩
              have HS4 : Hid (Agree sizes cut2 cuts2) := Lib.hid (by rw [hcuts2]; exact s4)
              have hcu2 : Hid (cuts2.length ≤ q + 1) := Lib.hid (by
                rw [hcuts2]
                split
                · unfold turnC
                  rw [List.length_append]
                  have := List.length_filter_le (fun p => !matchV (x1, x2) (x3, x4) p) cuts
                  have h9 : (if (false : Bool) = true then [((x1, x2), (x3, x4))] else []).length ≤ 1 := by simp
                  omega
                · omega)
              have HC2 := Lib.hid hcuts2
              have HZ9 : Hid (turnE sizes (x1, x2) (x3, x4) = z) := Lib.hid s2
              have HL9 : Hid (ls = ls2) := Lib.hid s3
              clear hrv s1 s2 s3 s4 hcuts2
              have y0 := C8A.out.cell 0
              have y1 := C8A.out.cell 1
              have y2 := C8A.out.cell 2
              have y3 := C8A.out.cell 3
              have y4 := C8A.out.cell 4
              have y5 := C8A.out.cell 5
              have y6 := C8A.out.cell 6
              go_wp2_with fail
              clear y0 y1 y2 y3 y4 y5 y6
              refine (Duo.turn P8.out (by omega) (x1, x2) (x3, x4) false).mono ?_
              rintro e w9 ⟨rfl, hP9, hF9, hK9⟩
              rw [HZ9.out]
              rw [← HC2.out, HL9.out] at hP9
              have P9 : Hid (Duo w w9 N M Q (c + 1) (.slice a0 k c0) sizes cut2 cuts2 ls2 ls2 (fun j => j = BQ ∨ j = BP ∨ j = BA ∨ False)) := Lib.hid hP9
              have C9A := Lib.hid (C8A.out.block (hF9 BA (.inr (.inr (.inl rfl)))))
              have C9P := Lib.hid (C8P.out.block (hF9 BP (.inr (.inl rfl))))
              have C9Z := Lib.hid (C8Z.out.block (hF9 BQ (.inl rfl)))
              have O9 := Lib.hid (O8.out.kb (.inl rfl) hK9)
              clear hP9 hF9 hK9 P8 C8A C8P C8Z O8
              have C9Q : Hid (CellsAt w9 BQ #[.int .i64 r1, .int .i64 r2, .int .i64 r3, .int .i64 r4, .slice (none : Option Addr) rb.length 0] 35) := Lib.hid (by
                have e : zl = (⟨(r1, r2), (r3, r4), rb⟩ : LetD) := HS1.out
                unfold zl at e
                injection e with e1 e2 e3
                injection e1 with e4 e5
                injection e2 with e6 e7
                rw [← e4, ← e5, ← e6, ← e7, ← e3]
                exact C9Z.out)
              have SQ : Hid (Sl w9 (.slice (none : Option Addr) rb.length 0) (bytes rb)) := Lib.hid (by
                have e : zl = (⟨(r1, r2), (r3, r4), rb⟩ : LetD) := HS1.out
                unfold zl at e
                injection e with e1 e2 e3
                rw [← e3]
                exact Sl.nil _ _ _)
              clear C9Z
              obtain ⟨c1v, hc1v⟩ : ∃ c1v, cutsV sizes cut2 (x1, x2) (x3, x4) = c1v := ⟨_, rfl⟩
              obtain ⟨c2v, hc2v⟩ : ∃ c2v, cutsV sizes cut2 (x3, x4) (x1, x2) = c2v := ⟨_, rfl⟩
              have HC1V := Lib.hid (And.intro hc1v (show cutsR cuts2 (x1, x2) (x3, x4) = c1v by rw [← hc1v]; exact (HS4.out _ _).symm))
              have HC2V := Lib.hid (And.intro hc2v (show cutsR cuts2 (x3, x4) (x1, x2) = c2v by rw [← hc2v]; exact (HS4.out _ _).symm))
              have hb1 : (c1v != c1v) = false := by simp
              have hb2 : (c2v != c2v) = false := by simp
              obtain ⟨aL, cL, hQ1, hQlt, hLQ⟩ := P9.out.rows
              have HQ := Lib.hid (And.intro hQ1 hLQ)
              have HADR : Hid (AdOk (x1, x2) ∧ AdOk (x3, x4)) := Lib.hid ⟨HACT.out.2.2.2.1, HACT.out.2.2.2.2⟩
              clear hc1v hc2v hQ1 hQlt hLQ
              (try go_upto_region 28 with fail)
              apply wp_region_draw_grow (.eq _ :: .eq _ :: .eq _ :: .eq _ :: .eq _ :: .ok (RowL [(⟨(r1, r2), (r3, r4), rb⟩ : LetD)]) :: .eq _ :: .ok (RowL [(⟨(r1, r2), (r3, r4), rb⟩ : LetD)]) :: .eq (.bool true) :: .eq _ :: .eq _ :: .eq _ :: .eq _ :: .ok (LetsW ls2) :: .eq _ :: .eq _ :: .eq _ :: .eq _ :: .eq (.bool true) :: .eq _ :: .eq _ :: .eq _ :: .eq _ :: .eq (.int .i64 (ls2.length : Int)) :: .eq _ :: .eq _ :: .eq _ :: .eq _ :: .eq _ :: .eq _ :: .eq _ :: .eq _ :: .eq _ :: .eq _ :: .eq _ :: .eq _ :: .eq _ :: .eq _ :: .eq _ :: .eq (.bool c1v) :: .eq _ :: .eq _ :: .eq _ :: .eq _ :: .eq _ :: .eq _ :: .eq _ :: .eq (.bool c1v) :: .eq _ :: .eq _ :: .eq _ :: .eq _ :: .eq _ :: .eq _ :: .eq _ :: .eq _ :: .eq _ :: .eq _ :: .eq (.bool c2v) :: .eq _ :: .eq _ :: .eq _ :: .eq _ :: .eq _ :: .eq _ :: .eq _ :: .eq (.bool c2v) :: .eq _ :: .eq _ :: []) (by kernel_rfl) (by kernel_rfl) ⟨RowL.mono _, RowL.mono _, LetsW.mono _, trivial⟩
              apply wpG_eq
              · intro W hW hs
                unfold opG
                go_simp
                first | exact resG_eq_mk _ _ _ | rfl
              simp only [Act.put, List.setIfInBounds_toArray, List.set_cons_zero, List.set_cons_succ]
              apply wpG_eq
              · intro W hW hs
                unfold opG
                go_simp
                first | exact resG_eq_mk _ _ _ | rfl
              simp only [Act.put, List.setIfInBounds_toArray, List.set_cons_zero, List.set_cons_succ]
              apply wpG_eq
              · intro W hW hs
                unfold opG
                go_simp
                first | exact resG_eq_mk _ _ _ | rfl
              simp only [Act.put, List.setIfInBounds_toArray, List.set_cons_zero, List.set_cons_succ]
              apply wpG_eq
              · intro W hW hs
                unfold opG
                go_simp
                first | exact resG_eq_mk _ _ _ | rfl
              simp only [Act.put, List.setIfInBounds_toArray, List.set_cons_zero, List.set_cons_succ]
              apply wpG_eq
              · intro W hW hs
                have u0 := hW.drew0 (C9P.out.cell 0)
                have u1 := hW.drew0 (C9P.out.cell 1)
                have u2 := hW.drew0 (C9P.out.cell 2)
                have u3 := hW.drew0 (C9P.out.cell 3)
                have u4 := hW.drew0 (C9P.out.cell 4)
                unfold opG
                go_simp
                first | exact resG_eq_mk _ _ _ | rfl
              simp only [Act.put, List.setIfInBounds_toArray, List.set_cons_zero, List.set_cons_succ]
              apply wpG_ok
              · intro W hW hs
                unfold opG
                go_simp
                exact resG_mk ((Gr.refl W).alloc _) ⟨_, 1, rfl, Lets.one (CellsAt.new _ _ _) ((O9.out.sl).below (Gr.trans (Gr.trans ((Gr.refl w9).drew) hW) ((Gr.refl W).alloc _)))⟩
              intro v5
              simp only [Act.put, List.setIfInBounds_toArray, List.set_cons_zero, List.set_cons_succ]
              apply wpG_eq
              · intro W hW hs
                have u0 := hW.drew0 (C9Q.out.cell 0)
                have u1 := hW.drew0 (C9Q.out.cell 1)
                have u2 := hW.drew0 (C9Q.out.cell 2)
                have u3 := hW.drew0 (C9Q.out.cell 3)
                have u4 := hW.drew0 (C9Q.out.cell 4)
                unfold opG
                go_simp
                first | exact resG_eq_mk _ _ _ | rfl
              simp only [Act.put, List.setIfInBounds_toArray, List.set_cons_zero, List.set_cons_succ]
              apply wpG_ok
              · intro W hW hs
                unfold opG
                go_simp
                exact resG_mk ((Gr.refl W).alloc _) ⟨_, 1, rfl, Lets.one (CellsAt.new _ _ _) ((SQ.out).below (Gr.trans (Gr.trans ((Gr.refl w9).drew) hW) ((Gr.refl W).alloc _)))⟩
              intro v7
              simp only [Act.put, List.setIfInBounds_toArray, List.set_cons_zero, List.set_cons_succ]
              apply wpG_eq
              · intro W hW hs
                have h7 : RowL [(⟨(r1, r2), (r3, r4), rb⟩ : LetD)] v7 W := hs _ (.head _) rfl
                have h5 : RowL [(⟨(r1, r2), (r3, r4), rb⟩ : LetD)] v5 W := hs _ (.tail _ (.head _)) rfl
                have H7 : Hid (Lets W v7 [(⟨(r1, r2), (r3, r4), rb⟩ : LetD)]) := Lib.hid (by obtain ⟨_, _, _, h⟩ := h7; exact h)
                have H5 : Hid (Lets W v5 [(⟨(r1, r2), (r3, r4), rb⟩ : LetD)]) := Lib.hid (by obtain ⟨_, _, _, h⟩ := h5; exact h)
                clear h7 h5 hs
                unfold opG
                go_simp
                refine resG_call ((same_true W v5 v7 [(⟨(r1, r2), (r3, r4), rb⟩ : LetD)] H5.out H7.out (by simp)).mono ?_)
                rintro e W2 ⟨rfl, g2⟩
                exact ⟨_, rfl, g2, rfl⟩
              simp only [Act.put, List.setIfInBounds_toArray, List.set_cons_zero, List.set_cons_succ]
              apply wpG_eq
              · intro W hW hs
                unfold opG
                go_simp
                first | exact resG_eq_mk _ _ _ | rfl
              simp only [Act.put, List.setIfInBounds_toArray, List.set_cons_zero, List.set_cons_succ]
              apply wpG_eq
              · intro W hW hs
                unfold opG
                go_simp
                first | exact resG_eq_mk _ _ _ | rfl
              simp only [Act.put, List.setIfInBounds_toArray, List.set_cons_zero, List.set_cons_succ]
              apply wpG_eq
              · intro W hW hs
                unfold opG
                go_simp
                first | exact resG_eq_mk _ _ _ | rfl
              simp only [Act.put, List.setIfInBounds_toArray, List.set_cons_zero, List.set_cons_succ]
              apply wpG_eq
              · intro W hW hs
                unfold opG
                go_simp
                first | exact resG_eq_mk _ _ _ | rfl
              simp only [Act.put, List.setIfInBounds_toArray, List.set_cons_zero, List.set_cons_succ]
              apply wpG_ok
              · intro W hW hs
                have gW := Gr.trans ((Gr.refl w9).drew) hW
                clear hs
                unfold opG
                go_simp
                refine resG_call ((Duo.letters (P9.out.go gW) (fun l hl => Nat.le_trans (HSM2.out l hl).2 (by decide))).mono ?_)
                rintro e W2 ⟨v, rfl, hl, g2⟩
                exact ⟨_, rfl, g2, hl.shape, hl⟩
              intro v13
              simp only [Act.put, List.setIfInBounds_toArray, List.set_cons_zero, List.set_cons_succ]
              apply wpG_eq
              · intro W hW hs
                unfold opG
                go_simp
                first | exact resG_eq_mk _ _ _ | rfl
              simp only [Act.put, List.setIfInBounds_toArray, List.set_cons_zero, List.set_cons_succ]
              apply wpG_eq
              · intro W hW hs
                unfold opG
                go_simp
                first | exact resG_eq_mk _ _ _ | rfl
              simp only [Act.put, List.setIfInBounds_toArray, List.set_cons_zero, List.set_cons_succ]
              apply wpG_eq
              · intro W hW hs
                unfold opG
                go_simp
                first | exact resG_eq_mk _ _ _ | rfl
              simp only [Act.put, List.setIfInBounds_toArray, List.set_cons_zero, List.set_cons_succ]
              apply wpG_eq
              · intro W hW hs
                have u1 := hW.drew0 HQ.out.1
                unfold opG
                go_simp
                first | exact resG_eq_mk _ _ _ | rfl
              simp only [Act.put, List.setIfInBounds_toArray, List.set_cons_zero, List.set_cons_succ]
              apply wpG_eq
              · intro W hW hs
                have gW := Gr.trans ((Gr.refl w9).drew) hW
                have h13 : LetsW ls2 v13 W := hs _ (.head _) rfl
                have H13 := Lib.hid h13.2
                clear h13 hs
                unfold opG
                go_simp
                refine resG_call ((same_true W v13 _ ls2 H13.out (HQ.out.2 W gW) (by omega)).mono ?_)
                rintro e W2 ⟨rfl, g2⟩
                exact ⟨_, rfl, g2, rfl⟩
              simp only [Act.put, List.setIfInBounds_toArray, List.set_cons_zero, List.set_cons_succ]
              apply wpG_eq
              · intro W hW hs
                unfold opG
                go_simp
                first | exact resG_eq_mk _ _ _ | rfl
              simp only [Act.put, List.setIfInBounds_toArray, List.set_cons_zero, List.set_cons_succ]
              apply wpG_eq
              · intro W hW hs
                unfold opG
                go_simp
                first | exact resG_eq_mk _ _ _ | rfl
              simp only [Act.put, List.setIfInBounds_toArray, List.set_cons_zero, List.set_cons_succ]
              apply wpG_eq
              · intro W hW hs
                unfold opG
                go_simp
                first | exact resG_eq_mk _ _ _ | rfl
              simp only [Act.put, List.setIfInBounds_toArray, List.set_cons_zero, List.set_cons_succ]
              apply wpG_eq
              · intro W hW hs
                unfold opG
                go_simp
                first | exact resG_eq_mk _ _ _ | rfl
              simp only [Act.put, List.setIfInBounds_toArray, List.set_cons_zero, List.set_cons_succ]
              apply wpG_eq
              · intro W hW hs
                have gW := Gr.trans ((Gr.refl w9).drew) hW
                clear hs
                unfold opG
                go_simp
                refine resG_call ((Duo.len (P9.out.go gW)).mono ?_)
                rintro e W2 ⟨rfl, hw⟩
                exact ⟨_, rfl, by rw [hw]; exact Gr.refl _, rfl⟩
              simp only [Act.put, List.setIfInBounds_toArray, List.set_cons_zero, List.set_cons_succ]
              apply wpG_eq
              · intro W hW hs
                unfold opG
                go_simp
                first | exact resG_eq_mk _ _ _ | rfl
              simp only [Act.put, List.setIfInBounds_toArray, List.set_cons_zero, List.set_cons_succ]
              apply wpG_eq
              · intro W hW hs
                unfold opG
                go_simp
                first | exact resG_eq_mk _ _ _ | rfl
              simp only [Act.put, List.setIfInBounds_toArray, List.set_cons_zero, List.set_cons_succ]
              apply wpG_eq
              · intro W hW hs
                unfold opG
                go_simp
                first | exact resG_eq_mk _ _ _ | rfl
              simp only [Act.put, List.setIfInBounds_toArray, List.set_cons_zero, List.set_cons_succ]
              apply wpG_eq
              · intro W hW hs
                have u1 := hW.drew0 HQ.out.1
                unfold opG
                go_simp
                first | exact resG_eq_mk _ _ _ | rfl
              simp only [Act.put, List.setIfInBounds_toArray, List.set_cons_zero, List.set_cons_succ]
              apply wpG_eq
              · intro W hW hs
                unfold opG
                go_simp
                first | exact resG_eq_mk _ _ _ | rfl
              simp only [Act.put, List.setIfInBounds_toArray, List.set_cons_zero, List.set_cons_succ]
              apply wpG_eq
              · intro W hW hs
                unfold opG
                go_simp
                first | exact resG_eq_mk _ _ _ | rfl
              simp only [Act.put, List.setIfInBounds_toArray, List.set_cons_zero, List.set_cons_succ]
              apply wpG_eq
              · intro W hW hs
                unfold opG
                go_simp
                first | exact resG_eq_mk _ _ _ | rfl
              simp only [Act.put, List.setIfInBounds_toArray, List.set_cons_zero, List.set_cons_succ]
              apply wpG_eq
              · intro W hW hs
                unfold opG
                go_simp
                first | exact resG_eq_mk _ _ _ | rfl
              simp only [Act.put, List.setIfInBounds_toArray, List.set_cons_zero, List.set_cons_succ]
              apply wpG_eq
              · intro W hW hs
                unfold opG
                go_simp
                first | exact resG_eq_mk _ _ _ | rfl
              simp only [Act.put, List.setIfInBounds_toArray, List.set_cons_zero, List.set_cons_succ]
              apply wpG_eq
              · intro W hW hs
                unfold opG
                go_simp
                first | exact resG_eq_mk _ _ _ | rfl
              simp only [Act.put, List.setIfInBounds_toArray, List.set_cons_zero, List.set_cons_succ]
              apply wpG_eq
              · intro W hW hs
                unfold opG
                go_simp
                first | exact resG_eq_mk _ _ _ | rfl
              simp only [Act.put, List.setIfInBounds_toArray, List.set_cons_zero, List.set_cons_succ]
              apply wpG_eq
              · intro W hW hs
                have u2 := hW.drew0 (C9A.out.cell 2)
                have u3 := hW.drew0 (C9A.out.cell 3)
                have u4 := hW.drew0 (C9A.out.cell 4)
                have u5 := hW.drew0 (C9A.out.cell 5)
                unfold opG
                go_simp
                first | exact resG_eq_mk _ _ _ | rfl
              simp only [Act.put, List.setIfInBounds_toArray, List.set_cons_zero, List.set_cons_succ]
              apply wpG_eq
              · intro W hW hs
                unfold opG
                go_simp
                first | exact resG_eq_mk _ _ _ | rfl
              simp only [Act.put, List.setIfInBounds_toArray, List.set_cons_zero, List.set_cons_succ]
              apply wpG_eq
              · intro W hW hs
                unfold opG
                go_simp
                first | exact resG_eq_mk _ _ _ | rfl
              simp only [Act.put, List.setIfInBounds_toArray, List.set_cons_zero, List.set_cons_succ]
              apply wpG_eq
              · intro W hW hs
                have u2 := hW.drew0 (C9A.out.cell 2)
                have u3 := hW.drew0 (C9A.out.cell 3)
                have u4 := hW.drew0 (C9A.out.cell 4)
                have u5 := hW.drew0 (C9A.out.cell 5)
                unfold opG
                go_simp
                first | exact resG_eq_mk _ _ _ | rfl
              simp only [Act.put, List.setIfInBounds_toArray, List.set_cons_zero, List.set_cons_succ]
              apply wpG_eq
              · intro W hW hs
                have gW := Gr.trans ((Gr.refl w9).drew) hW
                clear hs
                unfold opG
                go_simp
                refine resG_call ((Duo.cuts1 (P9.out.go gW) (x1, x2) (x3, x4) HADR.out.1 HADR.out.2 HC1V.out.1).mono ?_)
                rintro e W2 ⟨rfl, g2⟩
                exact ⟨_, rfl, g2, rfl⟩
              simp only [Act.put, List.setIfInBounds_toArray, List.set_cons_zero, List.set_cons_succ]
              apply wpG_eq
              · intro W hW hs
                unfold opG
                go_simp
                first | exact resG_eq_mk _ _ _ | rfl
              simp only [Act.put, List.setIfInBounds_toArray, List.set_cons_zero, List.set_cons_succ]
              apply wpG_eq
              · intro W hW hs
                unfold opG
                go_simp
                first | exact resG_eq_mk _ _ _ | rfl
              simp only [Act.put, List.setIfInBounds_toArray, List.set_cons_zero, List.set_cons_succ]
              apply wpG_eq
              · intro W hW hs
                unfold opG
                go_simp
                first | exact resG_eq_mk _ _ _ | rfl
              simp only [Act.put, List.setIfInBounds_toArray, List.set_cons_zero, List.set_cons_succ]
              apply wpG_eq
              · intro W hW hs
                have u2 := hW.drew0 (C9A.out.cell 2)
                have u3 := hW.drew0 (C9A.out.cell 3)
                have u4 := hW.drew0 (C9A.out.cell 4)
                have u5 := hW.drew0 (C9A.out.cell 5)
                unfold opG
                go_simp
                first | exact resG_eq_mk _ _ _ | rfl
              simp only [Act.put, List.setIfInBounds_toArray, List.set_cons_zero, List.set_cons_succ]
              apply wpG_eq
              · intro W hW hs
                unfold opG
                go_simp
                first | exact resG_eq_mk _ _ _ | rfl
              simp only [Act.put, List.setIfInBounds_toArray, List.set_cons_zero, List.set_cons_succ]
              apply wpG_eq
              · intro W hW hs
                unfold opG
                go_simp
                first | exact resG_eq_mk _ _ _ | rfl
              simp only [Act.put, List.setIfInBounds_toArray, List.set_cons_zero, List.set_cons_succ]
              apply wpG_eq
              · intro W hW hs
                have u2 := hW.drew0 (C9A.out.cell 2)
                have u3 := hW.drew0 (C9A.out.cell 3)
                have u4 := hW.drew0 (C9A.out.cell 4)
                have u5 := hW.drew0 (C9A.out.cell 5)
                unfold opG
                go_simp
                first | exact resG_eq_mk _ _ _ | rfl
              simp only [Act.put, List.setIfInBounds_toArray, List.set_cons_zero, List.set_cons_succ]
              apply wpG_eq
              · intro W hW hs
                have gW := Gr.trans ((Gr.refl w9).drew) hW
                clear hs
                unfold opG
                go_simp
                refine resG_call ((Duo.cuts2 (P9.out.go gW) (by have := hcu2.out; omega) (x1, x2) (x3, x4) HC1V.out.2).mono ?_)
                rintro e W2 ⟨rfl, g2⟩
                exact ⟨_, rfl, g2, rfl⟩
              simp only [Act.put, List.setIfInBounds_toArray, List.set_cons_zero, List.set_cons_succ]
              apply wpG_eq
              · intro W hW hs
                unfold opG
                go_simp
                first | exact resG_eq_mk _ _ _ | rfl
              simp only [Act.put, List.setIfInBounds_toArray, List.set_cons_zero, List.set_cons_succ]
              apply wpG_eq
              · intro W hW hs
                unfold opG
                go_simp
                first | exact resG_eq_mk _ _ _ | rfl
              simp only [Act.put, List.setIfInBounds_toArray, List.set_cons_zero, List.set_cons_succ]
              apply wpG_eq
              · intro W hW hs
                unfold opG
                go_simp
                first | exact resG_eq_mk _ _ _ | rfl
              simp only [Act.put, List.setIfInBounds_toArray, List.set_cons_zero, List.set_cons_succ]
              apply wpG_eq
              · intro W hW hs
                unfold opG
                go_simp
                first | exact resG_eq_mk _ _ _ | rfl
              simp only [Act.put, List.setIfInBounds_toArray, List.set_cons_zero, List.set_cons_succ]
              apply wpG_eq
              · intro W hW hs
                unfold opG
                go_simp
                first | exact resG_eq_mk _ _ _ | rfl
              simp only [Act.put, List.setIfInBounds_toArray, List.set_cons_zero, List.set_cons_succ]
              apply wpG_eq
              · intro W hW hs
                unfold opG
                go_simp
                first | exact resG_eq_mk _ _ _ | rfl
              simp only [Act.put, List.setIfInBounds_toArray, List.set_cons_zero, List.set_cons_succ]
              apply wpG_eq
              · intro W hW hs
                have u2 := hW.drew0 (C9A.out.cell 2)
                have u3 := hW.drew0 (C9A.out.cell 3)
                have u4 := hW.drew0 (C9A.out.cell 4)
                have u5 := hW.drew0 (C9A.out.cell 5)
                unfold opG
                go_simp
                first | exact resG_eq_mk _ _ _ | rfl
              simp only [Act.put, List.setIfInBounds_toArray, List.set_cons_zero, List.set_cons_succ]
              apply wpG_eq
              · intro W hW hs
                unfold opG
                go_simp
                first | exact resG_eq_mk _ _ _ | rfl
              simp only [Act.put, List.setIfInBounds_toArray, List.set_cons_zero, List.set_cons_succ]
              apply wpG_eq
              · intro W hW hs
                unfold opG
                go_simp
                first | exact resG_eq_mk _ _ _ | rfl
              simp only [Act.put, List.setIfInBounds_toArray, List.set_cons_zero, List.set_cons_succ]
              apply wpG_eq
              · intro W hW hs
                have u2 := hW.drew0 (C9A.out.cell 2)
                have u3 := hW.drew0 (C9A.out.cell 3)
                have u4 := hW.drew0 (C9A.out.cell 4)
                have u5 := hW.drew0 (C9A.out.cell 5)
                unfold opG
                go_simp
                first | exact resG_eq_mk _ _ _ | rfl
              simp only [Act.put, List.setIfInBounds_toArray, List.set_cons_zero, List.set_cons_succ]
              apply wpG_eq
              · intro W hW hs
                have gW := Gr.trans ((Gr.refl w9).drew) hW
                clear hs
                unfold opG
                go_simp
                refine resG_call ((Duo.cuts1 (P9.out.go gW) (x3, x4) (x1, x2) HADR.out.2 HADR.out.1 HC2V.out.1).mono ?_)
                rintro e W2 ⟨rfl, g2⟩
                exact ⟨_, rfl, g2, rfl⟩
              simp only [Act.put, List.setIfInBounds_toArray, List.set_cons_zero, List.set_cons_succ]
              apply wpG_eq
              · intro W hW hs
                unfold opG
                go_simp
                first | exact resG_eq_mk _ _ _ | rfl
              simp only [Act.put, List.setIfInBounds_toArray, List.set_cons_zero, List.set_cons_succ]
              apply wpG_eq
              · intro W hW hs
                unfold opG
                go_simp
                first | exact resG_eq_mk _ _ _ | rfl
              simp only [Act.put, List.setIfInBounds_toArray, List.set_cons_zero, List.set_cons_succ]
              apply wpG_eq
              · intro W hW hs
                unfold opG
                go_simp
                first | exact resG_eq_mk _ _ _ | rfl
              simp only [Act.put, List.setIfInBounds_toArray, List.set_cons_zero, List.set_cons_succ]
              apply wpG_eq
              · intro W hW hs
                have u2 := hW.drew0 (C9A.out.cell 2)
                have u3 := hW.drew0 (C9A.out.cell 3)
                have u4 := hW.drew0 (C9A.out.cell 4)
                have u5 := hW.drew0 (C9A.out.cell 5)
                unfold opG
                go_simp
                first | exact resG_eq_mk _ _ _ | rfl
              simp only [Act.put, List.setIfInBounds_toArray, List.set_cons_zero, List.set_cons_succ]
              apply wpG_eq
              · intro W hW hs
                unfold opG
                go_simp
                first | exact resG_eq_mk _ _ _ | rfl
              simp only [Act.put, List.setIfInBounds_toArray, List.set_cons_zero, List.set_cons_succ]
              apply wpG_eq
              · intro W hW hs
                unfold opG
                go_simp
                first | exact resG_eq_mk _ _ _ | rfl
              simp only [Act.put, List.setIfInBounds_toArray, List.set_cons_zero, List.set_cons_succ]
              apply wpG_eq
              · intro W hW hs
                have u2 := hW.drew0 (C9A.out.cell 2)
                have u3 := hW.drew0 (C9A.out.cell 3)
                have u4 := hW.drew0 (C9A.out.cell 4)
                have u5 := hW.drew0 (C9A.out.cell 5)
                unfold opG
                go_simp
                first | exact resG_eq_mk _ _ _ | rfl
              simp only [Act.put, List.setIfInBounds_toArray, List.set_cons_zero, List.set_cons_succ]
              apply wpG_eq
              · intro W hW hs
                have gW := Gr.trans ((Gr.refl w9).drew) hW
                clear hs
                unfold opG
                go_simp
                refine resG_call ((Duo.cuts2 (P9.out.go gW) (by have := hcu2.out; omega) (x3, x4) (x1, x2) HC2V.out.2).mono ?_)
                rintro e W2 ⟨rfl, g2⟩
                exact ⟨_, rfl, g2, rfl⟩
              simp only [Act.put, List.setIfInBounds_toArray, List.set_cons_zero, List.set_cons_succ]
              apply wpG_eq
              · intro W hW hs
                unfold opG
                go_simp
                first | exact resG_eq_mk _ _ _ | rfl
              simp only [Act.put, List.setIfInBounds_toArray, List.set_cons_zero, List.set_cons_succ]
              apply wpG_eq
              · intro W hW hs
                unfold opG
                go_simp
                first | exact resG_eq_mk _ _ _ | rfl
              simp only [Act.put, List.setIfInBounds_toArray, List.set_cons_zero, List.set_cons_succ]
              apply wpG_nil
              intro wq hWq hsAll
              have P11 := Lib.hid ((P9.out.go (Gr.trans ((Gr.refl w9).drew) hWq)).less (F' := fun _ => False) (fun j hj => hj.elim))
              clear hsAll hWq P9 C9A C9P C9Q O9 SQ
              go_wp2
              exact ⟨⟨q + 1, c + 1, cut2, cuts2, ls2, by omega, by go_num, P11.out, HS4.out, by omega, hcu2.out, hl2, HSM2.out⟩, by simp [intOf]; omega⟩
            · obtain ⟨d, hdd⟩ : ∃ d, d = op % 7 := ⟨_, rfl⟩
              have hd4 : d = 1 ∨ d = 2 ∨ d = 3 ∨ d = 4 := by omega
              have hm1 : ((op : Int) % 7) = (d : Int) := by omega
              have hm2 : ((op : Int).tmod 7) = (d : Int) := by rw [Int.tmod_eq_emod_of_nonneg (by omega)]; omega
              have hdn0 : ¬ (d : Int) = 0 := by omega
              have hdn5 : ¬ (d : Int) = 5 := by omega
              have hdn6 : ¬ (d : Int) = 6 := by omega
              obtain ⟨rr, hrr⟩ : ∃ rr, actR cuts ls d ix = rr := ⟨_, rfl⟩
              have hsa := HSA.out
              have hrv : refV sizes cuts ls (⟨op, ix, (⟨(x1, x2), (x3, x4), b⟩ : LetD)⟩ : ActD) = (rr.1, rr.2.1, rr.2.2, cuts) := by
                unfold refV
                rw [if_neg (by show ¬ op % 7 = 0; omega), if_neg (by show ¬ (op % 7 = 5 ∨ op % 7 = 6); omega)]
                show ((actR cuts ls (op % 7) ix).1, (actR cuts ls (op % 7) ix).2.1, (actR cuts ls (op % 7) ix).2.2, cuts) = _
                rw [← hdd, hrr]
              rw [HRR.out, hrv] at hsa
              obtain ⟨s1, s2, s3, s4⟩ := hsa
              have hrr2 : rr = ((⟨(r1, r2), (r3, r4), rb⟩ : LetD), z, ls2) := by
                obtain ⟨t1, t2, t3⟩ := rr
                have e1 : t1 = (⟨(r1, r2), (r3, r4), rb⟩ : LetD) := s1
                have e2 : t2 = z := s2
                have e3 : t3 = ls2 := s3
                rw [e1, e2, e3]
              have HS4 : Hid (Agree sizes cut2 cuts) := Lib.hid s4
              have hcu2 : Hid (cuts.length ≤ q + 1) := Lib.hid (by omega)
              rw [hrr2] at hrr
              have HRA := Lib.hid hrr
              clear hrv s1 s2 s3 s4 hrr hrr2 rr hdd
              have y0 := C8A.out.cell 0
              have y1 := C8A.out.cell 1
              have y2 := C8A.out.cell 2
              have y3 := C8A.out.cell 3
              have y4 := C8A.out.cell 4
              have y5 := C8A.out.cell 5
              have y6 := C8A.out.cell 6
              go_wp2_with fail
              clear y0 y1 y2 y3 y4 y5 y6
              refine (Duo.act P8.out (by omega) (by omega) d hd4 ix HRA.out).mono ?_
              rintro e w10 ⟨bq, rfl, hoq, hP9, hF9, hK9⟩
              have hoq' : Own w10 w.heap.size 5 bq (bytes rb) := hoq
              obtain ⟨aq, cq, rfl⟩ := hoq'.shape
              have P10 : Hid (Duo w w10 N M Q (c + 1) (.slice a0 k c0) sizes cut2 cuts ls2 ls2 (fun j => j = BQ ∨ j = BP ∨ j = BA ∨ False)) := Lib.hid hP9
              have OQ : Hid (Own w10 w.heap.size 5 (.slice aq rb.length cq) (bytes rb)) := Lib.hid (by have := hoq'; rw [bytes_length] at this; exact this)
              have C9A := Lib.hid (C8A.out.block (hF9 BA (.inr (.inr (.inl rfl)))))
              have C9P := Lib.hid (C8P.out.block (hF9 BP (.inr (.inl rfl))))
              have C9Z := Lib.hid (C8Z.out.block (hF9 BQ (.inl rfl)))
              have O9 := Lib.hid (O8.out.kb (.inl rfl) hK9)
              rw [bytes_length]
              rw [show letV ((((⟨(r1, r2), (r3, r4), rb⟩ : LetD), z, ls2) : LetD × Int × List LetD).1) (.slice aq rb.length cq) = .agg #[.int .i64 r1, .int .i64 r2, .int .i64 r3, .int .i64 r4, .slice aq rb.length cq] from rfl]
              clear hP9 hF9 hK9 hoq hoq' P8 C8A C8P C8Z O8
              go_wp2_with (refine wpList_store_all 35 _ _ rfl rfl rfl rfl C9Z.out (by kernel_rfl) rfl (by simp; repeat' (first | rfl | constructor)) ?_; intro w9 f1 f2)
              have hP9' : Duo w w9 N M Q (c + 1) (.slice a0 k c0) sizes cut2 cuts ls2 ls2 (fun j => j = BQ ∨ j = BP ∨ j = BA ∨ False) := P10.out.past (.inl rfl) C9Z.out ⟨by decide, by decide⟩ LQ.out f2
              have P9 := Lib.hid hP9'
              have hkb9 : Kb w10 w9 := Kb.ch f2 (fun j cs t fr hj hc => by have e : j = BQ := hj; subst e; rw [cells_type hc C9Z.out]; exact ⟨by decide, by decide⟩)
              have C10A := Lib.hid (C9A.out.ch f2 (fun e => by have e9 : BA = BQ := e; have h9 := C9Z.out; rw [← e9] at h9; have := C9A.out; cases cells_type h9 this))
              have C10P := Lib.hid (C9P.out.ch f2 (fun e => hPQ (by have e9 : BP = BQ := e; exact e9)))
              have O10 := Lib.hid (O9.out.kb (.inl rfl) hkb9)
              have SQ := Lib.hid ((OQ.out.kb (.inl rfl) hkb9).sl)
              have C9Q := Lib.hid f1
              clear hP9' hkb9 f1 f2 P10 C9A C9P C9Z O9 OQ
              have C9A := C10A
              have C9P := C10P
              have O9 := O10
              clear C10A C10P O10
              obtain ⟨c1v, hc1v⟩ : ∃ c1v, cutsV sizes cut2 (x1, x2) (x3, x4) = c1v := ⟨_, rfl⟩
              obtain ⟨c2v, hc2v⟩ : ∃ c2v, cutsV sizes cut2 (x3, x4) (x1, x2) = c2v := ⟨_, rfl⟩
              have HC1V := Lib.hid (And.intro hc1v (show cutsR cuts (x1, x2) (x3, x4) = c1v by rw [← hc1v]; exact (HS4.out _ _).symm))
              have HC2V := Lib.hid (And.intro hc2v (show cutsR cuts (x3, x4) (x1, x2) = c2v by rw [← hc2v]; exact (HS4.out _ _).symm))
              have hb1 : (c1v != c1v) = false := by simp
              have hb2 : (c2v != c2v) = false := by simp
              obtain ⟨aL, cL, hQ1, hQlt, hLQ⟩ := P9.out.rows
              have HQ := Lib.hid (And.intro hQ1 hLQ)
              have HADR : Hid (AdOk (x1, x2) ∧ AdOk (x3, x4)) := Lib.hid ⟨HACT.out.2.2.2.1, HACT.out.2.2.2.2⟩
              clear hc1v hc2v hQ1 hQlt hLQ
              (try go_upto_region 28 with fail)
              apply wp_region_draw_grow (.eq _ :: .eq _ :: .eq _ :: .eq _ :: .eq _ :: .ok (RowL [(⟨(r1, r2), (r3, r4), rb⟩ : LetD)]) :: .eq _ :: .ok (RowL [(⟨(r1, r2), (r3, r4), rb⟩ : LetD)]) :: .eq (.bool true) :: .eq _ :: .eq _ :: .eq _ :: .eq _ :: .ok (LetsW ls2) :: .eq _ :: .eq _ :: .eq _ :: .eq _ :: .eq (.bool true) :: .eq _ :: .eq _ :: .eq _ :: .eq _ :: .eq (.int .i64 (ls2.length : Int)) :: .eq _ :: .eq _ :: .eq _ :: .eq _ :: .eq _ :: .eq _ :: .eq _ :: .eq _ :: .eq _ :: .eq _ :: .eq _ :: .eq _ :: .eq _ :: .eq _ :: .eq _ :: .eq (.bool c1v) :: .eq _ :: .eq _ :: .eq _ :: .eq _ :: .eq _ :: .eq _ :: .eq _ :: .eq (.bool c1v) :: .eq _ :: .eq _ :: .eq _ :: .eq _ :: .eq _ :: .eq _ :: .eq _ :: .eq _ :: .eq _ :: .eq _ :: .eq (.bool c2v) :: .eq _ :: .eq _ :: .eq _ :: .eq _ :: .eq _ :: .eq _ :: .eq _ :: .eq (.bool c2v) :: .eq _ :: .eq _ :: []) (by kernel_rfl) (by kernel_rfl) ⟨RowL.mono _, RowL.mono _, LetsW.mono _, trivial⟩
              apply wpG_eq
              · intro W hW hs
                unfold opG
                go_simp
                first | exact resG_eq_mk _ _ _ | rfl
              simp only [Act.put, List.setIfInBounds_toArray, List.set_cons_zero, List.set_cons_succ]
              apply wpG_eq
              · intro W hW hs
                unfold opG
                go_simp
                first | exact resG_eq_mk _ _ _ | rfl
              simp only [Act.put, List.setIfInBounds_toArray, List.set_cons_zero, List.set_cons_succ]
              apply wpG_eq
              · intro W hW hs
                unfold opG
                go_simp
                first | exact resG_eq_mk _ _ _ | rfl
              simp only [Act.put, List.setIfInBounds_toArray, List.set_cons_zero, List.set_cons_succ]
              apply wpG_eq
              · intro W hW hs
                unfold opG
                go_simp
                first | exact resG_eq_mk _ _ _ | rfl
              simp only [Act.put, List.setIfInBounds_toArray, List.set_cons_zero, List.set_cons_succ]
              apply wpG_eq
              · intro W hW hs
                have u0 := hW.drew0 (C9P.out.cell 0)
                have u1 := hW.drew0 (C9P.out.cell 1)
                have u2 := hW.drew0 (C9P.out.cell 2)
                have u3 := hW.drew0 (C9P.out.cell 3)
                have u4 := hW.drew0 (C9P.out.cell 4)
                unfold opG
                go_simp
                first | exact resG_eq_mk _ _ _ | rfl
              simp only [Act.put, List.setIfInBounds_toArray, List.set_cons_zero, List.set_cons_succ]
              apply wpG_ok
              · intro W hW hs
                unfold opG
                go_simp
                exact resG_mk ((Gr.refl W).alloc _) ⟨_, 1, rfl, Lets.one (CellsAt.new _ _ _) ((O9.out.sl).below (Gr.trans (Gr.trans ((Gr.refl w9).drew) hW) ((Gr.refl W).alloc _)))⟩
              intro v5
              simp only [Act.put, List.setIfInBounds_toArray, List.set_cons_zero, List.set_cons_succ]
              apply wpG_eq
              · intro W hW hs
                have u0 := hW.drew0 (C9Q.out.cell 0)
                have u1 := hW.drew0 (C9Q.out.cell 1)
                have u2 := hW.drew0 (C9Q.out.cell 2)
                have u3 := hW.drew0 (C9Q.out.cell 3)
                have u4 := hW.drew0 (C9Q.out.cell 4)
                unfold opG
                go_simp
                first | exact resG_eq_mk _ _ _ | rfl
              simp only [Act.put, List.setIfInBounds_toArray, List.set_cons_zero, List.set_cons_succ]
              apply wpG_ok
              · intro W hW hs
                unfold opG
                go_simp
                exact resG_mk ((Gr.refl W).alloc _) ⟨_, 1, rfl, Lets.one (CellsAt.new _ _ _) ((SQ.out).below (Gr.trans (Gr.trans ((Gr.refl w9).drew) hW) ((Gr.refl W).alloc _)))⟩
              intro v7
              simp only [Act.put, List.setIfInBounds_toArray, List.set_cons_zero, List.set_cons_succ]
              apply wpG_eq
              · intro W hW hs
                have h7 : RowL [(⟨(r1, r2), (r3, r4), rb⟩ : LetD)] v7 W := hs _ (.head _) rfl
                have h5 : RowL [(⟨(r1, r2), (r3, r4), rb⟩ : LetD)] v5 W := hs _ (.tail _ (.head _)) rfl
                have H7 : Hid (Lets W v7 [(⟨(r1, r2), (r3, r4), rb⟩ : LetD)]) := Lib.hid (by obtain ⟨_, _, _, h⟩ := h7; exact h)
                have H5 : Hid (Lets W v5 [(⟨(r1, r2), (r3, r4), rb⟩ : LetD)]) := Lib.hid (by obtain ⟨_, _, _, h⟩ := h5; exact h)
                clear h7 h5 hs
                unfold opG
                go_simp
                refine resG_call ((same_true W v5 v7 [(⟨(r1, r2), (r3, r4), rb⟩ : LetD)] H5.out H7.out (by simp)).mono ?_)
                rintro e W2 ⟨rfl, g2⟩
                exact ⟨_, rfl, g2, rfl⟩
              simp only [Act.put, List.setIfInBounds_toArray, List.set_cons_zero, List.set_cons_succ]
              apply wpG_eq
              · intro W hW hs
                unfold opG
                go_simp
                first | exact resG_eq_mk _ _ _ | rfl
              simp only [Act.put, List.setIfInBounds_toArray, List.set_cons_zero, List.set_cons_succ]
              apply wpG_eq
              · intro W hW hs
                unfold opG
                go_simp
                first | exact resG_eq_mk _ _ _ | rfl
              simp only [Act.put, List.setIfInBounds_toArray, List.set_cons_zero, List.set_cons_succ]
              apply wpG_eq
              · intro W hW hs
                unfold opG
                go_simp
                first | exact resG_eq_mk _ _ _ | rfl
              simp only [Act.put, List.setIfInBounds_toArray, List.set_cons_zero, List.set_cons_succ]
              apply wpG_eq
              · intro W hW hs
                unfold opG
                go_simp
                first | exact resG_eq_mk _ _ _ | rfl
              simp only [Act.put, List.setIfInBounds_toArray, List.set_cons_zero, List.set_cons_succ]
              apply wpG_ok
              · intro W hW hs
                have gW := Gr.trans ((Gr.refl w9).drew) hW
                clear hs
                unfold opG
                go_simp
                refine resG_call ((Duo.letters (P9.out.go gW) (fun l hl => Nat.le_trans (HSM2.out l hl).2 (by decide))).mono ?_)
                rintro e W2 ⟨v, rfl, hl, g2⟩
                exact ⟨_, rfl, g2, hl.shape, hl⟩
              intro v13
              simp only [Act.put, List.setIfInBounds_toArray, List.set_cons_zero, List.set_cons_succ]
              apply wpG_eq
              · intro W hW hs
                unfold opG
                go_simp
                first | exact resG_eq_mk _ _ _ | rfl
              simp only [Act.put, List.setIfInBounds_toArray, List.set_cons_zero, List.set_cons_succ]
              apply wpG_eq
              · intro W hW hs
                unfold opG
                go_simp
                first | exact resG_eq_mk _ _ _ | rfl
              simp only [Act.put, List.setIfInBounds_toArray, List.set_cons_zero, List.set_cons_succ]
              apply wpG_eq
              · intro W hW hs
                unfold opG
                go_simp
                first | exact resG_eq_mk _ _ _ | rfl
              simp only [Act.put, List.setIfInBounds_toArray, List.set_cons_zero, List.set_cons_succ]
              apply wpG_eq
              · intro W hW hs
                have u1 := hW.drew0 HQ.out.1
                unfold opG
                go_simp
                first | exact resG_eq_mk _ _ _ | rfl
              simp only [Act.put, List.setIfInBounds_toArray, List.set_cons_zero, List.set_cons_succ]
              apply wpG_eq
              · intro W hW hs
                have gW := Gr.trans ((Gr.refl w9).drew) hW
                have h13 : LetsW ls2 v13 W := hs _ (.head _) rfl
                have H13 := Lib.hid h13.2
                clear h13 hs
                unfold opG
                go_simp
                refine resG_call ((same_true W v13 _ ls2 H13.out (HQ.out.2 W gW) (by omega)).mono ?_)
                rintro e W2 ⟨rfl, g2⟩
                exact ⟨_, rfl, g2, rfl⟩
              simp only [Act.put, List.setIfInBounds_toArray, List.set_cons_zero, List.set_cons_succ]
              apply wpG_eq
              · intro W hW hs
                unfold opG
                go_simp
                first | exact resG_eq_mk _ _ _ | rfl
              simp only [Act.put, List.setIfInBounds_toArray, List.set_cons_zero, List.set_cons_succ]
              apply wpG_eq
              · intro W hW hs
                unfold opG
                go_simp
                first | exact resG_eq_mk _ _ _ | rfl
              simp only [Act.put, List.setIfInBounds_toArray, List.set_cons_zero, List.set_cons_succ]
              apply wpG_eq
              · intro W hW hs
                unfold opG
                go_simp
                first | exact resG_eq_mk _ _ _ | rfl
              simp only [Act.put, List.setIfInBounds_toArray, List.set_cons_zero, List.set_cons_succ]
              apply wpG_eq
              · intro W hW hs
                unfold opG
                go_simp
                first | exact resG_eq_mk _ _ _ | rfl
              simp only [Act.put, List.setIfInBounds_toArray, List.set_cons_zero, List.set_cons_succ]
              apply wpG_eq
              · intro W hW hs
                have gW := Gr.trans ((Gr.refl w9).drew) hW
                clear hs
                unfold opG
                go_simp
                refine resG_call ((Duo.len (P9.out.go gW)).mono ?_)
                rintro e W2 ⟨rfl, hw⟩
                exact ⟨_, rfl, by rw [hw]; exact Gr.refl _, rfl⟩
              simp only [Act.put, List.setIfInBounds_toArray, List.set_cons_zero, List.set_cons_succ]
              apply wpG_eq
              · intro W hW hs
                unfold opG
                go_simp
                first | exact resG_eq_mk _ _ _ | rfl
              simp only [Act.put, List.setIfInBounds_toArray, List.set_cons_zero, List.set_cons_succ]
              apply wpG_eq
              · intro W hW hs
                unfold opG
                go_simp
                first | exact resG_eq_mk _ _ _ | rfl
              simp only [Act.put, List.setIfInBounds_toArray, List.set_cons_zero, List.set_cons_succ]
              apply wpG_eq
              · intro W hW hs
                unfold opG
                go_simp
                first | exact resG_eq_mk _ _ _ | rfl
              simp only [Act.put, List.setIfInBounds_toArray, List.set_cons_zero, List.set_cons_succ]
              apply wpG_eq
              · intro W hW hs
                have u1 := hW.drew0 HQ.out.1
                unfold opG
                go_simp
                first | exact resG_eq_mk _ _ _ | rfl
              simp only [Act.put, List.setIfInBounds_toArray, List.set_cons_zero, List.set_cons_succ]
              apply wpG_eq
              · intro W hW hs
                unfold opG
                go_simp
                first | exact resG_eq_mk _ _ _ | rfl
              simp only [Act.put, List.setIfInBounds_toArray, List.set_cons_zero, List.set_cons_succ]
              apply wpG_eq
              · intro W hW hs
                unfold opG
                go_simp
                first | exact resG_eq_mk _ _ _ | rfl
              simp only [Act.put, List.setIfInBounds_toArray, List.set_cons_zero, List.set_cons_succ]
              apply wpG_eq
              · intro W hW hs
                unfold opG
                go_simp
                first | exact resG_eq_mk _ _ _ | rfl
              simp only [Act.put, List.setIfInBounds_toArray, List.set_cons_zero, List.set_cons_succ]
              apply wpG_eq
              · intro W hW hs
                unfold opG
                go_simp
                first | exact resG_eq_mk _ _ _ | rfl
              simp only [Act.put, List.setIfInBounds_toArray, List.set_cons_zero, List.set_cons_succ]
              apply wpG_eq
              · intro W hW hs
                unfold opG
                go_simp
                first | exact resG_eq_mk _ _ _ | rfl
              simp only [Act.put, List.setIfInBounds_toArray, List.set_cons_zero, List.set_cons_succ]
              apply wpG_eq
              · intro W hW hs
                unfold opG
                go_simp
                first | exact resG_eq_mk _ _ _ | rfl
              simp only [Act.put, List.setIfInBounds_toArray, List.set_cons_zero, List.set_cons_succ]
              apply wpG_eq
              · intro W hW hs
                unfold opG
                go_simp
                first | exact resG_eq_mk _ _ _ | rfl
              simp only [Act.put, List.setIfInBounds_toArray, List.set_cons_zero, List.set_cons_succ]
              apply wpG_eq
              · intro W hW hs
                have u2 := hW.drew0 (C9A.out.cell 2)
                have u3 := hW.drew0 (C9A.out.cell 3)
                have u4 := hW.drew0 (C9A.out.cell 4)
                have u5 := hW.drew0 (C9A.out.cell 5)
                unfold opG
                go_simp
                first | exact resG_eq_mk _ _ _ | rfl
              simp only [Act.put, List.setIfInBounds_toArray, List.set_cons_zero, List.set_cons_succ]
              apply wpG_eq
              · intro W hW hs
                unfold opG
                go_simp
                first | exact resG_eq_mk _ _ _ | rfl
              simp only [Act.put, List.setIfInBounds_toArray, List.set_cons_zero, List.set_cons_succ]
              apply wpG_eq
              · intro W hW hs
                unfold opG
                go_simp
                first | exact resG_eq_mk _ _ _ | rfl
              simp only [Act.put, List.setIfInBounds_toArray, List.set_cons_zero, List.set_cons_succ]
              apply wpG_eq
              · intro W hW hs
                have u2 := hW.drew0 (C9A.out.cell 2)
                have u3 := hW.drew0 (C9A.out.cell 3)
                have u4 := hW.drew0 (C9A.out.cell 4)
                have u5 := hW.drew0 (C9A.out.cell 5)
                unfold opG
                go_simp
                first | exact resG_eq_mk _ _ _ | rfl
              simp only [Act.put, List.setIfInBounds_toArray, List.set_cons_zero, List.set_cons_succ]
              apply wpG_eq
              · intro W hW hs
                have gW := Gr.trans ((Gr.refl w9).drew) hW
                clear hs
                unfold opG
                go_simp
                refine resG_call ((Duo.cuts1 (P9.out.go gW) (x1, x2) (x3, x4) HADR.out.1 HADR.out.2 HC1V.out.1).mono ?_)
                rintro e W2 ⟨rfl, g2⟩
                exact ⟨_, rfl, g2, rfl⟩
              simp only [Act.put, List.setIfInBounds_toArray, List.set_cons_zero, List.set_cons_succ]
              apply wpG_eq
              · intro W hW hs
                unfold opG
                go_simp
                first | exact resG_eq_mk _ _ _ | rfl
              simp only [Act.put, List.setIfInBounds_toArray, List.set_cons_zero, List.set_cons_succ]
              apply wpG_eq
              · intro W hW hs
                unfold opG
                go_simp
                first | exact resG_eq_mk _ _ _ | rfl
              simp only [Act.put, List.setIfInBounds_toArray, List.set_cons_zero, List.set_cons_succ]
              apply wpG_eq
              · intro W hW hs
                unfold opG
                go_simp
                first | exact resG_eq_mk _ _ _ | rfl
              simp only [Act.put, List.setIfInBounds_toArray, List.set_cons_zero, List.set_cons_succ]
              apply wpG_eq
              · intro W hW hs
                have u2 := hW.drew0 (C9A.out.cell 2)
                have u3 := hW.drew0 (C9A.out.cell 3)
                have u4 := hW.drew0 (C9A.out.cell 4)
                have u5 := hW.drew0 (C9A.out.cell 5)
                unfold opG
                go_simp
                first | exact resG_eq_mk _ _ _ | rfl
              simp only [Act.put, List.setIfInBounds_toArray, List.set_cons_zero, List.set_cons_succ]
              apply wpG_eq
              · intro W hW hs
                unfold opG
                go_simp
                first | exact resG_eq_mk _ _ _ | rfl
              simp only [Act.put, List.setIfInBounds_toArray, List.set_cons_zero, List.set_cons_succ]
              apply wpG_eq
              · intro W hW hs
                unfold opG
                go_simp
                first | exact resG_eq_mk _ _ _ | rfl
              simp only [Act.put, List.setIfInBounds_toArray, List.set_cons_zero, List.set_cons_succ]
              apply wpG_eq
              · intro W hW hs
                have u2 := hW.drew0 (C9A.out.cell 2)
                have u3 := hW.drew0 (C9A.out.cell 3)
                have u4 := hW.drew0 (C9A.out.cell 4)
                have u5 := hW.drew0 (C9A.out.cell 5)
                unfold opG
                go_simp
                first | exact resG_eq_mk _ _ _ | rfl
              simp only [Act.put, List.setIfInBounds_toArray, List.set_cons_zero, List.set_cons_succ]
              apply wpG_eq
              · intro W hW hs
                have gW := Gr.trans ((Gr.refl w9).drew) hW
                clear hs
                unfold opG
                go_simp
                refine resG_call ((Duo.cuts2 (P9.out.go gW) (by have := hcu2.out; omega) (x1, x2) (x3, x4) HC1V.out.2).mono ?_)
                rintro e W2 ⟨rfl, g2⟩
                exact ⟨_, rfl, g2, rfl⟩
              simp only [Act.put, List.setIfInBounds_toArray, List.set_cons_zero, List.set_cons_succ]
              apply wpG_eq
              · intro W hW hs
                unfold opG
                go_simp
                first | exact resG_eq_mk _ _ _ | rfl
              simp only [Act.put, List.setIfInBounds_toArray, List.set_cons_zero, List.set_cons_succ]
              apply wpG_eq
              · intro W hW hs
                unfold opG
                go_simp
                first | exact resG_eq_mk _ _ _ | rfl
              simp only [Act.put, List.setIfInBounds_toArray, List.set_cons_zero, List.set_cons_succ]
              apply wpG_eq
              · intro W hW hs
                unfold opG
                go_simp
                first | exact resG_eq_mk _ _ _ | rfl
              simp only [Act.put, List.setIfInBounds_toArray, List.set_cons_zero, List.set_cons_succ]
              apply wpG_eq
              · intro W hW hs
                unfold opG
                go_simp
                first | exact resG_eq_mk _ _ _ | rfl
              simp only [Act.put, List.setIfInBounds_toArray, List.set_cons_zero, List.set_cons_succ]
              apply wpG_eq
              · intro W hW hs
                unfold opG
                go_simp
                first | exact resG_eq_mk _ _ _ | rfl
              simp only [Act.put, List.setIfInBounds_toArray, List.set_cons_zero, List.set_cons_succ]
              apply wpG_eq
              · intro W hW hs
                unfold opG
                go_simp
                first | exact resG_eq_mk _ _ _ | rfl
              simp only [Act.put, List.setIfInBounds_toArray, List.set_cons_zero, List.set_cons_succ]
              apply wpG_eq
              · intro W hW hs
                have u2 := hW.drew0 (C9A.out.cell 2)
                have u3 := hW.drew0 (C9A.out.cell 3)
                have u4 := hW.drew0 (C9A.out.cell 4)
                have u5 := hW.drew0 (C9A.out.cell 5)
                unfold opG
                go_simp
                first | exact resG_eq_mk _ _ _ | rfl
              simp only [Act.put, List.setIfInBounds_toArray, List.set_cons_zero, List.set_cons_succ]
              apply wpG_eq
              · intro W hW hs
                unfold opG
                go_simp
                first | exact resG_eq_mk _ _ _ | rfl
              simp only [Act.put, List.setIfInBounds_toArray, List.set_cons_zero, List.set_cons_succ]
              apply wpG_eq
              · intro W hW hs
                unfold opG
                go_simp
                first | exact resG_eq_mk _ _ _ | rfl
              simp only [Act.put, List.setIfInBounds_toArray, List.set_cons_zero, List.set_cons_succ]
              apply wpG_eq
              · intro W hW hs
                have u2 := hW.drew0 (C9A.out.cell 2)
                have u3 := hW.drew0 (C9A.out.cell 3)
                have u4 := hW.drew0 (C9A.out.cell 4)
                have u5 := hW.drew0 (C9A.out.cell 5)
                unfold opG
                go_simp
                first | exact resG_eq_mk _ _ _ | rfl
              simp only [Act.put, List.setIfInBounds_toArray, List.set_cons_zero, List.set_cons_succ]
              apply wpG_eq
              · intro W hW hs
                have gW := Gr.trans ((Gr.refl w9).drew) hW
                clear hs
                unfold opG
                go_simp
                refine resG_call ((Duo.cuts1 (P9.out.go gW) (x3, x4) (x1, x2) HADR.out.2 HADR.out.1 HC2V.out.1).mono ?_)
                rintro e W2 ⟨rfl, g2⟩
                exact ⟨_, rfl, g2, rfl⟩
              simp only [Act.put, List.setIfInBounds_toArray, List.set_cons_zero, List.set_cons_succ]
              apply wpG_eq
              · intro W hW hs
                unfold opG
                go_simp
                first | exact resG_eq_mk _ _ _ | rfl
              simp only [Act.put, List.setIfInBounds_toArray, List.set_cons_zero, List.set_cons_succ]
              apply wpG_eq
              · intro W hW hs
                unfold opG
                go_simp
                first | exact resG_eq_mk _ _ _ | rfl
              simp only [Act.put, List.setIfInBounds_toArray, List.set_cons_zero, List.set_cons_succ]
              apply wpG_eq
              · intro W hW hs
                unfold opG
                go_simp
                first | exact resG_eq_mk _ _ _ | rfl
              simp only [Act.put, List.setIfInBounds_toArray, List.set_cons_zero, List.set_cons_succ]
              apply wpG_eq
              · intro W hW hs
                have u2 := hW.drew0 (C9A.out.cell 2)
                have u3 := hW.drew0 (C9A.out.cell 3)
                have u4 := hW.drew0 (C9A.out.cell 4)
                have u5 := hW.drew0 (C9A.out.cell 5)
                unfold opG
                go_simp
                first | exact resG_eq_mk _ _ _ | rfl
              simp only [Act.put, List.setIfInBounds_toArray, List.set_cons_zero, List.set_cons_succ]
              apply wpG_eq
              · intro W hW hs
                unfold opG
                go_simp
                first | exact resG_eq_mk _ _ _ | rfl
              simp only [Act.put, List.setIfInBounds_toArray, List.set_cons_zero, List.set_cons_succ]
              apply wpG_eq
              · intro W hW hs
                unfold opG
                go_simp
                first | exact resG_eq_mk _ _ _ | rfl
              simp only [Act.put, List.setIfInBounds_toArray, List.set_cons_zero, List.set_cons_succ]
              apply wpG_eq
              · intro W hW hs
                have u2 := hW.drew0 (C9A.out.cell 2)
                have u3 := hW.drew0 (C9A.out.cell 3)
                have u4 := hW.drew0 (C9A.out.cell 4)
                have u5 := hW.drew0 (C9A.out.cell 5)
                unfold opG
                go_simp
                first | exact resG_eq_mk _ _ _ | rfl
              simp only [Act.put, List.setIfInBounds_toArray, List.set_cons_zero, List.set_cons_succ]
              apply wpG_eq
              · intro W hW hs
                have gW := Gr.trans ((Gr.refl w9).drew) hW
                clear hs
                unfold opG
                go_simp
                refine resG_call ((Duo.cuts2 (P9.out.go gW) (by have := hcu2.out; omega) (x3, x4) (x1, x2) HC2V.out.2).mono ?_)
                rintro e W2 ⟨rfl, g2⟩
                exact ⟨_, rfl, g2, rfl⟩
              simp only [Act.put, List.setIfInBounds_toArray, List.set_cons_zero, List.set_cons_succ]
              apply wpG_eq
              · intro W hW hs
                unfold opG
                go_simp
                first | exact resG_eq_mk _ _ _ | rfl
              simp only [Act.put, List.setIfInBounds_toArray, List.set_cons_zero, List.set_cons_succ]
              apply wpG_eq
              · intro W hW hs
                unfold opG
                go_simp
                first | exact resG_eq_mk _ _ _ | rfl
              simp only [Act.put, List.setIfInBounds_toArray, List.set_cons_zero, List.set_cons_succ]
              apply wpG_nil
              intro wq hWq hsAll
              have P11 := Lib.hid ((P9.out.go (Gr.trans ((Gr.refl w9).drew) hWq)).less (F' := fun _ => False) (fun j hj => hj.elim))
              clear hsAll hWq P9 C9A C9P C9Q O9 SQ
              go_wp2
              exact ⟨⟨q + 1, c + 1, cut2, cuts, ls2, by omega, by go_num, P11.out, HS4.out, by omega, hcu2.out, hl2, HSM2.out⟩, by simp [intOf]; omega⟩
          · obtain rfl : q = n := by omega
            go_wp2_with fail
            refine (goes_any _).mono ?_
            rintro e w5 ⟨rfl, g5⟩
            have P5 := Lib.hid (HP.out.go g5)
            clear g5
            go_wp2
            go_ret
            exact ⟨rfl, P5.out.below⟩

open Go.ChangeShapes Go.WideShapes Go.ChangeAt Go.RowKit
open Go.ChangeMaps (open_string shut_string)
theorem own_netPlays : ownKnob Try.prog.godebug = none := by kernel_rfl
theorem laidOut_netPlays : laidOutB Try.prog = true := by kernel_rfl
set_option maxRecDepth 100000 in
theorem lifted_netPlays (os : Os) (started : os.Started) (H : Type) (enc : TypeId × Value → H) :
    ReturnsInHanded {} Try.checked os 5 .any (Rows.netPlaysSpec.pre6 enc Try.prog Try.f5 Rows.netPlaysRow.domain false) (Rows.netPlaysSpec.post enc Try.prog Try.f5 false true false false) := by
  refine returnsInHanded_of_change (C := Try.checked) own_netPlays started (by kernel_rfl) Try.func5
    (ChangeSpec.witness6 (enc := enc) (C := Try.checked) false ⟨#[], #[.slice Option.none 0 0, .slice Option.none 0 0], []⟩ 8 (by kernel_rfl) (by kernel_rfl) (by kernel_rfl) (by kernel_rfl)) ?_
  intro W base args ds gs before hval0 hW hcnd _
  have hval : ∀ (j : Nat) t v, Try.f5.params[j]? = some t → args[j]? = some v → Value.okWide Try.prog W .any base t v := hval0
  have hW' := hW
  obtain ⟨p, q, hA0, hV, rfl, hfz, hnd⟩ := hW
  have hA : DataW.TrodAll enc Try.prog W 0 (fun _ => true) true Try.f5.params.toList args.toList ds p := hA0
  rw [Try.params5] at hA hval
  obtain ⟨v0, vs0, d0, ds0, p0, q0, hargs, rfl, rfl, k0, r0⟩ := trodAll_cons hA
  obtain ⟨v1, vs1, d1, ds1, p1, q1, rfl, rfl, rfl, k1, r1⟩ := trodAll_cons r0
  obtain ⟨rfl, rfl, rfl⟩ := trodAll_nil r1
  obtain rfl : args = #[v0, v1] := by cases args; simp_all
  obtain ⟨rfl, rfl⟩ := trodVars_none hV
  have lt0 : ∀ x ∈ p0, x.block < W.heap.size := by obtain ⟨m, hm⟩ := k0; exact DataW.trod_lt m _ _ _ hm
  have lt1 : ∀ x ∈ p1, x.block < W.heap.size := by obtain ⟨m, hm⟩ := k1; exact DataW.trod_lt m _ _ _ hm
  obtain ⟨l0, s0, b0, m0⟩ := open_sl_ints Try.underlying29 Try.underlying3 (by kernel_rfl) (hval 0 29 v0 rfl rfl) k0
  obtain ⟨l1, s1, m1⟩ := open_acts (hval 1 22 v1 rfl rfl) k1
  clear hA0 hval0
  refine (plays_walk W v0 v1 l0 l1 s0 m0 s1 m1 ).mono fun e W' ⟨he, bel⟩ => ?_
  subst he
  exact ⟨_, rfl, _, _, _, [], _, [], hW', trodAll_mk1 (shut_bool Try.underlying4 _), (trodAll_cons_mk (Below.trod laidOut_netPlays (by kernel_rfl) (of_decide_eq_true (by kernel_rfl)) k0 bel lt0) (trodAll_cons_mk (Below.trod laidOut_netPlays (by kernel_rfl) (of_decide_eq_true (by kernel_rfl)) k1 bel lt1) trodAll_mk0)), rfl, bel.frame _, fun h => by cases h⟩

theorem over_netPlays : Rows.netPlaysRow.holds Try.pinned (OpenSpec.ofChange Rows.netPlaysSpec) :=
  OpenClaim.holds_of_wide 5 Try.f5 rfl rfl rfl rfl rfl rfl rfl ⟨rfl, rfl, rfl, rfl, rfl⟩ rfl rfl rfl rfl rfl (by kernel_rfl) Try.func5 (by kernel_rfl)
    (of_decide_eq_true (by kernel_rfl)) (by unfold Func.isWrapper; first | (rw [if_pos (by decide +kernel)]; kernel_rfl) | (rw [if_neg (by decide +kernel)]; exact ⟨rfl, rfl⟩))
    (fun os started H enc _ => lifted_netPlays os started H enc)

theorem netPlays_proved : Rows.NetPlaysSaid := over_netPlays
#print axioms netPlays_proved
end Go.Proofs.Ytcpkbngoecpnkaa
