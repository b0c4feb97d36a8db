/-
  Acts on a table, as the statements take them: rows of five cells; what is too great; what an act does.
-/
import Derived.Test.YthckedmfjmbopaaTabMeth
import Derived.Test.YthckedmfjmbopaaStructs
import Derived.Outline
set_option linter.unusedVariables false
namespace Go.Proofs.Ythckedmfjmbopaa
open Go.RowKit

structure ActD where
  d : Nat
  r : Int
  e : Nat
  f : List Nat
  v : List Nat
instance : Inhabited ActD := ⟨⟨0, 0, 0, [], []⟩⟩
def ActC (w : World) (R : Nat → Value) (x : ActD) : Prop :=
  R 0 = .int .u8 (x.d : Int) ∧ R 1 = .int .i64 x.r ∧ R 2 = .int .u64 (x.e : Int) ∧ Sl w (R 3) (nums x.f) ∧ Sl w (R 4) (nums x.v) ∧ x.d < 256 ∧ -9223372036854775808 ≤ x.r ∧ x.r ≤ 9223372036854775807 ∧ x.e < 2 ^ 64
def Acts (w : World) (v : Value) (la : List ActD) : Prop := ∃ R, Rows w v la.length 5 R ∧ ∀ i (h : i < la.length), ActC w (R i) la[i]
theorem ActC.below {w w' : World} {R : Nat → Value} {x : ActD} (h : ActC w R x) (hg : Gr w w') : ActC w' R x := by
  obtain ⟨h0, h1, h2, h3, h4, h5⟩ := h
  exact ⟨h0, h1, h2, h3.below hg, h4.below hg, h5⟩
theorem Acts.below {w w' : World} {v : Value} {la : List ActD} (h : Acts w v la) (hg : Gr w w') : Acts w' v la := by
  obtain ⟨R, h1, h2⟩ := h
  exact ⟨R, h1.below hg, fun i hi => (h2 i hi).below hg⟩
/-- One of them. -/
theorem Acts.row {w : World} {a : Option Addr} {len cap : Nat} {la : List ActD} (h : Acts w (.slice a len cap) la) (k : Nat) (hk : k < la.length) :
    ∃ B o fa fc va vc, a = some ⟨B, o, none⟩ ∧ B < w.heap.size ∧ w.cell? ⟨B, o + k * 5, none⟩ = some (.int .u8 (la[k].d : Int)) ∧ w.cell? ⟨B, o + k * 5 + 1, none⟩ = some (.int .i64 la[k].r) ∧
      w.cell? ⟨B, o + k * 5 + 2, none⟩ = some (.int .u64 (la[k].e : Int)) ∧ w.cell? ⟨B, o + k * 5 + 3, none⟩ = some (.slice fa la[k].f.length fc) ∧ w.cell? ⟨B, o + k * 5 + 4, none⟩ = some (.slice va la[k].v.length vc) ∧
      Sl w (.slice fa la[k].f.length fc) (nums la[k].f) ∧ Sl w (.slice va la[k].v.length vc) (nums la[k].v) ∧ la[k].d < 256 ∧ -9223372036854775808 ≤ la[k].r ∧ la[k].r ≤ 9223372036854775807 ∧ la[k].e < 2 ^ 64 := by
  obtain ⟨R, ⟨a', cap', he, _, hr⟩, hc⟩ := h
  injection he with e1 e2 e3
  subst e1
  obtain ⟨B, o, rfl, hB, hcell⟩ := hr.resolve_left (by omega)
  obtain ⟨h0, h1, h2, h3, h4, h5⟩ := hc k hk
  obtain ⟨fa, fc, e3'⟩ := h3.oneCells
  obtain ⟨va, vc, e4'⟩ := h4.oneCells
  rw [nums_length] at e3' e4'
  have g0 := hcell k hk 0 (by decide)
  have g1 := hcell k hk 1 (by decide)
  have g2 := hcell k hk 2 (by decide)
  have g3 := hcell k hk 3 (by decide)
  have g4 := hcell k hk 4 (by decide)
  rw [h0] at g0; rw [h1] at g1; rw [h2] at g2; rw [e3'] at g3 h3; rw [e4'] at g4 h4
  exact ⟨B, o, fa, fc, va, vc, rfl, hB, g0, g1, g2, g3, g4, h3, h4, h5⟩

section
open Go.ChangeShapes Go.WideShapes Go.ChangeAt Go.Deep
variable {H : Type} {enc : TypeId × Value → H} {P : Program} {w : World}
theorem nums_of_ints (zs : List Int) (h : ∀ z ∈ zs, (Lit.int .u64 z).wf = true) : zs.map (Value.int .u64) = nums (zs.map Int.toNat) := by
  unfold nums
  rw [List.map_map]
  refine List.map_congr_left fun z hz => ?_
  have := h z hz
  simp [Lit.wf, IntKind.min, IntKind.max, IntKind.bits, IntKind.signed] at this
  simp only [Function.comp, num64]
  congr 1
  omega
/-- A cell that reads as numbers. -/
theorem cell_nums {t e : TypeId} {m : Nat} {v : Value} {y : DataW H × List MemPlace} (ht : P.underlying t = some (.slice e)) (he : P.underlying e = some (.int .u64)) (hc : P.cellsOf e = 1)
    (h : DataW.trod enc P w 0 (fun _ => true) true m t [v] = some y) : ∃ l : List Nat, Sl w v (nums l) ∧ l.length ≤ maxLen := by
  rcases open_ints ht he hc h with ⟨hcs, _⟩ | ⟨x, l, c, zs, hcs, _, hl, hm, hz, _, hcell, hwz⟩
  · obtain rfl : v = .slice none 0 0 := by simpa using hcs
    exact ⟨[], Sl.nil _ _ _, by simp⟩
  · obtain rfl : v = .slice (some x) l c := by simpa using hcs
    simp only [if_true] at hz
    have hlen : (zs.take l).length = l := by simp; omega
    refine ⟨(zs.take l).map Int.toNat, ?_, by rw [List.length_map, hlen]; omega⟩
    rw [← nums_of_ints _ (fun z hzm => hwz z (List.mem_of_mem_take hzm))]
    refine ⟨some x, c, by rw [List.length_map, hlen], by rw [List.length_map, hlen]; omega, ?_⟩
    by_cases h0 : l = 0
    · left; subst h0; simp
    · right
      obtain ⟨b, off, sp⟩ := x
      have h1 := hcell 0 (by omega)
      have hsp : sp = none := by simpa [Addr.add] using World.cell?_spot h1
      subst hsp
      have hadd : ∀ i, (⟨b, off, none⟩ : Addr).add i = ⟨b, off + i, none⟩ := by intro i; unfold Addr.add; split <;> simp_all
      refine ⟨b, off, rfl, ?_, fun i hi => ?_⟩
      · rw [hadd] at h1; exact cell_block_lt h1
      · simp only [List.length_map] at hi
        rw [hlen] at hi
        have := hcell i (by omega)
        rw [hadd] at this
        rw [this]
        simp [List.getD, List.getElem?_eq_getElem (show i < zs.length by omega)]
theorem cell_i64 {t : TypeId} {m : Nat} {v : Value} {y : DataW H × List MemPlace} (ht : P.underlying t = some (.int .i64))
    (h : DataW.trod enc P w 0 (fun _ => true) true m t [v] = some y) : ∃ z : Int, v = .int .i64 z ∧ -9223372036854775808 ≤ z ∧ z ≤ 9223372036854775807 := cell_int ht h
end
theorem open_acts {H : Type} {enc : TypeId × Value → H} {w : World} {r : Reach} {b0 : Nat} {v : Value} {d : DataW H} {ps : List MemPlace}
    (hval : Value.okWide Try.prog w r b0 22 v) (hd : DataW.Trod enc Try.prog w 0 (fun _ => true) true 22 v d ps) : ∃ la : List ActD, Acts w v la ∧ la.length ≤ maxLen := by
  obtain ⟨len, R, hR, hl, hc⟩ := open_rows Try.underlying22 Try.underlying30 (by kernel_rfl) (by kernel_rfl) (by decide) hval hd
  have each : ∀ i, i < len → ∃ x : ActD, ActC w (R i) x := by
    intro i hi
    obtain ⟨m0, y0, g0⟩ := hc i hi 0 _ rfl
    obtain ⟨m1, y1, g1⟩ := hc i hi 1 _ rfl
    obtain ⟨m2, y2, g2⟩ := hc i hi 2 _ rfl
    obtain ⟨m3, y3, g3⟩ := hc i hi 3 _ rfl
    obtain ⟨m4, y4, g4⟩ := hc i hi 4 _ rfl
    obtain ⟨n0, e0, l0⟩ := cell_nat rfl Try.underlying5 g0
    obtain ⟨z1, e1, l1, l1'⟩ := cell_int Try.underlying3 g1
    obtain ⟨n2, e2, l2⟩ := cell_nat rfl Try.underlying27 g2
    obtain ⟨f, s3, _⟩ := cell_nums Try.underlying28 Try.underlying27 (by kernel_rfl) g3
    obtain ⟨v, s4, _⟩ := cell_nums Try.underlying28 Try.underlying27 (by kernel_rfl) g4
    exact ⟨⟨n0, z1, n2, f, v⟩, e0, e1, e2, s3, s4, l0, l1, l1', l2⟩
  obtain ⟨X, hX⟩ := Go.Deep.choose_lt each
  refine ⟨(List.range len).map X, ⟨R, by simpa using hR, fun i hi => ?_⟩, by simpa using hl⟩
  have hi' : i < len := by simpa using hi
  simpa using hX i hi'

def greatV (la : List ActD) : Bool := decide (100 < la.length) || la.any fun x => decide (10 < x.f.length) || decide (10 < x.v.length)
theorem greatV_small {la : List ActD} (h : greatV la = false) : la.length ≤ 100 ∧ ∀ i (hi : i < la.length), la[i].f.length ≤ 10 ∧ la[i].v.length ≤ 10 := by
  unfold greatV at h
  rw [Bool.or_eq_false_iff, List.any_eq_false] at h
  refine ⟨by have := h.1; simpa using this, fun i hi => ?_⟩
  have := h.2 la[i] (List.getElem_mem hi)
  simpa using this
set_option maxHeartbeats 400000 in
theorem great_any (w : World) (va : Value) (la : List ActD) (h : Acts w va la) (hl : la.length ≤ maxLen) :
    Calls Try.prog 8 #[va] w fun e w' => e = .returned (.bool (greatV la)) ∧ w = w' := by
  unfold maxLen at hl
  obtain ⟨a, cap, rfl⟩ : ∃ a cap, va = .slice a la.length cap := by obtain ⟨R, ⟨a, cap, e, _⟩, _⟩ := h; exact ⟨a, cap, e⟩
  by_cases h100 : 100 < la.length
  · have e : greatV la = true := by unfold greatV; simp [h100]
    rw [e]
    go_enter Try.func8, Try.ntmps8
    go_wp2
    go_ret
    exact ⟨rfl, rfl⟩
  · have H := Lib.hid h
    clear h
    go_enter Try.func8, Try.ntmps8
    go_wp2
    go_loop [3] (fun i => ∃ k : Nat, k ≤ la.length ∧ i = .int .i64 k ∧ ∀ j (hj : j < k) (h2 : j < la.length), la[j].f.length ≤ 10 ∧ la[j].v.length ≤ 10) (fun i => la.length - (intOf i).toNat)
    case atStart => exact ⟨0, Nat.zero_le _, rfl, fun j hj => absurd hj (Nat.not_lt_zero _)⟩
    case round =>
      obtain ⟨k, hk, rfl, hall⟩ := hrel
      have HALL := Lib.hid hall
      clear hall
      by_cases hlt : k < la.length
      · obtain ⟨B, o, fa, fc, va, vc, rfl, hB, g0, g1, g2, g3, g4, _⟩ := H.out.row k hlt
        have hyes : 10 < la[k].f.length ∨ 10 < la[k].v.length → greatV la = true := by
          intro h
          unfold greatV
          rw [Bool.or_eq_true, List.any_eq_true]
          exact .inr ⟨la[k], List.getElem_mem hlt, by simpa using h⟩
        have HY := Lib.hid hyes
        clear hyes g0 g1 g2
        generalize hF : la[k].f.length = nf at *
        generalize hV : la[k].v.length = nv at *
        have HF := Lib.hid hF
        have HV := Lib.hid hV
        clear hF hV
        by_cases hf : 10 < nf
        · go_wp2
          go_ret
          exact ⟨by rw [HY.out (.inl hf)]; rfl, rfl⟩
        · by_cases hv : 10 < nv
          · go_wp2
            go_ret
            exact ⟨by rw [HY.out (.inr hv)]; rfl, rfl⟩
          · go_wp2
            go_round
            case rel =>
              refine ⟨k + 1, by omega, by go_num, fun j hj h2 => ?_⟩
              rcases Nat.lt_or_ge j k with h | h
              · exact HALL.out j h h2
              · obtain rfl : j = k := by omega
                rw [HF.out, HV.out]; omega
            case measure => simp [intOf]; omega
      · go_wp2
        go_ret
        refine ⟨?_, rfl⟩
        have : greatV la = false := by
          unfold greatV
          rw [Bool.or_eq_false_iff, List.any_eq_false]
          refine ⟨by simp; omega, fun x hx => ?_⟩
          obtain ⟨i, hi, rfl⟩ := List.getElem_of_mem hx
          have := HALL.out i (by omega) hi
          simp; omega
        rw [this]; rfl

/-- An act, plainly. -/
def doesV (n : Int) (T : Nat → Tok) (a : ActD) : (Nat → Tok) × Int := if a.d % 2 = 0 then atR n T a.r (inTok a.e a.f a.v) else atR n T a.r (outTok a.e a.v)
set_option maxHeartbeats 400000 in
theorem does_any (w : World) (base : Nat → Prop) (g : Nat) (n : Int) (T : Nat → Tok) (a : ActD) (F V : Value) (h : Tab w base g n T) (hn : n ≤ 4) (sf : Sl w F (nums a.f)) (sv : Sl w V (nums a.v)) (lf : a.f.length ≤ 1000000) (lv : a.v.length ≤ 1000000)
    (hd : a.d < 256) (he : a.e < 2 ^ 64) :
    Calls Try.prog 10 #[.pointer (some ⟨g, 0, none⟩), .agg #[.int .u8 (a.d : Int), .int .i64 a.r, .int .u64 (a.e : Int), F, V]] w (Acted w base g n (doesV n T a)) := by
  obtain ⟨Fa, Fc, rfl⟩ := sf.oneCells
  obtain ⟨Va, Vc, rfl⟩ := sv.oneCells
  have hd' : (a.d : Int) < 256 := by omega
  by_cases h2 : a.d % 2 = 0
  · have e : doesV n T a = atR n T a.r (inTok a.e a.f a.v) := by unfold doesV; rw [if_pos h2]
    rw [e]
    have hm : ((a.d : Int) % 2 == 0) = true := by simp; omega
    go_enter Try.func10, Try.ntmps10
    go_wp2_with fail
    refine (in_any _ base g a.e n a.r T _ _ a.f a.v (h.below ((Gr.refl w).alloc _)) hn (sf.below ((Gr.refl w).alloc _)) (sv.below ((Gr.refl w).alloc _)) lf lv he).mono ?_
    rintro en w' ha
    have HA := Lib.hid (Acted.after ((Gr.refl w).alloc _) ha)
    obtain ⟨rfl, _⟩ := ha
    go_wp2
    go_ret
    exact HA.out
  · have e : doesV n T a = atR n T a.r (outTok a.e a.v) := by unfold doesV; rw [if_neg h2]
    rw [e]
    have hm : ((a.d : Int) % 2 == 0) = false := by simp; omega
    go_enter Try.func10, Try.ntmps10
    go_wp2_with fail
    refine (out_any _ base g a.e n a.r T _ a.v (h.below ((Gr.refl w).alloc _)) hn (sv.below ((Gr.refl w).alloc _)) lv he).mono ?_
    rintro en w' ha
    have HA := Lib.hid (Acted.after ((Gr.refl w).alloc _) ha)
    obtain ⟨rfl, _⟩ := ha
    go_wp2
    go_ret
    exact HA.out
end Go.Proofs.Ythckedmfjmbopaa
