/-
  Package wan: the map of kinds; look-ups in it.
  Package wan: messages in memory; which may be told.
-/
import Derived.Test.YtgilijkmmcpfjaaZWanLaw
import Derived.Test.YtgilijkmmcpfjaaZEnRow
import Derived.Test.YtgilijkmmcpfjaaZMaps
import Derived.Test.YtgilijkmmcpfjaaZI
import Derived.Test.YtgilijkmmcpfjaaZRApp2
import Derived.Deep.DeepCutAuto
section
set_option linter.unusedVariables false
set_option linter.unusedSimpArgs false
set_option maxRecDepth 100000
namespace Go.Proofs.Ytgilijkmmcpfjaa
open Go.RowKit
open Go.Maps (Keyed keyOf_int_mk int_keyed)
def hD (a b c d e : Bool) : DataW Unit := .agg [.lit (.bool a), .lit (.bool b), .lit (.bool c), .lit (.bool d), .lit (.bool e)]
def hC (a b c d e : Bool) : Value := .agg #[.bool a, .bool b, .bool c, .bool d, .bool e]
def boolOf : Value → Option Bool
  | .bool b => some b
  | _ => none
theorem boolOf_inv {v : Value} {b : Bool} (h : boolOf v = some b) : v = .bool b := by
  cases v <;> simp [boolOf] at h
  rw [h]
def listOf : Value → List Value
  | .agg cs => cs.toList
  | _ => []
theorem listOf_inv {v : Value} {l : List Value} (h : listOf v = l) (hn : l ≠ []) : v = .agg l.toArray := by
  subst h
  cases v <;> simp [listOf] at *
def R5 (v : Value) : Option (DataW Unit × List MemPlace) :=
  match (listOf v).map boolOf with
  | [some a, some b, some c, some d, some e] => some (hD a b c d e, [])
  | _ => none
theorem R5_mk (a b c d e : Bool) : R5 (hC a b c d e) = some (hD a b c d e, []) := rfl
theorem R5_inv {v : Value} {a b c d e : Bool} {ps : List MemPlace} (h : R5 v = some (hD a b c d e, ps)) : v = hC a b c d e := by
  obtain ⟨l, hl⟩ : ∃ l, l = listOf v := ⟨_, rfl⟩
  unfold R5 at h
  rw [← hl] at h
  split at h
  · rename_i a' b' c' d' e' heq
    injection h with h
    injection h with h _
    unfold hD at h
    injection h with h
    simp only [List.cons.injEq, DataW.lit.injEq, Lit.bool.injEq] at h
    obtain ⟨h1, h2, h3, h4, h5, _⟩ := h
    subst h1 h2 h3 h4 h5
    have hlen : l.length = 5 := by have := congrArg List.length heq; simpa using this
    match l, hlen, heq, hl with
    | [v1, v2, v3, v4, v5], _, heq, hl =>
      simp only [List.map_cons, List.map_nil, List.cons.injEq, and_true] at heq
      obtain ⟨q1, q2, q3, q4, q5⟩ := heq
      rw [boolOf_inv q1, boolOf_inv q2, boolOf_inv q3, boolOf_inv q4, boolOf_inv q5] at hl
      exact listOf_inv hl.symm (by simp)
  · cases h
/-- 'm[k]' -/
theorem MapO.look1 (w : World) {t k el : TypeId} {R : Value → Option (DataW Unit × List MemPlace)} {b n : Nat} {g : Lit → Option (DataW Unit)} (K : Keyed Try.prog k) (ht : Try.prog.underlying t = some (.map k el)) {z : Value} (hz : (zeroValue el).run Try.prog w = .ok z w)
    (h : MapO w k R b n g) {key : Value} {kl : Lit} (hkey : keyOf Try.prog k key = some kl) :
    (g kl = none → (Instr.lookup t (.map (some b)) key false).run Try.prog w = .ok z w) ∧
    ∀ d, g kl = some d → ∃ v ps, R v = some (d, ps) ∧ (Instr.lookup t (.map (some b)) key false).run Try.prog w = .ok v w := by
  obtain ⟨D, ⟨es, clock, hb, F, _, rfl⟩, _, hf⟩ := h
  rcases Maps.fit_look false K ht hz hb F hkey with ⟨hrun, _, hat⟩ | ⟨e0, y, _, _, hrun, hRv, hat, _⟩
  · refine ⟨fun _ => hrun, fun d hd => ?_⟩
    have h1 := (hat (.lit (.bool true))).symm.trans (hf kl (.lit (.bool true)))
    have h2 := (hat (.lit (.bool false))).symm.trans (hf kl (.lit (.bool false)))
    rw [hd] at h1 h2
    have : (DataW.lit (Lit.bool true) : DataW Unit) = .lit (.bool false) := h1.trans h2.symm
    exact Bool.noConfusion (Lit.bool.inj (DataW.lit.inj this))
  · refine ⟨fun hn => ?_, fun d hd => ?_⟩
    · have h1 := (hat (.lit (.bool true))).symm.trans (hf kl (.lit (.bool true)))
      have h2 := (hat (.lit (.bool false))).symm.trans (hf kl (.lit (.bool false)))
      rw [hn] at h1 h2
      have : (DataW.lit (Lit.bool true) : DataW Unit) = .lit (.bool false) := h1.symm.trans h2
      exact Bool.noConfusion (Lit.bool.inj (DataW.lit.inj this))
    · have h1 := (hat (.lit (.bool true))).symm.trans (hf kl (.lit (.bool true)))
      rw [hd] at h1
      exact ⟨e0.val, y.2, by rw [hRv]; exact congrArg some (Prod.ext h1 rfl), hrun⟩
theorem WK5 : Keyed Try.prog 5 := int_keyed Try.underlying5
theorem wkey5 (n : Nat) (hn : n < 256) : keyOf Try.prog 5 (.int .u8 (n : Int)) = some (.int .u8 (n : Int)) := by
  refine keyOf_int_mk Try.underlying5 ?_
  simp [Lit.wf, IntKind.min, IntKind.max, IntKind.bits, IntKind.signed]; omega
def hasD (n : Nat) : DataW Unit := hD (hasV n) (hasI n) (hasR n) (hasE n) (hasF n)
def hasC (n : Nat) : Value := hC (hasV n) (hasI n) (hasR n) (hasE n) (hasF n)
def WMap (w : World) (g : Nat) : Prop := ∃ G, MapO w 5 R5 g 6 G ∧ ∀ n : Nat, n < 256 → (kindW n = true → G (.int .u8 (n : Int)) = some (hasD n)) ∧ (kindW n = false → G (.int .u8 (n : Int)) = none)
theorem WMap.below {w w' : World} {g : Nat} (h : WMap w g) (hg : Gr w w') : WMap w' g := by
  obtain ⟨G, h1, h2⟩ := h
  exact ⟨G, h1.below hg, h2⟩
theorem has_none {n : Nat} (h : kindW n = false) : hasC n = hC false false false false false := by
  have : ¬ (1 ≤ n ∧ n ≤ 6) := fun hc => by rw [(kindW_iff n).2 hc] at h; cases h
  have e : ∀ k, 1 ≤ k → k ≤ 6 → (n == k) = false := fun k h1 h2 => by simp; omega
  unfold hasC hasV hasI hasR hasE hasF
  simp only [e 1 (by decide) (by decide), e 2 (by decide) (by decide), e 3 (by decide) (by decide), e 4 (by decide) (by decide), e 5 (by decide) (by decide), e 6 (by decide) (by decide), Bool.or_false]
theorem WMap.look2 {w : World} {g : Nat} (h : WMap w g) (n : Nat) (hn : n < 256) : (Instr.lookup 55 (.map (some g)) (.int .u8 (n : Int)) true).run Try.prog w = .ok (.tuple #[hasC n, .bool (kindW n)]) w := by
  obtain ⟨G, h1, h2⟩ := h
  obtain ⟨e1, e2⟩ := MapO.look w WK5 Try.underlying55 (z := hC false false false false false) (by rfl) h1 (wkey5 n hn)
  cases hk : kindW n with
  | true =>
    obtain ⟨v, ps, hr, hrun⟩ := e2 _ ((h2 n hn).1 hk)
    rw [R5_inv hr] at hrun
    exact hrun
  | false => rw [has_none hk]; exact e1 ((h2 n hn).2 hk)
theorem WMap.look1 {w : World} {g : Nat} (h : WMap w g) (n : Nat) (hn : n < 256) : (Instr.lookup 55 (.map (some g)) (.int .u8 (n : Int)) false).run Try.prog w = .ok (hasC n) w := by
  obtain ⟨G, h1, h2⟩ := h
  obtain ⟨e1, e2⟩ := MapO.look1 w WK5 Try.underlying55 (z := hC false false false false false) (by rfl) h1 (wkey5 n hn)
  cases hk : kindW n with
  | true =>
    obtain ⟨v, ps, hr, hrun⟩ := e2 _ ((h2 n hn).1 hk)
    rw [R5_inv hr] at hrun
    exact hrun
  | false => rw [has_none hk]; exact e1 ((h2 n hn).2 hk)
set_option maxHeartbeats 4000000 in
theorem wkinds_any (w : World) : Calls Try.prog 19 #[] w fun e w' => ∃ g, e = .returned (.map (some g)) ∧ WMap w' g ∧ Gr w w' := by
  have m0 : (Instr.makeMap 55 none).run Try.prog w = .ok (.map (some w.heap.size)) (w.alloc (.map #[] 0)) := rfl
  have o0 := MapO.made w 5 R5
  have g0 : Gr w (w.alloc (.map #[] 0)) := (Gr.refl _).alloc _
  have hm0 : w.heap.size < (w.alloc (.map #[] 0)).heap.size := by simp
  generalize w.alloc (.map #[] 0) = w0 at *
  obtain ⟨mb, hmb⟩ : ∃ mb, mb = w.heap.size := ⟨_, rfl⟩
  rw [← hmb] at m0 o0 hm0
  obtain ⟨w1, f1, r1, o1, x1, y1, q1⟩ := MapO.update w0 (d := hasD 1) (ps := []) WK5 Try.underlying55 o0 (by decide) (show keyOf Try.prog 5 (.int .u8 1) = some (.int .u8 1) from wkey5 1 (by decide)) (R5_mk (hasV 1) (hasI 1) (hasR 1) (hasE 1) (hasF 1))
  obtain ⟨w2, f2, r2, o2, x2, y2, q2⟩ := MapO.update w1 (d := hasD 2) (ps := []) WK5 Try.underlying55 o1 (by decide) (show keyOf Try.prog 5 (.int .u8 2) = some (.int .u8 2) from wkey5 2 (by decide)) (R5_mk (hasV 2) (hasI 2) (hasR 2) (hasE 2) (hasF 2))
  obtain ⟨w3, f3, r3, o3, x3, y3, q3⟩ := MapO.update w2 (d := hasD 3) (ps := []) WK5 Try.underlying55 o2 (by decide) (show keyOf Try.prog 5 (.int .u8 3) = some (.int .u8 3) from wkey5 3 (by decide)) (R5_mk (hasV 3) (hasI 3) (hasR 3) (hasE 3) (hasF 3))
  obtain ⟨w4, f4, r4, o4, x4, y4, q4⟩ := MapO.update w3 (d := hasD 4) (ps := []) WK5 Try.underlying55 o3 (by decide) (show keyOf Try.prog 5 (.int .u8 4) = some (.int .u8 4) from wkey5 4 (by decide)) (R5_mk (hasV 4) (hasI 4) (hasR 4) (hasE 4) (hasF 4))
  obtain ⟨w5, f5, r5, o5, x5, y5, q5⟩ := MapO.update w4 (d := hasD 5) (ps := []) WK5 Try.underlying55 o4 (by decide) (show keyOf Try.prog 5 (.int .u8 5) = some (.int .u8 5) from wkey5 5 (by decide)) (R5_mk (hasV 5) (hasI 5) (hasR 5) (hasE 5) (hasF 5))
  obtain ⟨w6, f6, r6, o6, x6, y6, q6⟩ := MapO.update w5 (d := hasD 6) (ps := []) WK5 Try.underlying55 o5 (by decide) (show keyOf Try.prog 5 (.int .u8 6) = some (.int .u8 6) from wkey5 6 (by decide)) (R5_mk (hasV 6) (hasI 6) (hasR 6) (hasE 6) (hasF 6))
  have G6 : Gr w w6 := Below.trans (show Below w.heap.size w w0 from g0) (show Below w.heap.size w0 w6 from grownBy_below (grownBy_trans (grownBy_trans (grownBy_trans (grownBy_trans (grownBy_trans q1 q2) q3) q4) q5) q6) (Nat.le_of_lt (by omega)) (fun j hj => by injection hj with hj; omega))
  have hkm : WMap w6 mb := by
    refine ⟨f6, o6, fun n hn => ?_⟩
    have ne : ∀ k : Nat, n ≠ k → Lit.int .u8 (n : Int) ≠ .int .u8 (k : Int) := fun k hk e => hk (by injection e with _ e; exact_mod_cast e)
    by_cases h9 : 1 ≤ n ∧ n ≤ 6
    · have hk : kindW n = true := (kindW_iff n).2 h9
      refine ⟨fun _ => ?_, fun h => by rw [hk] at h; cases h⟩
      rcases (by omega : n = 1 ∨ n = 2 ∨ n = 3 ∨ n = 4 ∨ n = 5 ∨ n = 6) with rfl | rfl | rfl | rfl | rfl | rfl
      · rw [y6 _ (ne 6 (by omega)), y5 _ (ne 5 (by omega)), y4 _ (ne 4 (by omega)), y3 _ (ne 3 (by omega)), y2 _ (ne 2 (by omega))]; exact x1
      · rw [y6 _ (ne 6 (by omega)), y5 _ (ne 5 (by omega)), y4 _ (ne 4 (by omega)), y3 _ (ne 3 (by omega))]; exact x2
      · rw [y6 _ (ne 6 (by omega)), y5 _ (ne 5 (by omega)), y4 _ (ne 4 (by omega))]; exact x3
      · rw [y6 _ (ne 6 (by omega)), y5 _ (ne 5 (by omega))]; exact x4
      · rw [y6 _ (ne 6 (by omega))]; exact x5
      · exact x6
    · have hk : kindW n = false := by
        rw [Bool.eq_false_iff]; intro h; exact h9 ((kindW_iff n).1 h)
      exact ⟨fun h => by (rw [hk] at h; cases h), fun _ => by rw [y6 _ (ne 6 (by omega)), y5 _ (ne 5 (by omega)), y4 _ (ne 4 (by omega)), y3 _ (ne 3 (by omega)), y2 _ (ne 2 (by omega)), y1 _ (ne 1 (by omega))]⟩
  have HK := Lib.hid hkm
  have GE := Lib.hid G6
  have R1 : Hid ((Instr.mapUpdate 55 (.map (some mb)) (.int .u8 1) (.agg #[.bool true, .bool false, .bool false, .bool false, .bool false])).run Try.prog w0 = .ok () w1) := Lib.hid r1
  have R2 : Hid ((Instr.mapUpdate 55 (.map (some mb)) (.int .u8 2) (.agg #[.bool false, .bool true, .bool false, .bool false, .bool false])).run Try.prog w1 = .ok () w2) := Lib.hid r2
  have R3 : Hid ((Instr.mapUpdate 55 (.map (some mb)) (.int .u8 3) (.agg #[.bool false, .bool false, .bool true, .bool true, .bool true])).run Try.prog w2 = .ok () w3) := Lib.hid r3
  have R4 : Hid ((Instr.mapUpdate 55 (.map (some mb)) (.int .u8 4) (.agg #[.bool false, .bool false, .bool true, .bool true, .bool false])).run Try.prog w3 = .ok () w4) := Lib.hid r4
  have R5 : Hid ((Instr.mapUpdate 55 (.map (some mb)) (.int .u8 5) (.agg #[.bool false, .bool false, .bool true, .bool false, .bool false])).run Try.prog w4 = .ok () w5) := Lib.hid r5
  have R6 : Hid ((Instr.mapUpdate 55 (.map (some mb)) (.int .u8 6) (.agg #[.bool false, .bool false, .bool true, .bool true, .bool true])).run Try.prog w5 = .ok () w6) := Lib.hid r6
  have M0 := Lib.hid m0
  clear hkm G6 g0 hm0 hmb m0 o0 o1 o2 o3 o4 o5 o6 r1 x1 y1 q1 r2 x2 y2 q2 r3 x3 y3 q3 r4 x4 y4 q4 r5 x5 y5 q5 r6 x6 y6 q6
  have m0 := M0.out
  have r1 := R1.out
  have r2 := R2.out
  have r3 := R3.out
  have r4 := R4.out
  have r5 := R5.out
  have r6 := R6.out
  go_enter Try.func19, Try.ntmps19
  go_wp2
  go_ret
  exact ⟨_, rfl, HK.out, GE.out⟩
end Go.Proofs.Ytgilijkmmcpfjaa
end
section
set_option linter.unusedVariables false
set_option linter.unusedSimpArgs false
set_option maxRecDepth 100000
namespace Go.Proofs.Ytgilijkmmcpfjaa
open Go.RowKit
/-- A row of items. -/
def ItemsP (P : Nat → Prop) (w : World) (v : Value) (xs : List ItemD) : Prop :=
  ∃ R, RowsP P w v xs.length 7 R ∧ ∀ i (h : i < xs.length), ∃ sv ev, ItemP P w xs[i] sv ev ∧ ∀ j u, (itemCells xs[i] sv ev)[j]? = some u → R i j = u
theorem ItemsP.keep {P : Nat → Prop} {w w' : World} {v : Value} {es : List ItemD} (h : ItemsP P w v es) (k : Keep P w w') : ItemsP P w' v es := by
  obtain ⟨R, h1, h2⟩ := h
  exact ⟨R, h1.keep k, fun i hi => by obtain ⟨sv, ev, h3, h4⟩ := h2 i hi; exact ⟨sv, ev, h3.keep k, h4⟩⟩
theorem ItemsP.gr {P : Nat → Prop} {w w' : World} {v : Value} {es : List ItemD} (h : ItemsP P w v es) (k : Gr w w') : ItemsP P w' v es := h.keep (Keep.of_gr k)
theorem ItemsP.mono {P Q : Nat → Prop} {w : World} {v : Value} {es : List ItemD} (h : ItemsP P w v es) (hq : ∀ k, P k → Q k) : ItemsP Q w v es := by
  obtain ⟨R, h1, h2⟩ := h
  exact ⟨R, h1.mono hq, fun i hi => by obtain ⟨sv, ev, h3, h4⟩ := h2 i hi; exact ⟨sv, ev, h3.mono hq, h4⟩⟩
theorem ItemsP.monoLt {P Q : Nat → Prop} {w : World} {v : Value} {es : List ItemD} (h : ItemsP P w v es) (hq : ∀ k, P k → k < w.heap.size → Q k) : ItemsP Q w v es := by
  obtain ⟨R, h1, h2⟩ := h
  exact ⟨R, h1.monoLt hq, fun i hi => by obtain ⟨sv, ev, h3, h4⟩ := h2 i hi; exact ⟨sv, ev, h3.monoLt hq, h4⟩⟩
theorem ItemsP.shape {P : Nat → Prop} {w : World} {v : Value} {es : List ItemD} (h : ItemsP P w v es) : ∃ a cap, v = .slice a es.length cap := by
  obtain ⟨R, h1, _⟩ := h; exact h1.shape
theorem ItemsP.nil (P : Nat → Prop) (w : World) (a : Option Addr) (c : Nat) : ItemsP P w (.slice a 0 c) [] := ⟨fun _ _ => .bool false, RowsP.nil _ _ _ _ _ _, fun i hi => absurd hi (Nat.not_lt_zero _)⟩
theorem ItemsP.at {P : Nat → Prop} {w : World} {v : Value} {es : List ItemD} (h : ItemsP P w v es) (k : Nat) (hk : k < es.length) :
    ∃ B o c sv ev, v = .slice (some ⟨B, o, none⟩) es.length c ∧ B < w.heap.size ∧ ItemP P w es[k] sv ev ∧ ∀ j u, j < 7 → (itemCells es[k] sv ev)[j]? = some u → w.cell? ⟨B, o + k * 7 + j, none⟩ = some u := by
  obtain ⟨R, ⟨⟨a, cap, rfl, hcap, hr⟩, _⟩, h2⟩ := h
  obtain ⟨B, o, rfl, hB, hc⟩ := hr.resolve_left (by omega)
  obtain ⟨sv, ev, h3, h4⟩ := h2 k hk
  exact ⟨B, o, cap, sv, ev, rfl, hB, h3, fun j u hj hu => by rw [hc k hk j hj, h4 j u hu]⟩
def wanCells (x : WanD) (vv iv fv : Value) : List Value := [.int .u8 (x.kind : Int), .int .i64 x.site, vv, iv, .int .i64 x.region, .int .u64 (x.epoch : Int), fv]
def WanP (P : Nat → Prop) (w : World) (x : WanD) (vv iv fv : Value) : Prop := SlP P w vv (nums x.vector) ∧ ItemsP P w iv x.items ∧ SlP P w fv (nums x.frontier)
theorem WanP.keep {P : Nat → Prop} {w w' : World} {x : WanD} {vv iv fv : Value} (h : WanP P w x vv iv fv) (k : Keep P w w') : WanP P w' x vv iv fv := ⟨h.1.keep k, h.2.1.keep k, h.2.2.keep k⟩
theorem WanP.gr {P : Nat → Prop} {w w' : World} {x : WanD} {vv iv fv : Value} (h : WanP P w x vv iv fv) (k : Gr w w') : WanP P w' x vv iv fv := h.keep (Keep.of_gr k)
theorem WanP.mono {P Q : Nat → Prop} {w : World} {x : WanD} {vv iv fv : Value} (h : WanP P w x vv iv fv) (hq : ∀ k, P k → Q k) : WanP Q w x vv iv fv := ⟨h.1.mono hq, h.2.1.mono hq, h.2.2.mono hq⟩
theorem WanP.zero (P : Nat → Prop) (w : World) (k : Nat) : WanP P w { zeroW with kind := k } (.slice none 0 0) (.slice none 0 0) (.slice none 0 0) := ⟨SlP.nil _ _ _ _, ItemsP.nil _ _ _ _, SlP.nil _ _ _ _⟩
/-- No list of it is longer than a slice may be. -/
structure WanLen (x : WanD) : Prop where
  items : x.items.length ≤ maxLen
  effs : ∀ y ∈ x.items, y.effs.length ≤ maxLen
theorem wanTy : RowTy Try.prog 26 7 := ⟨⟨_, Try.underlying26⟩, by kernel_rfl⟩
theorem itemTy : RowTy Try.prog 46 7 := ⟨⟨_, Try.underlying46⟩, by kernel_rfl⟩
theorem wstamp_any (w : World) (v : Value) (l : List Nat) (h : Bool) (hs : Sl w v (nums l)) : Calls Try.prog 50 #[v, .bool h] w (RetBool w (stampW l h)) := by
  obtain ⟨a, c, rfl, _, _⟩ := Sl.numsAt' hs
  obtain ⟨n, hn⟩ : ∃ n, n = l.length := ⟨_, rfl⟩
  have e : stampW l h = (decide (n = 0) || (h && decide (n ≤ 3))) := by rw [hn]; rfl
  rw [← hn, e]
  clear hs hn e
  by_cases h0 : n = 0
  · subst h0
    go_enter Try.func50, Try.ntmps50
    go_wp2
    go_ret
    exact RetBool.mk (by simp) (Gr.refl w)
  have q0 : ((n : Int) == 0) = false := by rw [Bool.eq_false_iff]; intro e; have := eq_of_beq e; omega
  cases h with
  | false =>
    have HZ : Hid ((decide (n = 0) || (false && decide (n ≤ 3))) = false) := Lib.hid (by simp [h0])
    clear h0
    go_enter Try.func50, Try.ntmps50
    go_wp2
    go_ret
    exact RetBool.mk (by rw [HZ.out] <;> simp) (Gr.refl w)
  | true =>
    by_cases h3 : n ≤ 3
    · have hi : (n : Int) ≤ 3 := by omega
      have HZ : Hid ((decide (n = 0) || (true && decide (n ≤ 3))) = true) := Lib.hid (by simp [h3])
      clear h0 h3
      go_enter Try.func50, Try.ntmps50
      go_wp2
      go_ret
      exact RetBool.mk (by rw [HZ.out] <;> simp <;> omega) (Gr.refl w)
    · have hi : ¬ (n : Int) ≤ 3 := by omega
      have HZ : Hid (false = (decide (n = 0) || decide (n ≤ 3))) := Lib.hid (by simp [h3, h0])
      clear h0 h3
      go_enter Try.func50, Try.ntmps50
      go_wp2
      go_ret
      exact RetBool.mk HZ.out (Gr.refl w)
theorem item_shape {P : Nat → Prop} {w : World} {x : ItemD} {sv ev : Value} (h : ItemP P w x sv ev) : ∃ sa ns sc ea ne ec, sv = .slice sa ns sc ∧ ev = .slice ea ne ec := by
  obtain ⟨a, c, e, _, _⟩ := Sl.numsAt' h.1.1
  obtain ⟨a2, c2, e2⟩ := h.2.shape
  exact ⟨_, _, _, _, _, _, e, e2⟩
theorem bad1_any (w : World) (x : ItemD) (sv ev : Value) (hp : ItemP Any w x sv ev) (hn : x.effs.length ≤ maxLen) : Calls Try.prog 48 #[.agg (itemCells x sv ev).toArray] w (RetBool w (!mayItem x)) := by
  have MI := Lib.hid fun W (hW : Gr w W) => mayItem_any W x sv ev (hp.gr hW) hn
  obtain ⟨E, hE⟩ : ∃ E, E = itemCells x sv ev := ⟨_, rfl⟩
  have EN : Hid (E.length = 7) := Lib.hid (by rw [hE]; rfl)
  obtain ⟨m, hm⟩ : ∃ m, m = mayItem x := ⟨_, rfl⟩
  rw [← hE, ← hm] at MI ⊢
  clear hE hm hp hn
  go_enter Try.func48, Try.ntmps48
  go_wp2_with (first | (refine wpList_boxE _ rfl rfl rfl ?_) | fail)
  intro w1 k1 g1 n1
  have K1 := Lib.hid k1
  have G1 := Lib.hid g1
  clear k1 g1 n1
  go_wp2_with (first | (refine wpList_loadE itemTy _ rfl rfl rfl K1.out EN.out ?_) | fail)
  refine (MI.out w1 G1.out).mono ?_
  rintro en w2 ⟨rfl, g2⟩
  have G2 := Lib.hid (G1.out.trans g2)
  clear g2
  go_wp2
  go_ret
  exact RetBool.mk rfl G2.out
/-- A row of them, each looked at by a call. -/
theorem idxI_any (w : World) (lv : Value) (ls : List ItemD) (hp : ItemsP Any w lv ls) (hn : ls.length ≤ maxLen) (he : ∀ y ∈ ls, y.effs.length ≤ maxLen) :
    Calls Try.prog 90 #[lv, .func (.func 48) #[] #[]] w fun e w' => (∃ z : Int, e = .returned (.int .i64 z) ∧ decide (0 ≤ z) = !ls.all mayItem) ∧ Gr w w' := by
  obtain ⟨a, cap, rfl⟩ := hp.shape
  have hmx : ls.length ≤ 9223372036854775807 := Nat.le_trans hn (by decide)
  have HP := Lib.hid hp
  have HE := Lib.hid he
  have key : Hid ((∀ x ∈ ls, mayItem x = true) → ls.all mayItem = true) := Lib.hid fun h => List.all_eq_true.2 h
  have key2 : Hid (∀ k (hk : k < ls.length), mayItem ls[k] = false → ls.all mayItem = false) := Lib.hid fun k hk h => by
    rw [Bool.eq_false_iff]
    intro ha
    have := List.all_eq_true.1 ha _ (List.getElem_mem hk)
    rw [h] at this
    cases this
  clear hp he
  go_enter Try.func90, Try.ntmps90
  go_wp2
  go_loopw [5, 8] (fun _ i wr => ∃ k : Nat, k ≤ ls.length ∧ i = .int .i64 k ∧ Gr w wr ∧ Hid (∀ j (hj : j < ls.length), j < k → mayItem ls[j] = true)) (fun _ i _ => ls.length - (intOf i).toNat)
  case atStart => exact ⟨0, Nat.zero_le _, rfl, Gr.refl _, Lib.hid fun j _ hj => absurd hj (Nat.not_lt_zero _)⟩
  case round =>
    obtain ⟨k, hk, rfl, hg, HJ⟩ := hrel
    obtain ⟨wo, rfl⟩ : ∃ wo : World, wo = wr := ⟨_, rfl⟩
    by_cases hlt : k < ls.length
    · obtain ⟨B, o, c, sv, ev, e0, hB, hr, hcell⟩ := (HP.out.gr hg).at k hlt
      injection e0 with e1 _ e3
      subst e1 e3
      have CALL := bad1_any wo ls[k] sv ev hr (HE.out _ (List.getElem_mem hlt))
      obtain ⟨sa, ns, sc, ea, ne, ec, rfl, rfl⟩ := item_shape hr
      obtain ⟨x, hx⟩ : ∃ x, x = ls[k] := ⟨_, rfl⟩
      rw [← hx] at CALL hcell
      have HX := Lib.hid hx
      clear hx
      have c0 := hcell 0 _ (by decide) rfl
      have c1 := hcell 1 _ (by decide) rfl
      have c2 := hcell 2 _ (by decide) rfl
      have c3 := hcell 3 _ (by decide) rfl
      have c4 := hcell 4 _ (by decide) rfl
      have c5 := hcell 5 _ (by decide) rfl
      have c6 := hcell 6 _ (by decide) rfl
      simp only [itemCells, Nat.add_zero] at c0 c1 c2 c3 c4 c5 c6
      have i1 : (0 : Int) ≤ (k : Int) := by omega
      have i2 : (k : Int) < (ls.length : Int) := by omega
      have CA : Hid (Calls Try.prog 48 #[.agg #[.int .i64 x.origin, .int .u64 (x.seq : Int), .int .i64 x.region, .int .u64 (x.epoch : Int), .slice sa ns sc, .slice ea ne ec, .int .u32 (x.closed : Int)]] wo (RetBool wo (!mayItem x))) := Lib.hid CALL
      clear CALL hr hcell
      go_wp2_with fail
      cases hm : mayItem x with
      | true =>
        have HM := Lib.hid hm
        clear hm
        refine CA.out.mono ?_
        rw [HM.out]
        rintro e w2 ⟨rfl, g2⟩
        have G2 := Lib.hid (hg.trans g2)
        clear g2
        go_wp2
        go_roundw
        case rel => exact ⟨k + 1, by omega, by go_num, G2.out, Lib.hid fun j hj hjk => by
          rcases Nat.lt_or_ge j k with h | h
          · exact HJ.out j hj h
          · obtain rfl : j = k := by omega
            rw [← HX.out]; exact HM.out⟩
        case measure => simp [intOf]; omega
      | false =>
        have HM := Lib.hid hm
        clear hm
        refine CA.out.mono ?_
        rw [HM.out]
        rintro e w2 ⟨rfl, g2⟩
        have G2 := Lib.hid (hg.trans g2)
        clear g2
        go_wp2
        go_ret
        exact ⟨⟨_, rfl, by rw [key2.out k hlt (by rw [← HX.out]; exact HM.out)]; simp⟩, G2.out⟩
    · obtain rfl : k = ls.length := by omega
      go_wp2
      go_ret
      exact ⟨⟨_, rfl, by rw [key.out fun x hx => by obtain ⟨j, hj, rfl⟩ := List.getElem_of_mem hx; exact HJ.out j hj hj]; rfl⟩, hg⟩
theorem contI_any (w : World) (lv : Value) (ls : List ItemD) (hp : ItemsP Any w lv ls) (hn : ls.length ≤ maxLen) (he : ∀ y ∈ ls, y.effs.length ≤ maxLen) :
    Calls Try.prog 51 #[lv, .func (.func 48) #[] #[]] w (RetBool w (!ls.all mayItem)) := by
  have C := Lib.hid (idxI_any w lv ls hp hn he)
  obtain ⟨a, cap, rfl⟩ := hp.shape
  clear hp hn he
  go_enter Try.func51, Try.ntmps51
  go_wp2_with fail
  refine C.out.mono ?_
  rintro en w1 ⟨⟨z, rfl, hz⟩, g1⟩
  have HZ := Lib.hid hz
  have G1 := Lib.hid g1
  clear hz g1
  go_wp2
  go_ret
  exact RetBool.mk (by first | exact HZ.out | (rw [← HZ.out])) G1.out
end Go.Proofs.Ytgilijkmmcpfjaa
end
