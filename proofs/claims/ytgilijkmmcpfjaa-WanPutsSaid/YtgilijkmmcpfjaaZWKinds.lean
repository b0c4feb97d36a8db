/-
  Package wan: the map of kinds; look-ups in it.
-/
import Derived.Test.YtgilijkmmcpfjaaZWanLaw
import Derived.Test.YtgilijkmmcpfjaaZEnRow
import Derived.Test.YtgilijkmmcpfjaaZMaps
set_option linter.unusedVariables false
set_option linter.unusedSimpArgs false
set_option maxRecDepth 100000
namespace Go.Proofs.Ytgilijkmmcpfjaa
open Go.RowKit
open Go.Maps (Keyed keyOf_int_mk int_keyed)
def hD (a b c d e : Bool) : DataW Unit := .agg [.lit (.bool a), .lit (.bool b), .lit (.bool c), .lit (.bool d), .lit (.bool e)]
def hC (a b c d e : Bool) : Value := .agg #[.bool a, .bool b, .bool c, .bool d, .bool e]
def boolOf : Value → Option Bool
  | .bool b => some b
  | _ => none
theorem boolOf_inv {v : Value} {b : Bool} (h : boolOf v = some b) : v = .bool b := by
  cases v <;> simp [boolOf] at h
  rw [h]
def listOf : Value → List Value
  | .agg cs => cs.toList
  | _ => []
theorem listOf_inv {v : Value} {l : List Value} (h : listOf v = l) (hn : l ≠ []) : v = .agg l.toArray := by
  subst h
  cases v <;> simp [listOf] at *
def R5 (v : Value) : Option (DataW Unit × List MemPlace) :=
  match (listOf v).map boolOf with
  | [some a, some b, some c, some d, some e] => some (hD a b c d e, [])
  | _ => none
theorem R5_mk (a b c d e : Bool) : R5 (hC a b c d e) = some (hD a b c d e, []) := rfl
theorem R5_inv {v : Value} {a b c d e : Bool} {ps : List MemPlace} (h : R5 v = some (hD a b c d e, ps)) : v = hC a b c d e := by
  obtain ⟨l, hl⟩ : ∃ l, l = listOf v := ⟨_, rfl⟩
  unfold R5 at h
  rw [← hl] at h
  split at h
  · rename_i a' b' c' d' e' heq
    injection h with h
    injection h with h _
    unfold hD at h
    injection h with h
    simp only [List.cons.injEq, DataW.lit.injEq, Lit.bool.injEq] at h
    obtain ⟨h1, h2, h3, h4, h5, _⟩ := h
    subst h1 h2 h3 h4 h5
    have hlen : l.length = 5 := by have := congrArg List.length heq; simpa using this
    match l, hlen, heq, hl with
    | [v1, v2, v3, v4, v5], _, heq, hl =>
      simp only [List.map_cons, List.map_nil, List.cons.injEq, and_true] at heq
      obtain ⟨q1, q2, q3, q4, q5⟩ := heq
      rw [boolOf_inv q1, boolOf_inv q2, boolOf_inv q3, boolOf_inv q4, boolOf_inv q5] at hl
      exact listOf_inv hl.symm (by simp)
  · cases h
/-- 'm[k]' -/
theorem MapO.look1 (w : World) {t k el : TypeId} {R : Value → Option (DataW Unit × List MemPlace)} {b n : Nat} {g : Lit → Option (DataW Unit)} (K : Keyed Try.prog k) (ht : Try.prog.underlying t = some (.map k el)) {z : Value} (hz : (zeroValue el).run Try.prog w = .ok z w)
    (h : MapO w k R b n g) {key : Value} {kl : Lit} (hkey : keyOf Try.prog k key = some kl) :
    (g kl = none → (Instr.lookup t (.map (some b)) key false).run Try.prog w = .ok z w) ∧
    ∀ d, g kl = some d → ∃ v ps, R v = some (d, ps) ∧ (Instr.lookup t (.map (some b)) key false).run Try.prog w = .ok v w := by
  obtain ⟨D, ⟨es, clock, hb, F, _, rfl⟩, _, hf⟩ := h
  rcases Maps.fit_look false K ht hz hb F hkey with ⟨hrun, _, hat⟩ | ⟨e0, y, _, _, hrun, hRv, hat, _⟩
  · refine ⟨fun _ => hrun, fun d hd => ?_⟩
    have h1 := (hat (.lit (.bool true))).symm.trans (hf kl (.lit (.bool true)))
    have h2 := (hat (.lit (.bool false))).symm.trans (hf kl (.lit (.bool false)))
    rw [hd] at h1 h2
    have : (DataW.lit (Lit.bool true) : DataW Unit) = .lit (.bool false) := h1.trans h2.symm
    exact Bool.noConfusion (Lit.bool.inj (DataW.lit.inj this))
  · refine ⟨fun hn => ?_, fun d hd => ?_⟩
    · have h1 := (hat (.lit (.bool true))).symm.trans (hf kl (.lit (.bool true)))
      have h2 := (hat (.lit (.bool false))).symm.trans (hf kl (.lit (.bool false)))
      rw [hn] at h1 h2
      have : (DataW.lit (Lit.bool true) : DataW Unit) = .lit (.bool false) := h1.symm.trans h2
      exact Bool.noConfusion (Lit.bool.inj (DataW.lit.inj this))
    · have h1 := (hat (.lit (.bool true))).symm.trans (hf kl (.lit (.bool true)))
      rw [hd] at h1
      exact ⟨e0.val, y.2, by rw [hRv]; exact congrArg some (Prod.ext h1 rfl), hrun⟩
theorem WK5 : Keyed Try.prog 5 := int_keyed Try.underlying5
theorem wkey5 (n : Nat) (hn : n < 256) : keyOf Try.prog 5 (.int .u8 (n : Int)) = some (.int .u8 (n : Int)) := by
  refine keyOf_int_mk Try.underlying5 ?_
  simp [Lit.wf, IntKind.min, IntKind.max, IntKind.bits, IntKind.signed]; omega
def hasD (n : Nat) : DataW Unit := hD (hasV n) (hasI n) (hasR n) (hasE n) (hasF n)
def hasC (n : Nat) : Value := hC (hasV n) (hasI n) (hasR n) (hasE n) (hasF n)
def WMap (w : World) (g : Nat) : Prop := ∃ G, MapO w 5 R5 g 6 G ∧ ∀ n : Nat, n < 256 → (kindW n = true → G (.int .u8 (n : Int)) = some (hasD n)) ∧ (kindW n = false → G (.int .u8 (n : Int)) = none)
theorem WMap.below {w w' : World} {g : Nat} (h : WMap w g) (hg : Gr w w') : WMap w' g := by
  obtain ⟨G, h1, h2⟩ := h
  exact ⟨G, h1.below hg, h2⟩
theorem has_none {n : Nat} (h : kindW n = false) : hasC n = hC false false false false false := by
  have : ¬ (1 ≤ n ∧ n ≤ 6) := fun hc => by rw [(kindW_iff n).2 hc] at h; cases h
  have e : ∀ k, 1 ≤ k → k ≤ 6 → (n == k) = false := fun k h1 h2 => by simp; omega
  unfold hasC hasV hasI hasR hasE hasF
  simp only [e 1 (by decide) (by decide), e 2 (by decide) (by decide), e 3 (by decide) (by decide), e 4 (by decide) (by decide), e 5 (by decide) (by decide), e 6 (by decide) (by decide), Bool.or_false]
theorem WMap.look2 {w : World} {g : Nat} (h : WMap w g) (n : Nat) (hn : n < 256) : (Instr.lookup 55 (.map (some g)) (.int .u8 (n : Int)) true).run Try.prog w = .ok (.tuple #[hasC n, .bool (kindW n)]) w := by
  obtain ⟨G, h1, h2⟩ := h
  obtain ⟨e1, e2⟩ := MapO.look w WK5 Try.underlying55 (z := hC false false false false false) (by rfl) h1 (wkey5 n hn)
  cases hk : kindW n with
  | true =>
    obtain ⟨v, ps, hr, hrun⟩ := e2 _ ((h2 n hn).1 hk)
    rw [R5_inv hr] at hrun
    exact hrun
  | false => rw [has_none hk]; exact e1 ((h2 n hn).2 hk)
theorem WMap.look1 {w : World} {g : Nat} (h : WMap w g) (n : Nat) (hn : n < 256) : (Instr.lookup 55 (.map (some g)) (.int .u8 (n : Int)) false).run Try.prog w = .ok (hasC n) w := by
  obtain ⟨G, h1, h2⟩ := h
  obtain ⟨e1, e2⟩ := MapO.look1 w WK5 Try.underlying55 (z := hC false false false false false) (by rfl) h1 (wkey5 n hn)
  cases hk : kindW n with
  | true =>
    obtain ⟨v, ps, hr, hrun⟩ := e2 _ ((h2 n hn).1 hk)
    rw [R5_inv hr] at hrun
    exact hrun
  | false => rw [has_none hk]; exact e1 ((h2 n hn).2 hk)
set_option maxHeartbeats 4000000 in
theorem wkinds_any (w : World) : Calls Try.prog 19 #[] w fun e w' => ∃ g, e = .returned (.map (some g)) ∧ WMap w' g ∧ Gr w w' := by
  have m0 : (Instr.makeMap 55 none).run Try.prog w = .ok (.map (some w.heap.size)) (w.alloc (.map #[] 0)) := rfl
  have o0 := MapO.made w 5 R5
  have g0 : Gr w (w.alloc (.map #[] 0)) := (Gr.refl _).alloc _
  have hm0 : w.heap.size < (w.alloc (.map #[] 0)).heap.size := by simp
  generalize w.alloc (.map #[] 0) = w0 at *
  obtain ⟨mb, hmb⟩ : ∃ mb, mb = w.heap.size := ⟨_, rfl⟩
  rw [← hmb] at m0 o0 hm0
  obtain ⟨w1, f1, r1, o1, x1, y1, q1⟩ := MapO.update w0 (d := hasD 1) (ps := []) WK5 Try.underlying55 o0 (by decide) (show keyOf Try.prog 5 (.int .u8 1) = some (.int .u8 1) from wkey5 1 (by decide)) (R5_mk (hasV 1) (hasI 1) (hasR 1) (hasE 1) (hasF 1))
  obtain ⟨w2, f2, r2, o2, x2, y2, q2⟩ := MapO.update w1 (d := hasD 2) (ps := []) WK5 Try.underlying55 o1 (by decide) (show keyOf Try.prog 5 (.int .u8 2) = some (.int .u8 2) from wkey5 2 (by decide)) (R5_mk (hasV 2) (hasI 2) (hasR 2) (hasE 2) (hasF 2))
  obtain ⟨w3, f3, r3, o3, x3, y3, q3⟩ := MapO.update w2 (d := hasD 3) (ps := []) WK5 Try.underlying55 o2 (by decide) (show keyOf Try.prog 5 (.int .u8 3) = some (.int .u8 3) from wkey5 3 (by decide)) (R5_mk (hasV 3) (hasI 3) (hasR 3) (hasE 3) (hasF 3))
  obtain ⟨w4, f4, r4, o4, x4, y4, q4⟩ := MapO.update w3 (d := hasD 4) (ps := []) WK5 Try.underlying55 o3 (by decide) (show keyOf Try.prog 5 (.int .u8 4) = some (.int .u8 4) from wkey5 4 (by decide)) (R5_mk (hasV 4) (hasI 4) (hasR 4) (hasE 4) (hasF 4))
  obtain ⟨w5, f5, r5, o5, x5, y5, q5⟩ := MapO.update w4 (d := hasD 5) (ps := []) WK5 Try.underlying55 o4 (by decide) (show keyOf Try.prog 5 (.int .u8 5) = some (.int .u8 5) from wkey5 5 (by decide)) (R5_mk (hasV 5) (hasI 5) (hasR 5) (hasE 5) (hasF 5))
  obtain ⟨w6, f6, r6, o6, x6, y6, q6⟩ := MapO.update w5 (d := hasD 6) (ps := []) WK5 Try.underlying55 o5 (by decide) (show keyOf Try.prog 5 (.int .u8 6) = some (.int .u8 6) from wkey5 6 (by decide)) (R5_mk (hasV 6) (hasI 6) (hasR 6) (hasE 6) (hasF 6))
  have G6 : Gr w w6 := Below.trans (show Below w.heap.size w w0 from g0) (show Below w.heap.size w0 w6 from grownBy_below (grownBy_trans (grownBy_trans (grownBy_trans (grownBy_trans (grownBy_trans q1 q2) q3) q4) q5) q6) (Nat.le_of_lt (by omega)) (fun j hj => by injection hj with hj; omega))
  have hkm : WMap w6 mb := by
    refine ⟨f6, o6, fun n hn => ?_⟩
    have ne : ∀ k : Nat, n ≠ k → Lit.int .u8 (n : Int) ≠ .int .u8 (k : Int) := fun k hk e => hk (by injection e with _ e; exact_mod_cast e)
    by_cases h9 : 1 ≤ n ∧ n ≤ 6
    · have hk : kindW n = true := (kindW_iff n).2 h9
      refine ⟨fun _ => ?_, fun h => by rw [hk] at h; cases h⟩
      rcases (by omega : n = 1 ∨ n = 2 ∨ n = 3 ∨ n = 4 ∨ n = 5 ∨ n = 6) with rfl | rfl | rfl | rfl | rfl | rfl
      · rw [y6 _ (ne 6 (by omega)), y5 _ (ne 5 (by omega)), y4 _ (ne 4 (by omega)), y3 _ (ne 3 (by omega)), y2 _ (ne 2 (by omega))]; exact x1
      · rw [y6 _ (ne 6 (by omega)), y5 _ (ne 5 (by omega)), y4 _ (ne 4 (by omega)), y3 _ (ne 3 (by omega))]; exact x2
      · rw [y6 _ (ne 6 (by omega)), y5 _ (ne 5 (by omega)), y4 _ (ne 4 (by omega))]; exact x3
      · rw [y6 _ (ne 6 (by omega)), y5 _ (ne 5 (by omega))]; exact x4
      · rw [y6 _ (ne 6 (by omega))]; exact x5
      · exact x6
    · have hk : kindW n = false := by
        rw [Bool.eq_false_iff]; intro h; exact h9 ((kindW_iff n).1 h)
      exact ⟨fun h => by (rw [hk] at h; cases h), fun _ => by rw [y6 _ (ne 6 (by omega)), y5 _ (ne 5 (by omega)), y4 _ (ne 4 (by omega)), y3 _ (ne 3 (by omega)), y2 _ (ne 2 (by omega)), y1 _ (ne 1 (by omega))]⟩
  have HK := Lib.hid hkm
  have GE := Lib.hid G6
  have R1 : Hid ((Instr.mapUpdate 55 (.map (some mb)) (.int .u8 1) (.agg #[.bool true, .bool false, .bool false, .bool false, .bool false])).run Try.prog w0 = .ok () w1) := Lib.hid r1
  have R2 : Hid ((Instr.mapUpdate 55 (.map (some mb)) (.int .u8 2) (.agg #[.bool false, .bool true, .bool false, .bool false, .bool false])).run Try.prog w1 = .ok () w2) := Lib.hid r2
  have R3 : Hid ((Instr.mapUpdate 55 (.map (some mb)) (.int .u8 3) (.agg #[.bool false, .bool false, .bool true, .bool true, .bool true])).run Try.prog w2 = .ok () w3) := Lib.hid r3
  have R4 : Hid ((Instr.mapUpdate 55 (.map (some mb)) (.int .u8 4) (.agg #[.bool false, .bool false, .bool true, .bool true, .bool false])).run Try.prog w3 = .ok () w4) := Lib.hid r4
  have R5 : Hid ((Instr.mapUpdate 55 (.map (some mb)) (.int .u8 5) (.agg #[.bool false, .bool false, .bool true, .bool false, .bool false])).run Try.prog w4 = .ok () w5) := Lib.hid r5
  have R6 : Hid ((Instr.mapUpdate 55 (.map (some mb)) (.int .u8 6) (.agg #[.bool false, .bool false, .bool true, .bool true, .bool true])).run Try.prog w5 = .ok () w6) := Lib.hid r6
  have M0 := Lib.hid m0
  clear hkm G6 g0 hm0 hmb m0 o0 o1 o2 o3 o4 o5 o6 r1 x1 y1 q1 r2 x2 y2 q2 r3 x3 y3 q3 r4 x4 y4 q4 r5 x5 y5 q5 r6 x6 y6 q6
  have m0 := M0.out
  have r1 := R1.out
  have r2 := R2.out
  have r3 := R3.out
  have r4 := R4.out
  have r5 := R5.out
  have r6 := R6.out
  go_enter Try.func19, Try.ntmps19
  go_wp2
  go_ret
  exact ⟨_, rfl, HK.out, GE.out⟩
end Go.Proofs.Ytgilijkmmcpfjaa
