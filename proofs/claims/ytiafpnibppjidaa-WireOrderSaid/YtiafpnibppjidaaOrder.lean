/-
  WireOrder: of two numbers the greater one has the later bytes; unlike texts have unlike bytes, neither the beginning of the other. Every input; no conditions.
-/
import Derived.Test.YtiafpnibppjidaaPuts
import Derived.Test.YtiafpnibppjidaaGrow
import Derived.Test.YtiafpnibppjidaaBeLaw
import Derived.Lib.Strings
set_option linter.unusedVariables false
namespace Go.Proofs.Ytiafpnibppjidaa
open Go.RowKit

theorem mono_sl (xs : List Value) : MonoSp (fun v W => Sl W v xs) := fun v w w' hg h => h.below hg

theorem ba_toList (s : ByteArray) : s.toList = s.data.toList := by
  obtain ⟨⟨l⟩⟩ := s
  simp [go_sem]

set_option maxHeartbeats 1000000 in
theorem order_walk (w : World) (a b : Nat) (ha : a < 2 ^ 64) (hb : b < 2 ^ 64) (vs vt : Value) (s t : List UInt8) (hs : Sl w vs (bytes s)) (ht : Sl w vt (bytes t)) :
    Calls Try.prog 3 #[.int .u64 (a : Int), .int .u64 (b : Int), vs, vt] w fun e w' => e = .returned (.bool true) ∧ Below w.heap.size w w' := by
  obtain ⟨as1, cs, rfl, _, _⟩ := hs.bytes
  obtain ⟨at1, ct, rfl, _, _⟩ := ht.bytes
  have hs0 := hs
  have ht0 := ht
  by_cases h5 : 500 < s.length
  · go_enter Try.func3, Try.ntmps3
    go_wp2
    all_goals (go_ret; exact ⟨rfl, Below.refl _ _⟩)
  by_cases h6 : 500 < t.length
  · go_enter Try.func3, Try.ntmps3
    go_wp2
    all_goals (go_ret; exact ⟨rfl, Below.refl _ _⟩)
  obtain ⟨x, hx⟩ : ∃ x, x = be 8 a := ⟨_, rfl⟩
  obtain ⟨y, hy⟩ : ∃ y, y = be 8 b := ⟨_, rfl⟩
  obtain ⟨p, hp⟩ : ∃ p, p = be 4 s.length ++ s := ⟨_, rfl⟩
  obtain ⟨q, hq⟩ : ∃ q, q = be 4 t.length ++ t := ⟨_, rfl⟩
  have f1 : Op.bytesLess x y = decide (a < b) := by rw [hx, hy]; exact be8_less ha hb
  have f2 : (x == y) = ((a : Int) == (b : Int)) := by
    rw [Bool.eq_iff_iff, beq_iff_eq, beq_iff_eq, hx, hy]
    exact ⟨fun h => by rw [be8_inj ha hb h], fun h => by rw [show a = b by omega]⟩
  have f3 : (p == q) = (s == t) := by
    rw [Bool.eq_iff_iff, beq_iff_eq, beq_iff_eq, hp, hq]
    exact ⟨fun h => (text_prefix (r := []) (by omega) (by omega) (by simpa using h)).1, fun h => by rw [h]⟩
  have f4 : p.length < q.length → ¬ (({ data := q.toArray } : ByteArray).extract 0 p.length).toList = p := by
    intro hlt h
    have h' : (({ data := q.toArray } : ByteArray).extract 0 p.length).data.toList = p := by rw [← ba_toList]; exact h
    rw [Lib.extract_data] at h'
    have h2 : q = p ++ q.drop p.length := by
      conv => lhs; rw [← List.take_append_drop p.length q]
      congr 1
    have h3 := text_prefix (s := s) (t := t) (r := q.drop p.length) (by omega) (by omega) (by rw [← hp, ← hq]; exact h2.symm)
    have h4 := congrArg List.length h3.2
    simp at h4
    omega
  have f5 : q.length < p.length → ¬ (({ data := p.toArray } : ByteArray).extract 0 q.length).toList = q := by
    intro hlt h
    have h' : (({ data := p.toArray } : ByteArray).extract 0 q.length).data.toList = q := by rw [← ba_toList]; exact h
    rw [Lib.extract_data] at h'
    have h2 : p = q ++ p.drop q.length := by
      conv => lhs; rw [← List.take_append_drop q.length p]
      congr 1
    have h3 := text_prefix (s := t) (t := s) (r := p.drop q.length) (by omega) (by omega) (by rw [← hp, ← hq]; exact h2.symm)
    have h4 := congrArg List.length h3.2
    simp at h4
    omega
  have hpl : p.length ≤ 600 := by rw [hp]; simp [be_length]; omega
  have hql : q.length ≤ 600 := by rw [hq]; simp [be_length]; omega
  have HX := Lib.hid hx
  have HY := Lib.hid hy
  have HP := Lib.hid hp
  have HQ := Lib.hid hq
  have HF := Lib.hid (And.intro f1 (And.intro f2 (And.intro f3 (And.intro f4 f5))))
  clear hx hy hp hq f1 f2 f3 f4 f5
  go_enter Try.func3, Try.ntmps3
  go_wp2
  apply wp_region_draw_grow [.eq _, .ok (fun v W => Sl W v (bytes x)), .eq _, .eq _, .ok (fun v W => Sl W v (bytes y)), .eq _, .eq _, .eq _] (by kernel_rfl) (by kernel_rfl) ⟨mono_sl _, mono_sl _, trivial⟩
  · apply wpG_eq
    · intro W hW _
      unfold opG
      go_simp
      exact resG_eq_mk _ _ _
    simp only [Act.put, List.setIfInBounds_toArray, List.set_cons_zero, List.set_cons_succ]
    apply wpG_ok
    · intro W hW hs
      unfold opG
      go_simp
      refine resG_call ((uint_any _ [] a _ (Sl.nil _ _ _) (by decide) ha).mono ?_)
      rintro e W2 ⟨v, rfl, ho, hg⟩
      exact ⟨v, rfl, hg, by rw [HX.out]; exact ho.sl⟩
    intro v1
    simp only [Act.put, List.setIfInBounds_toArray, List.set_cons_zero, List.set_cons_succ]
    apply wpG_eq
    · intro W hW hs
      have h1 := run_string_sl (P := Try.prog) 23 5 9 Try.underlying23 Try.underlying5 Try.underlying9 (hs _ (List.mem_cons_self ..) rfl)
      unfold opG
      go_simp
      exact resG_eq_mk _ _ _
    simp only [Act.put, List.setIfInBounds_toArray, List.set_cons_zero, List.set_cons_succ]
    apply wpG_eq
    · intro W hW _
      unfold opG
      go_simp
      exact resG_eq_mk _ _ _
    simp only [Act.put, List.setIfInBounds_toArray, List.set_cons_zero, List.set_cons_succ]
    apply wpG_ok
    · intro W hW hs
      unfold opG
      go_simp
      refine resG_call ((uint_any _ [] b _ (Sl.nil _ _ _) (by decide) hb).mono ?_)
      rintro e W2 ⟨v, rfl, ho, hg⟩
      exact ⟨v, rfl, hg, by rw [HY.out]; exact ho.sl⟩
    intro v2
    simp only [Act.put, List.setIfInBounds_toArray, List.set_cons_zero, List.set_cons_succ]
    apply wpG_eq
    · intro W hW hs
      have h1 := run_string_sl (P := Try.prog) 23 5 9 Try.underlying23 Try.underlying5 Try.underlying9 (hs _ (List.mem_cons_self ..) rfl)
      unfold opG
      go_simp
      exact resG_eq_mk _ _ _
    simp only [Act.put, List.setIfInBounds_toArray, List.set_cons_zero, List.set_cons_succ]
    repeat
      apply wpG_eq
      · intro W hW _
        unfold opG
        go_simp
        exact resG_eq_mk _ _ _
      simp only [Act.put, List.setIfInBounds_toArray, List.set_cons_zero, List.set_cons_succ]
    apply wpG_nil
    intro W1 hW1 hsAll
    have hb1 : Below w.heap.size w W1 := (below_drewN (Below.refl _ w) 1).trans (hW1.mono (Nat.le_refl _))
    have hs1 : Sl W1.drew (.slice as1 s.length cs) (bytes s) := hs0.below (below_drewN hb1 1)
    have ht1 : Sl W1.drew (.slice at1 t.length ct) (bytes t) := ht0.below (below_drewN hb1 1)
    clear hW1 hsAll
    go_wp2
    apply wp_region_draw_grow [.eq _, .ok (fun v W => Sl W v (bytes p)), .eq _, .eq _, .ok (fun v W => Sl W v (bytes q)), .eq _, .eq _, .eq _] (by kernel_rfl) (by kernel_rfl) ⟨mono_sl _, mono_sl _, trivial⟩
    · apply wpG_eq
      · intro W hW _
        unfold opG
        go_simp
        exact resG_eq_mk _ _ _
      simp only [Act.put, List.setIfInBounds_toArray, List.set_cons_zero, List.set_cons_succ]
      apply wpG_ok
      · intro W hW hs
        unfold opG
        go_simp
        refine resG_call ((text_any _ _ [] s _ (Sl.nil _ _ _) (hs1.below hW) (by decide) (by omega)).mono ?_)
        rintro e W2 ⟨v, rfl, ho, hg⟩
        exact ⟨v, rfl, hg, by rw [HP.out]; exact ho.sl⟩
      intro v3
      simp only [Act.put, List.setIfInBounds_toArray, List.set_cons_zero, List.set_cons_succ]
      apply wpG_eq
      · intro W hW hs
        have h1 := run_string_sl (P := Try.prog) 23 5 9 Try.underlying23 Try.underlying5 Try.underlying9 (hs _ (List.mem_cons_self ..) rfl)
        unfold opG
        go_simp
        exact resG_eq_mk _ _ _
      simp only [Act.put, List.setIfInBounds_toArray, List.set_cons_zero, List.set_cons_succ]
      apply wpG_eq
      · intro W hW _
        unfold opG
        go_simp
        exact resG_eq_mk _ _ _
      simp only [Act.put, List.setIfInBounds_toArray, List.set_cons_zero, List.set_cons_succ]
      apply wpG_ok
      · intro W hW hs
        unfold opG
        go_simp
        refine resG_call ((text_any _ _ [] t _ (Sl.nil _ _ _) (ht1.below hW) (by decide) (by omega)).mono ?_)
        rintro e W2 ⟨v, rfl, ho, hg⟩
        exact ⟨v, rfl, hg, by rw [HQ.out]; exact ho.sl⟩
      intro v4
      simp only [Act.put, List.setIfInBounds_toArray, List.set_cons_zero, List.set_cons_succ]
      apply wpG_eq
      · intro W hW hs
        have h1 := run_string_sl (P := Try.prog) 23 5 9 Try.underlying23 Try.underlying5 Try.underlying9 (hs _ (List.mem_cons_self ..) rfl)
        unfold opG
        go_simp
        exact resG_eq_mk _ _ _
      simp only [Act.put, List.setIfInBounds_toArray, List.set_cons_zero, List.set_cons_succ]
      repeat
        apply wpG_eq
        · intro W hW _
          unfold opG
          go_simp
          exact resG_eq_mk _ _ _
        simp only [Act.put, List.setIfInBounds_toArray, List.set_cons_zero, List.set_cons_succ]
      apply wpG_nil
      intro W2 hW2 hsAll
      have hb2 : Below w.heap.size w W2 := hb1.trans ((below_drewN (Below.refl _ W1) 1).trans (hW2.mono (Nat.le_refl _)) |>.mono hb1.size)
      have hs2 := run_string_sl (P := Try.prog) 23 5 9 Try.underlying23 Try.underlying5 Try.underlying9 (hs0.below hb2)
      have ht2 := run_string_sl (P := Try.prog) 23 5 9 Try.underlying23 Try.underlying5 Try.underlying9 (ht0.below hb2)
      clear hW2 hsAll hs1 ht1
      obtain ⟨f1, f2, f3, f4, f5⟩ := HF.out
      by_cases hst : s = t
      · have e1 : (p == q) = true := by rw [f3]; simp [hst]
        have e2 : (s == t) = true := by simp [hst]
        have e3 : p = q := by simpa using e1
        have E1 := Lib.hid e3
        clear f3 f4 f5 e1 hst
        subst e3
        go_wp2_with (go_at_call 12; refine (puts_any _).mono ?_; rintro e w' ⟨rfl, hb'⟩)
        all_goals go_ret
        all_goals exact ⟨rfl, hb2.trans (hb'.mono hb2.size)⟩
      · have e1 : (p == q) = false := by rw [f3]; simp [hst]
        have e2 : (s == t) = false := by simp [hst]
        have e3 : ¬ p = q := by simpa using e1
        clear f3 hst
        rcases Nat.lt_trichotomy p.length q.length with hlt | hlt | hlt
        · have f4' := f4 hlt
          have f4'' : ((({ data := q.toArray } : ByteArray).extract 0 p.length).toList == p) = false := by simpa using f4'
          have n1 : ¬ q.length < p.length := by omega
          clear f4 f5
          go_wp2_with (go_at_call 12; refine (puts_any _).mono ?_; rintro e w' ⟨rfl, hb'⟩)
          all_goals go_ret
          all_goals exact ⟨rfl, hb2.trans (hb'.mono hb2.size)⟩
        · have n1 : ¬ q.length < p.length := by omega
          have n2 : ¬ p.length < q.length := by omega
          clear f4 f5 hlt
          go_wp2_with (go_at_call 12; refine (puts_any _).mono ?_; rintro e w' ⟨rfl, hb'⟩)
          all_goals go_ret
          all_goals exact ⟨rfl, hb2.trans (hb'.mono hb2.size)⟩
        · have f5' := f5 hlt
          have f5'' : ((({ data := p.toArray } : ByteArray).extract 0 q.length).toList == q) = false := by simpa using f5'
          have n1 : ¬ p.length < q.length := by omega
          clear f4 f5
          go_wp2_with (go_at_call 12; refine (puts_any _).mono ?_; rintro e w' ⟨rfl, hb'⟩)
          all_goals go_ret
          all_goals exact ⟨rfl, hb2.trans (hb'.mono hb2.size)⟩

open Go.ChangeShapes Go.WideShapes Go.ChangeAt Go.RowKit
open Go.ChangeMaps (open_string shut_string)
theorem own_wireOrder : ownKnob Try.prog.godebug = none := by kernel_rfl
theorem laidOut_wireOrder : laidOutB Try.prog = true := by kernel_rfl
set_option maxRecDepth 100000 in
theorem lifted_wireOrder (os : Os) (started : os.Started) (H : Type) (enc : TypeId × Value → H) :
    ReturnsInHanded {} Try.checked os 3 .any (Rows.wireOrderSpec.pre6 enc Try.prog Try.f3 Rows.wireOrderRow.domain false) (Rows.wireOrderSpec.post enc Try.prog Try.f3 false true false false) := by
  refine returnsInHanded_of_change (C := Try.checked) own_wireOrder started (by kernel_rfl) Try.func3
    (ChangeSpec.witness6 (enc := enc) (C := Try.checked) false ⟨#[], #[.int .u64 0, .int .u64 0, .slice none 0 0, .slice none 0 0], []⟩ 8 (by kernel_rfl) (by kernel_rfl) (by kernel_rfl) (by kernel_rfl)) ?_
  intro W base args ds gs before hval0 hW hcnd _
  have hval : ∀ (j : Nat) t v, Try.f3.params[j]? = some t → args[j]? = some v → Value.okWide Try.prog W .any base t v := hval0
  have hW' := hW
  obtain ⟨p, q, hA0, hV, rfl, hfz, hnd⟩ := hW
  have hA : DataW.TrodAll enc Try.prog W 0 (fun _ => true) true Try.f3.params.toList args.toList ds p := hA0
  rw [Try.params3] at hA hval
  obtain ⟨v0, vs0, d0, ds0, p0, q0, hargs, rfl, rfl, k0, r0⟩ := trodAll_cons hA
  obtain ⟨v1, vs1, d1, ds1, p1, q1, rfl, rfl, rfl, k1, r1⟩ := trodAll_cons r0
  obtain ⟨v2, vs2, d2, ds2, p2, q2, rfl, rfl, rfl, k2, r2⟩ := trodAll_cons r1
  obtain ⟨v3, vs3, d3, ds3, p3, q3, rfl, rfl, rfl, k3, r3⟩ := trodAll_cons r2
  obtain ⟨rfl, rfl, rfl⟩ := trodAll_nil r3
  obtain rfl : args = #[v0, v1, v2, v3] := by cases args; simp_all
  obtain ⟨rfl, rfl⟩ := trodVars_none hV
  have lt0 : ∀ x ∈ p0, x.block < W.heap.size := by obtain ⟨m, hm⟩ := k0; exact DataW.trod_lt m _ _ _ hm
  have lt1 : ∀ x ∈ p1, x.block < W.heap.size := by obtain ⟨m, hm⟩ := k1; exact DataW.trod_lt m _ _ _ hm
  have lt2 : ∀ x ∈ p2, x.block < W.heap.size := by obtain ⟨m, hm⟩ := k2; exact DataW.trod_lt m _ _ _ hm
  have lt3 : ∀ x ∈ p3, x.block < W.heap.size := by obtain ⟨m, hm⟩ := k3; exact DataW.trod_lt m _ _ _ hm
  obtain ⟨a0, rfl, w0⟩ := open_nat rfl Try.underlying22 (hval 0 22 v0 rfl rfl) k0
  obtain ⟨a1, rfl, w1⟩ := open_nat rfl Try.underlying22 (hval 1 22 v1 rfl rfl) k1
  obtain ⟨l2, s2, w2⟩ := open_bytes Try.underlying23 Try.underlying5 (by kernel_rfl) (hval 2 23 v2 rfl rfl) k2
  obtain ⟨l3, s3, w3⟩ := open_bytes Try.underlying23 Try.underlying5 (by kernel_rfl) (hval 3 23 v3 rfl rfl) k3
  clear hA0 hval0
  refine (order_walk W a0 a1 w0 w1 v2 v3 l2 l3 s2 s3   ).mono fun e W' ⟨he, bel⟩ => ?_
  subst he
  exact ⟨_, rfl, _, _, _, [], _, [], hW', trodAll_mk1 (shut_bool Try.underlying4 _), (trodAll_cons_mk (Below.trod laidOut_wireOrder (by kernel_rfl) (of_decide_eq_true (by kernel_rfl)) k0 bel lt0) (trodAll_cons_mk (Below.trod laidOut_wireOrder (by kernel_rfl) (of_decide_eq_true (by kernel_rfl)) k1 bel lt1) (trodAll_cons_mk (Below.trod laidOut_wireOrder (by kernel_rfl) (of_decide_eq_true (by kernel_rfl)) k2 bel lt2) (trodAll_cons_mk (Below.trod laidOut_wireOrder (by kernel_rfl) (of_decide_eq_true (by kernel_rfl)) k3 bel lt3) trodAll_mk0)))), rfl, bel.frame _, fun h => by cases h⟩

theorem over_wireOrder : Rows.wireOrderRow.holds Try.pinned (OpenSpec.ofChange Rows.wireOrderSpec) :=
  OpenClaim.holds_of_wide 3 Try.f3 rfl rfl rfl rfl rfl rfl rfl ⟨rfl, rfl, rfl, rfl, rfl⟩ rfl rfl rfl rfl rfl (by kernel_rfl) Try.func3 (by kernel_rfl)
    (of_decide_eq_true (by kernel_rfl)) (by unfold Func.isWrapper; first | (rw [if_pos (by decide +kernel)]; kernel_rfl) | (rw [if_neg (by decide +kernel)]; exact ⟨rfl, rfl⟩))
    (fun os started H enc _ => lifted_wireOrder os started H enc)

theorem wireOrder_proved : Rows.WireOrderSaid := over_wireOrder
#print axioms wireOrder_proved
end Go.Proofs.Ytiafpnibppjidaa
