/-
  WireLength: a byte has one byte, a number eight, a text four and its own; what stands ahead stays ahead. Every input; no conditions.
-/
import Derived.Test.YtiafpnibppjidaaPuts
import Derived.Test.YtiafpnibppjidaaGrow
import Derived.Test.YtiafpnibppjidaaBeLaw
import Derived.OneCell
set_option linter.unusedVariables false
namespace Go.Proofs.Ytiafpnibppjidaa
open Go.RowKit

theorem cell_at_new {w w' : World} (B : Nat) (xs : List Value) (t : TypeId) (fr : Nat × Nat) (hB : B = w.heap.size) (hb : Below (w.alloc (.cells xs.toArray t fr)).heap.size (w.alloc (.cells xs.toArray t fr)) w') (k : Nat) (u : Value) (hk : xs[k]? = some u) :
    w'.cell? ⟨B, k, none⟩ = some u := by
  subst hB
  obtain ⟨h1, h2⟩ := List.getElem?_eq_some_iff.1 hk
  have := cells_at xs t fr hb k h1
  rw [Nat.zero_add] at this
  rw [this, h2]

/-- What the two rows hold at place k. -/
def At (W : World) (B1 B2 : Nat) (l : List UInt8) (k : Nat) : Prop :=
  ∃ v e, W.cell? ⟨B1, k, none⟩ = some v ∧ Sl W v (bytes (l ++ e)) ∧ W.cell? ⟨B2, k, none⟩ = some (.int .i64 (e.length : Int)) ∧ e.length ≤ 1000

set_option maxHeartbeats 2000000 in
theorem length_walk (w : World) (vb vs : Value) (l s : List UInt8) (a : Nat) (ha : a < 2 ^ 64) (hl : Sl w vb (bytes l)) (hs0 : Sl w vs (bytes s)) :
    Calls Try.prog 5 #[vb, vs, .int .u64 (a : Int)] w fun e w' => e = .returned (.bool true) ∧ Below w.heap.size w w' := by
  obtain ⟨ab, cb, rfl, _, _⟩ := hl.bytes
  obtain ⟨as1, cs, rfl, _, _⟩ := hs0.bytes
  by_cases h5 : 500 < l.length
  · go_enter Try.func5, Try.ntmps5
    go_wp2
    all_goals (go_ret; exact ⟨rfl, Below.refl _ _⟩)
  by_cases h6 : 500 < s.length
  · go_enter Try.func5, Try.ntmps5
    go_wp2
    all_goals (go_ret; exact ⟨rfl, Below.refl _ _⟩)
  obtain ⟨a8, ha8, ha8'⟩ : ∃ a8 : Nat, a8 < 256 ∧ (a : Int) % 256 = (a8 : Int) := ⟨a % 256, by omega, by omega⟩
  go_enter Try.func5, Try.ntmps5
  go_wp2_with fail
  refine (byte_any _ l a8 _ hl (by omega) ha8).mono ?_
  rintro e w3 ⟨vx, rfl, hox, hbx⟩
  clear ha8'
  go_wp2_with fail
  refine (uint_any _ l a _ (hl.below hbx) (by omega) ha).mono ?_
  rintro e w4 ⟨vy, rfl, hoy, hby⟩
  have b4 := hbx.trans (hby.mono hbx.size)
  go_wp2_with fail
  refine (int_any _ l _ _ (hl.below b4) (by omega)).mono ?_
  rintro e w5 ⟨vz, rfl, hoz, hbz⟩
  have b5 := b4.trans (hbz.mono b4.size)
  go_wp2_with fail
  refine (text_any _ _ l s _ (hl.below b5) (hs0.below b5) (by omega) (by omega)).mono ?_
  rintro e w6 ⟨vw, rfl, how, hbw⟩
  have b6 := b5.trans (hbw.mono b5.size)
  obtain ⟨ax, cx, rfl⟩ := hox.shape
  obtain ⟨ay, cy, rfl⟩ := hoy.shape
  obtain ⟨az, cz, rfl⟩ := hoz.shape
  obtain ⟨aw, cw, rfl⟩ := how.shape
  have sx := ((hox.sl.below hby).below hbz).below hbw
  have sy := (hoy.sl.below hbz).below hbw
  have sz := hoz.sl.below hbw
  have sw := how.sl
  rw [List.append_assoc] at sw
  clear hox hoy hoz how hbx hby hbz hbw b4 b5
  go_wp2
  generalize hW0 : (w6.alloc _).alloc _ = W0
  have hB : Below w6.heap.size w6 W0 := by rw [← hW0]; exact ((Below.refl _ _).alloc (Nat.le_refl _) _).alloc (by simp) _
  have b0 : Below w.heap.size w W0 := b6.trans (hB.mono b6.size)
  have hat : ∀ k, k < 4 → At W0 w6.heap.size (w6.heap.size + 1) l k := by
    have c1 := fun k u hk => cell_at_new (w := w6) (w' := W0) w6.heap.size [.slice ax (bytes (l ++ be 1 a8)).length cx, .slice ay (bytes (l ++ be 8 a)).length cy, .slice az (bytes (l ++ be 8 (u64 (wrap64 (a : Int))))).length cz, .slice aw (bytes (l ++ (be 4 s.length ++ s))).length cw] 23 (0, 0) rfl (by rw [← hW0]; exact (Below.refl _ _).alloc (Nat.le_refl _) _) k u hk
    have c2 := fun k u hk => cell_at_new (w := w6.alloc (.cells [.slice ax (bytes (l ++ be 1 a8)).length cx, .slice ay (bytes (l ++ be 8 a)).length cy, .slice az (bytes (l ++ be 8 (u64 (wrap64 (a : Int))))).length cz, .slice aw (bytes (l ++ (be 4 s.length ++ s))).length cw].toArray 23)) (w' := W0) (w6.heap.size + 1) [.int .i64 1, .int .i64 8, .int .i64 8, .int .i64 (4 + (s.length : Int))] 3 (0, 0) (by simp) (by rw [← hW0]; exact Below.refl _ _) k u hk
    intro k hk
    have hk4 : k = 0 ∨ k = 1 ∨ k = 2 ∨ k = 3 := by omega
    rcases hk4 with rfl | rfl | rfl | rfl
    · exact ⟨_, _, c1 0 _ rfl, sx.below hB, c2 0 _ rfl, by simp [be_length]⟩
    · exact ⟨_, _, c1 1 _ rfl, sy.below hB, c2 1 _ rfl, by simp [be_length]⟩
    · exact ⟨_, _, c1 2 _ rfl, sz.below hB, c2 2 _ rfl, by simp [be_length]⟩
    · refine ⟨_, be 4 s.length ++ s, c1 3 _ rfl, ?_, ?_, by simp [be_length]; omega⟩
      · exact sw.below hB
      · rw [c2 3 _ rfl]; simp [be_length]
  have HAT := Lib.hid hat
  have hl0 := hl.below b0
  have hsz : w6.heap.size + 1 < W0.heap.size := by rw [← hW0]; simp
  clear hat hB hW0 sx sy sz sw b6
  go_loopw [9] (fun i wr => ∃ k : Nat, k ≤ 4 ∧ i = .int .i64 k ∧ Gr W0 wr) (fun i _ => 4 - (intOf i).toNat)
  case atStart => exact ⟨0, by omega, rfl, Gr.refl _⟩
  case round =>
    obtain ⟨k, hk, rfl, hg⟩ := hrel
    by_cases hlt : k < 4
    · obtain ⟨v, e, cv, se, cn, hel⟩ := HAT.out k hlt
      obtain ⟨av, cav, rfl, hcv, _⟩ := se.bytes
      have hlen : (l ++ e).length = l.length + e.length := by simp
      have cv1 : wr.drew.cell? ⟨w6.heap.size, k, none⟩ = _ := (hg.cell (p := ⟨w6.heap.size, k, none⟩) (show w6.heap.size < W0.heap.size by omega)).trans cv
      have cn1 : wr.drew.cell? ⟨w6.heap.size + 1, k, none⟩ = _ := (hg.cell (p := ⟨w6.heap.size + 1, k, none⟩) hsz).trans cn
      have hsz1 : w6.heap.size + 1 < wr.drew.heap.size := Nat.lt_of_lt_of_le hsz hg.size
      have hsz0 : w6.heap.size < wr.drew.heap.size := Nat.lt_of_lt_of_le (by omega) hg.size
      have se1 : Sl wr.drew (.slice av (l ++ e).length cav) (bytes (l ++ e)) := se.below (below_drewN hg 1)
      have hl1 : Sl wr.drew (.slice ab l.length cb) (bytes l) := hl0.below (below_drewN hg 1)
      rw [hlen] at se1 hcv cv1
      have hcl : l.length ≤ cav := by omega
      have sp : Sl wr.drew (Go.sliced av 0 l.length cav 1) (bytes l) := by
        have h0 : Sl wr.drew (.slice av (bytes (l ++ e)).length cav) (bytes (l ++ e)) := by rw [bytes_length, hlen]; exact se1
        have := h0.sliced 0 l.length cav (Nat.zero_le _) hcl (Nat.le_refl _) (by rw [bytes_length, hlen]; omega)
        rw [List.drop_zero, bytes_take] at this
        simpa using this
      have ep : Go.sliced av 0 l.length cav 1 = .slice av l.length cav := by
        unfold Go.sliced; split
        · simp
        · cases av <;> simp [Addr.add]
      rw [ep] at sp
      have h64 : ((l.length + e.length : Nat) : Int) = (l.length : Int) + (e.length : Int) := by omega
      clear cv se cn hcv hlen ep se1
      go_wp2
      apply wp_region_draw_grow (.eq _ :: .eq _ :: .eq _ :: .eq _ :: .eq _ :: .eq _ :: .eq _ :: .eq _ :: .eq _ :: .eq _ :: .eq _ :: .eq _ :: .eq _ :: .eq _ :: .eq _ :: .eq _ :: .eq _ :: .eq _ :: .eq _ :: .eq _ :: .eq _ :: .eq _ :: .eq _ :: .eq _ :: .eq _ :: .eq _ :: []) (by kernel_rfl) (by kernel_rfl) trivial
      apply wpG_eq
      · intro W hW _
        unfold opG
        go_simp
        exact resG_eq_mk _ _ _
      simp only [Act.put, List.setIfInBounds_toArray, List.set_cons_zero, List.set_cons_succ]
      apply wpG_eq
      · intro W hW _
        unfold opG
        go_simp
        exact resG_eq_mk _ _ _
      simp only [Act.put, List.setIfInBounds_toArray, List.set_cons_zero, List.set_cons_succ]
      apply wpG_eq
      · intro W hW hs
        have h1 : (0 : Int) ≤ (k : Int) := by omega
        have h2 : (k : Int) < 4 := by omega
        unfold opG
        go_simp
        exact resG_eq_mk _ _ _
      simp only [Act.put, List.setIfInBounds_toArray, List.set_cons_zero, List.set_cons_succ]
      apply wpG_eq
      · intro W hW hs
        have h1 := (hW.cell (p := ⟨w6.heap.size, k, none⟩) hsz0).trans cv1
        unfold opG
        go_simp
        exact resG_eq_mk _ _ _
      simp only [Act.put, List.setIfInBounds_toArray, List.set_cons_zero, List.set_cons_succ]
      apply wpG_eq
      · intro W hW _
        unfold opG
        go_simp
        exact resG_eq_mk _ _ _
      simp only [Act.put, List.setIfInBounds_toArray, List.set_cons_zero, List.set_cons_succ]
      apply wpG_eq
      · intro W hW _
        unfold opG
        go_simp
        exact resG_eq_mk _ _ _
      simp only [Act.put, List.setIfInBounds_toArray, List.set_cons_zero, List.set_cons_succ]
      apply wpG_eq
      · intro W hW _
        unfold opG
        go_simp
        exact resG_eq_mk _ _ _
      simp only [Act.put, List.setIfInBounds_toArray, List.set_cons_zero, List.set_cons_succ]
      apply wpG_eq
      · intro W hW _
        unfold opG
        go_simp
        exact resG_eq_mk _ _ _
      simp only [Act.put, List.setIfInBounds_toArray, List.set_cons_zero, List.set_cons_succ]
      apply wpG_eq
      · intro W hW _
        unfold opG
        go_simp
        exact resG_eq_mk _ _ _
      simp only [Act.put, List.setIfInBounds_toArray, List.set_cons_zero, List.set_cons_succ]
      apply wpG_eq
      · intro W hW hs
        have h1 : (0 : Int) ≤ (k : Int) := by omega
        have h2 : (k : Int) < 4 := by omega
        unfold opG
        go_simp
        exact resG_eq_mk _ _ _
      simp only [Act.put, List.setIfInBounds_toArray, List.set_cons_zero, List.set_cons_succ]
      apply wpG_eq
      · intro W hW hs
        have h1 := (hW.cell (p := ⟨w6.heap.size + 1, k, none⟩) hsz1).trans cn1
        unfold opG
        go_simp
        exact resG_eq_mk _ _ _
      simp only [Act.put, List.setIfInBounds_toArray, List.set_cons_zero, List.set_cons_succ]
      apply wpG_eq
      · intro W hW hs
        have h1 : IntKind.i64.wrap ((l.length : Int) + (e.length : Int)) = (l.length : Int) + (e.length : Int) := by rw [IntKind.wrap_i64]; omega
        unfold opG
        go_simp
        exact resG_eq_mk _ _ _
      simp only [Act.put, List.setIfInBounds_toArray, List.set_cons_zero, List.set_cons_succ]
      apply wpG_eq
      · intro W hW _
        unfold opG
        go_simp
        exact resG_eq_mk _ _ _
      simp only [Act.put, List.setIfInBounds_toArray, List.set_cons_zero, List.set_cons_succ]
      apply wpG_eq
      · intro W hW _
        unfold opG
        go_simp
        exact resG_eq_mk _ _ _
      simp only [Act.put, List.setIfInBounds_toArray, List.set_cons_zero, List.set_cons_succ]
      apply wpG_eq
      · intro W hW _
        unfold opG
        go_simp
        exact resG_eq_mk _ _ _
      simp only [Act.put, List.setIfInBounds_toArray, List.set_cons_zero, List.set_cons_succ]
      apply wpG_eq
      · intro W hW _
        unfold opG
        go_simp
        exact resG_eq_mk _ _ _
      simp only [Act.put, List.setIfInBounds_toArray, List.set_cons_zero, List.set_cons_succ]
      apply wpG_eq
      · intro W hW hs
        have h1 : (0 : Int) ≤ (k : Int) := by omega
        have h2 : (k : Int) < 4 := by omega
        unfold opG
        go_simp
        exact resG_eq_mk _ _ _
      simp only [Act.put, List.setIfInBounds_toArray, List.set_cons_zero, List.set_cons_succ]
      apply wpG_eq
      · intro W hW hs
        have h1 := (hW.cell (p := ⟨w6.heap.size, k, none⟩) hsz0).trans cv1
        unfold opG
        go_simp
        exact resG_eq_mk _ _ _
      simp only [Act.put, List.setIfInBounds_toArray, List.set_cons_zero, List.set_cons_succ]
      apply wpG_eq
      · intro W hW _
        unfold opG
        go_simp
        exact resG_eq_mk _ _ _
      simp only [Act.put, List.setIfInBounds_toArray, List.set_cons_zero, List.set_cons_succ]
      apply wpG_eq
      · intro W hW _
        unfold opG
        go_simp
        exact resG_eq_mk _ _ _
      simp only [Act.put, List.setIfInBounds_toArray, List.set_cons_zero, List.set_cons_succ]
      apply wpG_eq
      · intro W hW hs
        have h1 : (l.length : Int) ≤ (cav : Int) := by omega
        unfold opG
        go_simp
        exact resG_eq_mk _ _ _
      simp only [Act.put, List.setIfInBounds_toArray, List.set_cons_zero, List.set_cons_succ]
      apply wpG_eq
      · intro W hW hs
        have h1 := run_string_sl (P := Try.prog) 23 5 9 Try.underlying23 Try.underlying5 Try.underlying9 (sp.below hW)
        unfold opG
        go_simp
        exact resG_eq_mk _ _ _
      simp only [Act.put, List.setIfInBounds_toArray, List.set_cons_zero, List.set_cons_succ]
      apply wpG_eq
      · intro W hW _
        unfold opG
        go_simp
        exact resG_eq_mk _ _ _
      simp only [Act.put, List.setIfInBounds_toArray, List.set_cons_zero, List.set_cons_succ]
      apply wpG_eq
      · intro W hW hs
        have h1 := run_string_sl (P := Try.prog) 23 5 9 Try.underlying23 Try.underlying5 Try.underlying9 (hl1.below hW)
        unfold opG
        go_simp
        exact resG_eq_mk _ _ _
      simp only [Act.put, List.setIfInBounds_toArray, List.set_cons_zero, List.set_cons_succ]
      apply wpG_eq
      · intro W hW _
        unfold opG
        go_simp
        exact resG_eq_mk _ _ _
      simp only [Act.put, List.setIfInBounds_toArray, List.set_cons_zero, List.set_cons_succ]
      apply wpG_eq
      · intro W hW _
        unfold opG
        go_simp
        exact resG_eq_mk _ _ _
      simp only [Act.put, List.setIfInBounds_toArray, List.set_cons_zero, List.set_cons_succ]
      apply wpG_nil
      intro W9 hW9 hsAll
      go_wp2
      go_roundw
      case rel => exact ⟨k + 1, by omega, by go_num, (hg.trans (below_drewN (Below.refl _ wr) 1)).trans hW9⟩
      case measure => simp [intOf]; omega
    · obtain rfl : k = 4 := by omega
      go_wp2_with fail
      refine (puts_any _).mono ?_
      rintro e w' ⟨rfl, hb'⟩
      go_wp2_with fail
      go_ret
      have hb := b0.trans (hg.mono b0.size)
      exact ⟨rfl, hb.trans (hb'.mono hb.size)⟩

open Go.ChangeShapes Go.WideShapes Go.ChangeAt Go.RowKit
open Go.ChangeMaps (open_string shut_string)
theorem own_wireLength : ownKnob Try.prog.godebug = none := by kernel_rfl
theorem laidOut_wireLength : laidOutB Try.prog = true := by kernel_rfl
set_option maxRecDepth 100000 in
theorem lifted_wireLength (os : Os) (started : os.Started) (H : Type) (enc : TypeId × Value → H) :
    ReturnsInHanded {} Try.checked os 5 .any (Rows.wireLengthSpec.pre6 enc Try.prog Try.f5 Rows.wireLengthRow.domain false) (Rows.wireLengthSpec.post enc Try.prog Try.f5 false true false false) := by
  refine returnsInHanded_of_change (C := Try.checked) own_wireLength started (by kernel_rfl) Try.func5
    (ChangeSpec.witness6 (enc := enc) (C := Try.checked) false ⟨#[], #[.slice none 0 0, .slice none 0 0, .int .u64 0], []⟩ 8 (by kernel_rfl) (by kernel_rfl) (by kernel_rfl) (by kernel_rfl)) ?_
  intro W base args ds gs before hval0 hW hcnd _
  have hval : ∀ (j : Nat) t v, Try.f5.params[j]? = some t → args[j]? = some v → Value.okWide Try.prog W .any base t v := hval0
  have hW' := hW
  obtain ⟨p, q, hA0, hV, rfl, hfz, hnd⟩ := hW
  have hA : DataW.TrodAll enc Try.prog W 0 (fun _ => true) true Try.f5.params.toList args.toList ds p := hA0
  rw [Try.params5] at hA hval
  obtain ⟨v0, vs0, d0, ds0, p0, q0, hargs, rfl, rfl, k0, r0⟩ := trodAll_cons hA
  obtain ⟨v1, vs1, d1, ds1, p1, q1, rfl, rfl, rfl, k1, r1⟩ := trodAll_cons r0
  obtain ⟨v2, vs2, d2, ds2, p2, q2, rfl, rfl, rfl, k2, r2⟩ := trodAll_cons r1
  obtain ⟨rfl, rfl, rfl⟩ := trodAll_nil r2
  obtain rfl : args = #[v0, v1, v2] := by cases args; simp_all
  obtain ⟨rfl, rfl⟩ := trodVars_none hV
  have lt0 : ∀ x ∈ p0, x.block < W.heap.size := by obtain ⟨m, hm⟩ := k0; exact DataW.trod_lt m _ _ _ hm
  have lt1 : ∀ x ∈ p1, x.block < W.heap.size := by obtain ⟨m, hm⟩ := k1; exact DataW.trod_lt m _ _ _ hm
  have lt2 : ∀ x ∈ p2, x.block < W.heap.size := by obtain ⟨m, hm⟩ := k2; exact DataW.trod_lt m _ _ _ hm
  obtain ⟨l0, s0, w0⟩ := open_bytes Try.underlying23 Try.underlying5 (by kernel_rfl) (hval 0 23 v0 rfl rfl) k0
  obtain ⟨l1, s1, w1⟩ := open_bytes Try.underlying23 Try.underlying5 (by kernel_rfl) (hval 1 23 v1 rfl rfl) k1
  obtain ⟨a2, rfl, w2⟩ := open_nat rfl Try.underlying22 (hval 2 22 v2 rfl rfl) k2
  clear hA0 hval0
  refine (length_walk W v0 v1 l0 l1 a2 w2 s0 s1  ).mono fun e W' ⟨he, bel⟩ => ?_
  subst he
  exact ⟨_, rfl, _, _, _, [], _, [], hW', trodAll_mk1 (shut_bool Try.underlying4 _), (trodAll_cons_mk (Below.trod laidOut_wireLength (by kernel_rfl) (of_decide_eq_true (by kernel_rfl)) k0 bel lt0) (trodAll_cons_mk (Below.trod laidOut_wireLength (by kernel_rfl) (of_decide_eq_true (by kernel_rfl)) k1 bel lt1) (trodAll_cons_mk (Below.trod laidOut_wireLength (by kernel_rfl) (of_decide_eq_true (by kernel_rfl)) k2 bel lt2) trodAll_mk0))), rfl, bel.frame _, fun h => by cases h⟩

theorem over_wireLength : Rows.wireLengthRow.holds Try.pinned (OpenSpec.ofChange Rows.wireLengthSpec) :=
  OpenClaim.holds_of_wide 5 Try.f5 rfl rfl rfl rfl rfl rfl rfl ⟨rfl, rfl, rfl, rfl, rfl⟩ rfl rfl rfl rfl rfl (by kernel_rfl) Try.func5 (by kernel_rfl)
    (of_decide_eq_true (by kernel_rfl)) (by unfold Func.isWrapper; first | (rw [if_pos (by decide +kernel)]; kernel_rfl) | (rw [if_neg (by decide +kernel)]; exact ⟨rfl, rfl⟩))
    (fun os started H enc _ => lifted_wireLength os started H enc)

theorem wireLength_proved : Rows.WireLengthSaid := over_wireLength
#print axioms wireLength_proved
end Go.Proofs.Ytiafpnibppjidaa
