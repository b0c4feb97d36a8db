/-
  WirePuts: every Byte, Uint, Int, Text puts what the document says, and what is handed in stays. Every input; no conditions.
-/
import Derived.Test.YtiafpnibppjidaaPuts
import Derived.Test.YtiafpnibppjidaaGrow
import Derived.Test.YtiafpnibppjidaaWireRef
import Derived.Lib.Strings
set_option linter.unusedVariables false
namespace Go.Proofs.Ytiafpnibppjidaa
open Go.RowKit

theorem mono_sl (xs : List Value) : MonoSp (fun v W => Sl W v xs) := fun v w w' hg h => h.below hg
theorem ba_append (l m : List UInt8) : (({ data := l.toArray } : ByteArray) ++ { data := m.toArray }) = { data := (l ++ m).toArray } := by
  apply ByteArray.ext; simp
theorem u64_wrap (a : Nat) (ha : a < 2 ^ 64) : u64 (wrap64 (a : Int)) = a := by
  unfold u64 wrap64
  omega
theorem be_one (a : Nat) : be 1 a = [UInt8.ofNat a] := by simp [be]
theorem be_one_mod (a : Nat) : be 1 (a % 256) = [UInt8.ofNat a] := by
  rw [be_one]; congr 1; apply UInt8.toNat_inj.1; simp

set_option maxHeartbeats 2000000 in
theorem puts_walk (w : World) (vb vs : Value) (l s : List UInt8) (a : Nat) (ha : a < 2 ^ 64) (hl : Sl w vb (bytes l)) (hs0 : Sl w vs (bytes s)) :
    Calls Try.prog 4 #[vb, vs, .int .u64 (a : Int)] w fun e w' => e = .returned (.bool true) ∧ Below w.heap.size w w' := by
  obtain ⟨ab, cb, rfl, _, _⟩ := hl.bytes
  obtain ⟨as1, cs, rfl, _, _⟩ := hs0.bytes
  by_cases h5 : 2000 < l.length
  · go_enter Try.func4, Try.ntmps4
    go_wp2
    all_goals (go_ret; exact ⟨rfl, Below.refl _ _⟩)
  by_cases h6 : 2000 < s.length
  · go_enter Try.func4, Try.ntmps4
    go_wp2
    all_goals (go_ret; exact ⟨rfl, Below.refl _ _⟩)
  -- the slice with room behind it
  obtain ⟨v1, w1, hr1, hown1, hg1⟩ := run_append_u8 (w.alloc (.cells #[] 5)) w.heap.size (.slice (some ⟨w.heap.size, 0, none⟩) 0 0) (.slice ab l.length cb) [] l (Own.nil_lit w 5 (Nat.le_refl _)) (hl.below ((Below.refl _ _).alloc (Nat.le_refl _) _)) (by simp; omega) (by simp)
  have hb1 : Below w.heap.size w w1 := ((Below.refl _ _).alloc (Nat.le_refl _) _).grown hg1 (by simp) (by intro k hk; simp [Value.ownBlock] at hk; omega)
  obtain ⟨v2, w2, hr2, hown2, hg2⟩ := run_append_u8 (w1.alloc (.cells #[.int .u8 9] 5)) w.heap.size v1 (.slice (some ⟨w1.heap.size, 0, none⟩) 1 1) ([] ++ l) [9] (World.ownsRow.alloc hown1 _) (Sl.at w1 [_] _ _ _ _ _ rfl rfl (by decide)) (by simp; omega) (Nat.le_trans hb1.size (by simp))
  have hb2 : Below w.heap.size w w2 := (hb1.alloc hb1.size _).grown hg2 (Nat.le_trans hb1.size (by simp)) (fun k hk => hown1.ownBlock_ge k hk)
  obtain ⟨g, cap, rfl, hgb, hglt, hcap⟩ := hown2.form (by simp [bytes])
  have hlen : (bytes ([] ++ l ++ [9])).length = l.length + 1 := by simp [bytes]
  rw [hlen] at hr2 hcap
  have hown2' : Own w2 w.heap.size 5 (.slice (some ⟨g, 0, none⟩) (l ++ [9]).length cap) (bytes (l ++ [9])) := by rw [hlen] at hown2; simpa using hown2
  have slin : Sl w2 (.slice (some ⟨g, 0, none⟩) l.length cap) (bytes l) := by
    have := hown2.sl.sliced 0 l.length cap (Nat.zero_le _) (by omega) (Nat.le_refl _) (by rw [hlen]; omega)
    rw [List.drop_zero, bytes_take] at this
    have e : Go.sliced (some ⟨g, 0, none⟩) 0 l.length cap 1 = .slice (some ⟨g, 0, none⟩) l.length cap := by unfold Go.sliced; split <;> simp [Addr.add] <;> omega
    rw [e] at this
    simpa using this
  have sl9 : Sl w2 (.slice (some ⟨g, 0, none⟩) (l.length + 1) cap) (bytes (l ++ [9])) := by have := hown2'.sl; simpa using this
  have c9 : w2.cell? ⟨g, l.length, none⟩ = some (.int .u8 9) := hown2'.cellByte l.length 9 (by simp)
  obtain ⟨a8, ha8, ha8'⟩ : ∃ a8 : Nat, a8 = a % 256 ∧ (a : Int) % 256 = (a8 : Int) := ⟨_, rfl, by omega⟩
  have hx8 : be 1 a8 = [UInt8.ofNat a] := by rw [ha8]; exact be_one_mod a
  have HX8 := Lib.hid (And.intro hx8 ha8)
  have hwc : IntKind.u8.wrap (a : Int) = ((UInt8.ofNat a).toNat : Int) := by rw [UInt8.toNat_ofNat', IntKind.wrap_u8]; omega
  have HWC := Lib.hid hwc
  have HC8 : Hid (((UInt8.ofNat a).toNat : Int) = (a8 : Int)) := by show _ = _; rw [UInt8.toNat_ofNat']; omega
  clear hwc
  have hw64 := Lib.hid (u64_wrap a ha)
  have hcap1 : l.length + 1 ≤ cap := hcap
  clear hown1 hg1 hg2 hb1 hlen hown2 hown2' hx8 ha8 hcap
  go_enter Try.func4, Try.ntmps4
  go_wp2_with (first | (at_builtin; refine wpList_run_append hr1 rfl _ _ rfl rfl rfl ?_; clear hr1) | (at_builtin; refine wpList_run_append hr2 rfl _ _ rfl rfl rfl ?_; clear hr2))
  refine (byte_any _ l a8 _ slin (by omega) (by have := HX8.out.2; omega)).mono ?_
  rintro e w3 ⟨vx, rfl, hox, hbx⟩
  rw [HX8.out.1] at hox
  have sx := hox.sl
  go_wp2_with fail
  refine (uint_any _ l a _ (slin.below hbx) (by omega) ha).mono ?_
  rintro e w4 ⟨vy, rfl, hoy, hby⟩
  have sy := hoy.sl
  have hb24 : Below w2.heap.size w2 w4 := hbx.trans (hby.mono hbx.size)
  go_wp2_with fail
  refine (int_any _ l _ _ (slin.below hb24) (by omega)).mono ?_
  rintro e w5 ⟨vz, rfl, hoz, hbz⟩
  rw [hw64.out] at hoz
  have sz := hoz.sl
  have hb25 : Below w2.heap.size w2 w5 := hb24.trans (hbz.mono hb24.size)
  go_wp2_with fail
  refine (text_any _ _ l s _ (slin.below hb25) (hs0.below (hb2.trans (hb25.mono hb2.size))) (by omega) (by omega)).mono ?_
  rintro e w6 ⟨vw, rfl, how, hbw⟩
  have sw := how.sl
  have hb26 : Below w2.heap.size w2 w6 := hb25.trans (hbw.mono hb25.size)
  have hb6 : Below w.heap.size w w6 := hb2.trans (hb26.mono hb2.size)
  have sx6 : Sl w6.drew vx (bytes (l ++ [UInt8.ofNat a])) := ((sx.below hby).below hbz).below hbw.drew
  have sy6 : Sl w6.drew vy (bytes (l ++ be 8 a)) := (sy.below hbz).below hbw.drew
  have sz6 : Sl w6.drew vz (bytes (l ++ be 8 a)) := sz.below hbw.drew
  have sw6 : Sl w6.drew vw (bytes (l ++ be 4 s.length ++ s)) := sw
  have sin6 : Sl w6.drew (.slice (some ⟨g, 0, none⟩) l.length cap) (bytes l) := slin.below hb26.drew
  have s96 : Sl w6.drew (.slice (some ⟨g, 0, none⟩) (l.length + 1) cap) (bytes (l ++ [9])) := sl9.below hb26.drew
  have c96 : w6.drew.cell? ⟨g, l.length, none⟩ = some (.int .u8 9) := by
    have := hb26.cell (p := ⟨g, l.length, none⟩) hglt
    exact this.trans c9
  have ss6 : Sl w6.drew (.slice as1 s.length cs) (bytes s) := hs0.below (below_drewN hb6 1)
  have hg6 : g < w6.drew.heap.size := Nat.lt_of_lt_of_le hglt hb26.size
  have cb6 := run_string_sl (P := Try.prog) 23 5 9 Try.underlying23 Try.underlying5 Try.underlying9 (hl.below hb6)
  clear sx sy sz sw hox hoy hoz how hbx hby hbz hbw hb24 hb25 slin sl9 c9 hglt
  go_wp2_with fail
  clear cb6
  have hwc := HWC.out
  have hadd := ba_append
  apply wp_region_draw_grow (.eq _ :: .eq _ :: .eq _ :: .eq _ :: .eq _ :: .ok (fun v W => Sl W v (bytes ([UInt8.ofNat a]))) :: .eq _ :: .eq _ :: .eq _ :: .eq _ :: .eq _ :: .eq _ :: .eq _ :: .eq _ :: .ok (fun v W => Sl W v (bytes (be 8 a))) :: .eq _ :: .eq _ :: .eq _ :: .eq _ :: .eq _ :: .eq _ :: .eq _ :: .eq _ :: .eq _ :: .eq _ :: .eq _ :: .eq _ :: .eq _ :: .eq _ :: .eq _ :: .eq _ :: .ok (fun v W => Sl W v (bytes (be 4 s.length ++ s))) :: .eq _ :: .eq _ :: .eq _ :: .eq _ :: .eq _ :: .eq _ :: .eq _ :: .eq _ :: .eq _ :: .eq _ :: .eq _ :: .eq _ :: .eq _ :: .eq _ :: .eq _ :: .eq _ :: .eq _ :: .eq _ :: .eq _ :: .eq _ :: .eq _ :: .eq _ :: .eq _ :: .eq _ :: .eq _ :: .eq _ :: []) (by kernel_rfl) (by kernel_rfl) ⟨mono_sl _, mono_sl _, mono_sl _, trivial⟩
  · apply wpG_eq
    · intro W hW _
      unfold opG
      go_simp
      exact resG_eq_mk _ _ _
    simp only [Act.put, List.setIfInBounds_toArray, List.set_cons_zero, List.set_cons_succ]
    apply wpG_eq
    · intro W hW hs
      have h1 := run_string_sl (P := Try.prog) 23 5 9 Try.underlying23 Try.underlying5 Try.underlying9 (sx6.below hW)
      unfold opG
      go_simp
      exact resG_eq_mk _ _ _
    simp only [Act.put, List.setIfInBounds_toArray, List.set_cons_zero, List.set_cons_succ]
    apply wpG_eq
    · intro W hW _
      unfold opG
      go_simp
      exact resG_eq_mk _ _ _
    simp only [Act.put, List.setIfInBounds_toArray, List.set_cons_zero, List.set_cons_succ]
    apply wpG_eq
    · intro W hW _
      unfold opG
      go_simp
      exact resG_eq_mk _ _ _
    simp only [Act.put, List.setIfInBounds_toArray, List.set_cons_zero, List.set_cons_succ]
    apply wpG_eq
    · intro W hW _
      unfold opG
      go_simp
      exact resG_eq_mk _ _ _
    simp only [Act.put, List.setIfInBounds_toArray, List.set_cons_zero, List.set_cons_succ]
    apply wpG_ok
    · intro W hW hs
      unfold opG
      go_simp
      exact resG_mk ((Gr.refl _).alloc _) (by
            have h := Sl.new W [.int .u8 (a8 : Int)] 5 (0, 0) 1 1 rfl (Nat.le_refl _)
            have e : bytes [UInt8.ofNat a] = [.int .u8 (a8 : Int)] := by rw [← HC8.out]; rfl
            rw [e]; exact h)
    intro v6
    simp only [Act.put, List.setIfInBounds_toArray, List.set_cons_zero, List.set_cons_succ]
    apply wpG_eq
    · intro W hW hs
      have h1 := run_string_sl (P := Try.prog) 23 5 9 Try.underlying23 Try.underlying5 Try.underlying9 (hs _ (List.mem_cons_self ..) rfl)
      unfold opG
      go_simp
      exact resG_eq_mk _ _ _
    simp only [Act.put, List.setIfInBounds_toArray, List.set_cons_zero, List.set_cons_succ]
    apply wpG_eq
    · intro W hW hs
      have h0 : ¬ 9223372036854775807 < l.length + 1 := by omega
      unfold opG
      go_simp
      exact resG_eq_mk _ _ _
    simp only [Act.put, List.setIfInBounds_toArray, List.set_cons_zero, List.set_cons_succ]
    apply wpG_eq
    · intro W hW _
      unfold opG
      go_simp
      exact resG_eq_mk _ _ _
    simp only [Act.put, List.setIfInBounds_toArray, List.set_cons_zero, List.set_cons_succ]
    apply wpG_eq
    · intro W hW _
      unfold opG
      go_simp
      exact resG_eq_mk _ _ _
    simp only [Act.put, List.setIfInBounds_toArray, List.set_cons_zero, List.set_cons_succ]
    apply wpG_eq
    · intro W hW _
      unfold opG
      go_simp
      exact resG_eq_mk _ _ _
    simp only [Act.put, List.setIfInBounds_toArray, List.set_cons_zero, List.set_cons_succ]
    apply wpG_eq
    · intro W hW hs
      have h1 := run_string_sl (P := Try.prog) 23 5 9 Try.underlying23 Try.underlying5 Try.underlying9 (sy6.below hW)
      unfold opG
      go_simp
      exact resG_eq_mk _ _ _
    simp only [Act.put, List.setIfInBounds_toArray, List.set_cons_zero, List.set_cons_succ]
    apply wpG_eq
    · intro W hW _
      unfold opG
      go_simp
      exact resG_eq_mk _ _ _
    simp only [Act.put, List.setIfInBounds_toArray, List.set_cons_zero, List.set_cons_succ]
    apply wpG_eq
    · intro W hW _
      unfold opG
      go_simp
      exact resG_eq_mk _ _ _
    simp only [Act.put, List.setIfInBounds_toArray, List.set_cons_zero, List.set_cons_succ]
    apply wpG_ok
    · intro W hW hs
      unfold opG
      go_simp
      refine resG_call ((refnumber_any a 8 _ ha (by decide)).mono ?_)
      rintro e W2 ⟨v, rfl, ho, hg⟩
      exact ⟨v, rfl, hg, ho.sl⟩
    intro v15
    simp only [Act.put, List.setIfInBounds_toArray, List.set_cons_zero, List.set_cons_succ]
    apply wpG_eq
    · intro W hW hs
      have h1 := run_string_sl (P := Try.prog) 23 5 9 Try.underlying23 Try.underlying5 Try.underlying9 (hs _ (List.mem_cons_self ..) rfl)
      unfold opG
      go_simp
      exact resG_eq_mk _ _ _
    simp only [Act.put, List.setIfInBounds_toArray, List.set_cons_zero, List.set_cons_succ]
    apply wpG_eq
    · intro W hW hs
      have hbl := be_length 8 a
      have h0 : ¬ 9223372036854775807 < l.length + (be 8 a).length := by omega
      clear hbl
      unfold opG
      go_simp
      exact resG_eq_mk _ _ _
    simp only [Act.put, List.setIfInBounds_toArray, List.set_cons_zero, List.set_cons_succ]
    apply wpG_eq
    · intro W hW _
      unfold opG
      go_simp
      exact resG_eq_mk _ _ _
    simp only [Act.put, List.setIfInBounds_toArray, List.set_cons_zero, List.set_cons_succ]
    apply wpG_eq
    · intro W hW _
      unfold opG
      go_simp
      exact resG_eq_mk _ _ _
    simp only [Act.put, List.setIfInBounds_toArray, List.set_cons_zero, List.set_cons_succ]
    apply wpG_eq
    · intro W hW _
      unfold opG
      go_simp
      exact resG_eq_mk _ _ _
    simp only [Act.put, List.setIfInBounds_toArray, List.set_cons_zero, List.set_cons_succ]
    apply wpG_eq
    · intro W hW _
      unfold opG
      go_simp
      exact resG_eq_mk _ _ _
    simp only [Act.put, List.setIfInBounds_toArray, List.set_cons_zero, List.set_cons_succ]
    apply wpG_eq
    · intro W hW hs
      have h1 := run_string_sl (P := Try.prog) 23 5 9 Try.underlying23 Try.underlying5 Try.underlying9 (sz6.below hW)
      unfold opG
      go_simp
      exact resG_eq_mk _ _ _
    simp only [Act.put, List.setIfInBounds_toArray, List.set_cons_zero, List.set_cons_succ]
    apply wpG_eq
    · intro W hW _
      unfold opG
      go_simp
      exact resG_eq_mk _ _ _
    simp only [Act.put, List.setIfInBounds_toArray, List.set_cons_zero, List.set_cons_succ]
    apply wpG_eq
    · intro W hW hs
      have h1 := run_string_sl (P := Try.prog) 23 5 9 Try.underlying23 Try.underlying5 Try.underlying9 (sy6.below hW)
      unfold opG
      go_simp
      exact resG_eq_mk _ _ _
    simp only [Act.put, List.setIfInBounds_toArray, List.set_cons_zero, List.set_cons_succ]
    apply wpG_eq
    · intro W hW _
      unfold opG
      go_simp
      exact resG_eq_mk _ _ _
    simp only [Act.put, List.setIfInBounds_toArray, List.set_cons_zero, List.set_cons_succ]
    apply wpG_eq
    · intro W hW _
      unfold opG
      go_simp
      exact resG_eq_mk _ _ _
    simp only [Act.put, List.setIfInBounds_toArray, List.set_cons_zero, List.set_cons_succ]
    apply wpG_eq
    · intro W hW _
      unfold opG
      go_simp
      exact resG_eq_mk _ _ _
    simp only [Act.put, List.setIfInBounds_toArray, List.set_cons_zero, List.set_cons_succ]
    apply wpG_eq
    · intro W hW _
      unfold opG
      go_simp
      exact resG_eq_mk _ _ _
    simp only [Act.put, List.setIfInBounds_toArray, List.set_cons_zero, List.set_cons_succ]
    apply wpG_eq
    · intro W hW hs
      have h1 := run_string_sl (P := Try.prog) 23 5 9 Try.underlying23 Try.underlying5 Try.underlying9 (sw6.below hW)
      unfold opG
      go_simp
      exact resG_eq_mk _ _ _
    simp only [Act.put, List.setIfInBounds_toArray, List.set_cons_zero, List.set_cons_succ]
    apply wpG_eq
    · intro W hW _
      unfold opG
      go_simp
      exact resG_eq_mk _ _ _
    simp only [Act.put, List.setIfInBounds_toArray, List.set_cons_zero, List.set_cons_succ]
    apply wpG_eq
    · intro W hW _
      unfold opG
      go_simp
      exact resG_eq_mk _ _ _
    simp only [Act.put, List.setIfInBounds_toArray, List.set_cons_zero, List.set_cons_succ]
    apply wpG_ok
    · intro W hW hs
      unfold opG
      go_simp
      refine resG_call ((reftext_any _ s _ (ss6.below hW) (by omega)).mono ?_)
      rintro e W2 ⟨v, rfl, ho, hg⟩
      exact ⟨v, rfl, hg, ho.sl⟩
    intro v32
    simp only [Act.put, List.setIfInBounds_toArray, List.set_cons_zero, List.set_cons_succ]
    apply wpG_eq
    · intro W hW hs
      have h1 := run_string_sl (P := Try.prog) 23 5 9 Try.underlying23 Try.underlying5 Try.underlying9 (hs _ (List.mem_cons_self ..) rfl)
      unfold opG
      go_simp
      exact resG_eq_mk _ _ _
    simp only [Act.put, List.setIfInBounds_toArray, List.set_cons_zero, List.set_cons_succ]
    apply wpG_eq
    · intro W hW hs
      have hbl := be_length 4 s.length
      have h0 : ¬ 9223372036854775807 < l.length + ((be 4 s.length).length + s.length) := by omega
      clear hbl
      unfold opG
      go_simp
      exact resG_eq_mk _ _ _
    simp only [Act.put, List.setIfInBounds_toArray, List.set_cons_zero, List.set_cons_succ]
    apply wpG_eq
    · intro W hW _
      unfold opG
      go_simp
      exact resG_eq_mk _ _ _
    simp only [Act.put, List.setIfInBounds_toArray, List.set_cons_zero, List.set_cons_succ]
    apply wpG_eq
    · intro W hW _
      unfold opG
      go_simp
      exact resG_eq_mk _ _ _
    simp only [Act.put, List.setIfInBounds_toArray, List.set_cons_zero, List.set_cons_succ]
    apply wpG_eq
    · intro W hW _
      unfold opG
      go_simp
      exact resG_eq_mk _ _ _
    simp only [Act.put, List.setIfInBounds_toArray, List.set_cons_zero, List.set_cons_succ]
    apply wpG_eq
    · intro W hW _
      unfold opG
      go_simp
      exact resG_eq_mk _ _ _
    simp only [Act.put, List.setIfInBounds_toArray, List.set_cons_zero, List.set_cons_succ]
    apply wpG_eq
    · intro W hW hs
      have h1 := run_string_sl (P := Try.prog) 23 5 9 Try.underlying23 Try.underlying5 Try.underlying9 (sin6.below hW)
      unfold opG
      go_simp
      exact resG_eq_mk _ _ _
    simp only [Act.put, List.setIfInBounds_toArray, List.set_cons_zero, List.set_cons_succ]
    apply wpG_eq
    · intro W hW _
      unfold opG
      go_simp
      exact resG_eq_mk _ _ _
    simp only [Act.put, List.setIfInBounds_toArray, List.set_cons_zero, List.set_cons_succ]
    apply wpG_eq
    · intro W hW _
      unfold opG
      go_simp
      exact resG_eq_mk _ _ _
    simp only [Act.put, List.setIfInBounds_toArray, List.set_cons_zero, List.set_cons_succ]
    apply wpG_eq
    · intro W hW _
      unfold opG
      go_simp
      exact resG_eq_mk _ _ _
    simp only [Act.put, List.setIfInBounds_toArray, List.set_cons_zero, List.set_cons_succ]
    apply wpG_eq
    · intro W hW _
      unfold opG
      go_simp
      exact resG_eq_mk _ _ _
    simp only [Act.put, List.setIfInBounds_toArray, List.set_cons_zero, List.set_cons_succ]
    apply wpG_eq
    · intro W hW _
      unfold opG
      go_simp
      exact resG_eq_mk _ _ _
    simp only [Act.put, List.setIfInBounds_toArray, List.set_cons_zero, List.set_cons_succ]
    apply wpG_eq
    · intro W hW _
      unfold opG
      go_simp
      exact resG_eq_mk _ _ _
    simp only [Act.put, List.setIfInBounds_toArray, List.set_cons_zero, List.set_cons_succ]
    apply wpG_eq
    · intro W hW _
      unfold opG
      go_simp
      exact resG_eq_mk _ _ _
    simp only [Act.put, List.setIfInBounds_toArray, List.set_cons_zero, List.set_cons_succ]
    apply wpG_eq
    · intro W hW hs
      have h1 : IntKind.i64.wrap ((l.length : Int) + 1) = (l.length : Int) + 1 := by rw [IntKind.wrap_i64]; omega
      unfold opG
      go_simp
      exact resG_eq_mk _ _ _
    simp only [Act.put, List.setIfInBounds_toArray, List.set_cons_zero, List.set_cons_succ]
    apply wpG_eq
    · intro W hW hs
      have h1 : (0 : Int) ≤ (l.length : Int) + 1 := by omega
      have h2 : ((l.length : Int) + 1).toNat = l.length + 1 := by omega
      have h3 : (l.length : Int) + 1 ≤ (cap : Int) := by omega
      unfold opG
      go_simp
      exact resG_eq_mk _ _ _
    simp only [Act.put, List.setIfInBounds_toArray, List.set_cons_zero, List.set_cons_succ]
    apply wpG_eq
    · intro W hW _
      unfold opG
      go_simp
      exact resG_eq_mk _ _ _
    simp only [Act.put, List.setIfInBounds_toArray, List.set_cons_zero, List.set_cons_succ]
    apply wpG_eq
    · intro W hW _
      unfold opG
      go_simp
      exact resG_eq_mk _ _ _
    simp only [Act.put, List.setIfInBounds_toArray, List.set_cons_zero, List.set_cons_succ]
    apply wpG_eq
    · intro W hW hs
      have h1 : (l.length : Int) < (l.length : Int) + 1 := by omega
      unfold opG
      go_simp
      exact resG_eq_mk _ _ _
    simp only [Act.put, List.setIfInBounds_toArray, List.set_cons_zero, List.set_cons_succ]
    apply wpG_eq
    · intro W hW hs
      have h1 := (hW.cell (p := ⟨g, l.length, none⟩) hg6).trans c96
      unfold opG
      go_simp
      exact resG_eq_mk _ _ _
    simp only [Act.put, List.setIfInBounds_toArray, List.set_cons_zero, List.set_cons_succ]
    apply wpG_eq
    · intro W hW _
      unfold opG
      go_simp
      exact resG_eq_mk _ _ _
    simp only [Act.put, List.setIfInBounds_toArray, List.set_cons_zero, List.set_cons_succ]
    apply wpG_eq
    · intro W hW _
      unfold opG
      go_simp
      exact resG_eq_mk _ _ _
    simp only [Act.put, List.setIfInBounds_toArray, List.set_cons_zero, List.set_cons_succ]
    apply wpG_eq
    · intro W hW _
      unfold opG
      go_simp
      exact resG_eq_mk _ _ _
    simp only [Act.put, List.setIfInBounds_toArray, List.set_cons_zero, List.set_cons_succ]
    apply wpG_eq
    · intro W hW hs
      unfold opG
      go_simp
      refine resG_call ((puts_any _).mono ?_)
      rintro e W2 ⟨rfl, hg⟩
      exact ⟨_, rfl, hg, rfl⟩
    simp only [Act.put, List.setIfInBounds_toArray, List.set_cons_zero, List.set_cons_succ]
    apply wpG_eq
    · intro W hW _
      unfold opG
      go_simp
      exact resG_eq_mk _ _ _
    simp only [Act.put, List.setIfInBounds_toArray, List.set_cons_zero, List.set_cons_succ]
    apply wpG_eq
    · intro W hW _
      unfold opG
      go_simp
      exact resG_eq_mk _ _ _
    simp only [Act.put, List.setIfInBounds_toArray, List.set_cons_zero, List.set_cons_succ]
    apply wpG_nil
    intro W9 hW9 hsAll
    have hb9 : Below w.heap.size w W9 := (below_drewN hb6 1).trans (hW9.mono hb6.size)
    go_wp2
    go_ret
    exact ⟨rfl, hb9⟩

open Go.ChangeShapes Go.WideShapes Go.ChangeAt Go.RowKit
open Go.ChangeMaps (open_string shut_string)
theorem own_wirePuts : ownKnob Try.prog.godebug = none := by kernel_rfl
theorem laidOut_wirePuts : laidOutB Try.prog = true := by kernel_rfl
set_option maxRecDepth 100000 in
theorem lifted_wirePuts (os : Os) (started : os.Started) (H : Type) (enc : TypeId × Value → H) :
    ReturnsInHanded {} Try.checked os 4 .any (Rows.wirePutsSpec.pre6 enc Try.prog Try.f4 Rows.wirePutsRow.domain false) (Rows.wirePutsSpec.post enc Try.prog Try.f4 false true false false) := by
  refine returnsInHanded_of_change (C := Try.checked) own_wirePuts started (by kernel_rfl) Try.func4
    (ChangeSpec.witness6 (enc := enc) (C := Try.checked) false ⟨#[], #[.slice none 0 0, .slice none 0 0, .int .u64 0], []⟩ 8 (by kernel_rfl) (by kernel_rfl) (by kernel_rfl) (by kernel_rfl)) ?_
  intro W base args ds gs before hval0 hW hcnd _
  have hval : ∀ (j : Nat) t v, Try.f4.params[j]? = some t → args[j]? = some v → Value.okWide Try.prog W .any base t v := hval0
  have hW' := hW
  obtain ⟨p, q, hA0, hV, rfl, hfz, hnd⟩ := hW
  have hA : DataW.TrodAll enc Try.prog W 0 (fun _ => true) true Try.f4.params.toList args.toList ds p := hA0
  rw [Try.params4] at hA hval
  obtain ⟨v0, vs0, d0, ds0, p0, q0, hargs, rfl, rfl, k0, r0⟩ := trodAll_cons hA
  obtain ⟨v1, vs1, d1, ds1, p1, q1, rfl, rfl, rfl, k1, r1⟩ := trodAll_cons r0
  obtain ⟨v2, vs2, d2, ds2, p2, q2, rfl, rfl, rfl, k2, r2⟩ := trodAll_cons r1
  obtain ⟨rfl, rfl, rfl⟩ := trodAll_nil r2
  obtain rfl : args = #[v0, v1, v2] := by cases args; simp_all
  obtain ⟨rfl, rfl⟩ := trodVars_none hV
  have lt0 : ∀ x ∈ p0, x.block < W.heap.size := by obtain ⟨m, hm⟩ := k0; exact DataW.trod_lt m _ _ _ hm
  have lt1 : ∀ x ∈ p1, x.block < W.heap.size := by obtain ⟨m, hm⟩ := k1; exact DataW.trod_lt m _ _ _ hm
  have lt2 : ∀ x ∈ p2, x.block < W.heap.size := by obtain ⟨m, hm⟩ := k2; exact DataW.trod_lt m _ _ _ hm
  obtain ⟨l0, s0, w0⟩ := open_bytes Try.underlying23 Try.underlying5 (by kernel_rfl) (hval 0 23 v0 rfl rfl) k0
  obtain ⟨l1, s1, w1⟩ := open_bytes Try.underlying23 Try.underlying5 (by kernel_rfl) (hval 1 23 v1 rfl rfl) k1
  obtain ⟨a2, rfl, w2⟩ := open_nat rfl Try.underlying22 (hval 2 22 v2 rfl rfl) k2
  clear hA0 hval0
  refine (puts_walk W v0 v1 l0 l1 a2 w2 s0 s1  ).mono fun e W' ⟨he, bel⟩ => ?_
  subst he
  exact ⟨_, rfl, _, _, _, [], _, [], hW', trodAll_mk1 (shut_bool Try.underlying4 _), (trodAll_cons_mk (Below.trod laidOut_wirePuts (by kernel_rfl) (of_decide_eq_true (by kernel_rfl)) k0 bel lt0) (trodAll_cons_mk (Below.trod laidOut_wirePuts (by kernel_rfl) (of_decide_eq_true (by kernel_rfl)) k1 bel lt1) (trodAll_cons_mk (Below.trod laidOut_wirePuts (by kernel_rfl) (of_decide_eq_true (by kernel_rfl)) k2 bel lt2) trodAll_mk0))), rfl, bel.frame _, fun h => by cases h⟩

theorem over_wirePuts : Rows.wirePutsRow.holds Try.pinned (OpenSpec.ofChange Rows.wirePutsSpec) :=
  OpenClaim.holds_of_wide 4 Try.f4 rfl rfl rfl rfl rfl rfl rfl ⟨rfl, rfl, rfl, rfl, rfl⟩ rfl rfl rfl rfl rfl (by kernel_rfl) Try.func4 (by kernel_rfl)
    (of_decide_eq_true (by kernel_rfl)) (by unfold Func.isWrapper; first | (rw [if_pos (by decide +kernel)]; kernel_rfl) | (rw [if_neg (by decide +kernel)]; exact ⟨rfl, rfl⟩))
    (fun os started H enc _ => lifted_wirePuts os started H enc)

theorem wirePuts_proved : Rows.WirePutsSaid := over_wirePuts
#print axioms wirePuts_proved
end Go.Proofs.Ytiafpnibppjidaa
