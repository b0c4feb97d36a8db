/-
  put and got: one part, put, and asked for.
-/
import Derived.Test.YtiafpnibppjidaaBackPlain
import Derived.Test.YtiafpnibppjidaaTurn
set_option linter.unusedVariables false
namespace Go.Proofs.Ytiafpnibppjidaa
open Go.RowKit

/-- The value of a part. -/
abbrev PartOf.val (p : PartOf) (vs : Value) : Value := .agg #[.int .u8 (p.d : Int), .int .u64 (p.v : Int), vs]

theorem dec_u8 (a x : Nat) : ((a : Int) == IntKind.u8.wrap (x : Int)) = decide (a = x % 256) := by
  rw [Bool.eq_iff_iff]; simp [IntKind.wrap, IntKind.bits, IntKind.signed]; omega
theorem dec_u64 (a x : Nat) : ((a : Int) == (x : Int)) = decide (a = x) := by
  rw [Bool.eq_iff_iff]; simp; omega
theorem dec_i64 {a x : Nat} (ha : a < 2 ^ 64) (hx : x < 2 ^ 64) : (i64 a == IntKind.i64.wrap (x : Int)) = decide (a = x) := by
  have e : IntKind.i64.wrap (x : Int) = i64 x := by rw [IntKind.wrap_i64]; unfold i64 wrap64; omega
  rw [Bool.eq_iff_iff, e]
  simp only [beq_iff_eq, decide_eq_true_eq]
  exact ⟨fun h => i64_inj ha hx h, fun h => by subst h; rfl⟩
theorem dec_text (a b : List UInt8) : (a == b) = decide (a = b) := by
  rw [Bool.eq_iff_iff]; simp
theorem Sl.chN {ρ : Nat → Prop} {w w' : World} {v : Value} {xs : List Value} (h : Sl w v xs) (hg : Ch ρ w w') (hne : xs = [] ∨ ∀ k, v.ownBlock = some k → ¬ ρ k) : Sl w' v xs := by
  rcases hne with rfl | hne
  · obtain ⟨a, cap, rfl, hcap, _⟩ := h
    exact Sl.nil _ _ _
  · exact h.ch hg hne
theorem Sl.own_lt {w : World} {v : Value} {xs : List Value} (h : Sl w v xs) : xs = [] ∨ ∀ k, v.ownBlock = some k → k < w.heap.size := by
  obtain ⟨a, cap, rfl, hcap, h⟩ := h
  rcases h with h | ⟨b, off, rfl, hlt, _⟩
  · exact .inl h
  · right
    intro k hk
    obtain rfl : b = k := by simpa [Value.ownBlock] using hk
    exact hlt
/-- A new reader, of whose blocks it is known that they are of now. -/
theorem new_any2 (v : Value) (l : List UInt8) (w : World) (hs : Sl w v (bytes l)) (hl : l.length ≤ 1000000000) :
    Calls Try.prog 18 #[v] w fun en w' => ∃ g, en = .returned (.pointer (some ⟨g, 0, none⟩)) ∧ Rd w' (fun k => w.heap.size ≤ k ∧ k < w'.heap.size) g l false ∧ Below w.heap.size w w' := by
  go_enter Try.func18, Try.ntmps18
  go_wp2_with fail
  refine (clone_any _ l _ hs (by omega)).mono ?_
  rintro e w1 ⟨v1, rfl, hown1, hb1⟩
  obtain ⟨a1, c1, rfl⟩ := hown1.shape
  go_wp2
  go_ret
  have hs1 := hown1.sl.below ((Below.refl _ _).alloc (Nat.le_refl _) (.cells #[.slice a1 (bytes l).length c1, .bool false] 60))
  refine ⟨w1.heap.size, rfl, ⟨⟨hb1.size, by simp⟩, _, heap_alloc_new w1 _, hs1, ?_, fun k hk => ⟨hown1.ownBlock_ge k hk, ?_⟩⟩, hb1.alloc hb1.size _⟩
  · intro h
    have := (World.ownsRow.lt hown1 _ h).2
    omega
  · have := (World.ownsRow.lt hown1 _ hk).2
    simp
    omega
theorem cell_at_new {w w' : World} (B : Nat) (xs : List Value) (t : TypeId) (fr : Nat × Nat) (hB : B = w.heap.size) (hb : Below (w.alloc (.cells xs.toArray t fr)).heap.size (w.alloc (.cells xs.toArray t fr)) w') (k : Nat) (u : Value) (hk : xs[k]? = some u) :
    w'.cell? ⟨B, k, none⟩ = some u := by
  subst hB
  obtain ⟨h1, h2⟩ := List.getElem?_eq_some_iff.1 hk
  have := cells_at xs t fr hb k h1
  rw [Nat.zero_add] at this
  rw [this, h2]

set_option maxHeartbeats 1000000 in
theorem put_any (w : World) (v vs : Value) (l : List UInt8) (p : PartOf) (hs : Sl w v (bytes l)) (ht : Sl w vs (bytes p.s)) (hl : l.length ≤ 1000000000) (hd : p.d < 256) (hv : p.v < 2 ^ 64) (htl : p.s.length ≤ 1000000000) :
    Calls Try.prog 17 #[v, p.val vs] w (RetBytes w (l ++ pPut p)) := by
  obtain ⟨d, x, s⟩ := p
  simp only [PartOf.val] at *
  unfold RetBytes pPut
  simp only
  have b1 : ∀ c, Below w.heap.size w (w.alloc c) := fun c => (Below.refl _ _).alloc (Nat.le_refl _) _
  have hb := fun c => hs.below (b1 c)
  have hbt := fun c => ht.below (b1 c)
  have hz : ∀ c, w.heap.size ≤ (w.alloc c).heap.size := fun c => (b1 c).size
  have hm4 : d % 4 = 0 ∨ d % 4 = 1 ∨ d % 4 = 2 ∨ d % 4 = 3 := by omega
  obtain ⟨a8, ha8, ha8', e8⟩ : ∃ a8 : Nat, a8 < 256 ∧ (x : Int) % 256 = (a8 : Int) ∧ x % 256 = a8 := ⟨x % 256, by omega, by omega, rfl⟩
  rcases hm4 with h | h | h | h
  · have hi : (d : Int) % 4 = 0 := by omega
    go_enter Try.func17, Try.ntmps17
    go_wp2_with fail
    refine (byte_any _ l a8 _ (hb _) hl ha8).mono ?_
    rintro e w3 ⟨vx, rfl, ho, hbx⟩
    go_wp2
    go_ret
    exact ⟨_, rfl, ho.mono (hz _), (b1 _).trans (hbx.mono (hz _))⟩
  · have hi : (d : Int) % 4 = 1 := by omega
    go_enter Try.func17, Try.ntmps17
    go_wp2_with fail
    refine (uint_any _ l x _ (hb _) hl hv).mono ?_
    rintro e w3 ⟨vx, rfl, ho, hbx⟩
    go_wp2
    go_ret
    exact ⟨_, rfl, ho.mono (hz _), (b1 _).trans (hbx.mono (hz _))⟩
  · have hi : (d : Int) % 4 = 2 := by omega
    go_enter Try.func17, Try.ntmps17
    go_wp2_with fail
    refine (int_any _ l _ _ (hb _) hl).mono ?_
    rintro e w3 ⟨vx, rfl, ho, hbx⟩
    go_wp2
    go_ret
    exact ⟨_, rfl, by rw [← u64_wrap64 x hv]; exact ho.mono (hz _), (b1 _).trans (hbx.mono (hz _))⟩
  · have hi : (d : Int) % 4 = 3 := by omega
    go_enter Try.func17, Try.ntmps17
    go_wp2_with fail
    refine (text_any _ _ l s _ (hb _) (hbt _) hl htl).mono ?_
    rintro e w3 ⟨vx, rfl, ho, hbx⟩
    go_wp2
    go_ret
    exact ⟨_, rfl, by rw [← List.append_assoc]; exact ho.mono (hz _), (b1 _).trans (hbx.mono (hz _))⟩
set_option maxHeartbeats 1000000 in
theorem got_any (w : World) (base : Nat → Prop) (g : Nat) (vs : Value) (s : RS) (p : PartOf) (hr : Rs w base g s) (ht : Sl w vs (bytes p.s)) (hne : bytes p.s = [] ∨ ∀ k, vs.ownBlock = some k → k ≠ g) (hl : s.1.length ≤ 1000000000) (hd : p.d < 256) (hv : p.v < 2 ^ 64) :
    Calls Try.prog 19 #[.pointer (some ⟨g, 0, none⟩), p.val vs] w (Got w base g (.bool (pGot p s).1) (pGot p s).2) := by
  obtain ⟨d, x, t⟩ := p
  simp only [PartOf.val] at *
  unfold pGot
  simp only
  have hm4 : d % 4 = 0 ∨ d % 4 = 1 ∨ d % 4 = 2 ∨ d % 4 = 3 := by omega
  have hgl := Rd.lt hr
  rcases hm4 with h | h | h | h
  · have hi : (d : Int) % 4 = 0 := by omega
    rw [if_pos h]
    go_enter Try.func19, Try.ntmps19
    go_wp2
    generalize hW1 : w.alloc (Obj.cells #[Value.int IntKind.u8 ↑d, Value.int IntKind.u64 ↑x, vs] 37) = W1
    have c1 : W1.drew.cell? ⟨w.heap.size, 1, none⟩ = some (.int .u64 (x : Int)) := cell_at_new (w := w) (w' := W1.drew) w.heap.size [.int .u8 (d : Int), .int .u64 (x : Int), vs] 37 (0, 0) rfl (by rw [← hW1]; exact below_drewN (Below.refl _ _) 1) 1 _ rfl
    have c2 : W1.drew.cell? ⟨w.heap.size, 2, none⟩ = some vs := cell_at_new (w := w) (w' := W1.drew) w.heap.size [.int .u8 (d : Int), .int .u64 (x : Int), vs] 37 (0, 0) rfl (by rw [← hW1]; exact below_drewN (Below.refl _ _) 1) 2 _ rfl
    have b1 : Below w.heap.size w W1.drew := below_drewN (by rw [← hW1]; exact (Below.refl _ _).alloc (Nat.le_refl _) _) 1
    have hlt : w.heap.size < W1.drew.heap.size := by rw [← hW1]; simp
    have hng : ¬ (w.heap.size = g) := by omega
    have r1 : Rs W1.drew base g s := Rd.grown hr (below_grownBy b1 none) (by simp)
    have t1 := ht.below b1
    clear hW1
    apply wp_region_draw_turn (fun k => k = g) (fun k W => match k with | 0 => Rs W base g s | _ => Rs W base g (rByte s).2) (.eq _ :: .useEq _ :: .eq _ :: .eq _ :: .eq _ :: .eq _ :: .eq _ :: []) (by kernel_rfl) (by kernel_rfl) (by kernel_rfl) trivial (fun k W W' hG h => by cases k <;> exact Rd.grown h (below_grownBy hG none) (by simp)) (r1)
    apply wpT_eq
    · intro W hW _
      unfold opT
      go_simp
      exact resT_eq_mk _ _ _
    simp only [Act.put, List.setIfInBounds_toArray, List.set_cons_zero, List.set_cons_succ]
    apply wpT_useEq
    · intro W hW hS hs
      unfold opT
      go_simp
      refine resT_call ((get_byte _ base g s hS hl).mono ?_)
      rintro e W2 ⟨rfl, hr2, hg2⟩
      exact ⟨_, rfl, ⟨Ch.of_grownBy hg2 (fun k hk => by cases hk; rfl), hr2⟩, rfl⟩
    simp only [Act.put, List.setIfInBounds_toArray, List.set_cons_zero, List.set_cons_succ]
    apply wpT_eq
    · intro W hW _
      unfold opT
      go_simp
      exact resT_eq_mk _ _ _
    simp only [Act.put, List.setIfInBounds_toArray, List.set_cons_zero, List.set_cons_succ]
    apply wpT_eq
    · intro W hW _
      have h1 := (hW.cell (p := ⟨w.heap.size, 1, none⟩) hlt hng).trans c1
      unfold opT
      go_simp
      exact resT_eq_mk _ _ _
    simp only [Act.put, List.setIfInBounds_toArray, List.set_cons_zero, List.set_cons_succ]
    apply wpT_eq
    · intro W hW _
      unfold opT
      go_simp
      exact resT_eq_mk _ _ _
    simp only [Act.put, List.setIfInBounds_toArray, List.set_cons_zero, List.set_cons_succ]
    apply wpT_eq
    · intro W hW _
      unfold opT
      go_simp
      exact resT_eq_mk _ _ _
    simp only [Act.put, List.setIfInBounds_toArray, List.set_cons_zero, List.set_cons_succ]
    apply wpT_eq
    · intro W hW _
      unfold opT
      go_simp
      exact resT_eq_mk _ _ _
    simp only [Act.put, List.setIfInBounds_toArray, List.set_cons_zero, List.set_cons_succ]
    apply wpT_nil
    intro W9 hW9 hS9 hsAll
    have gb : w.grownBy W9 (some g) := grownBy_trans (below_grownBy b1 _) hW9.grownBy
    clear c1 c2 b1 t1 r1
    go_wp2
    go_ret
    exact ⟨congrArg (fun b => Ending.returned (Value.bool b)) (dec_u8 _ _), hS9, gb⟩
  · have hi : (d : Int) % 4 = 1 := by omega
    rw [if_neg (show ¬ d % 4 = 0 by omega), if_pos h]
    go_enter Try.func19, Try.ntmps19
    go_wp2
    generalize hW1 : w.alloc (Obj.cells #[Value.int IntKind.u8 ↑d, Value.int IntKind.u64 ↑x, vs] 37) = W1
    have c1 : W1.drew.cell? ⟨w.heap.size, 1, none⟩ = some (.int .u64 (x : Int)) := cell_at_new (w := w) (w' := W1.drew) w.heap.size [.int .u8 (d : Int), .int .u64 (x : Int), vs] 37 (0, 0) rfl (by rw [← hW1]; exact below_drewN (Below.refl _ _) 1) 1 _ rfl
    have c2 : W1.drew.cell? ⟨w.heap.size, 2, none⟩ = some vs := cell_at_new (w := w) (w' := W1.drew) w.heap.size [.int .u8 (d : Int), .int .u64 (x : Int), vs] 37 (0, 0) rfl (by rw [← hW1]; exact below_drewN (Below.refl _ _) 1) 2 _ rfl
    have b1 : Below w.heap.size w W1.drew := below_drewN (by rw [← hW1]; exact (Below.refl _ _).alloc (Nat.le_refl _) _) 1
    have hlt : w.heap.size < W1.drew.heap.size := by rw [← hW1]; simp
    have hng : ¬ (w.heap.size = g) := by omega
    have r1 : Rs W1.drew base g s := Rd.grown hr (below_grownBy b1 none) (by simp)
    have t1 := ht.below b1
    clear hW1
    apply wp_region_draw_turn (fun k => k = g) (fun k W => match k with | 0 => Rs W base g s | _ => Rs W base g (rUint s).2) (.eq _ :: .useEq _ :: .eq _ :: .eq _ :: .eq _ :: .eq _ :: []) (by kernel_rfl) (by kernel_rfl) (by kernel_rfl) trivial (fun k W W' hG h => by cases k <;> exact Rd.grown h (below_grownBy hG none) (by simp)) (r1)
    apply wpT_eq
    · intro W hW _
      unfold opT
      go_simp
      exact resT_eq_mk _ _ _
    simp only [Act.put, List.setIfInBounds_toArray, List.set_cons_zero, List.set_cons_succ]
    apply wpT_useEq
    · intro W hW hS hs
      unfold opT
      go_simp
      refine resT_call ((get_uint _ base g s hS hl).mono ?_)
      rintro e W2 ⟨rfl, hr2, hg2⟩
      exact ⟨_, rfl, ⟨Ch.of_grownBy hg2 (fun k hk => by cases hk; rfl), hr2⟩, rfl⟩
    simp only [Act.put, List.setIfInBounds_toArray, List.set_cons_zero, List.set_cons_succ]
    apply wpT_eq
    · intro W hW _
      unfold opT
      go_simp
      exact resT_eq_mk _ _ _
    simp only [Act.put, List.setIfInBounds_toArray, List.set_cons_zero, List.set_cons_succ]
    apply wpT_eq
    · intro W hW _
      have h1 := (hW.cell (p := ⟨w.heap.size, 1, none⟩) hlt hng).trans c1
      unfold opT
      go_simp
      exact resT_eq_mk _ _ _
    simp only [Act.put, List.setIfInBounds_toArray, List.set_cons_zero, List.set_cons_succ]
    apply wpT_eq
    · intro W hW _
      unfold opT
      go_simp
      exact resT_eq_mk _ _ _
    simp only [Act.put, List.setIfInBounds_toArray, List.set_cons_zero, List.set_cons_succ]
    apply wpT_eq
    · intro W hW _
      unfold opT
      go_simp
      exact resT_eq_mk _ _ _
    simp only [Act.put, List.setIfInBounds_toArray, List.set_cons_zero, List.set_cons_succ]
    apply wpT_nil
    intro W9 hW9 hS9 hsAll
    have gb : w.grownBy W9 (some g) := grownBy_trans (below_grownBy b1 _) hW9.grownBy
    clear c1 c2 b1 t1 r1
    go_wp2
    go_ret
    exact ⟨congrArg (fun b => Ending.returned (Value.bool b)) (dec_u64 _ _), hS9, gb⟩
  · have hi : (d : Int) % 4 = 2 := by omega
    rw [if_neg (show ¬ d % 4 = 0 by omega), if_neg (show ¬ d % 4 = 1 by omega), if_pos h]
    go_enter Try.func19, Try.ntmps19
    go_wp2
    generalize hW1 : w.alloc (Obj.cells #[Value.int IntKind.u8 ↑d, Value.int IntKind.u64 ↑x, vs] 37) = W1
    have c1 : W1.drew.cell? ⟨w.heap.size, 1, none⟩ = some (.int .u64 (x : Int)) := cell_at_new (w := w) (w' := W1.drew) w.heap.size [.int .u8 (d : Int), .int .u64 (x : Int), vs] 37 (0, 0) rfl (by rw [← hW1]; exact below_drewN (Below.refl _ _) 1) 1 _ rfl
    have c2 : W1.drew.cell? ⟨w.heap.size, 2, none⟩ = some vs := cell_at_new (w := w) (w' := W1.drew) w.heap.size [.int .u8 (d : Int), .int .u64 (x : Int), vs] 37 (0, 0) rfl (by rw [← hW1]; exact below_drewN (Below.refl _ _) 1) 2 _ rfl
    have b1 : Below w.heap.size w W1.drew := below_drewN (by rw [← hW1]; exact (Below.refl _ _).alloc (Nat.le_refl _) _) 1
    have hlt : w.heap.size < W1.drew.heap.size := by rw [← hW1]; simp
    have hng : ¬ (w.heap.size = g) := by omega
    have r1 : Rs W1.drew base g s := Rd.grown hr (below_grownBy b1 none) (by simp)
    have t1 := ht.below b1
    clear hW1
    apply wp_region_draw_turn (fun k => k = g) (fun k W => match k with | 0 => Rs W base g s | _ => Rs W base g (rUint s).2) (.eq _ :: .useEq _ :: .eq _ :: .eq _ :: .eq _ :: .eq _ :: .eq _ :: []) (by kernel_rfl) (by kernel_rfl) (by kernel_rfl) trivial (fun k W W' hG h => by cases k <;> exact Rd.grown h (below_grownBy hG none) (by simp)) (r1)
    apply wpT_eq
    · intro W hW _
      unfold opT
      go_simp
      exact resT_eq_mk _ _ _
    simp only [Act.put, List.setIfInBounds_toArray, List.set_cons_zero, List.set_cons_succ]
    apply wpT_useEq
    · intro W hW hS hs
      unfold opT
      go_simp
      refine resT_call ((get_int _ base g s hS hl).mono ?_)
      rintro e W2 ⟨rfl, hr2, hg2⟩
      exact ⟨_, rfl, ⟨Ch.of_grownBy hg2 (fun k hk => by cases hk; rfl), hr2⟩, rfl⟩
    simp only [Act.put, List.setIfInBounds_toArray, List.set_cons_zero, List.set_cons_succ]
    apply wpT_eq
    · intro W hW _
      unfold opT
      go_simp
      exact resT_eq_mk _ _ _
    simp only [Act.put, List.setIfInBounds_toArray, List.set_cons_zero, List.set_cons_succ]
    apply wpT_eq
    · intro W hW _
      have h1 := (hW.cell (p := ⟨w.heap.size, 1, none⟩) hlt hng).trans c1
      unfold opT
      go_simp
      exact resT_eq_mk _ _ _
    simp only [Act.put, List.setIfInBounds_toArray, List.set_cons_zero, List.set_cons_succ]
    apply wpT_eq
    · intro W hW _
      unfold opT
      go_simp
      exact resT_eq_mk _ _ _
    simp only [Act.put, List.setIfInBounds_toArray, List.set_cons_zero, List.set_cons_succ]
    apply wpT_eq
    · intro W hW _
      unfold opT
      go_simp
      exact resT_eq_mk _ _ _
    simp only [Act.put, List.setIfInBounds_toArray, List.set_cons_zero, List.set_cons_succ]
    apply wpT_eq
    · intro W hW _
      unfold opT
      go_simp
      exact resT_eq_mk _ _ _
    simp only [Act.put, List.setIfInBounds_toArray, List.set_cons_zero, List.set_cons_succ]
    apply wpT_nil
    intro W9 hW9 hS9 hsAll
    have gb : w.grownBy W9 (some g) := grownBy_trans (below_grownBy b1 _) hW9.grownBy
    clear c1 c2 b1 t1 r1
    go_wp2
    go_ret
    exact ⟨congrArg (fun b => Ending.returned (Value.bool b)) (dec_i64 (rUint_lt s) hv), hS9, gb⟩
  · have hi : (d : Int) % 4 = 3 := by omega
    rw [if_neg (show ¬ d % 4 = 0 by omega), if_neg (show ¬ d % 4 = 1 by omega), if_neg (show ¬ d % 4 = 2 by omega)]
    go_enter Try.func19, Try.ntmps19
    go_wp2
    generalize hW1 : w.alloc (Obj.cells #[Value.int IntKind.u8 ↑d, Value.int IntKind.u64 ↑x, vs] 37) = W1
    have c1 : W1.drew.cell? ⟨w.heap.size, 1, none⟩ = some (.int .u64 (x : Int)) := cell_at_new (w := w) (w' := W1.drew) w.heap.size [.int .u8 (d : Int), .int .u64 (x : Int), vs] 37 (0, 0) rfl (by rw [← hW1]; exact below_drewN (Below.refl _ _) 1) 1 _ rfl
    have c2 : W1.drew.cell? ⟨w.heap.size, 2, none⟩ = some vs := cell_at_new (w := w) (w' := W1.drew) w.heap.size [.int .u8 (d : Int), .int .u64 (x : Int), vs] 37 (0, 0) rfl (by rw [← hW1]; exact below_drewN (Below.refl _ _) 1) 2 _ rfl
    have b1 : Below w.heap.size w W1.drew := below_drewN (by rw [← hW1]; exact (Below.refl _ _).alloc (Nat.le_refl _) _) 1
    have hlt : w.heap.size < W1.drew.heap.size := by rw [← hW1]; simp
    have hng : ¬ (w.heap.size = g) := by omega
    have r1 : Rs W1.drew base g s := Rd.grown hr (below_grownBy b1 none) (by simp)
    have t1 := ht.below b1
    clear hW1
    apply wp_region_draw_turn (fun k => k = g) (fun k W => match k with | 0 => Rs W base g s | _ => Rs W base g (rText s).2) (.eq _ :: .use (fun v W => Sl W v (bytes (rText s).1) ∧ ∀ k, v.ownBlock = some k → k ≠ g) :: .eq _ :: .eq _ :: .eq _ :: .eq _ :: .eq _ :: .eq _ :: []) (by kernel_rfl) (by kernel_rfl) (by kernel_rfl) ⟨fun v a b hc h => ⟨h.1.ch hc fun k hk e => h.2 k hk e, h.2⟩, trivial⟩ (fun k W W' hG h => by cases k <;> exact Rd.grown h (below_grownBy hG none) (by simp)) (r1)
    apply wpT_eq
    · intro W hW _
      unfold opT
      go_simp
      exact resT_eq_mk _ _ _
    simp only [Act.put, List.setIfInBounds_toArray, List.set_cons_zero, List.set_cons_succ]
    apply wpT_use
    · intro W hW hS hs
      have hgW := Rd.lt hS
      unfold opT
      go_simp
      refine resT_call ((get_text _ base g s hS hl).mono ?_)
      rintro e W2 ⟨v2, rfl, ho2, hr2, hg2⟩
      exact ⟨v2, rfl, ⟨Ch.of_grownBy hg2 (fun k hk => by cases hk; rfl), hr2⟩, ho2.sl, fun k hk => by have := (World.ownsRow.lt ho2 _ hk).1; omega⟩
    intro vt
    simp only [Act.put, List.setIfInBounds_toArray, List.set_cons_zero, List.set_cons_succ]
    apply wpT_eq
    · intro W hW hs
      have h1 := run_string_sl (P := Try.prog) 23 5 9 Try.underlying23 Try.underlying5 Try.underlying9 (hs _ (List.mem_cons_self ..) rfl).1
      unfold opT
      go_simp
      exact resT_eq_mk _ _ _
    simp only [Act.put, List.setIfInBounds_toArray, List.set_cons_zero, List.set_cons_succ]
    apply wpT_eq
    · intro W hW _
      unfold opT
      go_simp
      exact resT_eq_mk _ _ _
    simp only [Act.put, List.setIfInBounds_toArray, List.set_cons_zero, List.set_cons_succ]
    apply wpT_eq
    · intro W hW _
      have h1 := (hW.cell (p := ⟨w.heap.size, 2, none⟩) hlt hng).trans c2
      unfold opT
      go_simp
      exact resT_eq_mk _ _ _
    simp only [Act.put, List.setIfInBounds_toArray, List.set_cons_zero, List.set_cons_succ]
    apply wpT_eq
    · intro W hW _
      have h1 := run_string_sl (P := Try.prog) 23 5 9 Try.underlying23 Try.underlying5 Try.underlying9 (t1.chN hW hne)
      unfold opT
      go_simp
      exact resT_eq_mk _ _ _
    simp only [Act.put, List.setIfInBounds_toArray, List.set_cons_zero, List.set_cons_succ]
    apply wpT_eq
    · intro W hW _
      unfold opT
      go_simp
      exact resT_eq_mk _ _ _
    simp only [Act.put, List.setIfInBounds_toArray, List.set_cons_zero, List.set_cons_succ]
    apply wpT_eq
    · intro W hW _
      unfold opT
      go_simp
      exact resT_eq_mk _ _ _
    simp only [Act.put, List.setIfInBounds_toArray, List.set_cons_zero, List.set_cons_succ]
    apply wpT_nil
    intro W9 hW9 hS9 hsAll
    have gb : w.grownBy W9 (some g) := grownBy_trans (below_grownBy b1 _) hW9.grownBy
    clear c1 c2 b1 t1 r1
    go_wp2
    go_ret
    exact ⟨congrArg (fun b => Ending.returned (Value.bool b)) (dec_text _ _), hS9, gb⟩
end Go.Proofs.Ytiafpnibppjidaa
