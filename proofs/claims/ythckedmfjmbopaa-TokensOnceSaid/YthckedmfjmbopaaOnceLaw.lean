/-
  TokensOnce: at an epoch a token is held once at most. Every input (the law looks at up to 100 acts, stamps of up to 10 numbers); no conditions.
-/
import Derived.Test.YthckedmfjmbopaaTokGoes
import Derived.Test.YthckedmfjmbopaaTokActs
import Derived.Test.YthckedmfjmbopaaMaps
import Derived.Test.YthckedmfjmbopaaArr
import Derived.BigQuiet
set_option linter.unusedVariables false
namespace Go.Proofs.Ythckedmfjmbopaa
open Go.RowKit
open Go.Maps (Keyed keyOf_int_mk int_keyed)

theorem info_bool : (Try.prog.info? 4).map (fun i => (i.zero, i.size, i.bytes)) = some (some (.bool false), 1, 1) := by kernel_rfl
theorem make_u4 (w : World) : ∃ w', (Instr.makeSlice 28 (.int .i64 4) (.int .i64 4)).run Try.prog w = .ok (.slice (some ⟨w.heap.size, 0, none⟩) 4 4) w' ∧ Arr w' w.heap.size 4 27 (fun _ => .int .u64 0) ∧ Below w.heap.size w w' := by
  obtain ⟨i0, hi0, hz0, hz1, hz2⟩ := info_parts info_u64
  exact run_make_arr w 28 27 i0 _ 8 Try.underlying28 hi0 hz0 hz1 hz2 rfl 4 (by decide) (by decide)
theorem make_b4 (w : World) : ∃ w', (Instr.makeSlice 45 (.int .i64 4) (.int .i64 4)).run Try.prog w = .ok (.slice (some ⟨w.heap.size, 0, none⟩) 4 4) w' ∧ Arr w' w.heap.size 4 4 (fun _ => .bool false) ∧ Below w.heap.size w w' := by
  obtain ⟨i0, hi0, hz0, hz1, hz2⟩ := info_parts info_bool
  exact run_make_arr w 45 4 i0 _ 1 Try.underlying45 hi0 hz0 hz1 hz2 rfl 4 (by decide) (by decide)
theorem run_makeMap' (t : TypeId) (w : World) : (Instr.makeMap t none).run Try.prog w = .ok (.map (some w.heap.size)) (w.alloc (.map #[] 0)) := rfl
theorem K27 : Keyed Try.prog 27 := int_keyed Try.underlying27
theorem key27 (n : Nat) (hn : n < 2 ^ 64) : keyOf Try.prog 27 (.int .u64 (n : Int)) = some (.int .u64 (n : Int)) := by
  refine keyOf_int_mk Try.underlying27 ?_
  simp [Lit.wf, IntKind.min, IntKind.max, IntKind.bits, IntKind.signed]; omega

/-! ### The law, plainly -/
theorem ch_of_grown {w w' : World} {b c d : Nat} (h : w.grownBy w' (some b)) : Ch (fun j => j = c ∨ j = d ∨ j = b) w w' :=
  ⟨h.os, h.tape, h.output, h.size, fun k hk hn => h.block k hk (fun e => hn (.inr (.inr (by injection e))))⟩
theorem ch_two (w : World) (a b i j : Nat) (u v : Value) {ρ : Nat → Prop} (ha : ρ a) (hb : ρ b) : Ch ρ w ((w.setCell ⟨a, i, none⟩ u).setCell ⟨b, j, none⟩ v) :=
  ⟨rfl, rfl, rfl, by simp, fun k _ hn => by
    rw [Below.heap_setCell _ ⟨b, j, none⟩ _ k (fun e => hn (e ▸ hb)), Below.heap_setCell _ ⟨a, i, none⟩ _ k (fun e => hn (e ▸ ha))]⟩
structure OInv (T : Nat → Tok) (f : Lit → Lit) : Prop where
  out : ∀ r, r < 4 → (T r).out = (decide (0 < (T r).e) && !(T r).held)
  pos : ∀ r, r < 4 → (T r).held = true → 0 < (T r).e
  key : ∀ r, r < 4 → ∀ E, E * 4 + r < 2 ^ 64 → f (.int .u64 ((E * 4 + r : Nat) : Int)) = .bool true → E ≤ (T r).e
theorem OInv.zero : OInv (fun _ => tok0) (fun _ => .bool false) :=
  ⟨fun _ _ => rfl, fun _ _ h => (by cases h), fun _ _ _ _ h => (by cases h)⟩
theorem doesV_at (T : Nat → Tok) (x : ActD) (k : Nat) (hk : k < 4) (hr : x.r = (k : Int)) : doesV 4 T x = (updT T k (if x.d % 2 = 0 then inTok x.e x.f x.v (T k) else outTok x.e x.v (T k)).1, (if x.d % 2 = 0 then inTok x.e x.f x.v (T k) else outTok x.e x.v (T k)).2) := by
  have hin : 0 ≤ x.r ∧ x.r < 4 := by omega
  have e : x.r.toNat = k := by omega
  unfold doesV atR
  split <;> simp [e]
theorem doesV_off (T : Nat → Tok) (x : ActD) (hr : x.r < 0 ∨ 3 < x.r) : doesV 4 T x = (T, 1) := by
  have hin : ¬ (0 ≤ x.r ∧ x.r < 4) := by omega
  unfold doesV atR
  split <;> simp
theorem heldOf_at (T : Nat → Tok) (k : Nat) (hk : k < 4) : heldOf 4 T (k : Int) = T k := by unfold heldOf; rw [if_pos ⟨by omega, by omega⟩, Int.toNat_natCast]
/-- What a taken token was. -/
theorem in_ok {T : Tok} {e : Nat} {f v : List Nat} (h : (inTok e f v T).2 = 0) : T.held = false ∧ T.e < e ∧ leqV f v = true ∧ (inTok e f v T).1 = ⟨e, f, true, false⟩ := by
  unfold inTok at h ⊢
  split at h
  · cases h
  · rename_i h1
    split at h
    · cases h
    · rename_i h2
      rw [if_neg h1, if_neg h2]
      refine ⟨?_, by omega, by simpa using h2, rfl⟩
      cases hx : T.held <;> simp_all
theorem in_no {T : Tok} {e : Nat} {f v : List Nat} (h : (inTok e f v T).2 ≠ 0) : (inTok e f v T).1 = T := by
  unfold inTok at h ⊢
  split
  · rfl
  · split
    · rfl
    · rename_i h1 h2; rw [if_neg h1, if_neg h2] at h; exact absurd rfl h
theorem out_ok {T : Tok} {e : Nat} {v : List Nat} (h : (outTok e v T).2 = 0) : T.held = true ∧ T.e = e ∧ (outTok e v T).1 = ⟨e, v, false, true⟩ := by
  unfold outTok at h ⊢
  split at h
  · cases h
  · rename_i h1
    rw [if_neg h1]
    refine ⟨?_, by omega, rfl⟩
    cases hx : T.held <;> simp_all
theorem out_no {T : Tok} {e : Nat} {v : List Nat} (h : (outTok e v T).2 ≠ 0) : (outTok e v T).1 = T := by
  unfold outTok at h ⊢
  split
  · rfl
  · rename_i h1; rw [if_neg h1] at h; exact absurd rfl h
theorem OInv.take {T : Nat → Tok} {f f' : Lit → Lit} {r e : Nat} {F : List Nat} (h : OInv T f) (hr : r < 4) (he : (T r).e < e) (hk : ∀ l, l ≠ .int .u64 (((e * 4 + r) % 2 ^ 64 : Nat) : Int) → f' l = f l) :
    OInv (updT T r ⟨e, F, true, false⟩) f' := by
  refine ⟨fun s hs => ?_, fun s hs hh => ?_, fun s hs E hE hf => ?_⟩
  · by_cases hsr : s = r
    · subst hsr; simp [updT]
    · simpa [updT, hsr] using h.out s hs
  · by_cases hsr : s = r
    · subst hsr; simp [updT]; omega
    · simp [updT, hsr] at hh ⊢; exact h.pos s hs hh
  · by_cases hl : Lit.int .u64 ((E * 4 + s : Nat) : Int) = .int .u64 (((e * 4 + r) % 2 ^ 64 : Nat) : Int)
    · injection hl with _ hl
      have hl' : E * 4 + s = (e * 4 + r) % 2 ^ 64 := by exact_mod_cast hl
      have hsr : s = r := by omega
      subst hsr
      simp [updT]; omega
    · rw [hk _ hl] at hf
      have := h.key s hs E hE hf
      by_cases hsr : s = r
      · subst hsr; simp [updT]; omega
      · simp [updT, hsr]; exact this
theorem OInv.give {T : Nat → Tok} {f : Lit → Lit} {r : Nat} {F : List Nat} (h : OInv T f) (hr : r < 4) (hh : (T r).held = true) : OInv (updT T r ⟨(T r).e, F, false, true⟩) f := by
  refine ⟨fun s hs => ?_, fun s hs hh => ?_, fun s hs E hE hf => ?_⟩
  · by_cases hsr : s = r
    · subst hsr; simp [updT]; exact h.pos s hs hh
    · simpa [updT, hsr] using h.out s hs
  · by_cases hsr : s = r
    · subst hsr; simp [updT] at hh
    · simp [updT, hsr] at hh ⊢; exact h.pos s hs hh
  · have := h.key s hs E hE hf
    by_cases hsr : s = r
    · subst hsr; simpa [updT] using this
    · simpa [updT, hsr] using this

set_option maxRecDepth 100000 in
set_option maxHeartbeats 20000000 in
theorem once_walk (w : World) (va : Value) (la : List ActD) (h : Acts w va la) (hl : la.length ≤ maxLen) :
    Calls Try.prog 4 #[va] w fun e w' => e = .returned (.bool true) ∧ Below w.heap.size w w' := by
  obtain ⟨a, cap, rfl⟩ : ∃ a cap, va = .slice a la.length cap := by obtain ⟨R, ⟨a, cap, e, _⟩, _⟩ := h; exact ⟨a, cap, e⟩
  cases hgr : greatV la with
  | true =>
    go_enter Try.func4, Try.ntmps4
    go_wp2_with fail
    refine (great_any _ _ la h hl).mono ?_
    rintro e w' ⟨rfl, rfl⟩
    rw [hgr]
    go_wp2
    go_ret
    exact ⟨rfl, Below.refl _ _⟩
  | false =>
  obtain ⟨h100, hsm⟩ := greatV_small hgr
  have h' := h
  have HS := Lib.hid hsm
  have H := Lib.hid h
  clear hsm
  go_enter Try.func4, Try.ntmps4
  go_wp2_with fail
  refine (great_any _ _ la h' hl).mono ?_
  rintro e w' ⟨rfl, rfl⟩
  rw [hgr]
  clear h h' hgr hl
  go_wp2_with fail
  refine (new_any _ 4 (by decide) (by decide)).mono ?_
  rintro e w1 ⟨g, rfl, hg, tt, b1⟩
  rw [show regions 4 = 4 from rfl] at tt
  obtain ⟨w2, m2, ae, b2⟩ := make_u4 w1
  obtain ⟨w3, m3, ah, b3⟩ := make_b4 w2
  have hmm := run_makeMap' 46 w3
  have b4 : Below w3.heap.size w3 (w3.alloc (.map #[] 0)) := below_a _ _
  have mp := MapIs.made w3 27 4 (.bool false)
  generalize w3.alloc (.map #[] 0) = w4 at *
  have hgl := tt.lt
  have hel := ae.lt
  have hhl := ah.lt
  have hml := mp.lt
  replace tt := ((tt.below b2).below b3).below b4
  replace ae := (ae.below b3).below b4
  replace ah := ah.below b4
  have bb := step0 (step0 (step0 b1 b2) b3) b4
  go_wp2
  clear m2 m3 hmm b1 b2 b3 b4
  have n1 : g < w1.heap.size := hgl
  have n2 : w1.heap.size < w2.heap.size := hel
  have n3 : w2.heap.size < w3.heap.size := hhl
  generalize w1.heap.size = ge at *
  generalize w2.heap.size = gh at *
  generalize w3.heap.size = gm at *
  have n0 : w.heap.size ≤ g := hg
  clear hgl hel hhl hml hg
  go_loopw [7, 8, 9, 10, 11, 12, 13, 14, 15, 16] (fun i s8 s9 s10 s11 s12 s13 s14 s15 s16 wr => ∃ (k : Nat) (T : Nat → Tok) (ba : Nat → Prop) (f : Lit → Lit), k ≤ la.length ∧ i = .int .i64 k ∧ Tab wr ba g 4 T ∧ (∀ j, ba j → j ≠ ge ∧ j ≠ gh ∧ j ≠ gm) ∧ Arr wr ge 4 27 (fun r => .int .u64 ((T r).e : Int)) ∧ Arr wr gh 4 4 (fun r => .bool (T r).held) ∧ MapIs wr 27 4 gm k (.bool false) f ∧ OInv T f ∧ Below w.heap.size w wr) (fun i _ _ _ _ _ _ _ _ _ _ => la.length - (intOf i).toNat)
  case atStart => exact ⟨0, _, _, _, Nat.zero_le _, rfl, tt, fun _ h => h.elim, ae, ah, mp, OInv.zero, bb⟩
  case round =>
    clear tt ae ah mp bb
    obtain ⟨k, T, ba, f, hk, rfl, tt, hba, ae, ah, mp, inv, br⟩ := hrel
    obtain ⟨wo, rfl⟩ : ∃ wo : World, wo = wr := ⟨_, rfl⟩
    have INV := Lib.hid inv
    clear inv
    by_cases hlt : k < la.length
    · obtain ⟨hlf, hlv⟩ := HS.out k hlt
      obtain ⟨B, o, fa, fc, va, vc, rfl, hB, c0, c1, c2, c3, c4, sf, sv, hd, hr1, hr2, he⟩ := H.out.row k hlt
      obtain ⟨x, hx⟩ : ∃ x, x = la[k] := ⟨_, rfl⟩
      rw [← hx] at hlf hlv c0 c1 c2 c3 c4 hd hr1 hr2 he sf sv
      have d0 := (br.cell (p := ⟨B, o + k * 5, none⟩) hB).trans c0
      have d1 := (br.cell (p := ⟨B, o + k * 5 + 1, none⟩) hB).trans c1
      have d2 := (br.cell (p := ⟨B, o + k * 5 + 2, none⟩) hB).trans c2
      have d3 := (br.cell (p := ⟨B, o + k * 5 + 3, none⟩) hB).trans c3
      have d4 := (br.cell (p := ⟨B, o + k * 5 + 4, none⟩) hB).trans c4
      have lf : x.f.length ≤ 1000000 := by omega
      have lv : x.v.length ≤ 1000000 := by omega
      have i1 : (0 : Int) ≤ (k : Int) := by omega
      have i2 : (k : Int) < (la.length : Int) := by omega
      clear hx c0 c1 c2 c3 c4
      have gA : Gr wo (wo.alloc (.cells #[.int .u8 (x.d : Int), .int .i64 x.r, .int .u64 (x.e : Int), .slice fa x.f.length fc, .slice va x.v.length vc] 30)) := below_a _ _
      have sf1 := (sf.below br).below gA
      have sv1 := (sv.below br).below gA
      have tt1 := tt.below gA
      go_wp2_with fail
      refine (does_any _ ba g 4 T x _ _ tt1 (by decide) sf1 sv1 lf lv hd he).mono ?_
      rintro en w5 ⟨rfl, ch, base', ta, hba'⟩
      have br5 : Below w.heap.size w w5 := br.trans (((Ch.of_gr gA).trans ch).below br.size (by rintro j rfl; exact n0))
      have hgw := tt.lt
      have ae5 := (ae.below gA).ch ch (by show ge ≠ g; omega)
      have ah5 := (ah.below gA).ch ch (by show gh ≠ g; omega)
      have hml := mp.lt
      have mp5 := (mp.below gA).block (ch.block gm (by rw [World.size_alloc]; omega) (by show gm ≠ g; omega))
      have hbx : wo.heap.size < w5.heap.size := Nat.lt_of_lt_of_le (by simp) ch.size
      have hnew : ∀ i, w5.cell? ⟨wo.heap.size, i, none⟩ = (#[.int .u8 (x.d : Int), .int .i64 x.r, .int .u64 (x.e : Int), .slice fa x.f.length fc, .slice va x.v.length vc] : Array Value)[i]? := fun i => by
        have hb := ch.block wo.heap.size (by simp) (by show wo.heap.size ≠ g; omega)
        rw [cell_of_row w5 wo.heap.size i _ 30 (0, 0) (hb.trans (heap_alloc_new wo _))]
      have e0 : w5.cell? ⟨wo.heap.size, 0, none⟩ = some (.int .u8 (x.d : Int)) := hnew 0
      have e1 : w5.cell? ⟨wo.heap.size, 1, none⟩ = some (.int .i64 x.r) := hnew 1
      have e2 : w5.cell? ⟨wo.heap.size, 2, none⟩ = some (.int .u64 (x.e : Int)) := hnew 2
      have e3 : w5.cell? ⟨wo.heap.size, 3, none⟩ = some (.slice fa x.f.length fc) := hnew 3
      have e4 : w5.cell? ⟨wo.heap.size, 4, none⟩ = some (.slice va x.v.length vc) := hnew 4
      have hba5 : ∀ j, base' j → j ≠ ge ∧ j ≠ gh ∧ j ≠ gm := fun j hj => (hba' j hj).elim (hba j) (fun h => by rw [World.size_alloc] at *; have := ae.lt; have := ah.lt; omega)
      have sf5 := sf.below br5
      have sv5 := sv.below br5
      have hgw5 := ta.lt
      have hge5 := ae5.lt
      have hgh5 := ah5.lt
      have hgm5 := mp5.lt
      have hne1 : wo.heap.size ≠ ge := by have := ae.lt; omega
      have hne2 : wo.heap.size ≠ gh := by have := ah.lt; omega
      have hne3 : wo.heap.size ≠ gm := by omega
      generalize wo.heap.size = bx at *
      clear sf1 sv1 tt1 ch hba' hba gA d0 d1 d2 d3 d4 hnew ae ah mp tt br sf sv
      by_cases hin : 0 ≤ x.r ∧ x.r < 4
      · obtain ⟨r, hr⟩ := Int.eq_ofNat_of_zero_le hin.1
        have hr4 : r < 4 := by omega
        have hdv := doesV_at T x r hr4 hr
        rw [hr] at e1
        have ri1 : (0 : Int) ≤ (r : Int) := by omega
        have ri2 : (r : Int) < 4 := by omega
        by_cases h2 : x.d % 2 = 0
        · rw [if_pos h2] at hdv
          rw [hdv] at ta ⊢
          have hm : ((x.d : Int) % 2 == 0) = true := by simp; omega
          have hm1 : ((x.d : Int) % 2 == 1) = false := by simp; omega
          by_cases hc : (inTok x.e x.f x.v (T r)).2 = 0
          · as_aux_lemma =>
            obtain ⟨p1, p2, p3, p4⟩ := in_ok hc
            rw [hc]
            rw [p4] at ta
            simp only at ta
            have eh : w5.cell? ⟨gh, r, none⟩ = some (.bool false) := by rw [ah5.cell r hr4, p1]
            have ee : w5.cell? ⟨ge, r, none⟩ = some (.int .u64 ((T r).e : Int)) := ae5.cell r hr4
            obtain ⟨kk, hkd⟩ : ∃ kk : Nat, kk = (x.e * 4 + r) % 2 ^ 64 := ⟨_, rfl⟩
            have HKD := Lib.hid hkd
            have hkk : kk < 2 ^ 64 := by rw [hkd]; exact Nat.mod_lt _ (by decide)
            obtain ⟨c, hfc, hlk⟩ := run_lookup_bool w5 K27 Try.underlying46 Try.underlying4 rfl mp5 (key27 kk hkk)
            have hkey : IntKind.u64.wrap (IntKind.u64.wrap ((x.e : Int) * 4) + (r : Int)) = (kk : Int) := by rw [hkd]; simp [IntKind.wrap, IntKind.bits, IntKind.signed]
            clear hkd
            have HDV := Lib.hid hdv
            clear hdv
            go_wp2_with fail
            obtain ⟨b, hb⟩ : ∃ b, decide ((x.e : Int) < 1152921504606846976) = b := ⟨_, rfl⟩
            have hle : decide ((x.e : Int) ≤ ((T r).e : Int)) = false := by simp; omega
            have hbc : b = true → c = false := by
              intro hbt
              rw [hbt] at hb
              have hlt60 : x.e < 1152921504606846976 := by have := of_decide_eq_true hb; omega
              cases hcc : c with
              | false => rfl
              | true =>
                rw [hcc, HKD.out, Nat.mod_eq_of_lt (by omega)] at hfc
                have := INV.out.key r hr4 x.e (by omega) hfc
                omega
            have LK : ∀ W, Gr w5 W → (Instr.lookup 46 (.map (some gm)) (.int .u64 (kk : Int)) false).run Try.prog W = .ok (.bool c) W := by
              intro W hW
              obtain ⟨c', h1, h2⟩ := run_lookup_bool W K27 Try.underlying46 Try.underlying4 rfl (mp5.below hW) (key27 kk hkk)
              have h3 := Lit.bool.inj (hfc.symm.trans h1)
              rw [h3]; exact h2
            have HFC := Lib.hid hfc
            have LKH := Lib.hid LK
            clear hfc hlk LK hkey
            apply wp_region_draw_grow (.eq _ :: .eq _ :: .eq _ :: .eq _ :: .eq _ :: .eq _ :: .eq _ :: .eq _ :: .eq _ :: .eq _ :: .eq _ :: .eq _ :: .eq _ :: .eq _ :: .eq _ :: .eq _ :: .eq _ :: .eq _ :: .eq _ :: .eq _ :: .ok (fun v _ => b = true → v = .map (some gm)) :: .ok (fun v _ => b = true → v = .int .u64 (kk : Int)) :: .ok (fun v _ => b = true → v = .bool false) :: .eq (.bool false) :: .eq _ :: .eq _ :: .eq _ :: .eq _ :: .eq _ :: .eq _ :: .eq _ :: .eq _ :: .eq _ :: []) (by kernel_rfl) (by kernel_rfl) ⟨(fun _ _ _ _ h => h), (fun _ _ _ _ h => h), (fun _ _ _ _ h => h), trivial⟩
            apply wpG_eq
            · intro W hW hs
              have hW := Gr.trans ((Gr.refl w5).drew) hW
              have q1 := (hW.cell (p := ⟨bx, 1, none⟩) hbx).trans e1
              have q2 := (hW.cell (p := ⟨bx, 2, none⟩) hbx).trans e2
              have q3 := (hW.cell (p := ⟨bx, 3, none⟩) hbx).trans e3
              have q4 := (hW.cell (p := ⟨bx, 4, none⟩) hbx).trans e4
              have q5 := (hW.cell (p := ⟨gh, r, none⟩) hgh5).trans eh
              have q6 := (hW.cell (p := ⟨ge, r, none⟩) hge5).trans ee
              unfold opG
              go_simp
              first | exact resG_eq_mk _ _ _ | rfl
            simp only [Act.put, List.setIfInBounds_toArray, List.set_cons_zero, List.set_cons_succ]
            apply wpG_eq
            · intro W hW hs
              have hW := Gr.trans ((Gr.refl w5).drew) hW
              have q1 := (hW.cell (p := ⟨bx, 1, none⟩) hbx).trans e1
              have q2 := (hW.cell (p := ⟨bx, 2, none⟩) hbx).trans e2
              have q3 := (hW.cell (p := ⟨bx, 3, none⟩) hbx).trans e3
              have q4 := (hW.cell (p := ⟨bx, 4, none⟩) hbx).trans e4
              have q5 := (hW.cell (p := ⟨gh, r, none⟩) hgh5).trans eh
              have q6 := (hW.cell (p := ⟨ge, r, none⟩) hge5).trans ee
              unfold opG
              go_simp
              first | exact resG_eq_mk _ _ _ | rfl
            simp only [Act.put, List.setIfInBounds_toArray, List.set_cons_zero, List.set_cons_succ]
            apply wpG_eq
            · intro W hW hs
              have hW := Gr.trans ((Gr.refl w5).drew) hW
              have q1 := (hW.cell (p := ⟨bx, 1, none⟩) hbx).trans e1
              have q2 := (hW.cell (p := ⟨bx, 2, none⟩) hbx).trans e2
              have q3 := (hW.cell (p := ⟨bx, 3, none⟩) hbx).trans e3
              have q4 := (hW.cell (p := ⟨bx, 4, none⟩) hbx).trans e4
              have q5 := (hW.cell (p := ⟨gh, r, none⟩) hgh5).trans eh
              have q6 := (hW.cell (p := ⟨ge, r, none⟩) hge5).trans ee
              unfold opG
              go_simp
              first | exact resG_eq_mk _ _ _ | rfl
            simp only [Act.put, List.setIfInBounds_toArray, List.set_cons_zero, List.set_cons_succ]
            apply wpG_eq
            · intro W hW hs
              have hW := Gr.trans ((Gr.refl w5).drew) hW
              have q1 := (hW.cell (p := ⟨bx, 1, none⟩) hbx).trans e1
              have q2 := (hW.cell (p := ⟨bx, 2, none⟩) hbx).trans e2
              have q3 := (hW.cell (p := ⟨bx, 3, none⟩) hbx).trans e3
              have q4 := (hW.cell (p := ⟨bx, 4, none⟩) hbx).trans e4
              have q5 := (hW.cell (p := ⟨gh, r, none⟩) hgh5).trans eh
              have q6 := (hW.cell (p := ⟨ge, r, none⟩) hge5).trans ee
              unfold opG
              go_simp
              first | exact resG_eq_mk _ _ _ | rfl
            simp only [Act.put, List.setIfInBounds_toArray, List.set_cons_zero, List.set_cons_succ]
            apply wpG_eq
            · intro W hW hs
              have hW := Gr.trans ((Gr.refl w5).drew) hW
              have q1 := (hW.cell (p := ⟨bx, 1, none⟩) hbx).trans e1
              have q2 := (hW.cell (p := ⟨bx, 2, none⟩) hbx).trans e2
              have q3 := (hW.cell (p := ⟨bx, 3, none⟩) hbx).trans e3
              have q4 := (hW.cell (p := ⟨bx, 4, none⟩) hbx).trans e4
              have q5 := (hW.cell (p := ⟨gh, r, none⟩) hgh5).trans eh
              have q6 := (hW.cell (p := ⟨ge, r, none⟩) hge5).trans ee
              unfold opG
              go_simp
              first | exact resG_eq_mk _ _ _ | rfl
            simp only [Act.put, List.setIfInBounds_toArray, List.set_cons_zero, List.set_cons_succ]
            apply wpG_eq
            · intro W hW hs
              have hW := Gr.trans ((Gr.refl w5).drew) hW
              have q1 := (hW.cell (p := ⟨bx, 1, none⟩) hbx).trans e1
              have q2 := (hW.cell (p := ⟨bx, 2, none⟩) hbx).trans e2
              have q3 := (hW.cell (p := ⟨bx, 3, none⟩) hbx).trans e3
              have q4 := (hW.cell (p := ⟨bx, 4, none⟩) hbx).trans e4
              have q5 := (hW.cell (p := ⟨gh, r, none⟩) hgh5).trans eh
              have q6 := (hW.cell (p := ⟨ge, r, none⟩) hge5).trans ee
              unfold opG
              go_simp
              first | exact resG_eq_mk _ _ _ | rfl
            simp only [Act.put, List.setIfInBounds_toArray, List.set_cons_zero, List.set_cons_succ]
            apply wpG_eq
            · intro W hW hs
              have hW := Gr.trans ((Gr.refl w5).drew) hW
              have q1 := (hW.cell (p := ⟨bx, 1, none⟩) hbx).trans e1
              have q2 := (hW.cell (p := ⟨bx, 2, none⟩) hbx).trans e2
              have q3 := (hW.cell (p := ⟨bx, 3, none⟩) hbx).trans e3
              have q4 := (hW.cell (p := ⟨bx, 4, none⟩) hbx).trans e4
              have q5 := (hW.cell (p := ⟨gh, r, none⟩) hgh5).trans eh
              have q6 := (hW.cell (p := ⟨ge, r, none⟩) hge5).trans ee
              unfold opG
              go_simp
              first | exact resG_eq_mk _ _ _ | rfl
            simp only [Act.put, List.setIfInBounds_toArray, List.set_cons_zero, List.set_cons_succ]
            apply wpG_eq
            · intro W hW hs
              have hW := Gr.trans ((Gr.refl w5).drew) hW
              have q1 := (hW.cell (p := ⟨bx, 1, none⟩) hbx).trans e1
              have q2 := (hW.cell (p := ⟨bx, 2, none⟩) hbx).trans e2
              have q3 := (hW.cell (p := ⟨bx, 3, none⟩) hbx).trans e3
              have q4 := (hW.cell (p := ⟨bx, 4, none⟩) hbx).trans e4
              have q5 := (hW.cell (p := ⟨gh, r, none⟩) hgh5).trans eh
              have q6 := (hW.cell (p := ⟨ge, r, none⟩) hge5).trans ee
              unfold opG
              go_simp
              first | exact resG_eq_mk _ _ _ | rfl
            simp only [Act.put, List.setIfInBounds_toArray, List.set_cons_zero, List.set_cons_succ]
            apply wpG_eq
            · intro W hW hs
              have hW := Gr.trans ((Gr.refl w5).drew) hW
              have q1 := (hW.cell (p := ⟨bx, 1, none⟩) hbx).trans e1
              have q2 := (hW.cell (p := ⟨bx, 2, none⟩) hbx).trans e2
              have q3 := (hW.cell (p := ⟨bx, 3, none⟩) hbx).trans e3
              have q4 := (hW.cell (p := ⟨bx, 4, none⟩) hbx).trans e4
              have q5 := (hW.cell (p := ⟨gh, r, none⟩) hgh5).trans eh
              have q6 := (hW.cell (p := ⟨ge, r, none⟩) hge5).trans ee
              unfold opG
              go_simp
              first | exact resG_eq_mk _ _ _ | rfl
            simp only [Act.put, List.setIfInBounds_toArray, List.set_cons_zero, List.set_cons_succ]
            apply wpG_eq
            · intro W hW hs
              have hW := Gr.trans ((Gr.refl w5).drew) hW
              have q1 := (hW.cell (p := ⟨bx, 1, none⟩) hbx).trans e1
              have q2 := (hW.cell (p := ⟨bx, 2, none⟩) hbx).trans e2
              have q3 := (hW.cell (p := ⟨bx, 3, none⟩) hbx).trans e3
              have q4 := (hW.cell (p := ⟨bx, 4, none⟩) hbx).trans e4
              have q5 := (hW.cell (p := ⟨gh, r, none⟩) hgh5).trans eh
              have q6 := (hW.cell (p := ⟨ge, r, none⟩) hge5).trans ee
              unfold opG
              go_simp
              first | exact resG_eq_mk _ _ _ | rfl
            simp only [Act.put, List.setIfInBounds_toArray, List.set_cons_zero, List.set_cons_succ]
            apply wpG_eq
            · intro W hW hs
              have hW := Gr.trans ((Gr.refl w5).drew) hW
              have q1 := (hW.cell (p := ⟨bx, 1, none⟩) hbx).trans e1
              have q2 := (hW.cell (p := ⟨bx, 2, none⟩) hbx).trans e2
              have q3 := (hW.cell (p := ⟨bx, 3, none⟩) hbx).trans e3
              have q4 := (hW.cell (p := ⟨bx, 4, none⟩) hbx).trans e4
              have q5 := (hW.cell (p := ⟨gh, r, none⟩) hgh5).trans eh
              have q6 := (hW.cell (p := ⟨ge, r, none⟩) hge5).trans ee
              unfold opG
              go_simp
              first | exact resG_eq_mk _ _ _ | rfl
            simp only [Act.put, List.setIfInBounds_toArray, List.set_cons_zero, List.set_cons_succ]
            apply wpG_eq
            · intro W hW hs
              have hW := Gr.trans ((Gr.refl w5).drew) hW
              have q1 := (hW.cell (p := ⟨bx, 1, none⟩) hbx).trans e1
              have q2 := (hW.cell (p := ⟨bx, 2, none⟩) hbx).trans e2
              have q3 := (hW.cell (p := ⟨bx, 3, none⟩) hbx).trans e3
              have q4 := (hW.cell (p := ⟨bx, 4, none⟩) hbx).trans e4
              have q5 := (hW.cell (p := ⟨gh, r, none⟩) hgh5).trans eh
              have q6 := (hW.cell (p := ⟨ge, r, none⟩) hge5).trans ee
              unfold opG
              go_simp
              first | exact resG_eq_mk _ _ _ | rfl
            simp only [Act.put, List.setIfInBounds_toArray, List.set_cons_zero, List.set_cons_succ]
            apply wpG_eq
            · intro W hW hs
              have hW := Gr.trans ((Gr.refl w5).drew) hW
              have q1 := (hW.cell (p := ⟨bx, 1, none⟩) hbx).trans e1
              have q2 := (hW.cell (p := ⟨bx, 2, none⟩) hbx).trans e2
              have q3 := (hW.cell (p := ⟨bx, 3, none⟩) hbx).trans e3
              have q4 := (hW.cell (p := ⟨bx, 4, none⟩) hbx).trans e4
              have q5 := (hW.cell (p := ⟨gh, r, none⟩) hgh5).trans eh
              have q6 := (hW.cell (p := ⟨ge, r, none⟩) hge5).trans ee
              unfold opG
              go_simp
              first | exact resG_eq_mk _ _ _ | rfl
            simp only [Act.put, List.setIfInBounds_toArray, List.set_cons_zero, List.set_cons_succ]
            apply wpG_eq
            · intro W hW hs
              have hW := Gr.trans ((Gr.refl w5).drew) hW
              have q1 := (hW.cell (p := ⟨bx, 1, none⟩) hbx).trans e1
              have q2 := (hW.cell (p := ⟨bx, 2, none⟩) hbx).trans e2
              have q3 := (hW.cell (p := ⟨bx, 3, none⟩) hbx).trans e3
              have q4 := (hW.cell (p := ⟨bx, 4, none⟩) hbx).trans e4
              have q5 := (hW.cell (p := ⟨gh, r, none⟩) hgh5).trans eh
              have q6 := (hW.cell (p := ⟨ge, r, none⟩) hge5).trans ee
              unfold opG
              go_simp
              first | exact resG_eq_mk _ _ _ | rfl
            simp only [Act.put, List.setIfInBounds_toArray, List.set_cons_zero, List.set_cons_succ]
            try rw [hle]
            apply wpG_eq
            · intro W hW hs
              have hW := Gr.trans ((Gr.refl w5).drew) hW
              have q1 := (hW.cell (p := ⟨bx, 1, none⟩) hbx).trans e1
              have q2 := (hW.cell (p := ⟨bx, 2, none⟩) hbx).trans e2
              have q3 := (hW.cell (p := ⟨bx, 3, none⟩) hbx).trans e3
              have q4 := (hW.cell (p := ⟨bx, 4, none⟩) hbx).trans e4
              have q5 := (hW.cell (p := ⟨gh, r, none⟩) hgh5).trans eh
              have q6 := (hW.cell (p := ⟨ge, r, none⟩) hge5).trans ee
              unfold opG
              go_simp
              first | exact resG_eq_mk _ _ _ | rfl
            simp only [Act.put, List.setIfInBounds_toArray, List.set_cons_zero, List.set_cons_succ]
            apply wpG_eq
            · intro W hW hs
              have hW := Gr.trans ((Gr.refl w5).drew) hW
              have q1 := (hW.cell (p := ⟨bx, 1, none⟩) hbx).trans e1
              have q2 := (hW.cell (p := ⟨bx, 2, none⟩) hbx).trans e2
              have q3 := (hW.cell (p := ⟨bx, 3, none⟩) hbx).trans e3
              have q4 := (hW.cell (p := ⟨bx, 4, none⟩) hbx).trans e4
              have q5 := (hW.cell (p := ⟨gh, r, none⟩) hgh5).trans eh
              have q6 := (hW.cell (p := ⟨ge, r, none⟩) hge5).trans ee
              unfold opG
              go_simp
              first | exact resG_eq_mk _ _ _ | rfl
            simp only [Act.put, List.setIfInBounds_toArray, List.set_cons_zero, List.set_cons_succ]
            apply wpG_eq
            · intro W hW hs
              have hW := Gr.trans ((Gr.refl w5).drew) hW
              have q1 := (hW.cell (p := ⟨bx, 1, none⟩) hbx).trans e1
              have q2 := (hW.cell (p := ⟨bx, 2, none⟩) hbx).trans e2
              have q3 := (hW.cell (p := ⟨bx, 3, none⟩) hbx).trans e3
              have q4 := (hW.cell (p := ⟨bx, 4, none⟩) hbx).trans e4
              have q5 := (hW.cell (p := ⟨gh, r, none⟩) hgh5).trans eh
              have q6 := (hW.cell (p := ⟨ge, r, none⟩) hge5).trans ee
              unfold opG
              go_simp
              first | exact resG_eq_mk _ _ _ | rfl
            simp only [Act.put, List.setIfInBounds_toArray, List.set_cons_zero, List.set_cons_succ]
            apply wpG_eq
            · intro W hW hs
              have hW := Gr.trans ((Gr.refl w5).drew) hW
              have q1 := (hW.cell (p := ⟨bx, 1, none⟩) hbx).trans e1
              have q2 := (hW.cell (p := ⟨bx, 2, none⟩) hbx).trans e2
              have q3 := (hW.cell (p := ⟨bx, 3, none⟩) hbx).trans e3
              have q4 := (hW.cell (p := ⟨bx, 4, none⟩) hbx).trans e4
              have q5 := (hW.cell (p := ⟨gh, r, none⟩) hgh5).trans eh
              have q6 := (hW.cell (p := ⟨ge, r, none⟩) hge5).trans ee
              unfold opG
              go_simp
              first | exact resG_eq_mk _ _ _ | rfl
            simp only [Act.put, List.setIfInBounds_toArray, List.set_cons_zero, List.set_cons_succ]
            apply wpG_eq
            · intro W hW hs
              have hW := Gr.trans ((Gr.refl w5).drew) hW
              have q1 := (hW.cell (p := ⟨bx, 1, none⟩) hbx).trans e1
              have q2 := (hW.cell (p := ⟨bx, 2, none⟩) hbx).trans e2
              have q3 := (hW.cell (p := ⟨bx, 3, none⟩) hbx).trans e3
              have q4 := (hW.cell (p := ⟨bx, 4, none⟩) hbx).trans e4
              have q5 := (hW.cell (p := ⟨gh, r, none⟩) hgh5).trans eh
              have q6 := (hW.cell (p := ⟨ge, r, none⟩) hge5).trans ee
              unfold opG
              go_simp
              first | exact resG_eq_mk _ _ _ | rfl
            simp only [Act.put, List.setIfInBounds_toArray, List.set_cons_zero, List.set_cons_succ]
            try rw [hb]
            apply wpG_eq
            · intro W hW hs
              have hW := Gr.trans ((Gr.refl w5).drew) hW
              have q1 := (hW.cell (p := ⟨bx, 1, none⟩) hbx).trans e1
              have q2 := (hW.cell (p := ⟨bx, 2, none⟩) hbx).trans e2
              have q3 := (hW.cell (p := ⟨bx, 3, none⟩) hbx).trans e3
              have q4 := (hW.cell (p := ⟨bx, 4, none⟩) hbx).trans e4
              have q5 := (hW.cell (p := ⟨gh, r, none⟩) hgh5).trans eh
              have q6 := (hW.cell (p := ⟨ge, r, none⟩) hge5).trans ee
              unfold opG
              go_simp
              first | exact resG_eq_mk _ _ _ | rfl
            simp only [Act.put, List.setIfInBounds_toArray, List.set_cons_zero, List.set_cons_succ]
            apply wpG_ok
            · intro W hW hs
              unfold opG
              cases b
              · first | (go_simp; done) | (go_simp; exact fun h => by cases h)
              · go_simp
                exact resG_mk (Gr.refl _) (by first | rfl | exact fun _ => rfl)
            intro v21
            simp only [Act.put, List.setIfInBounds_toArray, List.set_cons_zero, List.set_cons_succ]
            apply wpG_ok
            · intro W hW hs
              unfold opG
              cases b
              · first | (go_simp; done) | (go_simp; exact fun h => by cases h)
              · go_simp
                exact resG_mk (Gr.refl _) (by first | rfl | exact fun _ => rfl)
            intro v22
            simp only [Act.put, List.setIfInBounds_toArray, List.set_cons_zero, List.set_cons_succ]
            apply wpG_ok
            · intro W hW hs
              have k1 := hs _ (.tail _ (.head _)) rfl
              have k2 := hs _ (.head _) rfl
              unfold opG
              cases b
              · first | (go_simp; done) | (go_simp; exact fun h => by cases h)
              · rw [k1 rfl, k2 rfl]
                have q9 := LKH.out W (Gr.trans ((Gr.refl w5).drew) hW)
                rw [hbc rfl] at q9
                go_simp
                exact resG_mk (Gr.refl _) (by first | rfl | exact fun _ => rfl)
            intro v23
            simp only [Act.put, List.setIfInBounds_toArray, List.set_cons_zero, List.set_cons_succ]
            apply wpG_eq
            · intro W hW hs
              have k3 := hs _ (.head _) rfl
              unfold opG
              cases b
              · go_simp
                exact resG_eq_mk _ _ (.bool false)
              · rw [k3 rfl]
                go_simp
                exact resG_eq_mk _ _ (.bool false)
            simp only [Act.put, List.setIfInBounds_toArray, List.set_cons_zero, List.set_cons_succ]
            apply wpG_eq
            · intro W hW hs
              have hW := Gr.trans ((Gr.refl w5).drew) hW
              have q1 := (hW.cell (p := ⟨bx, 1, none⟩) hbx).trans e1
              have q2 := (hW.cell (p := ⟨bx, 2, none⟩) hbx).trans e2
              have q3 := (hW.cell (p := ⟨bx, 3, none⟩) hbx).trans e3
              have q4 := (hW.cell (p := ⟨bx, 4, none⟩) hbx).trans e4
              have q5 := (hW.cell (p := ⟨gh, r, none⟩) hgh5).trans eh
              have q6 := (hW.cell (p := ⟨ge, r, none⟩) hge5).trans ee
              unfold opG
              go_simp
              first | exact resG_eq_mk _ _ _ | rfl
            simp only [Act.put, List.setIfInBounds_toArray, List.set_cons_zero, List.set_cons_succ]
            apply wpG_eq
            · intro W hW hs
              have hW := Gr.trans ((Gr.refl w5).drew) hW
              have q1 := (hW.cell (p := ⟨bx, 1, none⟩) hbx).trans e1
              have q2 := (hW.cell (p := ⟨bx, 2, none⟩) hbx).trans e2
              have q3 := (hW.cell (p := ⟨bx, 3, none⟩) hbx).trans e3
              have q4 := (hW.cell (p := ⟨bx, 4, none⟩) hbx).trans e4
              have q5 := (hW.cell (p := ⟨gh, r, none⟩) hgh5).trans eh
              have q6 := (hW.cell (p := ⟨ge, r, none⟩) hge5).trans ee
              unfold opG
              go_simp
              first | exact resG_eq_mk _ _ _ | rfl
            simp only [Act.put, List.setIfInBounds_toArray, List.set_cons_zero, List.set_cons_succ]
            apply wpG_eq
            · intro W hW hs
              have hW := Gr.trans ((Gr.refl w5).drew) hW
              have q1 := (hW.cell (p := ⟨bx, 1, none⟩) hbx).trans e1
              have q2 := (hW.cell (p := ⟨bx, 2, none⟩) hbx).trans e2
              have q3 := (hW.cell (p := ⟨bx, 3, none⟩) hbx).trans e3
              have q4 := (hW.cell (p := ⟨bx, 4, none⟩) hbx).trans e4
              have q5 := (hW.cell (p := ⟨gh, r, none⟩) hgh5).trans eh
              have q6 := (hW.cell (p := ⟨ge, r, none⟩) hge5).trans ee
              unfold opG
              go_simp
              first | exact resG_eq_mk _ _ _ | rfl
            simp only [Act.put, List.setIfInBounds_toArray, List.set_cons_zero, List.set_cons_succ]
            apply wpG_eq
            · intro W hW hs
              have hW := Gr.trans ((Gr.refl w5).drew) hW
              have q1 := (hW.cell (p := ⟨bx, 1, none⟩) hbx).trans e1
              have q2 := (hW.cell (p := ⟨bx, 2, none⟩) hbx).trans e2
              have q3 := (hW.cell (p := ⟨bx, 3, none⟩) hbx).trans e3
              have q4 := (hW.cell (p := ⟨bx, 4, none⟩) hbx).trans e4
              have q5 := (hW.cell (p := ⟨gh, r, none⟩) hgh5).trans eh
              have q6 := (hW.cell (p := ⟨ge, r, none⟩) hge5).trans ee
              unfold opG
              go_simp
              first | exact resG_eq_mk _ _ _ | rfl
            simp only [Act.put, List.setIfInBounds_toArray, List.set_cons_zero, List.set_cons_succ]
            apply wpG_eq
            · intro W hW hs
              have hW := Gr.trans ((Gr.refl w5).drew) hW
              have q1 := (hW.cell (p := ⟨bx, 1, none⟩) hbx).trans e1
              have q2 := (hW.cell (p := ⟨bx, 2, none⟩) hbx).trans e2
              have q3 := (hW.cell (p := ⟨bx, 3, none⟩) hbx).trans e3
              have q4 := (hW.cell (p := ⟨bx, 4, none⟩) hbx).trans e4
              have q5 := (hW.cell (p := ⟨gh, r, none⟩) hgh5).trans eh
              have q6 := (hW.cell (p := ⟨ge, r, none⟩) hge5).trans ee
              unfold opG
              go_simp
              first | exact resG_eq_mk _ _ _ | rfl
            simp only [Act.put, List.setIfInBounds_toArray, List.set_cons_zero, List.set_cons_succ]
            apply wpG_eq
            · intro W hW hs
              have hW := Gr.trans ((Gr.refl w5).drew) hW
              have q1 := (hW.cell (p := ⟨bx, 1, none⟩) hbx).trans e1
              have q2 := (hW.cell (p := ⟨bx, 2, none⟩) hbx).trans e2
              have q3 := (hW.cell (p := ⟨bx, 3, none⟩) hbx).trans e3
              have q4 := (hW.cell (p := ⟨bx, 4, none⟩) hbx).trans e4
              have q5 := (hW.cell (p := ⟨gh, r, none⟩) hgh5).trans eh
              have q6 := (hW.cell (p := ⟨ge, r, none⟩) hge5).trans ee
              unfold opG
              go_simp
              first | exact resG_eq_mk _ _ _ | rfl
            simp only [Act.put, List.setIfInBounds_toArray, List.set_cons_zero, List.set_cons_succ]
            apply wpG_eq
            · intro W hW hs
              have hW := Gr.trans ((Gr.refl w5).drew) hW
              have q1 := (hW.cell (p := ⟨bx, 1, none⟩) hbx).trans e1
              have q2 := (hW.cell (p := ⟨bx, 2, none⟩) hbx).trans e2
              have q3 := (hW.cell (p := ⟨bx, 3, none⟩) hbx).trans e3
              have q4 := (hW.cell (p := ⟨bx, 4, none⟩) hbx).trans e4
              have q5 := (hW.cell (p := ⟨gh, r, none⟩) hgh5).trans eh
              have q6 := (hW.cell (p := ⟨ge, r, none⟩) hge5).trans ee
              have hA := sf5.below hW
              have hB := sv5.below hW
              unfold opG
              go_simp
              refine resG_call ((leq_any _ _ _ x.f x.v hA hB lf lv).mono ?_)
              rintro e W2 ⟨rfl, c9⟩
              exact ⟨_, rfl, c9, rfl⟩
            simp only [Act.put, List.setIfInBounds_toArray, List.set_cons_zero, List.set_cons_succ]
            try rw [p3]
            apply wpG_eq
            · intro W hW hs
              have hW := Gr.trans ((Gr.refl w5).drew) hW
              have q1 := (hW.cell (p := ⟨bx, 1, none⟩) hbx).trans e1
              have q2 := (hW.cell (p := ⟨bx, 2, none⟩) hbx).trans e2
              have q3 := (hW.cell (p := ⟨bx, 3, none⟩) hbx).trans e3
              have q4 := (hW.cell (p := ⟨bx, 4, none⟩) hbx).trans e4
              have q5 := (hW.cell (p := ⟨gh, r, none⟩) hgh5).trans eh
              have q6 := (hW.cell (p := ⟨ge, r, none⟩) hge5).trans ee
              unfold opG
              go_simp
              first | exact resG_eq_mk _ _ _ | rfl
            simp only [Act.put, List.setIfInBounds_toArray, List.set_cons_zero, List.set_cons_succ]
            apply wpG_eq
            · intro W hW hs
              have hW := Gr.trans ((Gr.refl w5).drew) hW
              have q1 := (hW.cell (p := ⟨bx, 1, none⟩) hbx).trans e1
              have q2 := (hW.cell (p := ⟨bx, 2, none⟩) hbx).trans e2
              have q3 := (hW.cell (p := ⟨bx, 3, none⟩) hbx).trans e3
              have q4 := (hW.cell (p := ⟨bx, 4, none⟩) hbx).trans e4
              have q5 := (hW.cell (p := ⟨gh, r, none⟩) hgh5).trans eh
              have q6 := (hW.cell (p := ⟨ge, r, none⟩) hge5).trans ee
              unfold opG
              go_simp
              first | exact resG_eq_mk _ _ _ | rfl
            simp only [Act.put, List.setIfInBounds_toArray, List.set_cons_zero, List.set_cons_succ]
            apply wpG_nil
            intro w6 hW6 hsAll
            have gW := Gr.trans ((Gr.refl w5).drew) hW6
            obtain ⟨w7, f', hup, mp7, hfk, hfo, g7⟩ := run_update w6 (d := .bool true) K27 Try.underlying46 (mp5.below gW) (by unfold maxLen; omega) (key27 kk hkk) (plainElem_bool Try.underlying4 true)
            have z6 := gW.size
            have hcg := (ch_of_grown g7).trans (ch_two w7 ge gh r r (.int .u64 (x.e : Int)) (.bool true) (ρ := fun j => j = ge ∨ j = gh ∨ j = gm) (.inl rfl) (.inr (.inl rfl)))
            have u1 : w7.cell? ⟨bx, 1, none⟩ = some (.int .i64 (r : Int)) := (World.cell?_of_block (g7.block bx (by omega) (by simpa using hne3))).trans ((gW.cell (p := ⟨bx, 1, none⟩) hbx).trans e1)
            have u2 : w7.cell? ⟨bx, 2, none⟩ = some (.int .u64 (x.e : Int)) := (World.cell?_of_block (g7.block bx (by omega) (by simpa using hne3))).trans ((gW.cell (p := ⟨bx, 2, none⟩) hbx).trans e2)
            have u0 : w7.cell? ⟨bx, 0, none⟩ = some (.int .u8 (x.d : Int)) := (World.cell?_of_block (g7.block bx (by omega) (by simpa using hne3))).trans ((gW.cell (p := ⟨bx, 0, none⟩) hbx).trans e0)
            have ae7 := (ae5.below gW).block (g7.block ge (by omega) (by simp; omega))
            have ah7 := (ah5.below gW).block (g7.block gh (by omega) (by simp; omega))
            have ce7 := ae7.cell r hr4
            have ch7 := ah7.cell r hr4
            have fe7 := ae7.frozen r
            have fh7 := ah7.frozen r
            have hne4 : ge ≠ gh := by omega
            have hne5 : gh ≠ ge := by omega
            have ai := ((ae7.set r (.int .u64 (x.e : Int)) hr4).set_ne hne4 r (.bool true)).congr (f' := fun i => .int .u64 ((updT T r ⟨x.e, x.f, true, false⟩ i).e : Int)) (fun i _ => by unfold updT; by_cases hi : i = r <;> simp [hi])
            have hi := (((ah7.set_ne hne5 r (.int .u64 (x.e : Int))).set r (.bool true) hr4)).congr (f' := fun i => .bool (updT T r ⟨x.e, x.f, true, false⟩ i).held) (fun i _ => by unfold updT; by_cases hi : i = r <;> simp [hi])
            have mi := (mp7.block (Below.heap_setCell w7 ⟨ge, r, none⟩ (.int .u64 (x.e : Int)) gm (by show gm ≠ ge; omega))).block (Below.heap_setCell _ ⟨gh, r, none⟩ (.bool true) gm (by show gm ≠ gh; omega))
            have ti := (ta.below gW).ch hcg (by omega) (fun j hj e => by have := hba5 j hj; omega)
            have bi : Below w.heap.size w _ := (br5.trans (Below.mono gW br5.size)).trans (hcg.below (Nat.le_trans br5.size z6) (by rintro j (h | h | h) <;> omega))
            have oi := INV.out.take (F := x.f) hr4 p2 (f' := f') (fun l hl => hfo l (by rw [HKD.out]; exact hl))
            obtain ⟨wi, hwi⟩ : ∃ wi, wi = (w7.setCell ⟨ge, r, none⟩ (.int .u64 (x.e : Int))).setCell ⟨gh, r, none⟩ (.bool true) := ⟨_, rfl⟩
            have v0 : ((w7.setCell ⟨ge, r, none⟩ (.int .u64 (x.e : Int))).setCell ⟨gh, r, none⟩ (.bool true)).cell? ⟨bx, 0, none⟩ = some (.int .u8 (x.d : Int)) := by
              rw [World.cell?_of_block (a := ⟨bx, 0, none⟩) (Below.heap_setCell _ ⟨gh, r, none⟩ (.bool true) bx hne2), World.cell?_of_block (a := ⟨bx, 0, none⟩) (Below.heap_setCell w7 ⟨ge, r, none⟩ _ bx hne1)]
              exact u0
            rw [← hwi] at ai hi mi ti bi
            have HWI := Lib.hid hwi
            have OI := Lib.hid oi
            have HUP := Lib.hid hup
            clear ta hcg ae7 ah7 oi hfk hfo g7 mp7 hup hW6 gW hwi
            clear e0 e1 e2 e3 e4 eh ee ae5 ah5 mp5 sf5 sv5 br5 LKH HFC hle hb hbc
            have q0 := HUP.out
            go_wp2
            rw [← HWI.out]
            obtain ⟨Ti, hTi⟩ : ∃ Ti, Ti = updT T r ⟨x.e, x.f, true, false⟩ := ⟨_, rfl⟩
            rw [← hTi] at ai hi OI ti
            clear HWI HUP q0 hTi u0 u1 u2 v0 ce7 ch7 fe7 fh7 p2
            rename (¬ x.e ≤ (T r).e) => hz9
            clear hz9
            go_loopw [11, 12, 13, 14, 15, 16] (fun i s12 s13 s14 s15 s16 wr => ∃ q : Nat, q ≤ 4 ∧ i = .int .i64 q ∧ Tab wr base' g 4 Ti ∧ Arr wr ge 4 27 (fun r => .int .u64 ((Ti r).e : Int)) ∧ Arr wr gh 4 4 (fun r => .bool (Ti r).held) ∧ MapIs wr 27 4 gm (k + 1) (.bool false) f' ∧ Below w.heap.size w wr) (fun i _ _ _ _ _ _ => 4 - (intOf i).toNat)
            case atStart => exact ⟨0, by decide, rfl, ti, ai, hi, mi, bi⟩
            case round =>
              as_aux_lemma =>
              clear ti ai hi mi bi
              obtain ⟨q, hq, rfl, ti, ai, hi, mi, bi⟩ := hrel
              by_cases hq4 : q < 4
              · have X := Lib.hid (heldOf_at Ti q hq4)
                go_wp2_with fail
                refine (held_any _ base' g 4 (q : Int) Ti ti (by decide)).mono ?_
                rintro en wa ⟨rfl, ga⟩
                rw [X.out]
                obtain ⟨z, hz⟩ : ∃ z, z = (if (Ti q).held = true then ((Ti q).e : Int) else 0) := ⟨_, rfl⟩
                rw [← hz]
                have HZ := Lib.hid hz
                clear hz
                replace ti := ti.below ga
                replace ai := ai.below ga
                replace hi := hi.below ga
                replace mi := mi.below ga
                replace bi := step0 bi ga
                clear ga
                go_wp2_with fail
                refine (last_any _ base' g 4 (q : Int) Ti ti (by decide)).mono ?_
                rintro en wb ⟨vb, rfl, ob, gb⟩
                rw [X.out]
                replace ti := ti.below gb
                replace ai := ai.below gb
                replace hi := hi.below gb
                replace mi := mi.below gb
                replace bi := step0 bi gb
                clear gb ob X
                have ce : wb.cell? ⟨ge, q, none⟩ = some (.int .u64 ((Ti q).e : Int)) := ai.cell q hq4
                have ch : wb.cell? ⟨gh, q, none⟩ = some (.bool (Ti q).held) := hi.cell q hq4
                have ho := OI.out.out q hq4
                have hz := HZ.out
                clear HZ
                have AI := Lib.hid ai
                have HI := Lib.hid hi
                have TI := Lib.hid ti
                clear ai hi ti
                generalize (Ti q).e = e9 at *
                generalize (Ti q).held = h9 at *
                generalize (Ti q).out = o9 at *
                subst ho
                have qi1 : (0 : Int) ≤ (q : Int) := by omega
                have qi2 : (q : Int) < 4 := by omega
                rcases Nat.eq_zero_or_pos e9 with rfl | hpos
                · obtain rfl : z = 0 := by rw [hz]; cases h9 <;> rfl
                  clear hz
                  cases h9
                  · go_wp2
                    go_roundw
                    case rel => first | exact ⟨q + 1, by omega, by go_num, TI.out, AI.out, HI.out, mi, bi⟩ | ((repeat apply Exists.intro); apply And.intro; rotate_left; rfl; exact ⟨q + 1, by omega, by go_num, TI.out, AI.out, HI.out, mi, bi⟩)
                    case measure => simp [intOf]; omega
                  · go_wp2
                    go_roundw
                    case rel => first | exact ⟨q + 1, by omega, by go_num, TI.out, AI.out, HI.out, mi, bi⟩ | ((repeat apply Exists.intro); apply And.intro; rotate_left; rfl; exact ⟨q + 1, by omega, by go_num, TI.out, AI.out, HI.out, mi, bi⟩)
                    case measure => simp [intOf]; omega
                · have hp9 : (0 : Int) < (e9 : Int) := by omega
                  have hd9 : decide (0 < e9) = true := by simpa using hpos
                  cases h9
                  · obtain rfl : z = 0 := hz
                    try clear hz
                    go_wp2
                    go_roundw
                    case rel => first | exact ⟨q + 1, by omega, by go_num, TI.out, AI.out, HI.out, mi, bi⟩ | ((repeat apply Exists.intro); apply And.intro; rotate_left; rfl; exact ⟨q + 1, by omega, by go_num, TI.out, AI.out, HI.out, mi, bi⟩)
                    case measure => simp [intOf]; omega
                  · obtain rfl : z = (e9 : Int) := hz
                    try clear hz
                    go_wp2
                    go_roundw
                    case rel => first | exact ⟨q + 1, by omega, by go_num, TI.out, AI.out, HI.out, mi, bi⟩ | ((repeat apply Exists.intro); apply And.intro; rotate_left; rfl; exact ⟨q + 1, by omega, by go_num, TI.out, AI.out, HI.out, mi, bi⟩)
                    case measure => simp [intOf]; omega
              · go_wp2
                go_roundw
                case rel => exact ⟨k + 1, Ti, base', f', by omega, by go_num, ti, hba5, ai, hi, mi, OI.out, bi⟩
                case measure => simp [intOf]; omega
          · as_aux_lemma =>
            have ht := in_no hc
            have hself : updT T r (T r) = T := updT_self T r
            rw [ht, hself] at ta
            obtain ⟨c, hcd⟩ : ∃ c, c = (inTok x.e x.f x.v (T r)).2 := ⟨_, rfl⟩
            rw [← hcd] at hc ⊢
            have hc1 : (c == 0) = false := by simpa using hc
            obtain ⟨wi, hwi⟩ : ∃ wi, wi = w5 := ⟨_, rfl⟩
            obtain ⟨Ti, hTi⟩ : ∃ Ti, Ti = T := ⟨_, rfl⟩
            obtain ⟨f', hf'⟩ : ∃ f', f' = f := ⟨_, rfl⟩
            have ai := ae5
            have hi := ah5
            have mi := mp5.mono (Nat.le_succ k)
            have ti := ta
            have bi := br5
            have OI := INV
            clear ta ae5 ah5 mp5 hdv ht hself br5 sf5 sv5 e3 e4 hc hcd
            go_wp2
            rw [← hTi, ← hwi] at ai hi ti
            rw [← hwi, ← hf'] at mi
            rw [← hTi, ← hf'] at OI
            rw [← hwi] at bi ⊢
            clear hTi hwi hf' e0 e1 e2
            go_loopw [11, 12, 13, 14, 15, 16] (fun i s12 s13 s14 s15 s16 wr => ∃ q : Nat, q ≤ 4 ∧ i = .int .i64 q ∧ Tab wr base' g 4 Ti ∧ Arr wr ge 4 27 (fun r => .int .u64 ((Ti r).e : Int)) ∧ Arr wr gh 4 4 (fun r => .bool (Ti r).held) ∧ MapIs wr 27 4 gm (k + 1) (.bool false) f' ∧ Below w.heap.size w wr) (fun i _ _ _ _ _ _ => 4 - (intOf i).toNat)
            case atStart => exact ⟨0, by decide, rfl, ti, ai, hi, mi, bi⟩
            case round =>
              as_aux_lemma =>
              clear ti ai hi mi bi
              obtain ⟨q, hq, rfl, ti, ai, hi, mi, bi⟩ := hrel
              by_cases hq4 : q < 4
              · have X := Lib.hid (heldOf_at Ti q hq4)
                go_wp2_with fail
                refine (held_any _ base' g 4 (q : Int) Ti ti (by decide)).mono ?_
                rintro en wa ⟨rfl, ga⟩
                rw [X.out]
                obtain ⟨z, hz⟩ : ∃ z, z = (if (Ti q).held = true then ((Ti q).e : Int) else 0) := ⟨_, rfl⟩
                rw [← hz]
                have HZ := Lib.hid hz
                clear hz
                replace ti := ti.below ga
                replace ai := ai.below ga
                replace hi := hi.below ga
                replace mi := mi.below ga
                replace bi := step0 bi ga
                clear ga
                go_wp2_with fail
                refine (last_any _ base' g 4 (q : Int) Ti ti (by decide)).mono ?_
                rintro en wb ⟨vb, rfl, ob, gb⟩
                rw [X.out]
                replace ti := ti.below gb
                replace ai := ai.below gb
                replace hi := hi.below gb
                replace mi := mi.below gb
                replace bi := step0 bi gb
                clear gb ob X
                have ce : wb.cell? ⟨ge, q, none⟩ = some (.int .u64 ((Ti q).e : Int)) := ai.cell q hq4
                have ch : wb.cell? ⟨gh, q, none⟩ = some (.bool (Ti q).held) := hi.cell q hq4
                have ho := OI.out.out q hq4
                have hz := HZ.out
                clear HZ
                have AI := Lib.hid ai
                have HI := Lib.hid hi
                have TI := Lib.hid ti
                clear ai hi ti
                generalize (Ti q).e = e9 at *
                generalize (Ti q).held = h9 at *
                generalize (Ti q).out = o9 at *
                subst ho
                have qi1 : (0 : Int) ≤ (q : Int) := by omega
                have qi2 : (q : Int) < 4 := by omega
                rcases Nat.eq_zero_or_pos e9 with rfl | hpos
                · obtain rfl : z = 0 := by rw [hz]; cases h9 <;> rfl
                  clear hz
                  cases h9
                  · go_wp2
                    go_roundw
                    case rel => first | exact ⟨q + 1, by omega, by go_num, TI.out, AI.out, HI.out, mi, bi⟩ | ((repeat apply Exists.intro); apply And.intro; rotate_left; rfl; exact ⟨q + 1, by omega, by go_num, TI.out, AI.out, HI.out, mi, bi⟩)
                    case measure => simp [intOf]; omega
                  · go_wp2
                    go_roundw
                    case rel => first | exact ⟨q + 1, by omega, by go_num, TI.out, AI.out, HI.out, mi, bi⟩ | ((repeat apply Exists.intro); apply And.intro; rotate_left; rfl; exact ⟨q + 1, by omega, by go_num, TI.out, AI.out, HI.out, mi, bi⟩)
                    case measure => simp [intOf]; omega
                · have hp9 : (0 : Int) < (e9 : Int) := by omega
                  have hd9 : decide (0 < e9) = true := by simpa using hpos
                  cases h9
                  · obtain rfl : z = 0 := hz
                    try clear hz
                    go_wp2
                    go_roundw
                    case rel => first | exact ⟨q + 1, by omega, by go_num, TI.out, AI.out, HI.out, mi, bi⟩ | ((repeat apply Exists.intro); apply And.intro; rotate_left; rfl; exact ⟨q + 1, by omega, by go_num, TI.out, AI.out, HI.out, mi, bi⟩)
                    case measure => simp [intOf]; omega
                  · obtain rfl : z = (e9 : Int) := hz
                    try clear hz
                    go_wp2
                    go_roundw
                    case rel => first | exact ⟨q + 1, by omega, by go_num, TI.out, AI.out, HI.out, mi, bi⟩ | ((repeat apply Exists.intro); apply And.intro; rotate_left; rfl; exact ⟨q + 1, by omega, by go_num, TI.out, AI.out, HI.out, mi, bi⟩)
                    case measure => simp [intOf]; omega
              · go_wp2
                go_roundw
                case rel => exact ⟨k + 1, Ti, base', f', by omega, by go_num, ti, hba5, ai, hi, mi, OI.out, bi⟩
                case measure => simp [intOf]; omega
        · rw [if_neg h2] at hdv
          rw [hdv] at ta ⊢
          have hm : ((x.d : Int) % 2 == 0) = false := by simp; omega
          have hm1 : ((x.d : Int) % 2 == 1) = true := by simp; omega
          by_cases hc : (outTok x.e x.v (T r)).2 = 0
          · as_aux_lemma =>
            obtain ⟨p1, p2, p4⟩ := out_ok hc
            rw [hc]
            rw [p4, ← p2] at ta
            simp only at ta
            have eh : w5.cell? ⟨gh, r, none⟩ = some (.bool true) := by rw [ah5.cell r hr4, p1]
            have ee : w5.cell? ⟨ge, r, none⟩ = some (.int .u64 (x.e : Int)) := by rw [ae5.cell r hr4, p2]
            have fh := ah5.frozen r
            go_wp2_with fail
            go_quiet (fail)
            have dr : Gr w5 (w5.drewN nq) := below_drewN (Gr.refl w5) nq
            replace ae5 := ae5.below dr
            replace ah5 := ah5.below dr
            replace mp5 := mp5.below dr
            replace ta := ta.below dr
            replace br5 := step0 br5 dr
            clear dr
            have hne4 : ge ≠ gh := by omega
            have hne5 : gh ≠ ge := by omega
            have ai := (ae5.set_ne hne4 r (.bool false)).congr (f' := fun i => .int .u64 ((updT T r ⟨(T r).e, x.v, false, true⟩ i).e : Int)) (fun i _ => by unfold updT; by_cases hi : i = r <;> simp [hi])
            have hi := (ah5.set r (.bool false) hr4).congr (f' := fun i => .bool (updT T r ⟨(T r).e, x.v, false, true⟩ i).held) (fun i _ => by unfold updT; by_cases hi : i = r <;> simp [hi])
            have mi := (mp5.block (Below.heap_setCell (w5.drewN nq) ⟨gh, r, none⟩ (.bool false) gm (by show gm ≠ gh; omega))).mono (Nat.le_succ k)
            have hcg : Ch (fun j => j = gh) (w5.drewN nq) ((w5.drewN nq).setCell ⟨gh, r, none⟩ (.bool false)) := ⟨rfl, rfl, rfl, by simp, fun j _ hn => Below.heap_setCell (w5.drewN nq) ⟨gh, r, none⟩ _ j (fun e => hn e)⟩
            have ti := ta.ch hcg (by omega) (fun j hj e => by have := hba5 j hj; omega)
            have bi : Below w.heap.size w _ := br5.trans (hcg.below br5.size (by rintro j rfl; omega))
            have oi := INV.out.give (F := x.v) hr4 p1
            obtain ⟨wi, hwi⟩ : ∃ wi, wi = (w5.drewN nq).setCell ⟨gh, r, none⟩ (.bool false) := ⟨_, rfl⟩
            obtain ⟨Ti, hTi⟩ : ∃ Ti, Ti = updT T r ⟨(T r).e, x.v, false, true⟩ := ⟨_, rfl⟩
            rw [← hTi] at ai hi oi ti
            rw [← hwi] at ai hi mi ti bi
            have HWI := Lib.hid hwi
            have OI := Lib.hid oi
            clear ta hcg oi hwi hTi e3 e4 ae5 ah5 mp5 sf5 sv5 br5 hdv hc p4
            obtain ⟨f', hf'⟩ : ∃ f', f' = f := ⟨_, rfl⟩
            rw [← hf'] at mi OI
            clear hf'
            go_wp2
            rw [← HWI.out]
            clear HWI eh ee fh e0 e1 e2
            go_loopw [11, 12, 13, 14, 15, 16] (fun i s12 s13 s14 s15 s16 wr => ∃ q : Nat, q ≤ 4 ∧ i = .int .i64 q ∧ Tab wr base' g 4 Ti ∧ Arr wr ge 4 27 (fun r => .int .u64 ((Ti r).e : Int)) ∧ Arr wr gh 4 4 (fun r => .bool (Ti r).held) ∧ MapIs wr 27 4 gm (k + 1) (.bool false) f' ∧ Below w.heap.size w wr) (fun i _ _ _ _ _ _ => 4 - (intOf i).toNat)
            case atStart => exact ⟨0, by decide, rfl, ti, ai, hi, mi, bi⟩
            case round =>
              as_aux_lemma =>
              clear ti ai hi mi bi
              obtain ⟨q, hq, rfl, ti, ai, hi, mi, bi⟩ := hrel
              by_cases hq4 : q < 4
              · have X := Lib.hid (heldOf_at Ti q hq4)
                go_wp2_with fail
                refine (held_any _ base' g 4 (q : Int) Ti ti (by decide)).mono ?_
                rintro en wa ⟨rfl, ga⟩
                rw [X.out]
                obtain ⟨z, hz⟩ : ∃ z, z = (if (Ti q).held = true then ((Ti q).e : Int) else 0) := ⟨_, rfl⟩
                rw [← hz]
                have HZ := Lib.hid hz
                clear hz
                replace ti := ti.below ga
                replace ai := ai.below ga
                replace hi := hi.below ga
                replace mi := mi.below ga
                replace bi := step0 bi ga
                clear ga
                go_wp2_with fail
                refine (last_any _ base' g 4 (q : Int) Ti ti (by decide)).mono ?_
                rintro en wb ⟨vb, rfl, ob, gb⟩
                rw [X.out]
                replace ti := ti.below gb
                replace ai := ai.below gb
                replace hi := hi.below gb
                replace mi := mi.below gb
                replace bi := step0 bi gb
                clear gb ob X
                have ce : wb.cell? ⟨ge, q, none⟩ = some (.int .u64 ((Ti q).e : Int)) := ai.cell q hq4
                have ch : wb.cell? ⟨gh, q, none⟩ = some (.bool (Ti q).held) := hi.cell q hq4
                have ho := OI.out.out q hq4
                have hz := HZ.out
                clear HZ
                have AI := Lib.hid ai
                have HI := Lib.hid hi
                have TI := Lib.hid ti
                clear ai hi ti
                generalize (Ti q).e = e9 at *
                generalize (Ti q).held = h9 at *
                generalize (Ti q).out = o9 at *
                subst ho
                have qi1 : (0 : Int) ≤ (q : Int) := by omega
                have qi2 : (q : Int) < 4 := by omega
                rcases Nat.eq_zero_or_pos e9 with rfl | hpos
                · obtain rfl : z = 0 := by rw [hz]; cases h9 <;> rfl
                  clear hz
                  cases h9
                  · go_wp2
                    go_roundw
                    case rel => first | exact ⟨q + 1, by omega, by go_num, TI.out, AI.out, HI.out, mi, bi⟩ | ((repeat apply Exists.intro); apply And.intro; rotate_left; rfl; exact ⟨q + 1, by omega, by go_num, TI.out, AI.out, HI.out, mi, bi⟩)
                    case measure => simp [intOf]; omega
                  · go_wp2
                    go_roundw
                    case rel => first | exact ⟨q + 1, by omega, by go_num, TI.out, AI.out, HI.out, mi, bi⟩ | ((repeat apply Exists.intro); apply And.intro; rotate_left; rfl; exact ⟨q + 1, by omega, by go_num, TI.out, AI.out, HI.out, mi, bi⟩)
                    case measure => simp [intOf]; omega
                · have hp9 : (0 : Int) < (e9 : Int) := by omega
                  have hd9 : decide (0 < e9) = true := by simpa using hpos
                  cases h9
                  · obtain rfl : z = 0 := hz
                    try clear hz
                    go_wp2
                    go_roundw
                    case rel => first | exact ⟨q + 1, by omega, by go_num, TI.out, AI.out, HI.out, mi, bi⟩ | ((repeat apply Exists.intro); apply And.intro; rotate_left; rfl; exact ⟨q + 1, by omega, by go_num, TI.out, AI.out, HI.out, mi, bi⟩)
                    case measure => simp [intOf]; omega
                  · obtain rfl : z = (e9 : Int) := hz
                    try clear hz
                    go_wp2
                    go_roundw
                    case rel => first | exact ⟨q + 1, by omega, by go_num, TI.out, AI.out, HI.out, mi, bi⟩ | ((repeat apply Exists.intro); apply And.intro; rotate_left; rfl; exact ⟨q + 1, by omega, by go_num, TI.out, AI.out, HI.out, mi, bi⟩)
                    case measure => simp [intOf]; omega
              · go_wp2
                go_roundw
                case rel => exact ⟨k + 1, Ti, base', f', by omega, by go_num, ti, hba5, ai, hi, mi, OI.out, bi⟩
                case measure => simp [intOf]; omega
          · as_aux_lemma =>
            have ht := out_no hc
            have hself : updT T r (T r) = T := updT_self T r
            rw [ht, hself] at ta
            obtain ⟨c, hcd⟩ : ∃ c, c = (outTok x.e x.v (T r)).2 := ⟨_, rfl⟩
            rw [← hcd] at hc ⊢
            have hc1 : (c == 0) = false := by simpa using hc
            obtain ⟨wi, hwi⟩ : ∃ wi, wi = w5 := ⟨_, rfl⟩
            obtain ⟨Ti, hTi⟩ : ∃ Ti, Ti = T := ⟨_, rfl⟩
            obtain ⟨f', hf'⟩ : ∃ f', f' = f := ⟨_, rfl⟩
            have ai := ae5
            have hi := ah5
            have mi := mp5.mono (Nat.le_succ k)
            have ti := ta
            have bi := br5
            have OI := INV
            clear ta ae5 ah5 mp5 hdv ht hself br5 sf5 sv5 e3 e4 hc hcd
            go_wp2
            rw [← hTi, ← hwi] at ai hi ti
            rw [← hwi, ← hf'] at mi
            rw [← hTi, ← hf'] at OI
            rw [← hwi] at bi ⊢
            clear hTi hwi hf' e0 e1 e2
            go_loopw [11, 12, 13, 14, 15, 16] (fun i s12 s13 s14 s15 s16 wr => ∃ q : Nat, q ≤ 4 ∧ i = .int .i64 q ∧ Tab wr base' g 4 Ti ∧ Arr wr ge 4 27 (fun r => .int .u64 ((Ti r).e : Int)) ∧ Arr wr gh 4 4 (fun r => .bool (Ti r).held) ∧ MapIs wr 27 4 gm (k + 1) (.bool false) f' ∧ Below w.heap.size w wr) (fun i _ _ _ _ _ _ => 4 - (intOf i).toNat)
            case atStart => exact ⟨0, by decide, rfl, ti, ai, hi, mi, bi⟩
            case round =>
              as_aux_lemma =>
              clear ti ai hi mi bi
              obtain ⟨q, hq, rfl, ti, ai, hi, mi, bi⟩ := hrel
              by_cases hq4 : q < 4
              · have X := Lib.hid (heldOf_at Ti q hq4)
                go_wp2_with fail
                refine (held_any _ base' g 4 (q : Int) Ti ti (by decide)).mono ?_
                rintro en wa ⟨rfl, ga⟩
                rw [X.out]
                obtain ⟨z, hz⟩ : ∃ z, z = (if (Ti q).held = true then ((Ti q).e : Int) else 0) := ⟨_, rfl⟩
                rw [← hz]
                have HZ := Lib.hid hz
                clear hz
                replace ti := ti.below ga
                replace ai := ai.below ga
                replace hi := hi.below ga
                replace mi := mi.below ga
                replace bi := step0 bi ga
                clear ga
                go_wp2_with fail
                refine (last_any _ base' g 4 (q : Int) Ti ti (by decide)).mono ?_
                rintro en wb ⟨vb, rfl, ob, gb⟩
                rw [X.out]
                replace ti := ti.below gb
                replace ai := ai.below gb
                replace hi := hi.below gb
                replace mi := mi.below gb
                replace bi := step0 bi gb
                clear gb ob X
                have ce : wb.cell? ⟨ge, q, none⟩ = some (.int .u64 ((Ti q).e : Int)) := ai.cell q hq4
                have ch : wb.cell? ⟨gh, q, none⟩ = some (.bool (Ti q).held) := hi.cell q hq4
                have ho := OI.out.out q hq4
                have hz := HZ.out
                clear HZ
                have AI := Lib.hid ai
                have HI := Lib.hid hi
                have TI := Lib.hid ti
                clear ai hi ti
                generalize (Ti q).e = e9 at *
                generalize (Ti q).held = h9 at *
                generalize (Ti q).out = o9 at *
                subst ho
                have qi1 : (0 : Int) ≤ (q : Int) := by omega
                have qi2 : (q : Int) < 4 := by omega
                rcases Nat.eq_zero_or_pos e9 with rfl | hpos
                · obtain rfl : z = 0 := by rw [hz]; cases h9 <;> rfl
                  clear hz
                  cases h9
                  · go_wp2
                    go_roundw
                    case rel => first | exact ⟨q + 1, by omega, by go_num, TI.out, AI.out, HI.out, mi, bi⟩ | ((repeat apply Exists.intro); apply And.intro; rotate_left; rfl; exact ⟨q + 1, by omega, by go_num, TI.out, AI.out, HI.out, mi, bi⟩)
                    case measure => simp [intOf]; omega
                  · go_wp2
                    go_roundw
                    case rel => first | exact ⟨q + 1, by omega, by go_num, TI.out, AI.out, HI.out, mi, bi⟩ | ((repeat apply Exists.intro); apply And.intro; rotate_left; rfl; exact ⟨q + 1, by omega, by go_num, TI.out, AI.out, HI.out, mi, bi⟩)
                    case measure => simp [intOf]; omega
                · have hp9 : (0 : Int) < (e9 : Int) := by omega
                  have hd9 : decide (0 < e9) = true := by simpa using hpos
                  cases h9
                  · obtain rfl : z = 0 := hz
                    try clear hz
                    go_wp2
                    go_roundw
                    case rel => first | exact ⟨q + 1, by omega, by go_num, TI.out, AI.out, HI.out, mi, bi⟩ | ((repeat apply Exists.intro); apply And.intro; rotate_left; rfl; exact ⟨q + 1, by omega, by go_num, TI.out, AI.out, HI.out, mi, bi⟩)
                    case measure => simp [intOf]; omega
                  · obtain rfl : z = (e9 : Int) := hz
                    try clear hz
                    go_wp2
                    go_roundw
                    case rel => first | exact ⟨q + 1, by omega, by go_num, TI.out, AI.out, HI.out, mi, bi⟩ | ((repeat apply Exists.intro); apply And.intro; rotate_left; rfl; exact ⟨q + 1, by omega, by go_num, TI.out, AI.out, HI.out, mi, bi⟩)
                    case measure => simp [intOf]; omega
              · go_wp2
                go_roundw
                case rel => exact ⟨k + 1, Ti, base', f', by omega, by go_num, ti, hba5, ai, hi, mi, OI.out, bi⟩
                case measure => simp [intOf]; omega
      · as_aux_lemma =>
        have hdv := doesV_off T x (by omega)
        rw [hdv] at ta ⊢
        have hor : x.r < 0 ∨ 3 < x.r := by omega
        have HIN := Lib.hid hin
        clear hdv hin
        rcases hor with hor | hor
        · go_wp2
          go_roundw
          case rel => exact ⟨k + 1, _, _, _, by omega, by go_num, ta, hba5, ae5, ah5, mp5.mono (Nat.le_succ _), INV.out, br5⟩
          case measure => simp [intOf]; omega
        · have hor' : ¬ x.r < 0 := by omega
          go_wp2
          go_roundw
          case rel => exact ⟨k + 1, _, _, _, by omega, by go_num, ta, hba5, ae5, ah5, mp5.mono (Nat.le_succ _), INV.out, br5⟩
          case measure => simp [intOf]; omega
    · go_wp2_with fail
      refine (goes_any _).mono ?_
      rintro e w9 ⟨rfl, g9⟩
      go_wp2
      go_ret
      exact ⟨rfl, step0 br g9⟩

open Go.ChangeShapes Go.WideShapes Go.ChangeAt Go.RowKit
open Go.ChangeMaps (open_string shut_string)
theorem own_tokensOnce : ownKnob Try.prog.godebug = none := by kernel_rfl
theorem laidOut_tokensOnce : laidOutB Try.prog = true := by kernel_rfl
set_option maxRecDepth 100000 in
theorem lifted_tokensOnce (os : Os) (started : os.Started) (H : Type) (enc : TypeId × Value → H) :
    ReturnsInHanded {} Try.checked os 4 .any (Rows.tokensOnceSpec.pre6 enc Try.prog Try.f4 Rows.tokensOnceRow.domain false) (Rows.tokensOnceSpec.post enc Try.prog Try.f4 false true false false) := by
  refine returnsInHanded_of_change (C := Try.checked) own_tokensOnce started (by kernel_rfl) Try.func4
    (ChangeSpec.witness6 (enc := enc) (C := Try.checked) false ⟨#[], #[.slice none 0 0], []⟩ 8 (by kernel_rfl) (by kernel_rfl) (by kernel_rfl) (by kernel_rfl)) ?_
  intro W base args ds gs before hval0 hW hcnd _
  have hval : ∀ (j : Nat) t v, Try.f4.params[j]? = some t → args[j]? = some v → Value.okWide Try.prog W .any base t v := hval0
  have hW' := hW
  obtain ⟨p, q, hA0, hV, rfl, hfz, hnd⟩ := hW
  have hA : DataW.TrodAll enc Try.prog W 0 (fun _ => true) true Try.f4.params.toList args.toList ds p := hA0
  rw [Try.params4] at hA hval
  obtain ⟨v0, vs0, d0, ds0, p0, q0, hargs, rfl, rfl, k0, r0⟩ := trodAll_cons hA
  obtain ⟨rfl, rfl, rfl⟩ := trodAll_nil r0
  obtain rfl : args = #[v0] := by cases args; simp_all
  obtain ⟨rfl, rfl⟩ := trodVars_none hV
  have lt0 : ∀ x ∈ p0, x.block < W.heap.size := by obtain ⟨m, hm⟩ := k0; exact DataW.trod_lt m _ _ _ hm
  obtain ⟨l0, s0, w0⟩ := open_acts (hval 0 22 v0 rfl rfl) k0
  clear hA0 hval0
  refine (once_walk W v0 l0 s0 w0).mono fun e W' ⟨he, bel⟩ => ?_
  subst he
  exact ⟨_, rfl, _, _, _, [], _, [], hW', trodAll_mk1 (shut_bool Try.underlying4 _), (trodAll_cons_mk (Below.trod laidOut_tokensOnce (by kernel_rfl) (of_decide_eq_true (by kernel_rfl)) k0 bel lt0) trodAll_mk0), rfl, bel.frame _, fun h => by cases h⟩

theorem over_tokensOnce : Rows.tokensOnceRow.holds Try.pinned (OpenSpec.ofChange Rows.tokensOnceSpec) :=
  OpenClaim.holds_of_wide 4 Try.f4 rfl rfl rfl rfl rfl rfl rfl ⟨rfl, rfl, rfl, rfl, rfl⟩ rfl rfl rfl rfl rfl (by kernel_rfl) Try.func4 (by kernel_rfl)
    (of_decide_eq_true (by kernel_rfl)) (by unfold Func.isWrapper; first | (rw [if_pos (by decide +kernel)]; kernel_rfl) | (rw [if_neg (by decide +kernel)]; exact ⟨rfl, rfl⟩))
    (fun os started H enc _ => lifted_tokensOnce os started H enc)

theorem tokensOnce_proved : Rows.TokensOnceSaid := over_tokensOnce
#print axioms tokensOnce_proved
end Go.Proofs.Ythckedmfjmbopaa
