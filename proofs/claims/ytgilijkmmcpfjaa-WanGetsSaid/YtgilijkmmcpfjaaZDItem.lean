/-
  Of the document: what reads items.
-/
import Derived.Test.YtgilijkmmcpfjaaZDAsk
set_option linter.unusedVariables false
set_option linter.unusedSimpArgs false
set_option maxRecDepth 100000
namespace Go.Proofs.Ytgilijkmmcpfjaa
open Go.RowKit
/-- Block c, the first that w had not, holds cs; the reader g is in the state s. -/
def DSub (w W : World) (base : Nat → Prop) (g : Nat) (s : RS) (c : Nat) (cs : List Value) (T : TypeId) : Prop :=
  CellsAt W c cs T ∧ Ds W base g s ∧ w.grownBy W (some g) ∧ g < w.heap.size ∧ c = w.heap.size ∧ ∀ k, base k → k < w.heap.size
theorem DSub.call {w W W' : World} {base : Nat → Prop} {g : Nat} {s s' : RS} {c : Nat} {cs : List Value} {T : TypeId} (h : DSub w W base g s c cs T) (hr : Ds W' base g s') (hg : W.grownBy W' (some g)) : DSub w W' base g s' c cs T := by
  obtain ⟨h1, h3, h4, h5, h6, h7⟩ := h
  exact ⟨h1.other hg (fun e => by injection e with e; omega), hr, grownBy_trans h4 hg, h5, h6, h7⟩
theorem DSub.store {w W : World} {base : Nat → Prop} {g : Nat} {s : RS} {c : Nat} {cs : List Value} {T : TypeId} (h : DSub w W base g s c cs T) (i : Nat) (v : Value) : DSub w (W.setCell ⟨c, i, none⟩ v) base g s c (cs.set i v) T := by
  obtain ⟨h1, h3, h4, h5, h6, h7⟩ := h
  have gf := grownBy_setCell W c i v
  exact ⟨h1.set i v, ds_new h3 gf (fun hk => by have := h7 c hk; omega), grown_new h4 gf (by omega), h5, h6, h7⟩
theorem DSub.cells {w W : World} {base : Nat → Prop} {g : Nat} {s : RS} {c : Nat} {cs : List Value} {T : TypeId} (h : DSub w W base g s c cs T) : CellsAt W c cs T := h.1
theorem DSub.ds {w W : World} {base : Nat → Prop} {g : Nat} {s : RS} {c : Nat} {cs : List Value} {T : TypeId} (h : DSub w W base g s c cs T) : Ds W base g s := h.2.1
theorem DSub.gro {w W : World} {base : Nat → Prop} {g : Nat} {s : RS} {c : Nat} {cs : List Value} {T : TypeId} (h : DSub w W base g s c cs T) : w.grownBy W (some g) := h.2.2.1
theorem DSub.blt {w W : World} {base : Nat → Prop} {g : Nat} {s : RS} {c : Nat} {cs : List Value} {T : TypeId} (h : DSub w W base g s c cs T) : ∀ k, base k → k < W.heap.size := fun k hk => Nat.lt_of_lt_of_le (h.2.2.2.2.2 k hk) h.2.2.1.size
theorem DSub.start {w : World} {base : Nat → Prop} {g : Nat} {s : RS} {Z : List Value} {T : TypeId} (hr : Ds w base g s) (hb : ∀ k, base k → k < w.heap.size) : DSub w (w.alloc (.cells Z.toArray T)) base g s w.heap.size Z T :=
  ⟨CellsAt.new w Z T, hr.gr ((Gr.refl w).alloc _), gr_grown ((Gr.refl w).alloc _) g, hr.lt, rfl, hb⟩
theorem DMid.hb {w W : World} {base : Nat → Prop} {g : Nat} {s : RS} {b : Nat} {cs Z : List Value} {T : TypeId} (h : DMid w W base g s b cs Z T) : b = w.heap.size + 1 := h.2.2.2.2.2.1
theorem dEff_true (s : RS) (h : ((((rByte (rText s).2).1 : Nat) : Int) == 1) = true) : dEff s = (⟨(rText s).1, true, zeroN⟩, (rByte (rText s).2).2) := by
  have h2 : ((rByte (rText s).2).1 == 1) = true := by simp at h ⊢; omega
  unfold dEff dFlag
  simp only [h2, if_true]
theorem dEff_false (s : RS) (h : ((((rByte (rText s).2).1 : Nat) : Int) == 1) = false) : dEff s = (⟨(rText s).1, false, (dNode (rByte (rText s).2).2).1⟩, (dNode (rByte (rText s).2).2).2) := by
  have h2 : ((rByte (rText s).2).1 == 1) = false := by simp at h ⊢; omega
  unfold dEff dFlag
  simp only [h2, Bool.false_eq_true, if_false]
set_option maxHeartbeats 8000000 in
theorem read_item_any (w : World) (base : Nat → Prop) (g : Nat) (s : RS) (hr : Ds w base g s) (hb : ∀ k, base k → k < w.heap.size) (hl : s.1.length ≤ 1000000000) :
    Calls Try.prog 39 #[.pointer (some ⟨g, 0, none⟩)] w (DGotP w base g (ItemIs w.heap.size (dItem s).1) (dItem s).2) := by
  obtain ⟨s1, hs1⟩ : ∃ s1, s1 = (rByte s).2 := ⟨_, rfl⟩
  obtain ⟨s2, hs2⟩ : ∃ s2, s2 = (rUint s1).2 := ⟨_, rfl⟩
  obtain ⟨s3, hs3⟩ : ∃ s3, s3 = (rUint s2).2 := ⟨_, rfl⟩
  obtain ⟨s4, hs4⟩ : ∃ s4, s4 = (rUint s3).2 := ⟨_, rfl⟩
  obtain ⟨s5, hs5⟩ : ∃ s5, s5 = (dStamp s4).2 := ⟨_, rfl⟩
  obtain ⟨n, hn⟩ : ∃ n, n = (rCount ((16 : Nat) : Int) s5).1 := ⟨_, rfl⟩
  obtain ⟨s6, hs6⟩ : ∃ s6, s6 = (rCount ((16 : Nat) : Int) s5).2 := ⟨_, rfl⟩
  obtain ⟨ori, hori⟩ : ∃ ori, ori = (rByte s).1 := ⟨_, rfl⟩
  obtain ⟨seq, hseq⟩ : ∃ seq, seq = (rUint s1).1 := ⟨_, rfl⟩
  obtain ⟨rn, hrn⟩ : ∃ rn, rn = (rUint s2).1 := ⟨_, rfl⟩
  obtain ⟨epo, hepo⟩ : ∃ epo, epo = (rUint s3).1 := ⟨_, rfl⟩
  obtain ⟨st, hst⟩ : ∃ st, st = (dStamp s4).1 := ⟨_, rfl⟩
  obtain ⟨reg, hreg⟩ : ∃ reg, reg = i64 rn := ⟨_, rfl⟩
  obtain ⟨D, hD⟩ : ∃ D, D = dMany dEff n s6 := ⟨_, rfl⟩
  have ed : dItem s = (⟨(ori : Int), seq, reg, epo, st, D.1, (rSmall D.2).1⟩, (rSmall D.2).2) := by
    rw [hD, hreg, hst, hepo, hrn, hseq, hori, hs6, hn, hs5, hs4, hs3, hs2, hs1]; rfl
  have hnm : n ≤ 16 := by rw [hn]; exact rCount_most 16 s5
  have l6 : s6.1.length ≤ 1000000000 := by
    rw [hs6, hs5, hs4, hs3, hs2, hs1]
    exact Nat.le_trans (lf_count _ _) (Nat.le_trans (lf_stamp _) (Nat.le_trans (lf_uint _) (Nat.le_trans (lf_uint _) (Nat.le_trans (lf_uint _) (Nat.le_trans (lf_byte s) hl)))))
  have C0 := fun W h => one8_any W base g s h
  have C1 := fun W h => ds_uint W base g s1 h
  have C2 := fun W h => ds_uint W base g s2 h
  have C3 := fun W h => ds_uint W base g s3 h
  have C4 := fun W h hb => stamped_any W base g s4 h hb
  have C5 := fun W h => ds_count W base g s5 16 (by decide) h
  rw [← hori, ← hs1] at C0
  rw [← hseq, ← hs2] at C1
  rw [← hrn, ← hs3] at C2
  rw [← hepo, ← hs4] at C3
  rw [← hst, ← hs5] at C4
  rw [← hn, ← hs6] at C5
  rw [ed]
  have ENDS : Hid (∀ k acc sk clo s9, clo = (rSmall sk).1 → s9 = (rSmall sk).2 → (k = n ∨ sk.2 = true) → D = (acc ++ (dMany dEff (n - k) sk).1, (dMany dEff (n - k) sk).2) → ∀ w' sv ev, SlP (From w.heap.size) w' sv (nums st) → EffsP (From w.heap.size) w' ev acc → Ds w' base g s9 → w.grownBy w' (some g) → DGotP w base g (ItemIs w.heap.size ⟨(ori : Int), seq, reg, epo, st, D.1, (rSmall D.2).1⟩) (rSmall D.2).2 (.returned (.agg #[.int .i64 (ori : Int), .int .u64 (seq : Int), .int .i64 reg, .int .u64 (epo : Int), sv, ev, .int .u32 (clo : Int)])) w') := Lib.hid fun k acc sk clo s9 e1 e2 h1 h2 w' sv ev o p r g' => by
    rw [hD] at h2 ⊢
    rw [dMany_end dEff n k s6 sk acc h1 h2]
    subst e1 e2
    exact ⟨_, rfl, ⟨sv, ev, rfl, o, p⟩, r, g'⟩
  have STEP : Hid (∀ k acc sk, k < n → sk.2 = false → D = (acc ++ (dMany dEff (n - k) sk).1, (dMany dEff (n - k) sk).2) → D = (acc ++ [(dEff sk).1] ++ (dMany dEff (n - (k + 1)) (dEff sk).2).1, (dMany dEff (n - (k + 1)) (dEff sk).2).2)) := Lib.hid fun k acc sk h1 h2 h3 => by
    rw [hD] at h3 ⊢
    exact dMany_step dEff n k s6 sk acc h1 h2 h3
  have D00 : Hid (D = ([] ++ (dMany dEff (n - 0) s6).1, (dMany dEff (n - 0) s6).2)) := Lib.hid (by rw [hD]; rfl)
  have HV := Lib.hid hreg
  clear ed hD hs1 hs2 hs3 hs4 hs5 hn hs6 hori hseq hrn hepo hst hreg
  have D0 := Lib.hid C0
  have D1 := Lib.hid C1
  have D2 := Lib.hid C2
  have D3 := Lib.hid C3
  have D4 := Lib.hid C4
  have D5 := Lib.hid C5
  clear C0 C1 C2 C3 C4 C5
  obtain ⟨w1, hw1⟩ : ∃ w1, w1 = (w.alloc (.cells #[.int .i64 0, .int .u64 0, .int .i64 0, .int .u64 0, .slice none 0 0, .slice none 0 0, .int .u32 0] 46)).alloc (.cells #[.int .i64 0, .int .u64 0, .int .i64 0, .int .u64 0, .slice none 0 0, .slice none 0 0, .int .u32 0] 46) := ⟨_, rfl⟩
  obtain ⟨b, hbb⟩ : ∃ b, b = w.heap.size + 1 := ⟨_, rfl⟩
  have M1 : Hid (DMid w w1 base g s b [.int .i64 0, .int .u64 0, .int .i64 0, .int .u64 0, .slice none 0 0, .slice none 0 0, .int .u32 0] [.int .i64 0, .int .u64 0, .int .i64 0, .int .u64 0, .slice none 0 0, .slice none 0 0, .int .u32 0] 46) := Lib.hid (by rw [hw1, hbb]; exact DMid.start hr hb)
  have HW := Lib.hid hw1
  have HB := Lib.hid hbb
  have hgl := hr.lt
  clear hw1 hr hbb
  go_enter Try.func39, Try.ntmps39
  go_wp2_with fail
  rw [← HW.out, ← HB.out]
  refine (D0.out _ M1.out.ds).mono ?_
  rintro en w2 ⟨rfl, hr2, hg2⟩
  have M2 := Lib.hid (M1.out.call hr2 hg2)
  clear M1 hr2 hg2
  have y0 := M2.out.cells.cell 0
  have fy0 := M2.out.cells.frozen 0
  have ms := (M2.out.store 0 (.int .i64 (ori : Int)))
  have gs := (grownBy_setCell w2 b 0 (.int .i64 (ori : Int)))
  go_upto_region 3 with fail
  obtain ⟨x2, hx2⟩ : ∃ x2, x2 = (w2.setCell ⟨b, 0, none⟩ (.int .i64 (ori : Int))) := ⟨_, rfl⟩
  rw [← hx2] at ms gs ⊢
  simp only [List.set_cons_zero, List.set_cons_succ] at ms
  have N2 := Lib.hid ms
  clear M2 y0 fy0 ms gs hx2
  go_wp2_with fail
  refine (D1.out _ N2.out.ds).mono ?_
  rintro en w3 ⟨rfl, hr3, hg3⟩
  have M3 := Lib.hid (N2.out.call hr3 hg3)
  clear N2 hr3 hg3
  have y1 := M3.out.cells.cell 1
  have fy1 := M3.out.cells.frozen 1
  have ms := (M3.out.store 1 (.int .u64 (seq : Int)))
  have gs := (grownBy_setCell w3 b 1 (.int .u64 (seq : Int)))
  go_upto_region 4 with fail
  obtain ⟨x3, hx3⟩ : ∃ x3, x3 = (w3.setCell ⟨b, 1, none⟩ (.int .u64 (seq : Int))) := ⟨_, rfl⟩
  rw [← hx3] at ms gs ⊢
  simp only [List.set_cons_zero, List.set_cons_succ] at ms
  have N3 := Lib.hid ms
  clear M3 y1 fy1 ms gs hx3
  go_wp2_with fail
  refine (D2.out _ N3.out.ds).mono ?_
  rintro en w4 ⟨rfl, hr4, hg4⟩
  have M4 := Lib.hid (N3.out.call hr4 hg4)
  clear N3 hr4 hg4
  have hv : wrap64 ((rn : Nat) : Int) = reg := HV.out.symm
  have y2 := M4.out.cells.cell 2
  have fy2 := M4.out.cells.frozen 2
  have ms := (M4.out.store 2 (.int .i64 reg))
  have gs := (grownBy_setCell w4 b 2 (.int .i64 reg))
  go_upto_region 5 with fail
  obtain ⟨x4, hx4⟩ : ∃ x4, x4 = (w4.setCell ⟨b, 2, none⟩ (.int .i64 reg)) := ⟨_, rfl⟩
  rw [← hx4] at ms gs ⊢
  simp only [List.set_cons_zero, List.set_cons_succ] at ms
  have N4 := Lib.hid ms
  clear hv
  clear M4 y2 fy2 ms gs hx4
  go_wp2_with fail
  refine (D3.out _ N4.out.ds).mono ?_
  rintro en w5 ⟨rfl, hr5, hg5⟩
  have M5 := Lib.hid (N4.out.call hr5 hg5)
  clear N4 hr5 hg5
  have y3 := M5.out.cells.cell 3
  have fy3 := M5.out.cells.frozen 3
  have ms := (M5.out.store 3 (.int .u64 (epo : Int)))
  have gs := (grownBy_setCell w5 b 3 (.int .u64 (epo : Int)))
  go_upto_region 6 with fail
  obtain ⟨x5, hx5⟩ : ∃ x5, x5 = (w5.setCell ⟨b, 3, none⟩ (.int .u64 (epo : Int))) := ⟨_, rfl⟩
  rw [← hx5] at ms gs ⊢
  simp only [List.set_cons_zero, List.set_cons_succ] at ms
  have N5 := Lib.hid ms
  clear M5 y3 fy3 ms gs hx5
  go_wp2_with fail
  refine (D4.out _ N5.out.ds N5.out.blt).mono ?_
  rintro en w6 ⟨v6, rfl, o6, hr6, hg6⟩
  have M6 := Lib.hid (N5.out.call hr6 hg6)
  obtain ⟨sa, sc, rfl⟩ := o6.shape
  have SD6 := Lib.hid (o6.past (b := b) (by have := N5.out.cells.lt; exact this))
  clear o6
  clear N5 hr6 hg6
  have y4 := M6.out.cells.cell 4
  have fy4 := M6.out.cells.frozen 4
  have ms := (M6.out.store 4 (.slice sa (nums st).length sc))
  have gs := (grownBy_setCell w6 b 4 (.slice sa (nums st).length sc))
  go_upto_region 7 with fail
  obtain ⟨x6, hx6⟩ : ∃ x6, x6 = (w6.setCell ⟨b, 4, none⟩ (.slice sa (nums st).length sc)) := ⟨_, rfl⟩
  rw [← hx6] at ms gs ⊢
  simp only [List.set_cons_zero, List.set_cons_succ] at ms
  have N6 := Lib.hid ms
  have SE6 := Lib.hid (SD6.out.past gs (Nat.le_refl _))
  clear SD6
  clear M6 y4 fy4 ms gs hx6
  go_wp2_with fail
  refine (D5.out _ N6.out.ds).mono ?_
  rintro en w7 ⟨rfl, hr7, hg7⟩
  have M7 := Lib.hid (N6.out.call hr7 hg7)
  have SD7 := Lib.hid (SE6.out.past hg7 (by have := HB.out; omega))
  clear SE6
  clear N6 hr7 hg7
  obtain ⟨ZZ, hZZ⟩ : ∃ ZZ, ZZ = w7.heap.size := ⟨_, rfl⟩
  have SZ : Hid (SlP (fun j => b < j ∧ j < ZZ) w7 (.slice sa (nums st).length sc) (nums st)) := Lib.hid (by
    have h1 := SD7.out.monoLt (Q := fun j => b < j ∧ j < ZZ) (fun k hk hlt => ⟨hk.1, by rw [hZZ]; exact hlt⟩)
    exact h1)
  have HZ : Hid (b < ZZ) := Lib.hid (by rw [hZZ]; exact M7.out.cells.lt)
  have HZ8 : Hid (ZZ ≤ w7.heap.size) := Lib.hid (by omega)
  clear SD7 hZZ D0 D1 D2 D3 D4 D5 HV HW
  go_wp2
  go_loopw [5] (fun i wr => ∃ (k : Nat) (acc : List EffD) (sk : RS) (ea : Option Addr) (ec : Nat), k ≤ n ∧ Hid (acc.length = k) ∧ i = .int .i64 k ∧ Hid (D = (acc ++ (dMany dEff (n - k) sk).1, (dMany dEff (n - k) sk).2)) ∧ EffsR wr ZZ (.slice ea acc.length ec) acc ∧ Hid (SlP (fun j => b < j ∧ j < ZZ) wr (.slice sa (nums st).length sc) (nums st)) ∧ sk.1.length ≤ 1000000000 ∧ Hid (DMid w wr base g sk b [.int .i64 (ori : Int), .int .u64 (seq : Int), .int .i64 reg, .int .u64 (epo : Int), .slice sa (nums st).length sc, .slice ea acc.length ec, .int .u32 0] [.int .i64 0, .int .u64 0, .int .i64 0, .int .u64 0, .slice none 0 0, .slice none 0 0, .int .u32 0] 46) ∧ Hid (ZZ ≤ wr.heap.size)) (fun i _ => n - (intOf i).toNat)
  case atStart => exact ⟨0, [], s6, none, 0, Nat.zero_le _, Lib.hid rfl, rfl, D00, EffsR.nil _ _, SZ, l6, M7, HZ8⟩
  case round =>
    clear M7 SZ HZ8 D00
    obtain ⟨k, acc, sk, ea, ec, hk, HLEN, rfl, hd, ho, SD, hls, M, HZW⟩ := hrel
    obtain ⟨wo, rfl⟩ : ∃ wo : World, wo = wr := ⟨_, rfl⟩
    by_cases hlt : k < n
    · obtain ⟨c2, -⟩ := M.out.ds.bad
      have i2 : (k : Int) < (n : Int) := by omega
      cases hbad : sk.2 with
      | true =>
        rw [hbad] at c2
        have HEND : Hid (k = n ∨ sk.2 = true) := Lib.hid (.inr hbad)
        clear hbad
        obtain ⟨clo, hclo⟩ : ∃ clo, clo = (rSmall sk).1 := ⟨_, rfl⟩
        obtain ⟨s9, hs9⟩ : ∃ s9, s9 = (rSmall sk).2 := ⟨_, rfl⟩
        have CS := dsmall_any wo base g sk M.out.ds
        rw [← hclo, ← hs9] at CS
        have KN := Lib.hid (ENDS.out k acc sk clo s9 hclo hs9 HEND.out hd.out)
        have DS := Lib.hid CS
        have hub := ho.lt
        clear CS hclo hs9 hd HEND hub
        go_wp2_with fail
        refine (DS.out).mono ?_
        rintro en w20 ⟨rfl, hr20, hg20⟩
        have M20 := Lib.hid (M.out.call hr20 hg20)
        have SD20 := Lib.hid (SD.out.past hg20 (by have := HB.out; omega))
        have O20 := Lib.hid (ho.keep (keep_from hg20 (by have := HZ.out; have := HB.out; omega)))
        clear M SD ho hr20 hg20 DS
        have y6 := M20.out.cells.cell 6
        have fy6 := M20.out.cells.frozen 6
        have ms := (M20.out.store 6 (.int .u32 (clo : Int)))
        have gs := (grownBy_setCell w20 b 6 (.int .u32 (clo : Int)))
        go_upto_region 25 with fail
        obtain ⟨x20, hx20⟩ : ∃ x20, x20 = (w20.setCell ⟨b, 6, none⟩ (.int .u32 (clo : Int))) := ⟨_, rfl⟩
        rw [← hx20] at ms gs ⊢
        simp only [List.set_cons_zero, List.set_cons_succ] at ms
        have N20 := Lib.hid ms
        have SE20 := Lib.hid (SD20.out.past gs (Nat.le_refl _))
        have P20 := Lib.hid (O20.out.keep (keep_from gs HZ.out))
        clear SD20 O20
        clear M20 y6 fy6 ms gs hx20
        have y0 := N20.out.cells.cell 0
        have b0 := N20.out.zero.cell 0
        have fb0 := N20.out.zero.frozen 0
        have y1 := N20.out.cells.cell 1
        have b1 := N20.out.zero.cell 1
        have fb1 := N20.out.zero.frozen 1
        have y2 := N20.out.cells.cell 2
        have b2 := N20.out.zero.cell 2
        have fb2 := N20.out.zero.frozen 2
        have y3 := N20.out.cells.cell 3
        have b3 := N20.out.zero.cell 3
        have fb3 := N20.out.zero.frozen 3
        have y4 := N20.out.cells.cell 4
        have b4 := N20.out.zero.cell 4
        have fb4 := N20.out.zero.frozen 4
        have y5 := N20.out.cells.cell 5
        have b5 := N20.out.zero.cell 5
        have fb5 := N20.out.zero.frozen 5
        have y6 := N20.out.cells.cell 6
        have b6 := N20.out.zero.cell 6
        have fb6 := N20.out.zero.frozen 6
        have kf := (((((((N20.out.zero.set 0 (.int .i64 (ori : Int))).set 1 (.int .u64 (seq : Int))).set 2 (.int .i64 reg)).set 3 (.int .u64 (epo : Int))).set 4 (.slice sa (nums st).length sc)).set 5 (.slice ea acc.length ec)).set 6 (.int .u32 (clo : Int)))
        have gf : x20.grownBy (((((((x20.setCell ⟨w.heap.size, 0, none⟩ (.int .i64 (ori : Int))).setCell ⟨w.heap.size, 1, none⟩ (.int .u64 (seq : Int))).setCell ⟨w.heap.size, 2, none⟩ (.int .i64 reg)).setCell ⟨w.heap.size, 3, none⟩ (.int .u64 (epo : Int))).setCell ⟨w.heap.size, 4, none⟩ (.slice sa (nums st).length sc)).setCell ⟨w.heap.size, 5, none⟩ (.slice ea acc.length ec)).setCell ⟨w.heap.size, 6, none⟩ (.int .u32 (clo : Int))) (some w.heap.size) := (grownBy_trans (grownBy_trans (grownBy_trans (grownBy_trans (grownBy_trans (grownBy_trans (grownBy_setCell x20 w.heap.size 0 (.int .i64 (ori : Int))) (grownBy_setCell _ w.heap.size 1 (.int .u64 (seq : Int)))) (grownBy_setCell _ w.heap.size 2 (.int .i64 reg))) (grownBy_setCell _ w.heap.size 3 (.int .u64 (epo : Int)))) (grownBy_setCell _ w.heap.size 4 (.slice sa (nums st).length sc))) (grownBy_setCell _ w.heap.size 5 (.slice ea acc.length ec))) (grownBy_setCell _ w.heap.size 6 (.int .u32 (clo : Int))))
        have SF := (SE20.out.past gf (by have := HB.out; omega)).mono (Q := From w.heap.size) (fun k hk => by have := hk.1; have := HB.out; show w.heap.size ≤ k; omega)
        have OF := (P20.out.keep (Keep.of_grown gf (fun h => by have h1 : ZZ ≤ w.heap.size := h; have := HZ.out; have := HB.out; omega))).effs.mono (Q := From w.heap.size) (fun k hk => by have h1 : ZZ ≤ k := hk; have := HZ.out; have := HB.out; show w.heap.size ≤ k; omega)
        have x0 := kf.cell 0
        have x1 := kf.cell 1
        have x2 := kf.cell 2
        have x3 := kf.cell 3
        have x4 := kf.cell 4
        have x5 := kf.cell 5
        have x6 := kf.cell 6
        simp only [List.set_cons_zero, List.set_cons_succ, List.getElem?_cons_zero, List.getElem?_cons_succ] at x0 x1 x2 x3 x4 x5 x6
        have DF := Lib.hid (ds_new N20.out.ds gf (fun h => Nat.lt_irrefl _ (hb _ h)))
        have GF := Lib.hid (grown_new N20.out.gro gf (Nat.le_refl _))
        have SFh := Lib.hid SF
        have OFh := Lib.hid OF
        clear kf gf SF OF
        go_wp2
        exact bodyPost_ret (v := .agg #[.int .i64 (ori : Int), .int .u64 (seq : Int), .int .i64 reg, .int .u64 (epo : Int), .slice sa (nums st).length sc, .slice ea acc.length ec, .int .u32 (clo : Int)]) (by simp [results, Try.f39, go_sem, x0, x1, x2, x3, x4, x5, x6]) rfl (KN.out _ _ _ SFh.out OFh.out DF.out GF.out)
      | false =>
        rw [hbad] at c2
        have STP := STEP.out k acc sk hlt hbad hd.out
        have i1 : (0 : Int) ≤ (k : Int) := by omega
        have hgl2 : g < wo.heap.size := M.out.ds.lt
        clear hbad hd
        cases hgo : ((((rByte (rText sk).2).1 : Nat) : Int) == 1) with
        | true =>
            obtain ⟨r1, hr1⟩ : ∃ r1, r1 = (rText sk).2 := ⟨_, rfl⟩
            obtain ⟨r2, hr2⟩ : ∃ r2, r2 = (rByte r1).2 := ⟨_, rfl⟩
            obtain ⟨pa, hpa⟩ : ∃ pa, pa = (rText sk).1 := ⟨_, rfl⟩
            obtain ⟨gn, hgn⟩ : ∃ gn, gn = (rByte r1).1 := ⟨_, rfl⟩
            have ex : dEff sk = (⟨pa, true, zeroN⟩, r2) := by
              rw [dEff_true sk hgo, hpa, hr2, hr1]
            rw [ex] at STP
            have HD2 := Lib.hid STP
            have k1 : r1.1.length ≤ 1000000000 := by rw [hr1]; exact Nat.le_trans (lf_text sk) hls
            have k2 : r2.1.length ≤ 1000000000 := by rw [hr2]; exact Nat.le_trans (lf_byte r1) k1
            have E0 := fun W h hb => copied_any W base g sk h hb hls
            rw [← hpa, ← hr1] at E0
            have E1 := fun W h => one8_any W base g r1 h
            rw [← hgn, ← hr2] at E1
            have HG : Hid (((gn : Int) == 1) = true) := Lib.hid (by rw [hgn, hr1]; exact hgo)
            clear ex STP hgo k1 hr1 hr2 hpa hgn
            have Q0 := Lib.hid E0
            have Q1 := Lib.hid E1
            clear E0 E1
            obtain ⟨w1, hw1⟩ : ∃ w1, w1 = wo.alloc (.cells #[.string ⟨#[]⟩, .bool false, .slice none 0 0, .int .u32 0, .int .u32 0, .int .u32 0, .int .i64 0, .int .u32 0, .int .u64 0, .int .u64 0, .int .u64 0] 43) := ⟨_, rfl⟩
            obtain ⟨c, hc⟩ : ∃ c, c = wo.heap.size := ⟨_, rfl⟩
            have S1 : Hid (DSub wo w1 base g sk c [.string ⟨#[]⟩, .bool false, .slice none 0 0, .int .u32 0, .int .u32 0, .int .u32 0, .int .i64 0, .int .u32 0, .int .u64 0, .int .u64 0, .int .u64 0] 43) := Lib.hid (by rw [hw1, hc]; exact DSub.start M.out.ds M.out.blt)
            have HW := Lib.hid hw1
            have HC := Lib.hid hc
            have hgc : g < c := by rw [hc]; exact M.out.ds.lt
            clear hw1 hc
            go_wp2_with fail
            rw [← HW.out, ← HC.out]
            clear c2
            refine (Q0.out _ S1.out.ds S1.out.blt).mono ?_
            rintro en w2 ⟨v2, rfl, o2, hr2, hg2⟩
            have S2 := Lib.hid (S1.out.call hr2 hg2)
            clear S1 hr2 hg2
            have qs := run_string_sl (P := Try.prog) 28 5 9 Try.underlying28 Try.underlying5 Try.underlying9 o2.sl
            have y0 := S2.out.cells.cell 0
            have fy0 := S2.out.cells.frozen 0
            have ms := (S2.out.store 0 (.string ⟨pa.toArray⟩))
            have gs := (grownBy_setCell w2 c 0 (.string ⟨pa.toArray⟩))
            go_upto_region 13 with fail
            obtain ⟨x2, hx2⟩ : ∃ x2, x2 = (w2.setCell ⟨c, 0, none⟩ (.string ⟨pa.toArray⟩)) := ⟨_, rfl⟩
            rw [← hx2] at ms gs ⊢
            simp only [List.set_cons_zero, List.set_cons_succ] at ms
            have U2 := Lib.hid ms
            clear qs o2
            clear S2 y0 fy0 ms gs hx2
            go_wp2_with fail
            refine (Q1.out _ U2.out.ds).mono ?_
            rintro en w3 ⟨rfl, hr3, hg3⟩
            have S3 := Lib.hid (U2.out.call hr3 hg3)
            clear U2 hr3 hg3
            have y1 := S3.out.cells.cell 1
            have fy1 := S3.out.cells.frozen 1
            have ms := (S3.out.store 1 (.bool true))
            have gs := (grownBy_setCell w3 c 1 (.bool true))
            go_upto_region 14 with fail
            rw [HG.out]
            obtain ⟨x3, hx3⟩ : ∃ x3, x3 = (w3.setCell ⟨c, 1, none⟩ (.bool true)) := ⟨_, rfl⟩
            rw [← hx3] at ms gs ⊢
            simp only [List.set_cons_zero, List.set_cons_succ] at ms
            have U3 := Lib.hid ms
            clear S3 y1 fy1 ms gs hx3
            have y1 := U3.out.cells.cell 1
            go_upto_region 23 with fail
            clear y1
            have gW := U3.out.gro
            have MW := M.out.call U3.out.ds gW
            have o3 := ho.keep (keep_from gW (by have := HZ.out; have := HB.out; omega))
            have hub : ∀ j, (.slice ea acc.length ec : Value).ownBlock = some j → ZZ ≤ j ∧ j < wo.heap.size := ho.lt
            have hal : Gr x3 (x3.alloc (.cells #[.string ⟨pa.toArray⟩, .bool true, .slice none 0 0, .int .u32 0, .int .u32 0, .int .u32 0, .int .i64 0, .int .u32 0, .int .u64 0, .int .u64 0, .int .u64 0] 43)) := (Gr.refl _).alloc _
            have hzw : ZZ ≤ x3.heap.size := Nat.le_trans HZW.out gW.size
            obtain ⟨v4, w4, hrun, p1, p2⟩ := run_append_eff (x3.alloc (.cells #[.string ⟨pa.toArray⟩, .bool true, .slice none 0 0, .int .u32 0, .int .u32 0, .int .u32 0, .int .i64 0, .int .u32 0, .int .u64 0, .int .u64 0, .int .u64 0] 43)) ZZ (.slice ea acc.length ec) acc ⟨pa, true, zeroN⟩ (.slice none 0 0) x3.heap.size
              (o3.keep (Keep.of_gr hal)) (SlP.nil _ _ _ _) (CellsAt.new _ _ _) (by rw [HLEN.out]; omega) (by simp; omega)
            obtain ⟨acc2, hacc⟩ : ∃ acc2, acc2 = acc ++ [(⟨pa, true, zeroN⟩ : EffD)] := ⟨_, rfl⟩
            have hlen2 : acc2.length = k + 1 := by rw [hacc, List.length_append, HLEN.out]; rfl
            rw [← hacc] at p1 HD2
            obtain ⟨pa3, pc3, rfl⟩ := p1.shape
            have M4 := Lib.hid ((MW.gr hal).growO p2 (fun j hj => by have := (hub j hj).1; have := HZ.out; omega))
            have SD4 := Lib.hid (((SD.out.past gW (by have := HB.out; omega)).gr hal).pastO p2 (fun j hj => (hub j hj).1))
            have P1 := Lib.hid p1
            have HZ4 := Lib.hid (Nat.le_trans hzw (Nat.le_trans hal.size p2.size))
            have HRUN := Lib.hid hrun
            have LEN2 := Lib.hid hlen2
            have y5 := MW.cells.cell 5
            have z0 := U3.out.cells.cell 0
            have z1 := U3.out.cells.cell 1
            have z2 := U3.out.cells.cell 2
            have z3 := U3.out.cells.cell 3
            have z4 := U3.out.cells.cell 4
            have z5 := U3.out.cells.cell 5
            have z6 := U3.out.cells.cell 6
            have z7 := U3.out.cells.cell 7
            have z8 := U3.out.cells.cell 8
            have z9 := U3.out.cells.cell 9
            have z10 := U3.out.cells.cell 10
            clear hrun p1 p2 o3 ho hub hal gW MW M SD hacc hlen2 hzw U3
            have fy5 := M4.out.cells.frozen 5
            have yy5 := M4.out.cells.cell 5
            have M5 := Lib.hid (M4.out.store 5 (.slice pa3 acc2.length pc3))
            have gs := grownBy_setCell w4 b 5 (.slice pa3 acc2.length pc3)
            have SD5 := Lib.hid (SD4.out.past gs (Nat.le_refl _))
            have P5 := Lib.hid (P1.out.keep (keep_from gs HZ.out))
            have HZ5 := Lib.hid (Nat.le_trans HZ4.out gs.size)
            clear gs
            go_wp2_with (first | (at_builtin; refine wpList_run_append HRUN.out rfl _ _ rfl rfl rfl ?_; clear HRUN) | fail)
            go_roundw
            case rel => exact ⟨k + 1, acc2, r2, pa3, pc3, by omega, LEN2, by go_num, HD2, P5.out, SD5, k2, by simpa only [List.set_cons_zero, List.set_cons_succ] using M5, HZ5⟩
            case measure => simp [intOf]; omega
        | false =>
            obtain ⟨r1, hr1⟩ : ∃ r1, r1 = (rText sk).2 := ⟨_, rfl⟩
            obtain ⟨r2, hr2⟩ : ∃ r2, r2 = (rByte r1).2 := ⟨_, rfl⟩
            obtain ⟨pa, hpa⟩ : ∃ pa, pa = (rText sk).1 := ⟨_, rfl⟩
            obtain ⟨gn, hgn⟩ : ∃ gn, gn = (rByte r1).1 := ⟨_, rfl⟩
            obtain ⟨r3, hr3⟩ : ∃ r3, r3 = (rText r2).2 := ⟨_, rfl⟩
            obtain ⟨r4, hr4⟩ : ∃ r4, r4 = (rSmall r3).2 := ⟨_, rfl⟩
            obtain ⟨r5, hr5⟩ : ∃ r5, r5 = (rSmall r4).2 := ⟨_, rfl⟩
            obtain ⟨r6, hr6⟩ : ∃ r6, r6 = (rSmall r5).2 := ⟨_, rfl⟩
            obtain ⟨r7, hr7⟩ : ∃ r7, r7 = (dSess r6).2 := ⟨_, rfl⟩
            obtain ⟨r8, hr8⟩ : ∃ r8, r8 = (rUint r7).2 := ⟨_, rfl⟩
            obtain ⟨r9, hr9⟩ : ∃ r9, r9 = (rUint r8).2 := ⟨_, rfl⟩
            obtain ⟨r10, hr10⟩ : ∃ r10, r10 = (rUint r9).2 := ⟨_, rfl⟩
            obtain ⟨da, hda⟩ : ∃ da, da = (rText r2).1 := ⟨_, rfl⟩
            obtain ⟨ve, hve⟩ : ∃ ve, ve = (rSmall r3).1 := ⟨_, rfl⟩
            obtain ⟨ki, hki⟩ : ∃ ki, ki = (rSmall r4).1 := ⟨_, rfl⟩
            obtain ⟨ne, hne⟩ : ∃ ne, ne = (rSmall r5).1 := ⟨_, rfl⟩
            obtain ⟨si, hsi⟩ : ∃ si, si = (dSess r6).1.1 := ⟨_, rfl⟩
            obtain ⟨nn, hnn⟩ : ∃ nn, nn = (dSess r6).1.2 := ⟨_, rfl⟩
            obtain ⟨ma, hma⟩ : ∃ ma, ma = (rUint r7).1 := ⟨_, rfl⟩
            obtain ⟨ch, hch⟩ : ∃ ch, ch = (rUint r8).1 := ⟨_, rfl⟩
            obtain ⟨tu, htu⟩ : ∃ tu, tu = (rUint r9).1 := ⟨_, rfl⟩
            have ex : dEff sk = (⟨pa, false, ⟨da, ve, ki, ne, si, nn, ma, ch, tu⟩⟩, r10) := by
              rw [dEff_false sk hgo, htu, hch, hma, hnn, hsi, hne, hki, hve, hda, hr10, hr9, hr8, hr7, hr6, hr5, hr4, hr3, hpa, hr2, hr1]
              rfl
            rw [ex] at STP
            have HD2 := Lib.hid STP
            have k1 : r1.1.length ≤ 1000000000 := by rw [hr1]; exact Nat.le_trans (lf_text sk) hls
            have k2 : r2.1.length ≤ 1000000000 := by rw [hr2]; exact Nat.le_trans (lf_byte r1) k1
            have E0 := fun W h hb => copied_any W base g sk h hb hls
            rw [← hpa, ← hr1] at E0
            have E1 := fun W h => one8_any W base g r1 h
            rw [← hgn, ← hr2] at E1
            have E2 := fun W h hb => copied_any W base g r2 h hb k2
            rw [← hda, ← hr3] at E2
            have E3 := fun W h => dsmall_any W base g r3 h
            rw [← hve, ← hr4] at E3
            have E4 := fun W h => dsmall_any W base g r4 h
            rw [← hki, ← hr5] at E4
            have E5 := fun W h => dsmall_any W base g r5 h
            rw [← hne, ← hr6] at E5
            have E6 := fun W h hb => who_any W base g r6 h hb
            rw [← hsi, ← hnn, ← hr7] at E6
            have E7 := fun W h => ds_uint W base g r7 h
            rw [← hma, ← hr8] at E7
            have E8 := fun W h => ds_uint W base g r8 h
            rw [← hch, ← hr9] at E8
            have E9 := fun W h => ds_uint W base g r9 h
            rw [← htu, ← hr10] at E9
            have k10 : r10.1.length ≤ 1000000000 := by
              rw [hr10, hr9, hr8, hr7, hr6, hr5, hr4, hr3]
              exact Nat.le_trans (lf_uint _) (Nat.le_trans (lf_uint _) (Nat.le_trans (lf_uint _) (Nat.le_trans (lf_sess _) (Nat.le_trans (lf_small _) (Nat.le_trans (lf_small _) (Nat.le_trans (lf_small _) (Nat.le_trans (lf_text r2) k2)))))))
            have HG : Hid (((gn : Int) == 1) = false) := Lib.hid (by rw [hgn, hr1]; exact hgo)
            clear ex STP hgo k1 k2 hr1 hr2 hpa hgn hr3 hr4 hr5 hr6 hr7 hr8 hr9 hr10 hda hve hki hne hsi hnn hma hch htu
            have Q0 := Lib.hid E0
            have Q1 := Lib.hid E1
            have Q2 := Lib.hid E2
            have Q3 := Lib.hid E3
            have Q4 := Lib.hid E4
            have Q5 := Lib.hid E5
            have Q6 := Lib.hid E6
            have Q7 := Lib.hid E7
            have Q8 := Lib.hid E8
            have Q9 := Lib.hid E9
            clear E0 E1 E2 E3 E4 E5 E6 E7 E8 E9
            obtain ⟨w1, hw1⟩ : ∃ w1, w1 = wo.alloc (.cells #[.string ⟨#[]⟩, .bool false, .slice none 0 0, .int .u32 0, .int .u32 0, .int .u32 0, .int .i64 0, .int .u32 0, .int .u64 0, .int .u64 0, .int .u64 0] 43) := ⟨_, rfl⟩
            obtain ⟨c, hc⟩ : ∃ c, c = wo.heap.size := ⟨_, rfl⟩
            have S1 : Hid (DSub wo w1 base g sk c [.string ⟨#[]⟩, .bool false, .slice none 0 0, .int .u32 0, .int .u32 0, .int .u32 0, .int .i64 0, .int .u32 0, .int .u64 0, .int .u64 0, .int .u64 0] 43) := Lib.hid (by rw [hw1, hc]; exact DSub.start M.out.ds M.out.blt)
            have HW := Lib.hid hw1
            have HC := Lib.hid hc
            have hgc : g < c := by rw [hc]; exact M.out.ds.lt
            clear hw1 hc
            go_wp2_with fail
            rw [← HW.out, ← HC.out]
            clear c2
            refine (Q0.out _ S1.out.ds S1.out.blt).mono ?_
            rintro en w2 ⟨v2, rfl, o2, hr2, hg2⟩
            have S2 := Lib.hid (S1.out.call hr2 hg2)
            clear S1 hr2 hg2
            have qs := run_string_sl (P := Try.prog) 28 5 9 Try.underlying28 Try.underlying5 Try.underlying9 o2.sl
            have y0 := S2.out.cells.cell 0
            have fy0 := S2.out.cells.frozen 0
            have ms := (S2.out.store 0 (.string ⟨pa.toArray⟩))
            have gs := (grownBy_setCell w2 c 0 (.string ⟨pa.toArray⟩))
            go_upto_region 13 with fail
            obtain ⟨x2, hx2⟩ : ∃ x2, x2 = (w2.setCell ⟨c, 0, none⟩ (.string ⟨pa.toArray⟩)) := ⟨_, rfl⟩
            rw [← hx2] at ms gs ⊢
            simp only [List.set_cons_zero, List.set_cons_succ] at ms
            have U2 := Lib.hid ms
            clear qs o2
            clear S2 y0 fy0 ms gs hx2
            go_wp2_with fail
            refine (Q1.out _ U2.out.ds).mono ?_
            rintro en w3 ⟨rfl, hr3, hg3⟩
            have S3 := Lib.hid (U2.out.call hr3 hg3)
            clear U2 hr3 hg3
            have y1 := S3.out.cells.cell 1
            have fy1 := S3.out.cells.frozen 1
            have ms := (S3.out.store 1 (.bool false))
            have gs := (grownBy_setCell w3 c 1 (.bool false))
            go_upto_region 14 with fail
            rw [HG.out]
            obtain ⟨x3, hx3⟩ : ∃ x3, x3 = (w3.setCell ⟨c, 1, none⟩ (.bool false)) := ⟨_, rfl⟩
            rw [← hx3] at ms gs ⊢
            simp only [List.set_cons_zero, List.set_cons_succ] at ms
            have U3 := Lib.hid ms
            clear S3 y1 fy1 ms gs hx3
            have y1 := U3.out.cells.cell 1
            go_upto_region 15 with fail
            clear y1
            go_wp2_with fail
            refine (Q2.out _ U3.out.ds U3.out.blt).mono ?_
            rintro en w4 ⟨v4, rfl, o4, hr4, hg4⟩
            have S4 := Lib.hid (U3.out.call hr4 hg4)
            obtain ⟨ad, cd, rfl⟩ := o4.shape
            have SA4 := Lib.hid (o4.past (b := c) (by have := U3.out.cells.lt; exact this))
            clear o4
            clear U3 hr4 hg4
            have y2 := S4.out.cells.cell 2
            have fy2 := S4.out.cells.frozen 2
            have ms := (S4.out.store 2 (.slice ad (bytes da).length cd))
            have gs := (grownBy_setCell w4 c 2 (.slice ad (bytes da).length cd))
            go_upto_region 16 with fail
            obtain ⟨x4, hx4⟩ : ∃ x4, x4 = (w4.setCell ⟨c, 2, none⟩ (.slice ad (bytes da).length cd)) := ⟨_, rfl⟩
            rw [← hx4] at ms gs ⊢
            simp only [List.set_cons_zero, List.set_cons_succ] at ms
            have U4 := Lib.hid ms
            have SB4 := Lib.hid (SA4.out.past gs (Nat.le_refl _))
            clear SA4
            clear S4 y2 fy2 ms gs hx4
            go_wp2_with fail
            refine (Q3.out _ U4.out.ds).mono ?_
            rintro en w5 ⟨rfl, hr5, hg5⟩
            have S5 := Lib.hid (U4.out.call hr5 hg5)
            have SA5 := Lib.hid (SB4.out.past hg5 (by omega))
            clear SB4
            clear U4 hr5 hg5
            have y3 := S5.out.cells.cell 3
            have fy3 := S5.out.cells.frozen 3
            have ms := (S5.out.store 3 (.int .u32 (ve : Int)))
            have gs := (grownBy_setCell w5 c 3 (.int .u32 (ve : Int)))
            go_upto_region 17 with fail
            obtain ⟨x5, hx5⟩ : ∃ x5, x5 = (w5.setCell ⟨c, 3, none⟩ (.int .u32 (ve : Int))) := ⟨_, rfl⟩
            rw [← hx5] at ms gs ⊢
            simp only [List.set_cons_zero, List.set_cons_succ] at ms
            have U5 := Lib.hid ms
            have SB5 := Lib.hid (SA5.out.past gs (Nat.le_refl _))
            clear SA5
            clear S5 y3 fy3 ms gs hx5
            go_wp2_with fail
            refine (Q4.out _ U5.out.ds).mono ?_
            rintro en w6 ⟨rfl, hr6, hg6⟩
            have S6 := Lib.hid (U5.out.call hr6 hg6)
            have SA6 := Lib.hid (SB5.out.past hg6 (by omega))
            clear SB5
            clear U5 hr6 hg6
            have y4 := S6.out.cells.cell 4
            have fy4 := S6.out.cells.frozen 4
            have ms := (S6.out.store 4 (.int .u32 (ki : Int)))
            have gs := (grownBy_setCell w6 c 4 (.int .u32 (ki : Int)))
            go_upto_region 18 with fail
            obtain ⟨x6, hx6⟩ : ∃ x6, x6 = (w6.setCell ⟨c, 4, none⟩ (.int .u32 (ki : Int))) := ⟨_, rfl⟩
            rw [← hx6] at ms gs ⊢
            simp only [List.set_cons_zero, List.set_cons_succ] at ms
            have U6 := Lib.hid ms
            have SB6 := Lib.hid (SA6.out.past gs (Nat.le_refl _))
            clear SA6
            clear S6 y4 fy4 ms gs hx6
            go_wp2_with fail
            refine (Q5.out _ U6.out.ds).mono ?_
            rintro en w7 ⟨rfl, hr7, hg7⟩
            have S7 := Lib.hid (U6.out.call hr7 hg7)
            have SA7 := Lib.hid (SB6.out.past hg7 (by omega))
            clear SB6
            clear U6 hr7 hg7
            have y5 := S7.out.cells.cell 5
            have fy5 := S7.out.cells.frozen 5
            have ms := (S7.out.store 5 (.int .u32 (ne : Int)))
            have gs := (grownBy_setCell w7 c 5 (.int .u32 (ne : Int)))
            go_upto_region 19 with fail
            obtain ⟨x7, hx7⟩ : ∃ x7, x7 = (w7.setCell ⟨c, 5, none⟩ (.int .u32 (ne : Int))) := ⟨_, rfl⟩
            rw [← hx7] at ms gs ⊢
            simp only [List.set_cons_zero, List.set_cons_succ] at ms
            have U7 := Lib.hid ms
            have SB7 := Lib.hid (SA7.out.past gs (Nat.le_refl _))
            clear SA7
            clear S7 y5 fy5 ms gs hx7
            go_wp2_with fail
            refine (Q6.out _ U7.out.ds U7.out.blt).mono ?_
            rintro en w8 ⟨v8, rfl, rfl, hr8, hg8⟩
            have S8 := Lib.hid (U7.out.call hr8 hg8)
            have SA8 := Lib.hid (SB7.out.past hg8 (by omega))
            clear SB7
            clear U7 hr8 hg8
            have y6 := S8.out.cells.cell 6
            have fy6 := S8.out.cells.frozen 6
            have y7 := S8.out.cells.cell 7
            have fy7 := S8.out.cells.frozen 7
            have ms := ((S8.out.store 6 (.int .i64 si)).store 7 (.int .u32 (nn : Int)))
            have gs := (grownBy_trans (grownBy_setCell w8 c 6 (.int .i64 si)) (grownBy_setCell _ c 7 (.int .u32 (nn : Int))))
            go_upto_region 20 with fail
            obtain ⟨x8, hx8⟩ : ∃ x8, x8 = ((w8.setCell ⟨c, 6, none⟩ (.int .i64 si)).setCell ⟨c, 7, none⟩ (.int .u32 (nn : Int))) := ⟨_, rfl⟩
            rw [← hx8] at ms gs ⊢
            simp only [List.set_cons_zero, List.set_cons_succ] at ms
            have U8 := Lib.hid ms
            have SB8 := Lib.hid (SA8.out.past gs (Nat.le_refl _))
            clear SA8
            clear S8 y6 fy6 y7 fy7 ms gs hx8
            go_wp2_with fail
            refine (Q7.out _ U8.out.ds).mono ?_
            rintro en w9 ⟨rfl, hr9, hg9⟩
            have S9 := Lib.hid (U8.out.call hr9 hg9)
            have SA9 := Lib.hid (SB8.out.past hg9 (by omega))
            clear SB8
            clear U8 hr9 hg9
            have y8 := S9.out.cells.cell 8
            have fy8 := S9.out.cells.frozen 8
            have ms := (S9.out.store 8 (.int .u64 (ma : Int)))
            have gs := (grownBy_setCell w9 c 8 (.int .u64 (ma : Int)))
            go_upto_region 21 with fail
            obtain ⟨x9, hx9⟩ : ∃ x9, x9 = (w9.setCell ⟨c, 8, none⟩ (.int .u64 (ma : Int))) := ⟨_, rfl⟩
            rw [← hx9] at ms gs ⊢
            simp only [List.set_cons_zero, List.set_cons_succ] at ms
            have U9 := Lib.hid ms
            have SB9 := Lib.hid (SA9.out.past gs (Nat.le_refl _))
            clear SA9
            clear S9 y8 fy8 ms gs hx9
            go_wp2_with fail
            refine (Q8.out _ U9.out.ds).mono ?_
            rintro en w10 ⟨rfl, hr10, hg10⟩
            have S10 := Lib.hid (U9.out.call hr10 hg10)
            have SA10 := Lib.hid (SB9.out.past hg10 (by omega))
            clear SB9
            clear U9 hr10 hg10
            have y9 := S10.out.cells.cell 9
            have fy9 := S10.out.cells.frozen 9
            have ms := (S10.out.store 9 (.int .u64 (ch : Int)))
            have gs := (grownBy_setCell w10 c 9 (.int .u64 (ch : Int)))
            go_upto_region 22 with fail
            obtain ⟨x10, hx10⟩ : ∃ x10, x10 = (w10.setCell ⟨c, 9, none⟩ (.int .u64 (ch : Int))) := ⟨_, rfl⟩
            rw [← hx10] at ms gs ⊢
            simp only [List.set_cons_zero, List.set_cons_succ] at ms
            have U10 := Lib.hid ms
            have SB10 := Lib.hid (SA10.out.past gs (Nat.le_refl _))
            clear SA10
            clear S10 y9 fy9 ms gs hx10
            go_wp2_with fail
            refine (Q9.out _ U10.out.ds).mono ?_
            rintro en w11 ⟨rfl, hr11, hg11⟩
            have S11 := Lib.hid (U10.out.call hr11 hg11)
            have SA11 := Lib.hid (SB10.out.past hg11 (by omega))
            clear SB10
            clear U10 hr11 hg11
            have y10 := S11.out.cells.cell 10
            have fy10 := S11.out.cells.frozen 10
            have ms := (S11.out.store 10 (.int .u64 (tu : Int)))
            have gs := (grownBy_setCell w11 c 10 (.int .u64 (tu : Int)))
            go_upto_region 23 with fail
            obtain ⟨x11, hx11⟩ : ∃ x11, x11 = (w11.setCell ⟨c, 10, none⟩ (.int .u64 (tu : Int))) := ⟨_, rfl⟩
            rw [← hx11] at ms gs ⊢
            simp only [List.set_cons_zero, List.set_cons_succ] at ms
            have U11 := Lib.hid ms
            have SB11 := Lib.hid (SA11.out.past gs (Nat.le_refl _))
            clear SA11
            clear S11 y10 fy10 ms gs hx11
            have gW := U11.out.gro
            have MW := M.out.call U11.out.ds gW
            have o3 := ho.keep (keep_from gW (by have := HZ.out; have := HB.out; omega))
            have hub : ∀ j, (.slice ea acc.length ec : Value).ownBlock = some j → ZZ ≤ j ∧ j < wo.heap.size := ho.lt
            have hal : Gr x11 (x11.alloc (.cells #[.string ⟨pa.toArray⟩, .bool false, .slice ad (bytes da).length cd, .int .u32 (ve : Int), .int .u32 (ki : Int), .int .u32 (ne : Int), .int .i64 si, .int .u32 (nn : Int), .int .u64 (ma : Int), .int .u64 (ch : Int), .int .u64 (tu : Int)] 43)) := (Gr.refl _).alloc _
            have hzw : ZZ ≤ x11.heap.size := Nat.le_trans HZW.out gW.size
            obtain ⟨v4, w4, hrun, p1, p2⟩ := run_append_eff (x11.alloc (.cells #[.string ⟨pa.toArray⟩, .bool false, .slice ad (bytes da).length cd, .int .u32 (ve : Int), .int .u32 (ki : Int), .int .u32 (ne : Int), .int .i64 si, .int .u32 (nn : Int), .int .u64 (ma : Int), .int .u64 (ch : Int), .int .u64 (tu : Int)] 43)) ZZ (.slice ea acc.length ec) acc ⟨pa, false, ⟨da, ve, ki, ne, si, nn, ma, ch, tu⟩⟩ (.slice ad (bytes da).length cd) x11.heap.size
              (o3.keep (Keep.of_gr hal)) ((SB11.out.gr hal).mono fun j hj => ⟨by have := HC.out; have := HZW.out; omega, fun e => by have h1 := (hub j e).2; have := HC.out; omega⟩) (CellsAt.new _ _ _) (by rw [HLEN.out]; omega) (by simp; omega)
            obtain ⟨acc2, hacc⟩ : ∃ acc2, acc2 = acc ++ [(⟨pa, false, ⟨da, ve, ki, ne, si, nn, ma, ch, tu⟩⟩ : EffD)] := ⟨_, rfl⟩
            have hlen2 : acc2.length = k + 1 := by rw [hacc, List.length_append, HLEN.out]; rfl
            rw [← hacc] at p1 HD2
            obtain ⟨pa3, pc3, rfl⟩ := p1.shape
            have M4 := Lib.hid ((MW.gr hal).growO p2 (fun j hj => by have := (hub j hj).1; have := HZ.out; omega))
            have SD4 := Lib.hid (((SD.out.past gW (by have := HB.out; omega)).gr hal).pastO p2 (fun j hj => (hub j hj).1))
            have P1 := Lib.hid p1
            have HZ4 := Lib.hid (Nat.le_trans hzw (Nat.le_trans hal.size p2.size))
            have HRUN := Lib.hid hrun
            have LEN2 := Lib.hid hlen2
            have y5 := MW.cells.cell 5
            have z0 := U11.out.cells.cell 0
            have z1 := U11.out.cells.cell 1
            have z2 := U11.out.cells.cell 2
            have z3 := U11.out.cells.cell 3
            have z4 := U11.out.cells.cell 4
            have z5 := U11.out.cells.cell 5
            have z6 := U11.out.cells.cell 6
            have z7 := U11.out.cells.cell 7
            have z8 := U11.out.cells.cell 8
            have z9 := U11.out.cells.cell 9
            have z10 := U11.out.cells.cell 10
            clear hrun p1 p2 o3 ho hub hal gW MW M SD hacc hlen2 hzw U11 SB11
            have fy5 := M4.out.cells.frozen 5
            have yy5 := M4.out.cells.cell 5
            have M5 := Lib.hid (M4.out.store 5 (.slice pa3 acc2.length pc3))
            have gs := grownBy_setCell w4 b 5 (.slice pa3 acc2.length pc3)
            have SD5 := Lib.hid (SD4.out.past gs (Nat.le_refl _))
            have P5 := Lib.hid (P1.out.keep (keep_from gs HZ.out))
            have HZ5 := Lib.hid (Nat.le_trans HZ4.out gs.size)
            clear gs
            go_wp2_with (first | (at_builtin; refine wpList_run_append HRUN.out rfl _ _ rfl rfl rfl ?_; clear HRUN) | fail)
            go_roundw
            case rel => exact ⟨k + 1, acc2, r10, pa3, pc3, by omega, LEN2, by go_num, HD2, P5.out, SD5, k10, by simpa only [List.set_cons_zero, List.set_cons_succ] using M5, HZ5⟩
            case measure => simp [intOf]; omega
    · obtain rfl : k = n := by omega
      have HEND : Hid (k = k ∨ sk.2 = true) := Lib.hid (.inl rfl)
      obtain ⟨clo, hclo⟩ : ∃ clo, clo = (rSmall sk).1 := ⟨_, rfl⟩
      obtain ⟨s9, hs9⟩ : ∃ s9, s9 = (rSmall sk).2 := ⟨_, rfl⟩
      have CS := dsmall_any wo base g sk M.out.ds
      rw [← hclo, ← hs9] at CS
      have KN := Lib.hid (ENDS.out k acc sk clo s9 hclo hs9 HEND.out hd.out)
      have DS := Lib.hid CS
      have hub := ho.lt
      clear CS hclo hs9 hd HEND hub
      go_wp2_with fail
      refine (DS.out).mono ?_
      rintro en w20 ⟨rfl, hr20, hg20⟩
      have M20 := Lib.hid (M.out.call hr20 hg20)
      have SD20 := Lib.hid (SD.out.past hg20 (by have := HB.out; omega))
      have O20 := Lib.hid (ho.keep (keep_from hg20 (by have := HZ.out; have := HB.out; omega)))
      clear M SD ho hr20 hg20 DS
      have y6 := M20.out.cells.cell 6
      have fy6 := M20.out.cells.frozen 6
      have ms := (M20.out.store 6 (.int .u32 (clo : Int)))
      have gs := (grownBy_setCell w20 b 6 (.int .u32 (clo : Int)))
      go_upto_region 25 with fail
      obtain ⟨x20, hx20⟩ : ∃ x20, x20 = (w20.setCell ⟨b, 6, none⟩ (.int .u32 (clo : Int))) := ⟨_, rfl⟩
      rw [← hx20] at ms gs ⊢
      simp only [List.set_cons_zero, List.set_cons_succ] at ms
      have N20 := Lib.hid ms
      have SE20 := Lib.hid (SD20.out.past gs (Nat.le_refl _))
      have P20 := Lib.hid (O20.out.keep (keep_from gs HZ.out))
      clear SD20 O20
      clear M20 y6 fy6 ms gs hx20
      have y0 := N20.out.cells.cell 0
      have b0 := N20.out.zero.cell 0
      have fb0 := N20.out.zero.frozen 0
      have y1 := N20.out.cells.cell 1
      have b1 := N20.out.zero.cell 1
      have fb1 := N20.out.zero.frozen 1
      have y2 := N20.out.cells.cell 2
      have b2 := N20.out.zero.cell 2
      have fb2 := N20.out.zero.frozen 2
      have y3 := N20.out.cells.cell 3
      have b3 := N20.out.zero.cell 3
      have fb3 := N20.out.zero.frozen 3
      have y4 := N20.out.cells.cell 4
      have b4 := N20.out.zero.cell 4
      have fb4 := N20.out.zero.frozen 4
      have y5 := N20.out.cells.cell 5
      have b5 := N20.out.zero.cell 5
      have fb5 := N20.out.zero.frozen 5
      have y6 := N20.out.cells.cell 6
      have b6 := N20.out.zero.cell 6
      have fb6 := N20.out.zero.frozen 6
      have kf := (((((((N20.out.zero.set 0 (.int .i64 (ori : Int))).set 1 (.int .u64 (seq : Int))).set 2 (.int .i64 reg)).set 3 (.int .u64 (epo : Int))).set 4 (.slice sa (nums st).length sc)).set 5 (.slice ea acc.length ec)).set 6 (.int .u32 (clo : Int)))
      have gf : x20.grownBy (((((((x20.setCell ⟨w.heap.size, 0, none⟩ (.int .i64 (ori : Int))).setCell ⟨w.heap.size, 1, none⟩ (.int .u64 (seq : Int))).setCell ⟨w.heap.size, 2, none⟩ (.int .i64 reg)).setCell ⟨w.heap.size, 3, none⟩ (.int .u64 (epo : Int))).setCell ⟨w.heap.size, 4, none⟩ (.slice sa (nums st).length sc)).setCell ⟨w.heap.size, 5, none⟩ (.slice ea acc.length ec)).setCell ⟨w.heap.size, 6, none⟩ (.int .u32 (clo : Int))) (some w.heap.size) := (grownBy_trans (grownBy_trans (grownBy_trans (grownBy_trans (grownBy_trans (grownBy_trans (grownBy_setCell x20 w.heap.size 0 (.int .i64 (ori : Int))) (grownBy_setCell _ w.heap.size 1 (.int .u64 (seq : Int)))) (grownBy_setCell _ w.heap.size 2 (.int .i64 reg))) (grownBy_setCell _ w.heap.size 3 (.int .u64 (epo : Int)))) (grownBy_setCell _ w.heap.size 4 (.slice sa (nums st).length sc))) (grownBy_setCell _ w.heap.size 5 (.slice ea acc.length ec))) (grownBy_setCell _ w.heap.size 6 (.int .u32 (clo : Int))))
      have SF := (SE20.out.past gf (by have := HB.out; omega)).mono (Q := From w.heap.size) (fun k hk => by have := hk.1; have := HB.out; show w.heap.size ≤ k; omega)
      have OF := (P20.out.keep (Keep.of_grown gf (fun h => by have h1 : ZZ ≤ w.heap.size := h; have := HZ.out; have := HB.out; omega))).effs.mono (Q := From w.heap.size) (fun k hk => by have h1 : ZZ ≤ k := hk; have := HZ.out; have := HB.out; show w.heap.size ≤ k; omega)
      have x0 := kf.cell 0
      have x1 := kf.cell 1
      have x2 := kf.cell 2
      have x3 := kf.cell 3
      have x4 := kf.cell 4
      have x5 := kf.cell 5
      have x6 := kf.cell 6
      simp only [List.set_cons_zero, List.set_cons_succ, List.getElem?_cons_zero, List.getElem?_cons_succ] at x0 x1 x2 x3 x4 x5 x6
      have DF := Lib.hid (ds_new N20.out.ds gf (fun h => Nat.lt_irrefl _ (hb _ h)))
      have GF := Lib.hid (grown_new N20.out.gro gf (Nat.le_refl _))
      have SFh := Lib.hid SF
      have OFh := Lib.hid OF
      clear kf gf SF OF
      go_wp2
      exact bodyPost_ret (v := .agg #[.int .i64 (ori : Int), .int .u64 (seq : Int), .int .i64 reg, .int .u64 (epo : Int), .slice sa (nums st).length sc, .slice ea acc.length ec, .int .u32 (clo : Int)]) (by simp [results, Try.f39, go_sem, x0, x1, x2, x3, x4, x5, x6]) rfl (KN.out _ _ _ SFh.out OFh.out DF.out GF.out)
end Go.Proofs.Ytgilijkmmcpfjaa
