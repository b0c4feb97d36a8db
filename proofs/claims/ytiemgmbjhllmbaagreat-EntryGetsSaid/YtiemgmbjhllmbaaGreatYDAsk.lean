/-
  Of the document: what reads operations.
-/
import Derived.Test.YtiemgmbjhllmbaaGreatYM
import Derived.Test.YtiemgmbjhllmbaaGreatYEnGetOp
import Derived.Test.YtiemgmbjhllmbaaGreatYC
import Derived.Test.YtiemgmbjhllmbaaGreatYJ
set_option linter.unusedVariables false
set_option linter.unusedSimpArgs false
set_option maxRecDepth 100000
namespace Go.Proofs.YtiemgmbjhllmbaaGreat
open Go.RowKit
/-- Block w.heap.size holds Z, block b holds cs; the reader g is in the state s. -/
def DMid (w W : World) (base : Nat → Prop) (g : Nat) (s : RS) (b : Nat) (cs Z : List Value) (T : TypeId) : Prop :=
  CellsAt W b cs T ∧ CellsAt W w.heap.size Z T ∧ Ds W base g s ∧ w.grownBy W (some g) ∧ g < w.heap.size ∧ b = w.heap.size + 1 ∧ ∀ k, base k → k < w.heap.size
theorem DMid.call {w W W' : World} {base : Nat → Prop} {g : Nat} {s s' : RS} {b : Nat} {cs Z : List Value} {T : TypeId} (h : DMid w W base g s b cs Z T) (hr : Ds W' base g s') (hg : W.grownBy W' (some g)) : DMid w W' base g s' b cs Z T := by
  obtain ⟨h1, h2, h3, h4, h5, h6, h7⟩ := h
  exact ⟨h1.other hg (fun e => by injection e with e; omega), h2.other hg (fun e => by injection e with e; omega), hr, grownBy_trans h4 hg, h5, h6, h7⟩
theorem DMid.store {w W : World} {base : Nat → Prop} {g : Nat} {s : RS} {b : Nat} {cs Z : List Value} {T : TypeId} (h : DMid w W base g s b cs Z T) (i : Nat) (v : Value) : DMid w (W.setCell ⟨b, i, none⟩ v) base g s b (cs.set i v) Z T := by
  obtain ⟨h1, h2, h3, h4, h5, h6, h7⟩ := h
  have gf := grownBy_setCell W b i v
  exact ⟨h1.set i v, h2.other gf (fun e => by injection e with e; omega), ds_new h3 gf (fun hk => by have := h7 b hk; omega), grown_new h4 gf (by omega), h5, h6, h7⟩
theorem DMid.gr {w W W' : World} {base : Nat → Prop} {g : Nat} {s : RS} {b : Nat} {cs Z : List Value} {T : TypeId} (h : DMid w W base g s b cs Z T) (hg : Gr W W') : DMid w W' base g s b cs Z T := by
  obtain ⟨h1, h2, h3, h4, h5, h6, h7⟩ := h
  exact ⟨h1.gr hg, h2.gr hg, h3.gr hg, grownBy_trans h4 (gr_grown hg g), h5, h6, h7⟩
theorem DMid.growO {w W W' : World} {base : Nat → Prop} {g : Nat} {s : RS} {b : Nat} {cs Z : List Value} {T : TypeId} {q : Option Nat} (h : DMid w W base g s b cs Z T) (hg : W.grownBy W' q) (hq : ∀ k, q = some k → b < k) : DMid w W' base g s b cs Z T := by
  obtain ⟨h1, h2, h3, h4, h5, h6, h7⟩ := h
  exact ⟨h1.other hg (fun e => by have := hq b e; omega), h2.other hg (fun e => by have := hq _ e; omega), ds_newO h3 hg (fun k hk hb => by have := hq k hk; have := h7 k hb; omega), grown_newO h4 hg (fun k hk => by have := hq k hk; omega), h5, h6, h7⟩
theorem DMid.cells {w W : World} {base : Nat → Prop} {g : Nat} {s : RS} {b : Nat} {cs Z : List Value} {T : TypeId} (h : DMid w W base g s b cs Z T) : CellsAt W b cs T := h.1
theorem DMid.zero {w W : World} {base : Nat → Prop} {g : Nat} {s : RS} {b : Nat} {cs Z : List Value} {T : TypeId} (h : DMid w W base g s b cs Z T) : CellsAt W w.heap.size Z T := h.2.1
theorem DMid.ds {w W : World} {base : Nat → Prop} {g : Nat} {s : RS} {b : Nat} {cs Z : List Value} {T : TypeId} (h : DMid w W base g s b cs Z T) : Ds W base g s := h.2.2.1
theorem DMid.gro {w W : World} {base : Nat → Prop} {g : Nat} {s : RS} {b : Nat} {cs Z : List Value} {T : TypeId} (h : DMid w W base g s b cs Z T) : w.grownBy W (some g) := h.2.2.2.1
theorem DMid.blt {w W : World} {base : Nat → Prop} {g : Nat} {s : RS} {b : Nat} {cs Z : List Value} {T : TypeId} (h : DMid w W base g s b cs Z T) : ∀ k, base k → k < W.heap.size := fun k hk => Nat.lt_of_lt_of_le (h.2.2.2.2.2.2 k hk) h.2.2.2.1.size
theorem DMid.start {w : World} {base : Nat → Prop} {g : Nat} {s : RS} {Z : List Value} {T : TypeId} (hr : Ds w base g s) (hb : ∀ k, base k → k < w.heap.size) : DMid w ((w.alloc (.cells Z.toArray T)).alloc (.cells Z.toArray T)) base g s (w.heap.size + 1) Z Z T := by
  have g1 : Gr w (w.alloc (.cells Z.toArray T)) := (Gr.refl w).alloc _
  have g2 : Gr (w.alloc (.cells Z.toArray T)) ((w.alloc (.cells Z.toArray T)).alloc (.cells Z.toArray T)) := (Gr.refl _).alloc _
  have hs : (w.alloc (.cells Z.toArray T)).heap.size = w.heap.size + 1 := by simp
  have k2 := CellsAt.new (w.alloc (.cells Z.toArray T)) Z T
  rw [hs] at k2
  exact ⟨k2, (CellsAt.new w Z T).gr g2, hr.gr (g1.trans g2), gr_grown (g1.trans g2) g, hr.lt, rfl, hb⟩
/-- What lies in blocks behind b stays when no such block is written. -/
theorem SlP.past {W W' : World} {b z k : Nat} {dv : Value} {l : List Value} (h : SlP (fun j => b < j ∧ j < z) W dv l) (hg : W.grownBy W' (some k)) (hk : k ≤ b) : SlP (fun j => b < j ∧ j < z) W' dv l := h.keep (Keep.of_grown hg (fun h => by omega))
theorem SlP.pastO {W W' : World} {b z : Nat} {q : Option Nat} {dv : Value} {l : List Value} (h : SlP (fun j => b < j ∧ j < z) W dv l) (hg : W.grownBy W' q) (hk : ∀ k, q = some k → z ≤ k) : SlP (fun j => b < j ∧ j < z) W' dv l := h.keep (keepO hg (fun k hq h => by have := hk k hq; omega))
theorem Own.past {W : World} {e : TypeId} {B b : Nat} {dv : Value} {l : List Value} (h : Own W B e dv l) (hb : b < B) : SlP (fun j => b < j ∧ j < W.heap.size) W dv l := h.slP.monoLt fun k hk hlt => ⟨by have : B ≤ k := hk; omega, hlt⟩
/-- A new block of an operation without parts, as a slice. -/
def OpBox (B : Nat) (h : OpH) (v : Value) (W : World) : Prop := ∃ hq dv qa qc, v = .slice (some ⟨hq, 0, none⟩) 1 1 ∧ CellsAt W hq (opCells h dv (.slice qa 0 qc)) 28 ∧ SlP (From B) W dv (bytes h.data) ∧ B ≤ hq
theorem OpBox.ch {B : Nat} {h : OpH} {v : Value} {W W' : World} {ρ : Nat → Prop} (k : OpBox B h v W) (hc : Ch ρ W W') (hn : ∀ j, B ≤ j → ¬ ρ j) : OpBox B h v W' := by
  obtain ⟨hq, dv, qa, qc, e, h1, h2, h3⟩ := k
  exact ⟨hq, dv, qa, qc, e, h1.block (hc.block hq h1.lt (hn hq h3)), h2.keep (Keep.of_ch hc (fun j hj => hn j hj)), h3⟩
theorem OpBox.mk (W : World) (B ki : Nat) (pa da : List UInt8) (ve : Int) (sq ep : Bool) (a : Option Addr) (c : Nat) (qa : Option Addr) (qc : Nat) (h : SlP (From B) W (.slice a (bytes da).length c) (bytes da)) (hB : B ≤ W.heap.size) :
    OpBox B ⟨ki, pa, da, ve, sq, ep⟩ (.slice (some ⟨W.heap.size, 0, none⟩) 1 1) (W.alloc (.cells #[.int .u8 (ki : Int), .string ⟨pa.toArray⟩, .slice a (bytes da).length c, .int .i64 ve, .bool sq, .bool ep, .slice qa 0 qc] 28)) :=
  ⟨W.heap.size, .slice a (bytes da).length c, qa, qc, rfl, CellsAt.new W _ _, h.gr ((Gr.refl W).alloc _), hB⟩
def dst1 (a b : RS) : Nat → RS
  | 0 => a
  | _ => b
def dOpM (m : Nat) (s : RS) : OpD × RS := (.mk (dHead s).1 (dList m dOp0 (dHead s).2).1, (dList m dOp0 (dHead s).2).2)
set_option maxHeartbeats 4000000 in
theorem ask_gen (m : Nat) (hm : m ≤ 6) (base : Nat → Prop) (g : Nat)
    (REC : 0 < m → ∀ W s, Ds W base g s → (∀ k, base k → k < W.heap.size) → s.1.length ≤ 1000000000 → Calls Tryz.prog 27 #[.pointer (some ⟨g, 0, none⟩), .int .i64 0] W (DGotP W base g (OpIs0 W.heap.size (dOp0 s).1) (dOp0 s).2))
    (w : World) (s : RS) (hr : Ds w base g s) (hb : ∀ k, base k → k < w.heap.size) (hl : s.1.length ≤ 1000000000) :
    Calls Tryz.prog 27 #[.pointer (some ⟨g, 0, none⟩), .int .i64 (m : Int)] w (DGotP w base g (OpIs w.heap.size (dOpM m s).1) (dOpM m s).2) := by
  obtain ⟨s1, hs1⟩ : ∃ s1, s1 = (rByte s).2 := ⟨_, rfl⟩
  obtain ⟨s2, hs2⟩ : ∃ s2, s2 = (rText s1).2 := ⟨_, rfl⟩
  obtain ⟨s3, hs3⟩ : ∃ s3, s3 = (rText s2).2 := ⟨_, rfl⟩
  obtain ⟨s4, hs4⟩ : ∃ s4, s4 = (rUint s3).2 := ⟨_, rfl⟩
  obtain ⟨s5, hs5⟩ : ∃ s5, s5 = (rByte s4).2 := ⟨_, rfl⟩
  obtain ⟨s6, hs6⟩ : ∃ s6, s6 = (rByte s5).2 := ⟨_, rfl⟩
  obtain ⟨n, hn⟩ : ∃ n, n = (rCount (m : Int) s6).1 := ⟨_, rfl⟩
  obtain ⟨s7, hs7⟩ : ∃ s7, s7 = (rCount (m : Int) s6).2 := ⟨_, rfl⟩
  obtain ⟨ki, hki⟩ : ∃ ki, ki = (rByte s).1 := ⟨_, rfl⟩
  obtain ⟨pa, hpa⟩ : ∃ pa, pa = (rText s1).1 := ⟨_, rfl⟩
  obtain ⟨da, hda⟩ : ∃ da, da = (rText s2).1 := ⟨_, rfl⟩
  obtain ⟨vn, hvn⟩ : ∃ vn, vn = (rUint s3).1 := ⟨_, rfl⟩
  obtain ⟨qn, hqn⟩ : ∃ qn, qn = (rByte s4).1 := ⟨_, rfl⟩
  obtain ⟨en, hen⟩ : ∃ en, en = (rByte s5).1 := ⟨_, rfl⟩
  obtain ⟨qb, hq⟩ : ∃ qb, qb = ((qn : Int) == 1) := ⟨_, rfl⟩
  obtain ⟨eb, he⟩ : ∃ eb, eb = ((en : Int) == 1) := ⟨_, rfl⟩
  obtain ⟨ve, hve⟩ : ∃ ve, ve = i64 vn := ⟨_, rfl⟩
  have eh : dHead s = (⟨ki, pa, da, ve, qb, eb⟩, s6) := by
    have e1 : dHead s = (⟨ki, pa, da, ve, qn == 1, en == 1⟩, s6) := by
      rw [hve, hs6, hen, hqn, hvn, hs5, hs4, hda, hs3, hpa, hs2, hki, hs1]; rfl
    have a1 : qb = (qn == 1) := by rw [hq, Bool.eq_iff_iff]; simp; omega
    have a2 : eb = (en == 1) := by rw [he, Bool.eq_iff_iff]; simp; omega
    rw [e1, a1, a2]
  have ed : dOpM m s = (.mk ⟨ki, pa, da, ve, qb, eb⟩ (dMany dOp0 n s7).1, (dMany dOp0 n s7).2) := by
    unfold dOpM dList
    rw [eh, hn, hs7]
  have hnm : n ≤ m := by rw [hn]; exact rCount_most m s6
  have hkl : ki < 256 := by rw [hki]; exact rByte_lt s
  have l1 : s1.1.length ≤ 1000000000 := by rw [hs1]; exact Nat.le_trans (lf_byte s) hl
  have l2 : s2.1.length ≤ 1000000000 := by rw [hs2]; exact Nat.le_trans (lf_text s1) l1
  have l7 : s7.1.length ≤ 1000000000 := by
    rw [hs7, hs6, hs5, hs4, hs3]
    exact Nat.le_trans (lf_count _ _) (Nat.le_trans (lf_byte _) (Nat.le_trans (lf_byte _) (Nat.le_trans (lf_uint _) (Nat.le_trans (lf_text s2) l2))))
  have C0 := fun W h => one8_any W base g s h
  have C1 := fun W h hb => copied_any W base g s1 h hb l1
  have C2 := fun W h hb => copied_any W base g s2 h hb l2
  have C3 := fun W h => ds_uint W base g s3 h
  have C4 := fun W h => one8_any W base g s4 h
  have C5 := fun W h => one8_any W base g s5 h
  have C6 := fun W h => ds_count W base g s6 m (by omega) h
  rw [← hki, ← hs1] at C0
  rw [← hpa, ← hs2] at C1
  rw [← hda, ← hs3] at C2
  rw [← hvn, ← hs4] at C3
  rw [← hqn, ← hs5] at C4
  rw [← hen, ← hs6] at C5
  rw [← hn, ← hs7] at C6
  rw [ed]
  clear eh ed hs1 hs2 hs3 hs4 hs5 hs6 hs7 hki hpa hda hvn hqn hen hn l1 l2
  have D0 := Lib.hid C0
  have D1 := Lib.hid C1
  have D2 := Lib.hid C2
  have D3 := Lib.hid C3
  have D4 := Lib.hid C4
  have D5 := Lib.hid C5
  have D6 := Lib.hid C6
  have HQ := Lib.hid hq
  have HE := Lib.hid he
  have HV := Lib.hid hve
  clear C0 C1 C2 C3 C4 C5 C6 hq he hve
  obtain ⟨w1, hw1⟩ : ∃ w1, w1 = (w.alloc (.cells #[.int .u8 0, .string ⟨#[]⟩, .slice none 0 0, .int .i64 0, .bool false, .bool false, .slice none 0 0] 28)).alloc (.cells #[.int .u8 0, .string ⟨#[]⟩, .slice none 0 0, .int .i64 0, .bool false, .bool false, .slice none 0 0] 28) := ⟨_, rfl⟩
  obtain ⟨b, hbb⟩ : ∃ b, b = w.heap.size + 1 := ⟨_, rfl⟩
  have M1 : Hid (DMid w w1 base g s b [.int .u8 0, .string ⟨#[]⟩, .slice none 0 0, .int .i64 0, .bool false, .bool false, .slice none 0 0] [.int .u8 0, .string ⟨#[]⟩, .slice none 0 0, .int .i64 0, .bool false, .bool false, .slice none 0 0] 28) := Lib.hid (by rw [hw1, hbb]; exact DMid.start hr hb)
  have HW := Lib.hid hw1
  have HB := Lib.hid hbb
  have hgl := hr.lt
  clear hw1 hr hbb
  obtain ⟨D, hD⟩ : ∃ D, D = dMany dOp0 n s7 := ⟨_, rfl⟩
  have ENDS : Hid (∀ k acc sk, (k = n ∨ sk.2 = true) → D = (acc ++ (dMany dOp0 (n - k) sk).1, (dMany dOp0 (n - k) sk).2) → ∀ w' dv pv, SlP (From w.heap.size) w' dv (bytes da) → OpsP (From w.heap.size) w' pv acc → Ds w' base g sk → w.grownBy w' (some g) → DGotP w base g (OpIs w.heap.size (.mk ⟨ki, pa, da, ve, qb, eb⟩ D.1)) D.2 (.returned (.agg #[.int .u8 (ki : Int), .string ⟨pa.toArray⟩, dv, .int .i64 ve, .bool qb, .bool eb, pv])) w') := Lib.hid fun k acc sk h1 h2 w' dv pv o p r g' => by
    rw [hD] at h2 ⊢
    rw [dMany_end dOp0 n k s7 sk acc h1 h2]
    exact ⟨_, rfl, ⟨dv, pv, rfl, OpP.of o p⟩, r, g'⟩
  have STEP : Hid (∀ k acc sk, k < n → sk.2 = false → D = (acc ++ (dMany dOp0 (n - k) sk).1, (dMany dOp0 (n - k) sk).2) → D = (acc ++ [(dOp0 sk).1] ++ (dMany dOp0 (n - (k + 1)) (dOp0 sk).2).1, (dMany dOp0 (n - (k + 1)) (dOp0 sk).2).2)) := Lib.hid fun k acc sk h1 h2 h3 => by
    rw [hD] at h3 ⊢
    exact dMany_step dOp0 n k s7 sk acc h1 h2 h3
  have D00 : Hid (D = ([] ++ (dMany dOp0 (n - 0) s7).1, (dMany dOp0 (n - 0) s7).2)) := Lib.hid (by rw [hD]; rfl)
  rw [← hD]
  clear hD
  go_enter Tryz.func27, Tryz.ntmps27
  go_wp2_with fail
  rw [← HW.out, ← HB.out]
  refine (D0.out _ M1.out.ds).mono ?_
  rintro en w2 ⟨rfl, hr2, hg2⟩
  have M2 := Lib.hid (M1.out.call hr2 hg2)
  clear M1 hr2 hg2
  have y0 := M2.out.cells.cell 0
  have fy0 := M2.out.cells.frozen 0
  have ms := M2.out.store 0 (.int .u8 (ki : Int))
  have gs := grownBy_setCell w2 b 0 (.int .u8 (ki : Int))
  go_upto_region 3 with fail
  obtain ⟨x2, hx2⟩ : ∃ x2, x2 = w2.setCell ⟨b, 0, none⟩ (.int .u8 (ki : Int)) := ⟨_, rfl⟩
  rw [← hx2] at ms gs ⊢
  simp only [List.set_cons_zero, List.set_cons_succ] at ms
  have N2 := Lib.hid ms
  clear M2 y0 fy0 ms gs hx2
  go_wp2_with fail
  refine (D1.out _ N2.out.ds N2.out.blt).mono ?_
  rintro en w3 ⟨v3, rfl, o3, hr3, hg3⟩
  have M3 := Lib.hid (N2.out.call hr3 hg3)
  clear N2 hr3 hg3
  have qs := run_string_sl (P := Tryz.prog) 25 5 9 Tryz.underlying25 Tryz.underlying5 Tryz.underlying9 o3.sl
  have y1 := M3.out.cells.cell 1
  have fy1 := M3.out.cells.frozen 1
  have ms := M3.out.store 1 (.string ⟨pa.toArray⟩)
  have gs := grownBy_setCell w3 b 1 (.string ⟨pa.toArray⟩)
  go_upto_region 4 with fail
  obtain ⟨x3, hx3⟩ : ∃ x3, x3 = w3.setCell ⟨b, 1, none⟩ (.string ⟨pa.toArray⟩) := ⟨_, rfl⟩
  rw [← hx3] at ms gs ⊢
  simp only [List.set_cons_zero, List.set_cons_succ] at ms
  have N3 := Lib.hid ms
  clear qs o3
  clear M3 y1 fy1 ms gs hx3
  go_wp2_with fail
  refine (D2.out _ N3.out.ds N3.out.blt).mono ?_
  rintro en w4 ⟨v4, rfl, o4, hr4, hg4⟩
  have M4 := Lib.hid (N3.out.call hr4 hg4)
  obtain ⟨ad, cd, rfl⟩ := o4.shape
  have SD4 := Lib.hid (o4.past (b := b) (by have := N3.out.cells.lt; exact this))
  clear o4
  clear N3 hr4 hg4
  have y2 := M4.out.cells.cell 2
  have fy2 := M4.out.cells.frozen 2
  have ms := M4.out.store 2 (.slice ad (bytes da).length cd)
  have gs := grownBy_setCell w4 b 2 (.slice ad (bytes da).length cd)
  go_upto_region 5 with fail
  obtain ⟨x4, hx4⟩ : ∃ x4, x4 = w4.setCell ⟨b, 2, none⟩ (.slice ad (bytes da).length cd) := ⟨_, rfl⟩
  rw [← hx4] at ms gs ⊢
  simp only [List.set_cons_zero, List.set_cons_succ] at ms
  have N4 := Lib.hid ms
  have SE4 := Lib.hid (SD4.out.past gs (Nat.le_refl _))
  clear SD4
  clear M4 y2 fy2 ms gs hx4
  go_wp2_with fail
  refine (D3.out _ N4.out.ds).mono ?_
  rintro en w5 ⟨rfl, hr5, hg5⟩
  have M5 := Lib.hid (N4.out.call hr5 hg5)
  have SD5 := Lib.hid (SE4.out.past hg5 (by have := HB.out; omega))
  clear SE4
  clear N4 hr5 hg5
  have hv : wrap64 ((vn : Nat) : Int) = ve := HV.out.symm
  have y3 := M5.out.cells.cell 3
  have fy3 := M5.out.cells.frozen 3
  have ms := M5.out.store 3 (.int .i64 ve)
  have gs := grownBy_setCell w5 b 3 (.int .i64 ve)
  go_upto_region 6 with fail
  obtain ⟨x5, hx5⟩ : ∃ x5, x5 = w5.setCell ⟨b, 3, none⟩ (.int .i64 ve) := ⟨_, rfl⟩
  rw [← hx5] at ms gs ⊢
  simp only [List.set_cons_zero, List.set_cons_succ] at ms
  have N5 := Lib.hid ms
  have SE5 := Lib.hid (SD5.out.past gs (Nat.le_refl _))
  clear SD5
  clear hv
  clear M5 y3 fy3 ms gs hx5
  go_wp2_with fail
  refine (D4.out _ N5.out.ds).mono ?_
  rintro en w6 ⟨rfl, hr6, hg6⟩
  have M6 := Lib.hid (N5.out.call hr6 hg6)
  have SD6 := Lib.hid (SE5.out.past hg6 (by have := HB.out; omega))
  clear SE5
  clear N5 hr6 hg6
  have y4 := M6.out.cells.cell 4
  have fy4 := M6.out.cells.frozen 4
  have ms := M6.out.store 4 (.bool qb)
  have gs := grownBy_setCell w6 b 4 (.bool qb)
  go_upto_region 7 with fail
  rw [← HQ.out]
  obtain ⟨x6, hx6⟩ : ∃ x6, x6 = w6.setCell ⟨b, 4, none⟩ (.bool qb) := ⟨_, rfl⟩
  rw [← hx6] at ms gs ⊢
  simp only [List.set_cons_zero, List.set_cons_succ] at ms
  have N6 := Lib.hid ms
  have SE6 := Lib.hid (SD6.out.past gs (Nat.le_refl _))
  clear SD6
  clear M6 y4 fy4 ms gs hx6
  go_wp2_with fail
  refine (D5.out _ N6.out.ds).mono ?_
  rintro en w7 ⟨rfl, hr7, hg7⟩
  have M7 := Lib.hid (N6.out.call hr7 hg7)
  have SD7 := Lib.hid (SE6.out.past hg7 (by have := HB.out; omega))
  clear SE6
  clear N6 hr7 hg7
  have y5 := M7.out.cells.cell 5
  have fy5 := M7.out.cells.frozen 5
  have ms := M7.out.store 5 (.bool eb)
  have gs := grownBy_setCell w7 b 5 (.bool eb)
  go_upto_region 8 with fail
  rw [← HE.out]
  obtain ⟨x7, hx7⟩ : ∃ x7, x7 = w7.setCell ⟨b, 5, none⟩ (.bool eb) := ⟨_, rfl⟩
  rw [← hx7] at ms gs ⊢
  simp only [List.set_cons_zero, List.set_cons_succ] at ms
  have N7 := Lib.hid ms
  have SE7 := Lib.hid (SD7.out.past gs (Nat.le_refl _))
  clear SD7
  clear M7 y5 fy5 ms gs hx7
  go_wp2_with fail
  refine (D6.out _ N7.out.ds).mono ?_
  rintro en w8 ⟨rfl, hr8, hg8⟩
  have M8 := Lib.hid (N7.out.call hr8 hg8)
  have SD8 := Lib.hid (SE7.out.past hg8 (by have := HB.out; omega))
  clear SE7
  clear N7 hr8 hg8
  obtain ⟨ZZ, hZZ⟩ : ∃ ZZ, ZZ = w8.heap.size := ⟨_, rfl⟩
  have SZ : Hid (SlP (fun j => b < j ∧ j < ZZ) w8 (.slice ad (bytes da).length cd) (bytes da)) := Lib.hid (by
    have h1 := SD8.out.monoLt (Q := fun j => b < j ∧ j < ZZ) (fun k hk hlt => ⟨hk.1, by rw [hZZ]; exact hlt⟩)
    exact h1)
  have HZ : Hid (b < ZZ) := Lib.hid (by rw [hZZ]; exact M8.out.cells.lt)
  have HZ8 : Hid (ZZ ≤ w8.heap.size) := Lib.hid (by omega)
  clear SD8 hZZ
  clear D0 D1 D2 D3 D4 D5 D6 HQ HE HV HW
  go_wp2
  go_loopw [7] (fun i wr => ∃ (k : Nat) (acc : List OpD) (sk : RS) (pa2 : Option Addr) (pc2 : Nat), k ≤ n ∧ Hid (acc.length = k) ∧ i = .int .i64 k ∧ Hid (D = (acc ++ (dMany dOp0 (n - k) sk).1, (dMany dOp0 (n - k) sk).2)) ∧ OpsR wr ZZ (.slice pa2 acc.length pc2) acc ∧ Hid (SlP (fun j => b < j ∧ j < ZZ) wr (.slice ad (bytes da).length cd) (bytes da)) ∧ sk.1.length ≤ 1000000000 ∧ Hid (DMid w wr base g sk b [.int .u8 (ki : Int), .string ⟨pa.toArray⟩, .slice ad (bytes da).length cd, .int .i64 ve, .bool qb, .bool eb, .slice pa2 acc.length pc2] [.int .u8 0, .string ⟨#[]⟩, .slice none 0 0, .int .i64 0, .bool false, .bool false, .slice none 0 0] 28) ∧ Hid (ZZ ≤ wr.heap.size)) (fun i _ => n - (intOf i).toNat)
  case atStart => exact ⟨0, [], s7, none, 0, Nat.zero_le _, Lib.hid rfl, rfl, D00, OpsR.nil _ _, SZ, l7, M8, HZ8⟩
  case round =>
    clear M8 SZ HZ8 D00
    obtain ⟨k, acc, sk, pa2, pc2, hk, HLEN, rfl, hd, ho, SD, hls, M, HZW⟩ := hrel
    obtain ⟨wo, rfl⟩ : ∃ wo : World, wo = wr := ⟨_, rfl⟩
    by_cases hlt : k < n
    · obtain ⟨c2, -⟩ := M.out.ds.bad
      have i2 : (k : Int) < (n : Int) := by omega
      cases hbad : sk.2 with
      | true =>
        rw [hbad] at c2
        have KN := Lib.hid (ENDS.out k acc sk (.inr hbad) hd.out)
        clear hbad hd
        have y0 := M.out.cells.cell 0
        have b0 := M.out.zero.cell 0
        have fb0 := M.out.zero.frozen 0
        have y1 := M.out.cells.cell 1
        have b1 := M.out.zero.cell 1
        have fb1 := M.out.zero.frozen 1
        have y2 := M.out.cells.cell 2
        have b2 := M.out.zero.cell 2
        have fb2 := M.out.zero.frozen 2
        have y3 := M.out.cells.cell 3
        have b3 := M.out.zero.cell 3
        have fb3 := M.out.zero.frozen 3
        have y4 := M.out.cells.cell 4
        have b4 := M.out.zero.cell 4
        have fb4 := M.out.zero.frozen 4
        have y5 := M.out.cells.cell 5
        have b5 := M.out.zero.cell 5
        have fb5 := M.out.zero.frozen 5
        have y6 := M.out.cells.cell 6
        have b6 := M.out.zero.cell 6
        have fb6 := M.out.zero.frozen 6
        have kf := (((((((M.out.zero.set 0 (.int .u8 (ki : Int))).set 1 (.string ⟨pa.toArray⟩)).set 2 (.slice ad (bytes da).length cd)).set 3 (.int .i64 ve)).set 4 (.bool qb)).set 5 (.bool eb)).set 6 (.slice pa2 acc.length pc2))
        have gf : wo.grownBy (((((((wo.setCell ⟨w.heap.size, 0, none⟩ (.int .u8 (ki : Int))).setCell ⟨w.heap.size, 1, none⟩ (.string ⟨pa.toArray⟩)).setCell ⟨w.heap.size, 2, none⟩ (.slice ad (bytes da).length cd)).setCell ⟨w.heap.size, 3, none⟩ (.int .i64 ve)).setCell ⟨w.heap.size, 4, none⟩ (.bool qb)).setCell ⟨w.heap.size, 5, none⟩ (.bool eb)).setCell ⟨w.heap.size, 6, none⟩ (.slice pa2 acc.length pc2)) (some w.heap.size) := (grownBy_trans (grownBy_trans (grownBy_trans (grownBy_trans (grownBy_trans (grownBy_trans (grownBy_setCell wo w.heap.size 0 (.int .u8 (ki : Int))) (grownBy_setCell _ w.heap.size 1 (.string ⟨pa.toArray⟩))) (grownBy_setCell _ w.heap.size 2 (.slice ad (bytes da).length cd))) (grownBy_setCell _ w.heap.size 3 (.int .i64 ve))) (grownBy_setCell _ w.heap.size 4 (.bool qb))) (grownBy_setCell _ w.heap.size 5 (.bool eb))) (grownBy_setCell _ w.heap.size 6 (.slice pa2 acc.length pc2)))
        have hbw := HB.out
        have SF := (SD.out.past gf (by omega)).mono (Q := From w.heap.size) (fun k hk => by have := hk.1; show w.heap.size ≤ k; omega)
        have OF := (ho.keep (Keep.of_grown gf (fun h => by have h1 : ZZ ≤ w.heap.size := h; have := HZ.out; omega))).ops.mono (Q := From w.heap.size) (fun k hk => by have h1 : ZZ ≤ k := hk; have := HZ.out; show w.heap.size ≤ k; omega)
        have x0 := kf.cell 0
        have x1 := kf.cell 1
        have x2 := kf.cell 2
        have x3 := kf.cell 3
        have x4 := kf.cell 4
        have x5 := kf.cell 5
        have x6 := kf.cell 6
        simp only [List.set_cons_zero, List.set_cons_succ, List.getElem?_cons_zero, List.getElem?_cons_succ] at x0 x1 x2 x3 x4 x5 x6
        have DF := Lib.hid (ds_new M.out.ds gf (fun h => Nat.lt_irrefl _ (hb _ h)))
        have GF := Lib.hid (grown_new M.out.gro gf (Nat.le_refl _))
        have SFh := Lib.hid SF
        have OFh := Lib.hid OF
        clear kf gf SF OF hbw
        go_wp2
        exact bodyPost_ret (v := .agg #[.int .u8 (ki : Int), .string ⟨pa.toArray⟩, .slice ad (bytes da).length cd, .int .i64 ve, .bool qb, .bool eb, .slice pa2 acc.length pc2]) (by simp [results, Tryz.f27, go_sem, x0, x1, x2, x3, x4, x5, x6]) rfl (KN.out _ _ _ SFh.out OFh.out DF.out GF.out)
      | false =>
        rw [hbad] at c2
        have HD2 := Lib.hid (STEP.out k acc sk hlt hbad hd.out)
        have hls3 : (dOp0 sk).2.1.length ≤ 1000000000 := Nat.le_trans (lf_op0 sk) hls
        obtain ⟨x, hx⟩ : ∃ x, x = (dOp0 sk).1 := ⟨_, rfl⟩
        obtain ⟨s3, hs3⟩ : ∃ s3, s3 = (dOp0 sk).2 := ⟨_, rfl⟩
        have RR := fun W h hb => REC (by omega) W sk h hb hls
        have hnil : (dOp0 sk).1.parts = [] := rfl
        rw [← hx] at hnil
        rw [← hs3] at hls3
        rw [← hx, ← hs3] at RR HD2
        obtain ⟨⟨ki2, pt, dt, vt, sq, ep⟩, qs⟩ := x
        have HNIL := Lib.hid hnil
        have RC := Lib.hid RR
        have hgw := M.out.gro.size
        clear RR hx hs3 hbad hd hnil
        have i1 : (0 : Int) ≤ (k : Int) := by omega
        have hgl2 : g < wo.heap.size := Nat.lt_of_lt_of_le hgl hgw
        have hblt := M.out.cells.lt
        have hgb : ¬ b = g := by have := HB.out; omega
        go_wp2_with fail
        apply wp_region_draw_turnTail 5 (fun j => j = g) (fun j W => Ds W base g (dst1 sk s3 j)) (.eq _ :: .eq _ :: .eq _ :: .use (fun v W => OpIs0 wo.heap.size (.mk ⟨ki2, pt, dt, vt, sq, ep⟩ qs) v W) :: .ok (fun v W => OpBox wo.heap.size ⟨ki2, pt, dt, vt, sq, ep⟩ v W) :: []) (by kernel_rfl) (by kernel_rfl) ⟨fun v w2 w3 hg h => by obtain ⟨dv, h1, h2⟩ := h; exact ⟨dv, h1, h2.keep (Keep.of_ch hg (fun j h1 h3 => by have h4 : wo.heap.size ≤ j := h1; have h5 : j = g := h3; omega))⟩, fun v w2 w3 hg h => OpBox.ch h hg (fun j hj => by omega), trivial⟩ (fun j W W' hg h => Ds.gr h hg) (Ds.gr M.out.ds ((Gr.refl _).drew))
        apply wpT_eq
        · intro W hW _
          unfold opT
          go_simp
          first | exact resT_eq_mk _ _ _ | exact ⟨Gr.refl _, rfl⟩
        simp only [Act.put, pt1, pt2, pt3]
        apply wpT_eq
        · intro W hW _
          have kb := M.out.cells.block (hW.block b (by simpa using hblt) (by show ¬ b = g; exact hgb))
          have y6 := kb.cell 6
          clear kb
          unfold opT
          go_simp
          first | exact resT_eq_mk _ _ _ | exact ⟨Gr.refl _, rfl⟩
        simp only [Act.put, pt1, pt2, pt3]
        apply wpT_eq
        · intro W hW _
          unfold opT
          go_simp
          first | exact resT_eq_mk _ _ _ | exact ⟨Gr.refl _, rfl⟩
        simp only [Act.put, pt1, pt2, pt3]
        apply wpT_use
        · intro W hW hS hs
          have hsz : wo.heap.size ≤ W.heap.size := by simpa using hW.size
          have hbw : ∀ k, base k → k < W.heap.size := fun k hk => by have := hb k hk; omega
          unfold opT
          go_simp
          refine resT_call ((RC.out W hS hbw).mono ?_)
          rintro en W2 ⟨v, rfl, ⟨dv, h1, h2⟩, h3, h4⟩
          exact ⟨_, rfl, ⟨Ch.of_grownBy h4 (fun j hj => by cases hj; rfl), h3⟩, ⟨dv, h1, h2.mono fun j hj => by have h5 : W.heap.size ≤ j := hj; show wo.heap.size ≤ j; omega⟩⟩
        intro vt2
        simp only [Act.put, pt1, pt2, pt3]
        apply wpT_ok
        · intro W hW hs
          obtain ⟨dv, ⟨qa, qc, rfl⟩, sdv⟩ := hs _ (.head _) (by rfl)
          dsimp only [opCells, OpD.h] at sdv ⊢
          have hsz : wo.heap.size ≤ W.heap.size := by simpa using hW.size
          obtain ⟨ad2, cd2, rfl⟩ := sdv.1.oneCells
          unfold opT
          go_simp
          exact resT_mk ((Gr.refl W).alloc _) (OpBox.mk W _ _ _ _ _ _ _ _ _ _ _ sdv hsz)
        intro vq
        simp only [Act.put, pt1, pt2, pt3]
        apply wpT_nil
        intro W hW hSW hsAll
        obtain ⟨hp, dv, qa, qc, rfl, kbx, sdv, bhp⟩ := hsAll _ (.head _)
        clear hsAll
        have hRW : Ds W base g s3 := hSW
        have gW : wo.grownBy W (some g) := grownBy_trans (gr_grown ((Gr.refl wo).drew) g) (Ch.grownBy hW)
        dsimp only [opCells, OpD.h] at sdv ⊢
        obtain ⟨ad2, cd2, rfl⟩ := sdv.1.oneCells
        have MW := M.out.call hRW gW
        have o3 := ho.keep (keep_from gW (by have := HZ.out; have := HB.out; omega))
        have hub : ∀ j, (Value.slice pa2 acc.length pc2).ownBlock = some j → ZZ ≤ j ∧ j < wo.heap.size := ho.lt
        have hzw : ZZ ≤ W.heap.size := Nat.le_trans HZW.out gW.size
        obtain ⟨v4, w4, hrun, p1, p2⟩ := run_append_op W ZZ (.slice pa2 acc.length pc2) acc (.mk ⟨ki2, pt, dt, vt, sq, ep⟩ qs) (.slice ad2 (bytes dt).length cd2) qa qc hp
          o3 HNIL.out (sdv.mono fun j hj => ⟨Nat.le_trans HZW.out hj, fun e => by have h1 := (hub j e).2; have h2 : wo.heap.size ≤ j := hj; omega⟩) kbx (by rw [HLEN.out]; omega) hzw
        obtain ⟨acc2, hacc⟩ : ∃ acc2, acc2 = acc ++ [(.mk ⟨ki2, pt, dt, vt, sq, ep⟩ qs : OpD)] := ⟨_, rfl⟩
        have hlen2 : acc2.length = k + 1 := by rw [hacc, List.length_append, HLEN.out]; rfl
        rw [← hacc] at p1 HD2
        obtain ⟨pa3, pc3, rfl⟩ := p1.shape
        have M4 := Lib.hid (MW.growO p2 (fun j hj => by have := (hub j hj).1; have := HZ.out; omega))
        have SD4 := Lib.hid ((SD.out.past gW (by have := HB.out; omega)).pastO p2 (fun j hj => (hub j hj).1))
        have P1 := Lib.hid p1
        have HZ4 := Lib.hid (Nat.le_trans hzw p2.size)
        have HRUN := Lib.hid hrun
        have LEN2 := Lib.hid hlen2
        clear hrun p1 p2 o3 ho hub kbx bhp sdv hRW gW MW hW hSW c2 M SD hacc hlen2 hzw
        have y6 := M4.out.cells.cell 6
        have fy6 := M4.out.cells.frozen 6
        have M5 := Lib.hid (M4.out.store 6 (.slice pa3 acc2.length pc3))
        have gs := grownBy_setCell w4 b 6 (.slice pa3 acc2.length pc3)
        have SD5 := Lib.hid (SD4.out.past gs (Nat.le_refl _))
        have P5 := Lib.hid (P1.out.keep (keep_from gs HZ.out))
        have HZ5 := Lib.hid (Nat.le_trans HZ4.out gs.size)
        clear gs
        simp only [List.drop_succ_cons, List.drop_zero]
        go_wp2_with (at_builtin; refine wpList_run_append HRUN.out rfl _ _ rfl rfl rfl ?_; clear HRUN)
        go_roundw
        case rel => exact ⟨k + 1, acc2, s3, pa3, pc3, by omega, LEN2, by go_num, HD2, P5.out, SD5, hls3, by simpa only [List.set_cons_zero, List.set_cons_succ] using M5, HZ5⟩
        case measure => simp [intOf]; omega
    · obtain rfl : k = n := by omega
      have KN := Lib.hid (ENDS.out k acc sk (.inl rfl) hd.out)
      clear hd
      have y0 := M.out.cells.cell 0
      have b0 := M.out.zero.cell 0
      have fb0 := M.out.zero.frozen 0
      have y1 := M.out.cells.cell 1
      have b1 := M.out.zero.cell 1
      have fb1 := M.out.zero.frozen 1
      have y2 := M.out.cells.cell 2
      have b2 := M.out.zero.cell 2
      have fb2 := M.out.zero.frozen 2
      have y3 := M.out.cells.cell 3
      have b3 := M.out.zero.cell 3
      have fb3 := M.out.zero.frozen 3
      have y4 := M.out.cells.cell 4
      have b4 := M.out.zero.cell 4
      have fb4 := M.out.zero.frozen 4
      have y5 := M.out.cells.cell 5
      have b5 := M.out.zero.cell 5
      have fb5 := M.out.zero.frozen 5
      have y6 := M.out.cells.cell 6
      have b6 := M.out.zero.cell 6
      have fb6 := M.out.zero.frozen 6
      have kf := (((((((M.out.zero.set 0 (.int .u8 (ki : Int))).set 1 (.string ⟨pa.toArray⟩)).set 2 (.slice ad (bytes da).length cd)).set 3 (.int .i64 ve)).set 4 (.bool qb)).set 5 (.bool eb)).set 6 (.slice pa2 acc.length pc2))
      have gf : wo.grownBy (((((((wo.setCell ⟨w.heap.size, 0, none⟩ (.int .u8 (ki : Int))).setCell ⟨w.heap.size, 1, none⟩ (.string ⟨pa.toArray⟩)).setCell ⟨w.heap.size, 2, none⟩ (.slice ad (bytes da).length cd)).setCell ⟨w.heap.size, 3, none⟩ (.int .i64 ve)).setCell ⟨w.heap.size, 4, none⟩ (.bool qb)).setCell ⟨w.heap.size, 5, none⟩ (.bool eb)).setCell ⟨w.heap.size, 6, none⟩ (.slice pa2 acc.length pc2)) (some w.heap.size) := (grownBy_trans (grownBy_trans (grownBy_trans (grownBy_trans (grownBy_trans (grownBy_trans (grownBy_setCell wo w.heap.size 0 (.int .u8 (ki : Int))) (grownBy_setCell _ w.heap.size 1 (.string ⟨pa.toArray⟩))) (grownBy_setCell _ w.heap.size 2 (.slice ad (bytes da).length cd))) (grownBy_setCell _ w.heap.size 3 (.int .i64 ve))) (grownBy_setCell _ w.heap.size 4 (.bool qb))) (grownBy_setCell _ w.heap.size 5 (.bool eb))) (grownBy_setCell _ w.heap.size 6 (.slice pa2 acc.length pc2)))
      have hbw := HB.out
      have SF := (SD.out.past gf (by omega)).mono (Q := From w.heap.size) (fun k hk => by have := hk.1; show w.heap.size ≤ k; omega)
      have OF := (ho.keep (Keep.of_grown gf (fun h => by have h1 : ZZ ≤ w.heap.size := h; have := HZ.out; omega))).ops.mono (Q := From w.heap.size) (fun k hk => by have h1 : ZZ ≤ k := hk; have := HZ.out; show w.heap.size ≤ k; omega)
      have x0 := kf.cell 0
      have x1 := kf.cell 1
      have x2 := kf.cell 2
      have x3 := kf.cell 3
      have x4 := kf.cell 4
      have x5 := kf.cell 5
      have x6 := kf.cell 6
      simp only [List.set_cons_zero, List.set_cons_succ, List.getElem?_cons_zero, List.getElem?_cons_succ] at x0 x1 x2 x3 x4 x5 x6
      have DF := Lib.hid (ds_new M.out.ds gf (fun h => Nat.lt_irrefl _ (hb _ h)))
      have GF := Lib.hid (grown_new M.out.gro gf (Nat.le_refl _))
      have SFh := Lib.hid SF
      have OFh := Lib.hid OF
      clear kf gf SF OF hbw
      go_wp2
      exact bodyPost_ret (v := .agg #[.int .u8 (ki : Int), .string ⟨pa.toArray⟩, .slice ad (bytes da).length cd, .int .i64 ve, .bool qb, .bool eb, .slice pa2 acc.length pc2]) (by simp [results, Tryz.f27, go_sem, x0, x1, x2, x3, x4, x5, x6]) rfl (KN.out _ _ _ SFh.out OFh.out DF.out GF.out)
theorem ask0_any (w : World) (base : Nat → Prop) (g : Nat) (s : RS) (hr : Ds w base g s) (hb : ∀ k, base k → k < w.heap.size) (hl : s.1.length ≤ 1000000000) :
    Calls Tryz.prog 27 #[.pointer (some ⟨g, 0, none⟩), .int .i64 0] w (DGotP w base g (OpIs0 w.heap.size (dOp0 s).1) (dOp0 s).2) := by
  have e : dOpM 0 s = dOp0 s := by
    have h0 : (rCount ((0 : Nat) : Int) (dHead s).2).1 = 0 := by have := rCount_most 0 (dHead s).2; omega
    unfold dOpM dOp0 dList
    rw [h0]; rfl
  have := ask_gen 0 (by decide) base g (fun h => absurd h (by decide)) w s hr hb hl
  rw [e] at this
  refine this.mono ?_
  rintro en w' ⟨v, rfl, ⟨dv, pv, rfl, hp⟩, h2, h3⟩
  obtain ⟨p1, p2⟩ := hp.parts
  obtain ⟨a, c, rfl⟩ := p2.shape
  exact ⟨_, rfl, ⟨dv, ⟨a, c, rfl⟩, p1⟩, h2, h3⟩
theorem ask_any (w : World) (base : Nat → Prop) (g : Nat) (s : RS) (hr : Ds w base g s) (hb : ∀ k, base k → k < w.heap.size) (hl : s.1.length ≤ 1000000000) :
    Calls Tryz.prog 27 #[.pointer (some ⟨g, 0, none⟩), .int .i64 6] w (DGotP w base g (OpIs w.heap.size (dOp s).1) (dOp s).2) :=
  ask_gen 6 (by decide) base g (fun _ W s h1 h2 h3 => ask0_any W base g s h1 h2 h3) w s hr hb hl
end Go.Proofs.YtiemgmbjhllmbaaGreat
