/-
  Package entry: which parts each kind of entries has.
-/
import Derived.Test.YtiemgmbjhllmbaaYEnPartG
import Derived.Test.YtiemgmbjhllmbaaYMaps
import Derived.Deep.DeepCutAuto
import Derived.Laws.EntriesVeiled
set_option linter.unusedVariables false
set_option maxRecDepth 100000
namespace Go.Proofs.Ytiemgmbjhllmbaa
open Go.RowKit
open Go.Maps (Keyed keyOf_int_mk int_keyed)
def slD (b n c : Nat) : DataW Unit := .agg [.lit (.int .u64 (b : Int)), .lit (.int .u64 (n : Int)), .lit (.int .u64 (c : Int))]
theorem slD_inj {b n c b' n' c' : Nat} (h : slD b n c = slD b' n' c') : b = b' ∧ n = n' ∧ c = c' := by
  unfold slD at h
  injection h with h
  injection h with h1 h
  injection h with h2 h
  injection h with h3 _
  injection h1 with h1; injection h1 with _ h1
  injection h2 with h2; injection h2 with _ h2
  injection h3 with h3; injection h3 with _ h3
  exact ⟨by omega, by omega, by omega⟩
def R0 (v : Value) : Option (DataW Unit × List MemPlace) :=
  match v with
  | .slice (some ⟨b, 0, none⟩) n c => some (slD b n c, [])
  | _ => none
theorem R0_mk (b n c : Nat) : R0 (.slice (some ⟨b, 0, none⟩) n c) = some (slD b n c, []) := rfl
theorem R0_inv {v : Value} {b n c : Nat} {ps : List MemPlace} (h : R0 v = some (slD b n c, ps)) : v = .slice (some ⟨b, 0, none⟩) n c := by
  unfold R0 at h
  split at h
  · injection h with h
    injection h with h _
    obtain ⟨h1, h2, h3⟩ := slD_inj h
    subst h1 h2 h3
    rfl
  · cases h
def partRow (p : PartK) : List Value := [.func (.func (putF p)) #[] #[], .func (.func (getF p)) #[] #[], mayF p]
/-- The slice holds these parts. -/
def PartsAt (w : World) (v : Value) (ps : List PartK) : Prop := Rows w v ps.length 3 (fun i j => (partRow (ps.getD i .client)).getD j (.bool false))
theorem PartsAt.gr {w w' : World} {v : Value} {ps : List PartK} (h : PartsAt w v ps) (g : Gr w w') : PartsAt w' v ps := Rows.below h g
theorem PartsAt.shape {w : World} {v : Value} {ps : List PartK} (h : PartsAt w v ps) : ∃ a cap, v = .slice a ps.length cap := by obtain ⟨a, c, e, _⟩ := h; exact ⟨a, c, e⟩
theorem PartsAt.at {w : World} {v : Value} {ps : List PartK} (h : PartsAt w v ps) (k : Nat) (hk : k < ps.length) :
    ∃ B o c, v = .slice (some ⟨B, o, none⟩) ps.length c ∧ B < w.heap.size ∧ w.cell? ⟨B, o + k * 3, none⟩ = some (.func (.func (putF ps[k])) #[] #[]) ∧ w.cell? ⟨B, o + k * 3 + 1, none⟩ = some (.func (.func (getF ps[k])) #[] #[]) ∧ w.cell? ⟨B, o + k * 3 + 2, none⟩ = some (mayF ps[k]) := by
  obtain ⟨a, cap, rfl, hcap, hr⟩ := h
  obtain ⟨B, o, rfl, hB, hc⟩ := hr.resolve_left (by omega)
  have e : ps.getD k .client = ps[k] := by rw [List.getD_eq_getElem?_getD, List.getElem?_eq_getElem hk]; rfl
  refine ⟨B, o, cap, rfl, hB, ?_, ?_, ?_⟩
  · have := hc k hk 0 (by decide); dsimp only at this; rw [e] at this; exact this
  · have := hc k hk 1 (by decide); dsimp only at this; rw [e] at this; exact this
  · have := hc k hk 2 (by decide); dsimp only at this; rw [e] at this; exact this
theorem parts_of_cells {w : World} {b : Nat} {ps : List PartK} (h : CellsAt w b (ps.flatMap partRow) 57) : PartsAt w (.slice (some ⟨b, 0, none⟩) ps.length ps.length) ps := by
  refine ⟨_, _, rfl, Nat.le_refl _, .inr ⟨b, 0, rfl, h.lt, fun i hi j hj => ?_⟩⟩
  have e : ps.getD i .client = ps[i] := by rw [List.getD_eq_getElem?_getD, List.getElem?_eq_getElem hi]; rfl
  dsimp only
  rw [e, h.cell, Nat.zero_add]
  have h3 : ∀ r ∈ ps.map partRow, r.length = 3 := fun r hr => by obtain ⟨p, _, rfl⟩ := List.mem_map.1 hr; rfl
  have := flatten_get h3 i (by simpa using hi) j (by simpa [partRow] using hj)
  rw [← List.flatMap_def] at this
  rw [this]
  simp only [List.getElem_map, List.getD_eq_getElem?_getD]
  rw [List.getElem?_eq_getElem (show j < (partRow ps[i]).length from hj)]
  rfl
def KindMap (lo : Nat) (w : World) (g : Nat) : Prop := ∃ G, MapO w 5 R0 g 9 G ∧ ∀ n : Nat, n < 256 → (kindK n = true → ∃ b, lo ≤ b ∧ G (.int .u8 (n : Int)) = some (slD b (kindP n).length (kindP n).length) ∧ CellsAt w b ((kindP n).flatMap partRow) 57) ∧ (kindK n = false → G (.int .u8 (n : Int)) = none)
theorem KindMap.below {lo : Nat} {w w' : World} {g : Nat} (h : KindMap lo w g) (hg : Gr w w') : KindMap lo w' g := by
  obtain ⟨G, h1, h2⟩ := h
  exact ⟨G, h1.below hg, fun n hn => ⟨fun hk => by obtain ⟨b, q0, q1, q2⟩ := (h2 n hn).1 hk; exact ⟨b, q0, q1, q2.gr hg⟩, (h2 n hn).2⟩⟩
theorem K5 : Keyed Try.prog 5 := int_keyed Try.underlying5
theorem key5 (n : Nat) (hn : n < 256) : keyOf Try.prog 5 (.int .u8 (n : Int)) = some (.int .u8 (n : Int)) := by
  refine keyOf_int_mk Try.underlying5 ?_
  simp [Lit.wf, IntKind.min, IntKind.max, IntKind.bits, IntKind.signed]; omega
theorem kindP_nil {n : Nat} (h : kindK n = false) : kindP n = [] := by
  have : n = 0 ∨ 9 < n := by simp [kindK] at h; omega
  rcases this with rfl | h
  · rfl
  · unfold kindP; split <;> first | omega | rfl
/-- .. and it lies in new blocks. -/
def PartsFr (lo : Nat) (w : World) (v : Value) (ps : List PartK) : Prop := PartsAt w v ps ∧ ∀ a n c, v = .slice (some a) n c → lo ≤ a.block
theorem PartsFr.gr {lo : Nat} {w w' : World} {v : Value} {ps : List PartK} (h : PartsFr lo w v ps) (g : Gr w w') : PartsFr lo w' v ps := ⟨h.1.gr g, h.2⟩
theorem PartsFr.ch {lo : Nat} {w w' : World} {v : Value} {ps : List PartK} {ρ : Nat → Prop} (h : PartsFr lo w v ps) (g : Ch ρ w w') (hn : ∀ k, ρ k → k < lo) : PartsFr lo w' v ps := by
  obtain ⟨⟨a, c, e, hc, hr⟩, h2⟩ := h
  refine ⟨⟨a, c, e, hc, ?_⟩, h2⟩
  rcases hr with h0 | ⟨b, o, e1, hb, hcell⟩
  · exact .inl h0
  · refine .inr ⟨b, o, e1, Nat.lt_of_lt_of_le hb g.size, fun i hi j hj => ?_⟩
    rw [← hcell i hi j hj]
    exact g.cell (p := ⟨b, o + i * 3 + j, none⟩) hb (fun hk => by have h3 := hn _ hk; have h4 := h2 _ _ _ (by rw [e, e1]); dsimp only at h3 h4; omega)
theorem KindMap.look {lo : Nat} {w : World} {g : Nat} (h : KindMap lo w g) (n : Nat) (hn : n < 256) : ∃ lv, (Instr.lookup 50 (.map (some g)) (.int .u8 (n : Int)) true).run Try.prog w = .ok (.tuple #[lv, .bool (kindK n)]) w ∧ PartsFr lo w lv (kindP n) := by
  obtain ⟨G, h1, h2⟩ := h
  obtain ⟨e1, e2⟩ := MapO.look w K5 Try.underlying50 (z := .slice none 0 0) (by rfl) h1 (key5 n hn)
  cases hk : kindK n with
  | true =>
    obtain ⟨b, q0, q1, q2⟩ := (h2 n hn).1 hk
    obtain ⟨v, ps, hr, hrun⟩ := e2 _ q1
    rw [R0_inv hr] at hrun
    exact ⟨_, hrun, parts_of_cells q2, fun a n c e => by injection e with e _ _; injection e with e; subst e; exact q0⟩
  | false =>
    refine ⟨_, e1 ((h2 n hn).2 hk), ?_⟩
    rw [kindP_nil hk]
    exact ⟨⟨none, 0, rfl, Nat.le_refl _, .inl rfl⟩, fun a n c e => by injection e with e _ _; cases e⟩
theorem run_makeMap' (t : TypeId) (w : World) : (Instr.makeMap t none).run Try.prog w = .ok (.map (some w.heap.size)) (w.alloc (.map #[] 0)) := rfl
set_option maxHeartbeats 4000000 in
theorem kinds_any (w : World) : Calls Try.prog 8 #[] w fun e w' => ∃ g, e = .returned (.map (some g)) ∧ KindMap w.heap.size w' g ∧ Gr w w' := by
  obtain ⟨p1, hp1⟩ : ∃ p1, p1 = w.alloc (.cells #[.func (.func 17) #[] #[], .func (.func 19) #[] #[], .nilFunc] 57) := ⟨_, rfl⟩
  have gp1 : Gr w p1 := by rw [hp1]; exact (Gr.refl _).alloc _
  have kp1 : CellsAt p1 w.heap.size [.func (.func 17) #[] #[], .func (.func 19) #[] #[], .nilFunc] 57 := by rw [hp1]; exact CellsAt.new _ _ _
  have zp1 : p1.heap.size = w.heap.size + 1 := by rw [hp1]; simp
  obtain ⟨p2, hp2⟩ : ∃ p2, p2 = p1.alloc (.cells #[.func (.func 21) #[] #[], .func (.func 23) #[] #[], .func (.func 25) #[] #[]] 57) := ⟨_, rfl⟩
  have gp2 : Gr p1 p2 := by rw [hp2]; exact (Gr.refl _).alloc _
  have kp2 : CellsAt p2 p1.heap.size [.func (.func 21) #[] #[], .func (.func 23) #[] #[], .func (.func 25) #[] #[]] 57 := by rw [hp2]; exact CellsAt.new _ _ _
  have zp2 : p2.heap.size = w.heap.size + 2 := by rw [hp2]; simp; rw [zp1]
  obtain ⟨p3, hp3⟩ : ∃ p3, p3 = p2.alloc (.cells #[.func (.func 27) #[] #[], .func (.func 29) #[] #[], .func (.func 31) #[] #[]] 57) := ⟨_, rfl⟩
  have gp3 : Gr p2 p3 := by rw [hp3]; exact (Gr.refl _).alloc _
  have kp3 : CellsAt p3 p2.heap.size [.func (.func 27) #[] #[], .func (.func 29) #[] #[], .func (.func 31) #[] #[]] 57 := by rw [hp3]; exact CellsAt.new _ _ _
  have zp3 : p3.heap.size = w.heap.size + 3 := by rw [hp3]; simp; rw [zp2]
  obtain ⟨p4, hp4⟩ : ∃ p4, p4 = p3.alloc (.cells #[.func (.func 33) #[] #[], .func (.func 35) #[] #[], .func (.func 37) #[] #[]] 57) := ⟨_, rfl⟩
  have gp4 : Gr p3 p4 := by rw [hp4]; exact (Gr.refl _).alloc _
  have kp4 : CellsAt p4 p3.heap.size [.func (.func 33) #[] #[], .func (.func 35) #[] #[], .func (.func 37) #[] #[]] 57 := by rw [hp4]; exact CellsAt.new _ _ _
  have zp4 : p4.heap.size = w.heap.size + 4 := by rw [hp4]; simp; rw [zp3]
  obtain ⟨p5, hp5⟩ : ∃ p5, p5 = p4.alloc (.cells #[.func (.func 39) #[] #[], .func (.func 41) #[] #[], .func (.func 43) #[] #[]] 57) := ⟨_, rfl⟩
  have gp5 : Gr p4 p5 := by rw [hp5]; exact (Gr.refl _).alloc _
  have kp5 : CellsAt p5 p4.heap.size [.func (.func 39) #[] #[], .func (.func 41) #[] #[], .func (.func 43) #[] #[]] 57 := by rw [hp5]; exact CellsAt.new _ _ _
  have zp5 : p5.heap.size = w.heap.size + 5 := by rw [hp5]; simp; rw [zp4]
  obtain ⟨p6, hp6⟩ : ∃ p6, p6 = p5.alloc (.cells #[.func (.func 44) #[] #[], .func (.func 46) #[] #[], .func (.func 48) #[] #[]] 57) := ⟨_, rfl⟩
  have gp6 : Gr p5 p6 := by rw [hp6]; exact (Gr.refl _).alloc _
  have kp6 : CellsAt p6 p5.heap.size [.func (.func 44) #[] #[], .func (.func 46) #[] #[], .func (.func 48) #[] #[]] 57 := by rw [hp6]; exact CellsAt.new _ _ _
  have zp6 : p6.heap.size = w.heap.size + 6 := by rw [hp6]; simp; rw [zp5]
  obtain ⟨p7, hp7⟩ : ∃ p7, p7 = p6.alloc (.cells #[.func (.func 49) #[] #[], .func (.func 50) #[] #[], .nilFunc] 57) := ⟨_, rfl⟩
  have gp7 : Gr p6 p7 := by rw [hp7]; exact (Gr.refl _).alloc _
  have kp7 : CellsAt p7 p6.heap.size [.func (.func 49) #[] #[], .func (.func 50) #[] #[], .nilFunc] 57 := by rw [hp7]; exact CellsAt.new _ _ _
  have zp7 : p7.heap.size = w.heap.size + 7 := by rw [hp7]; simp; rw [zp6]
  obtain ⟨p8, hp8⟩ : ∃ p8, p8 = p7.alloc (.cells #[.func (.func 52) #[] #[], .func (.func 54) #[] #[], .func (.func 56) #[] #[]] 57) := ⟨_, rfl⟩
  have gp8 : Gr p7 p8 := by rw [hp8]; exact (Gr.refl _).alloc _
  have kp8 : CellsAt p8 p7.heap.size [.func (.func 52) #[] #[], .func (.func 54) #[] #[], .func (.func 56) #[] #[]] 57 := by rw [hp8]; exact CellsAt.new _ _ _
  have zp8 : p8.heap.size = w.heap.size + 8 := by rw [hp8]; simp; rw [zp7]
  have gall : Gr w p8 := (((((((gp1.trans gp2).trans gp3).trans gp4).trans gp5).trans gp6).trans gp7).trans gp8)
  have b1 : CellsAt p8 w.heap.size [.func (.func 17) #[] #[], .func (.func 19) #[] #[], .nilFunc] 57 := by have := (((((((kp1.gr gp2).gr gp3).gr gp4).gr gp5).gr gp6).gr gp7).gr gp8); exact this
  have b2 : CellsAt p8 (w.heap.size + 1) [.func (.func 21) #[] #[], .func (.func 23) #[] #[], .func (.func 25) #[] #[]] 57 := by have := ((((((kp2.gr gp3).gr gp4).gr gp5).gr gp6).gr gp7).gr gp8); rw [zp1] at this; exact this
  have b3 : CellsAt p8 (w.heap.size + 2) [.func (.func 27) #[] #[], .func (.func 29) #[] #[], .func (.func 31) #[] #[]] 57 := by have := (((((kp3.gr gp4).gr gp5).gr gp6).gr gp7).gr gp8); rw [zp2] at this; exact this
  have b4 : CellsAt p8 (w.heap.size + 3) [.func (.func 33) #[] #[], .func (.func 35) #[] #[], .func (.func 37) #[] #[]] 57 := by have := ((((kp4.gr gp5).gr gp6).gr gp7).gr gp8); rw [zp3] at this; exact this
  have b5 : CellsAt p8 (w.heap.size + 4) [.func (.func 39) #[] #[], .func (.func 41) #[] #[], .func (.func 43) #[] #[]] 57 := by have := (((kp5.gr gp6).gr gp7).gr gp8); rw [zp4] at this; exact this
  have b6 : CellsAt p8 (w.heap.size + 5) [.func (.func 44) #[] #[], .func (.func 46) #[] #[], .func (.func 48) #[] #[]] 57 := by have := ((kp6.gr gp7).gr gp8); rw [zp5] at this; exact this
  have b7 : CellsAt p8 (w.heap.size + 6) [.func (.func 49) #[] #[], .func (.func 50) #[] #[], .nilFunc] 57 := by have := (kp7.gr gp8); rw [zp6] at this; exact this
  have b8 : CellsAt p8 (w.heap.size + 7) [.func (.func 52) #[] #[], .func (.func 54) #[] #[], .func (.func 56) #[] #[]] 57 := by have := kp8; rw [zp7] at this; exact this
  have BK1 := Lib.hid b1
  have BK2 := Lib.hid b2
  have BK3 := Lib.hid b3
  have BK4 := Lib.hid b4
  have BK5 := Lib.hid b5
  have BK6 := Lib.hid b6
  have BK7 := Lib.hid b7
  have BK8 := Lib.hid b8
  have HW : Hid (p8 = ((((((((w.alloc (.cells #[.func (.func 17) #[] #[], .func (.func 19) #[] #[], .nilFunc] 57)).alloc (.cells #[.func (.func 21) #[] #[], .func (.func 23) #[] #[], .func (.func 25) #[] #[]] 57)).alloc (.cells #[.func (.func 27) #[] #[], .func (.func 29) #[] #[], .func (.func 31) #[] #[]] 57)).alloc (.cells #[.func (.func 33) #[] #[], .func (.func 35) #[] #[], .func (.func 37) #[] #[]] 57)).alloc (.cells #[.func (.func 39) #[] #[], .func (.func 41) #[] #[], .func (.func 43) #[] #[]] 57)).alloc (.cells #[.func (.func 44) #[] #[], .func (.func 46) #[] #[], .func (.func 48) #[] #[]] 57)).alloc (.cells #[.func (.func 49) #[] #[], .func (.func 50) #[] #[], .nilFunc] 57)).alloc (.cells #[.func (.func 52) #[] #[], .func (.func 54) #[] #[], .func (.func 56) #[] #[]] 57))) := Lib.hid (by rw [hp8, hp7, hp6, hp5, hp4, hp3, hp2, hp1])
  have GA := Lib.hid gall
  have Z8 := Lib.hid zp8
  clear hp1 gp1 kp1 b1 hp2 gp2 kp2 b2 hp3 gp3 kp3 b3 hp4 gp4 kp4 b4 hp5 gp5 kp5 b5 hp6 gp6 kp6 b6 hp7 gp7 kp7 b7 hp8 gp8 kp8 b8 gall zp1 zp2 zp3 zp4 zp5 zp6 zp7 zp8
  have m0 := run_makeMap' 50 p8
  have o0 := MapO.made p8 5 R0
  have g0 : Gr p8 (p8.alloc (.map #[] 0)) := (Gr.refl _).alloc _
  have hm0 : p8.heap.size < (p8.alloc (.map #[] 0)).heap.size := by simp
  generalize p8.alloc (.map #[] 0) = w0 at *
  have G0 := Lib.hid g0
  clear g0
  obtain ⟨mb, hmb⟩ : ∃ mb, mb = p8.heap.size := ⟨_, rfl⟩
  rw [← hmb] at m0 o0 hm0
  obtain ⟨a1, ha1⟩ : ∃ a1, a1 = w0.alloc (.cells #[.func (.func 17) #[] #[], .func (.func 19) #[] #[], .nilFunc, .func (.func 21) #[] #[], .func (.func 23) #[] #[], .func (.func 25) #[] #[], .func (.func 27) #[] #[], .func (.func 29) #[] #[], .func (.func 31) #[] #[]] 57) := ⟨_, rfl⟩
  have ga1 : Gr w0 a1 := by rw [ha1]; exact (Gr.refl _).alloc _
  have ka1 : CellsAt a1 w0.heap.size ((kindP 1).flatMap partRow) 57 := by rw [ha1]; exact CellsAt.new _ _ _
  obtain ⟨w1, f1, r1, o1, x1, y1, q1⟩ := MapO.update a1 (d := slD w0.heap.size 3 3) (ps := []) K5 Try.underlying50 (o0.below ga1) (by decide) (show keyOf Try.prog 5 (.int .u8 1) = some (.int .u8 1) from key5 1 (by decide)) (R0_mk w0.heap.size 3 3)
  have hm1 : mb < w1.heap.size := Nat.lt_of_lt_of_le hm0 (Nat.le_trans ga1.size q1.size)
  have kb1 : CellsAt w1 w0.heap.size ((kindP 1).flatMap partRow) 57 := ka1.other q1 (fun e => by injection e with e; omega)
  have gg1 : w0.grownBy w1 (some mb) := grownBy_trans (gr_grown ga1 mb) q1
  have G1 := Lib.hid (show Gr p8 w1 from (Below.trans (show Below p8.heap.size p8 w0 from G0.out) (show Below p8.heap.size w0 w1 from grownBy_below gg1 (Nat.le_trans (Nat.le_of_eq hmb.symm) (Nat.le_of_lt hm0)) (fun j hj => by injection hj with hj; omega))))
  obtain ⟨a2, ha2⟩ : ∃ a2, a2 = w1.alloc (.cells #[.func (.func 17) #[] #[], .func (.func 19) #[] #[], .nilFunc] 57) := ⟨_, rfl⟩
  have ga2 : Gr w1 a2 := by rw [ha2]; exact (Gr.refl _).alloc _
  have ka2 : CellsAt a2 w1.heap.size ((kindP 2).flatMap partRow) 57 := by rw [ha2]; exact CellsAt.new _ _ _
  obtain ⟨w2, f2, r2, o2, x2, y2, q2⟩ := MapO.update a2 (d := slD w1.heap.size 1 1) (ps := []) K5 Try.underlying50 (o1.below ga2) (by decide) (show keyOf Try.prog 5 (.int .u8 2) = some (.int .u8 2) from key5 2 (by decide)) (R0_mk w1.heap.size 1 1)
  have hm2 : mb < w2.heap.size := Nat.lt_of_lt_of_le hm1 (Nat.le_trans ga2.size q2.size)
  have kb2 : CellsAt w2 w1.heap.size ((kindP 2).flatMap partRow) 57 := ka2.other q2 (fun e => by injection e with e; omega)
  have gg2 : w1.grownBy w2 (some mb) := grownBy_trans (gr_grown ga2 mb) q2
  have G2 := Lib.hid (show Gr p8 w2 from (Below.trans (show Below p8.heap.size p8 w1 from G1.out) (show Below p8.heap.size w1 w2 from grownBy_below gg2 (Nat.le_trans (Nat.le_of_eq hmb.symm) (Nat.le_of_lt hm1)) (fun j hj => by injection hj with hj; omega))))
  obtain ⟨a3, ha3⟩ : ∃ a3, a3 = w2.alloc (.cells #[.func (.func 17) #[] #[], .func (.func 19) #[] #[], .nilFunc, .func (.func 21) #[] #[], .func (.func 23) #[] #[], .func (.func 25) #[] #[]] 57) := ⟨_, rfl⟩
  have ga3 : Gr w2 a3 := by rw [ha3]; exact (Gr.refl _).alloc _
  have ka3 : CellsAt a3 w2.heap.size ((kindP 3).flatMap partRow) 57 := by rw [ha3]; exact CellsAt.new _ _ _
  obtain ⟨w3, f3, r3, o3, x3, y3, q3⟩ := MapO.update a3 (d := slD w2.heap.size 2 2) (ps := []) K5 Try.underlying50 (o2.below ga3) (by decide) (show keyOf Try.prog 5 (.int .u8 3) = some (.int .u8 3) from key5 3 (by decide)) (R0_mk w2.heap.size 2 2)
  have hm3 : mb < w3.heap.size := Nat.lt_of_lt_of_le hm2 (Nat.le_trans ga3.size q3.size)
  have kb3 : CellsAt w3 w2.heap.size ((kindP 3).flatMap partRow) 57 := ka3.other q3 (fun e => by injection e with e; omega)
  have gg3 : w2.grownBy w3 (some mb) := grownBy_trans (gr_grown ga3 mb) q3
  have G3 := Lib.hid (show Gr p8 w3 from (Below.trans (show Below p8.heap.size p8 w2 from G2.out) (show Below p8.heap.size w2 w3 from grownBy_below gg3 (Nat.le_trans (Nat.le_of_eq hmb.symm) (Nat.le_of_lt hm2)) (fun j hj => by injection hj with hj; omega))))
  obtain ⟨a4, ha4⟩ : ∃ a4, a4 = w3.alloc (.cells #[.func (.func 33) #[] #[], .func (.func 35) #[] #[], .func (.func 37) #[] #[]] 57) := ⟨_, rfl⟩
  have ga4 : Gr w3 a4 := by rw [ha4]; exact (Gr.refl _).alloc _
  have ka4 : CellsAt a4 w3.heap.size ((kindP 4).flatMap partRow) 57 := by rw [ha4]; exact CellsAt.new _ _ _
  obtain ⟨w4, f4, r4, o4, x4, y4, q4⟩ := MapO.update a4 (d := slD w3.heap.size 1 1) (ps := []) K5 Try.underlying50 (o3.below ga4) (by decide) (show keyOf Try.prog 5 (.int .u8 4) = some (.int .u8 4) from key5 4 (by decide)) (R0_mk w3.heap.size 1 1)
  have hm4 : mb < w4.heap.size := Nat.lt_of_lt_of_le hm3 (Nat.le_trans ga4.size q4.size)
  have kb4 : CellsAt w4 w3.heap.size ((kindP 4).flatMap partRow) 57 := ka4.other q4 (fun e => by injection e with e; omega)
  have gg4 : w3.grownBy w4 (some mb) := grownBy_trans (gr_grown ga4 mb) q4
  have G4 := Lib.hid (show Gr p8 w4 from (Below.trans (show Below p8.heap.size p8 w3 from G3.out) (show Below p8.heap.size w3 w4 from grownBy_below gg4 (Nat.le_trans (Nat.le_of_eq hmb.symm) (Nat.le_of_lt hm3)) (fun j hj => by injection hj with hj; omega))))
  obtain ⟨a5, ha5⟩ : ∃ a5, a5 = w4.alloc (.cells #[.func (.func 44) #[] #[], .func (.func 46) #[] #[], .func (.func 48) #[] #[], .func (.func 49) #[] #[], .func (.func 50) #[] #[], .nilFunc, .func (.func 52) #[] #[], .func (.func 54) #[] #[], .func (.func 56) #[] #[]] 57) := ⟨_, rfl⟩
  have ga5 : Gr w4 a5 := by rw [ha5]; exact (Gr.refl _).alloc _
  have ka5 : CellsAt a5 w4.heap.size ((kindP 5).flatMap partRow) 57 := by rw [ha5]; exact CellsAt.new _ _ _
  obtain ⟨w5, f5, r5, o5, x5, y5, q5⟩ := MapO.update a5 (d := slD w4.heap.size 3 3) (ps := []) K5 Try.underlying50 (o4.below ga5) (by decide) (show keyOf Try.prog 5 (.int .u8 5) = some (.int .u8 5) from key5 5 (by decide)) (R0_mk w4.heap.size 3 3)
  have hm5 : mb < w5.heap.size := Nat.lt_of_lt_of_le hm4 (Nat.le_trans ga5.size q5.size)
  have kb5 : CellsAt w5 w4.heap.size ((kindP 5).flatMap partRow) 57 := ka5.other q5 (fun e => by injection e with e; omega)
  have gg5 : w4.grownBy w5 (some mb) := grownBy_trans (gr_grown ga5 mb) q5
  have G5 := Lib.hid (show Gr p8 w5 from (Below.trans (show Below p8.heap.size p8 w4 from G4.out) (show Below p8.heap.size w4 w5 from grownBy_below gg5 (Nat.le_trans (Nat.le_of_eq hmb.symm) (Nat.le_of_lt hm4)) (fun j hj => by injection hj with hj; omega))))
  obtain ⟨a6, ha6⟩ : ∃ a6, a6 = w5.alloc (.cells #[.func (.func 44) #[] #[], .func (.func 46) #[] #[], .func (.func 48) #[] #[], .func (.func 49) #[] #[], .func (.func 50) #[] #[], .nilFunc] 57) := ⟨_, rfl⟩
  have ga6 : Gr w5 a6 := by rw [ha6]; exact (Gr.refl _).alloc _
  have ka6 : CellsAt a6 w5.heap.size ((kindP 6).flatMap partRow) 57 := by rw [ha6]; exact CellsAt.new _ _ _
  obtain ⟨w6, f6, r6, o6, x6, y6, q6⟩ := MapO.update a6 (d := slD w5.heap.size 2 2) (ps := []) K5 Try.underlying50 (o5.below ga6) (by decide) (show keyOf Try.prog 5 (.int .u8 6) = some (.int .u8 6) from key5 6 (by decide)) (R0_mk w5.heap.size 2 2)
  have hm6 : mb < w6.heap.size := Nat.lt_of_lt_of_le hm5 (Nat.le_trans ga6.size q6.size)
  have kb6 : CellsAt w6 w5.heap.size ((kindP 6).flatMap partRow) 57 := ka6.other q6 (fun e => by injection e with e; omega)
  have gg6 : w5.grownBy w6 (some mb) := grownBy_trans (gr_grown ga6 mb) q6
  have G6 := Lib.hid (show Gr p8 w6 from (Below.trans (show Below p8.heap.size p8 w5 from G5.out) (show Below p8.heap.size w5 w6 from grownBy_below gg6 (Nat.le_trans (Nat.le_of_eq hmb.symm) (Nat.le_of_lt hm5)) (fun j hj => by injection hj with hj; omega))))
  obtain ⟨a7, ha7⟩ : ∃ a7, a7 = w6.alloc (.cells #[.func (.func 44) #[] #[], .func (.func 46) #[] #[], .func (.func 48) #[] #[]] 57) := ⟨_, rfl⟩
  have ga7 : Gr w6 a7 := by rw [ha7]; exact (Gr.refl _).alloc _
  have ka7 : CellsAt a7 w6.heap.size ((kindP 7).flatMap partRow) 57 := by rw [ha7]; exact CellsAt.new _ _ _
  obtain ⟨w7, f7, r7, o7, x7, y7, q7⟩ := MapO.update a7 (d := slD w6.heap.size 1 1) (ps := []) K5 Try.underlying50 (o6.below ga7) (by decide) (show keyOf Try.prog 5 (.int .u8 7) = some (.int .u8 7) from key5 7 (by decide)) (R0_mk w6.heap.size 1 1)
  have hm7 : mb < w7.heap.size := Nat.lt_of_lt_of_le hm6 (Nat.le_trans ga7.size q7.size)
  have kb7 : CellsAt w7 w6.heap.size ((kindP 7).flatMap partRow) 57 := ka7.other q7 (fun e => by injection e with e; omega)
  have gg7 : w6.grownBy w7 (some mb) := grownBy_trans (gr_grown ga7 mb) q7
  have G7 := Lib.hid (show Gr p8 w7 from (Below.trans (show Below p8.heap.size p8 w6 from G6.out) (show Below p8.heap.size w6 w7 from grownBy_below gg7 (Nat.le_trans (Nat.le_of_eq hmb.symm) (Nat.le_of_lt hm6)) (fun j hj => by injection hj with hj; omega))))
  obtain ⟨a8, ha8⟩ : ∃ a8, a8 = w7.alloc (.cells #[.func (.func 39) #[] #[], .func (.func 41) #[] #[], .func (.func 43) #[] #[], .func (.func 44) #[] #[], .func (.func 46) #[] #[], .func (.func 48) #[] #[]] 57) := ⟨_, rfl⟩
  have ga8 : Gr w7 a8 := by rw [ha8]; exact (Gr.refl _).alloc _
  have ka8 : CellsAt a8 w7.heap.size ((kindP 8).flatMap partRow) 57 := by rw [ha8]; exact CellsAt.new _ _ _
  obtain ⟨w8, f8, r8, o8, x8, y8, q8⟩ := MapO.update a8 (d := slD w7.heap.size 2 2) (ps := []) K5 Try.underlying50 (o7.below ga8) (by decide) (show keyOf Try.prog 5 (.int .u8 8) = some (.int .u8 8) from key5 8 (by decide)) (R0_mk w7.heap.size 2 2)
  have hm8 : mb < w8.heap.size := Nat.lt_of_lt_of_le hm7 (Nat.le_trans ga8.size q8.size)
  have kb8 : CellsAt w8 w7.heap.size ((kindP 8).flatMap partRow) 57 := ka8.other q8 (fun e => by injection e with e; omega)
  have gg8 : w7.grownBy w8 (some mb) := grownBy_trans (gr_grown ga8 mb) q8
  have G8 := Lib.hid (show Gr p8 w8 from (Below.trans (show Below p8.heap.size p8 w7 from G7.out) (show Below p8.heap.size w7 w8 from grownBy_below gg8 (Nat.le_trans (Nat.le_of_eq hmb.symm) (Nat.le_of_lt hm7)) (fun j hj => by injection hj with hj; omega))))
  obtain ⟨a9, ha9⟩ : ∃ a9, a9 = w8.alloc (.cells #[.func (.func 39) #[] #[], .func (.func 41) #[] #[], .func (.func 43) #[] #[], .func (.func 44) #[] #[], .func (.func 46) #[] #[], .func (.func 48) #[] #[], .func (.func 49) #[] #[], .func (.func 50) #[] #[], .nilFunc, .func (.func 52) #[] #[], .func (.func 54) #[] #[], .func (.func 56) #[] #[]] 57) := ⟨_, rfl⟩
  have ga9 : Gr w8 a9 := by rw [ha9]; exact (Gr.refl _).alloc _
  have ka9 : CellsAt a9 w8.heap.size ((kindP 9).flatMap partRow) 57 := by rw [ha9]; exact CellsAt.new _ _ _
  obtain ⟨w9, f9, r9, o9, x9, y9, q9⟩ := MapO.update a9 (d := slD w8.heap.size 4 4) (ps := []) K5 Try.underlying50 (o8.below ga9) (by decide) (show keyOf Try.prog 5 (.int .u8 9) = some (.int .u8 9) from key5 9 (by decide)) (R0_mk w8.heap.size 4 4)
  have hm9 : mb < w9.heap.size := Nat.lt_of_lt_of_le hm8 (Nat.le_trans ga9.size q9.size)
  have kb9 : CellsAt w9 w8.heap.size ((kindP 9).flatMap partRow) 57 := ka9.other q9 (fun e => by injection e with e; omega)
  have gg9 : w8.grownBy w9 (some mb) := grownBy_trans (gr_grown ga9 mb) q9
  have G9 := Lib.hid (show Gr p8 w9 from (Below.trans (show Below p8.heap.size p8 w8 from G8.out) (show Below p8.heap.size w8 w9 from grownBy_below gg9 (Nat.le_trans (Nat.le_of_eq hmb.symm) (Nat.le_of_lt hm8)) (fun j hj => by injection hj with hj; omega))))
  have e1 : CellsAt w9 w0.heap.size ((kindP 1).flatMap partRow) 57 := ((((((((kb1.other gg2 (fun e => by injection e with e; have := hm0; omega)).other gg3 (fun e => by injection e with e; have := hm0; omega)).other gg4 (fun e => by injection e with e; have := hm0; omega)).other gg5 (fun e => by injection e with e; have := hm0; omega)).other gg6 (fun e => by injection e with e; have := hm0; omega)).other gg7 (fun e => by injection e with e; have := hm0; omega)).other gg8 (fun e => by injection e with e; have := hm0; omega)).other gg9 (fun e => by injection e with e; have := hm0; omega))
  have e2 : CellsAt w9 w1.heap.size ((kindP 2).flatMap partRow) 57 := (((((((kb2.other gg3 (fun e => by injection e with e; have := hm1; omega)).other gg4 (fun e => by injection e with e; have := hm1; omega)).other gg5 (fun e => by injection e with e; have := hm1; omega)).other gg6 (fun e => by injection e with e; have := hm1; omega)).other gg7 (fun e => by injection e with e; have := hm1; omega)).other gg8 (fun e => by injection e with e; have := hm1; omega)).other gg9 (fun e => by injection e with e; have := hm1; omega))
  have e3 : CellsAt w9 w2.heap.size ((kindP 3).flatMap partRow) 57 := ((((((kb3.other gg4 (fun e => by injection e with e; have := hm2; omega)).other gg5 (fun e => by injection e with e; have := hm2; omega)).other gg6 (fun e => by injection e with e; have := hm2; omega)).other gg7 (fun e => by injection e with e; have := hm2; omega)).other gg8 (fun e => by injection e with e; have := hm2; omega)).other gg9 (fun e => by injection e with e; have := hm2; omega))
  have e4 : CellsAt w9 w3.heap.size ((kindP 4).flatMap partRow) 57 := (((((kb4.other gg5 (fun e => by injection e with e; have := hm3; omega)).other gg6 (fun e => by injection e with e; have := hm3; omega)).other gg7 (fun e => by injection e with e; have := hm3; omega)).other gg8 (fun e => by injection e with e; have := hm3; omega)).other gg9 (fun e => by injection e with e; have := hm3; omega))
  have e5 : CellsAt w9 w4.heap.size ((kindP 5).flatMap partRow) 57 := ((((kb5.other gg6 (fun e => by injection e with e; have := hm4; omega)).other gg7 (fun e => by injection e with e; have := hm4; omega)).other gg8 (fun e => by injection e with e; have := hm4; omega)).other gg9 (fun e => by injection e with e; have := hm4; omega))
  have e6 : CellsAt w9 w5.heap.size ((kindP 6).flatMap partRow) 57 := (((kb6.other gg7 (fun e => by injection e with e; have := hm5; omega)).other gg8 (fun e => by injection e with e; have := hm5; omega)).other gg9 (fun e => by injection e with e; have := hm5; omega))
  have e7 : CellsAt w9 w6.heap.size ((kindP 7).flatMap partRow) 57 := ((kb7.other gg8 (fun e => by injection e with e; have := hm6; omega)).other gg9 (fun e => by injection e with e; have := hm6; omega))
  have e8 : CellsAt w9 w7.heap.size ((kindP 8).flatMap partRow) 57 := (kb8.other gg9 (fun e => by injection e with e; have := hm7; omega))
  have e9 : CellsAt w9 w8.heap.size ((kindP 9).flatMap partRow) 57 := kb9
  have hkm : KindMap w.heap.size w9 mb := by
    refine ⟨f9, o9, fun n hn => ?_⟩
    have ne : ∀ k : Nat, n ≠ k → Lit.int .u8 (n : Int) ≠ .int .u8 (k : Int) := fun k hk e => hk (by injection e with _ e; exact_mod_cast e)
    by_cases h9 : 1 ≤ n ∧ n ≤ 9
    · have hk : kindK n = true := by simp [kindK]; omega
      refine ⟨fun _ => ?_, fun h => by rw [hk] at h; cases h⟩
      rcases (by omega : n = 1 ∨ n = 2 ∨ n = 3 ∨ n = 4 ∨ n = 5 ∨ n = 6 ∨ n = 7 ∨ n = 8 ∨ n = 9) with rfl | rfl | rfl | rfl | rfl | rfl | rfl | rfl | rfl
      · exact ⟨_, by have h1 := hm0; have h2 := GA.out.size; omega, by rw [y9 _ (ne 9 (by omega)), y8 _ (ne 8 (by omega)), y7 _ (ne 7 (by omega)), y6 _ (ne 6 (by omega)), y5 _ (ne 5 (by omega)), y4 _ (ne 4 (by omega)), y3 _ (ne 3 (by omega)), y2 _ (ne 2 (by omega))]; exact x1, e1⟩
      · exact ⟨_, by have h1 := hm1; have h2 := GA.out.size; omega, by rw [y9 _ (ne 9 (by omega)), y8 _ (ne 8 (by omega)), y7 _ (ne 7 (by omega)), y6 _ (ne 6 (by omega)), y5 _ (ne 5 (by omega)), y4 _ (ne 4 (by omega)), y3 _ (ne 3 (by omega))]; exact x2, e2⟩
      · exact ⟨_, by have h1 := hm2; have h2 := GA.out.size; omega, by rw [y9 _ (ne 9 (by omega)), y8 _ (ne 8 (by omega)), y7 _ (ne 7 (by omega)), y6 _ (ne 6 (by omega)), y5 _ (ne 5 (by omega)), y4 _ (ne 4 (by omega))]; exact x3, e3⟩
      · exact ⟨_, by have h1 := hm3; have h2 := GA.out.size; omega, by rw [y9 _ (ne 9 (by omega)), y8 _ (ne 8 (by omega)), y7 _ (ne 7 (by omega)), y6 _ (ne 6 (by omega)), y5 _ (ne 5 (by omega))]; exact x4, e4⟩
      · exact ⟨_, by have h1 := hm4; have h2 := GA.out.size; omega, by rw [y9 _ (ne 9 (by omega)), y8 _ (ne 8 (by omega)), y7 _ (ne 7 (by omega)), y6 _ (ne 6 (by omega))]; exact x5, e5⟩
      · exact ⟨_, by have h1 := hm5; have h2 := GA.out.size; omega, by rw [y9 _ (ne 9 (by omega)), y8 _ (ne 8 (by omega)), y7 _ (ne 7 (by omega))]; exact x6, e6⟩
      · exact ⟨_, by have h1 := hm6; have h2 := GA.out.size; omega, by rw [y9 _ (ne 9 (by omega)), y8 _ (ne 8 (by omega))]; exact x7, e7⟩
      · exact ⟨_, by have h1 := hm7; have h2 := GA.out.size; omega, by rw [y9 _ (ne 9 (by omega))]; exact x8, e8⟩
      · exact ⟨_, by have h1 := hm8; have h2 := GA.out.size; omega, by exact x9, e9⟩
    · have hk : kindK n = false := by simp [kindK]; omega
      exact ⟨fun h => by (rw [hk] at h; cases h), fun _ => by rw [y9 _ (ne 9 (by omega)), y8 _ (ne 8 (by omega)), y7 _ (ne 7 (by omega)), y6 _ (ne 6 (by omega)), y5 _ (ne 5 (by omega)), y4 _ (ne 4 (by omega)), y3 _ (ne 3 (by omega)), y2 _ (ne 2 (by omega)), y1 _ (ne 1 (by omega))]⟩
  have HK := Lib.hid hkm
  have GE := Lib.hid (GA.out.trans G9.out)
  have l1_0_0 : w0.cell? ⟨w.heap.size, 0, none⟩ = some (.func (.func 17) #[] #[]) := (BK1.out.gr G0.out).cell 0
  have l1_0_1 : w0.cell? ⟨w.heap.size, 1, none⟩ = some (.func (.func 19) #[] #[]) := (BK1.out.gr G0.out).cell 1
  have l1_0_2 : w0.cell? ⟨w.heap.size, 2, none⟩ = some (.nilFunc) := (BK1.out.gr G0.out).cell 2
  have l1_1_0 : w0.cell? ⟨w.heap.size + 1, 0, none⟩ = some (.func (.func 21) #[] #[]) := (BK2.out.gr G0.out).cell 0
  have l1_1_1 : w0.cell? ⟨w.heap.size + 1, 1, none⟩ = some (.func (.func 23) #[] #[]) := (BK2.out.gr G0.out).cell 1
  have l1_1_2 : w0.cell? ⟨w.heap.size + 1, 2, none⟩ = some (.func (.func 25) #[] #[]) := (BK2.out.gr G0.out).cell 2
  have l1_2_0 : w0.cell? ⟨w.heap.size + 2, 0, none⟩ = some (.func (.func 27) #[] #[]) := (BK3.out.gr G0.out).cell 0
  have l1_2_1 : w0.cell? ⟨w.heap.size + 2, 1, none⟩ = some (.func (.func 29) #[] #[]) := (BK3.out.gr G0.out).cell 1
  have l1_2_2 : w0.cell? ⟨w.heap.size + 2, 2, none⟩ = some (.func (.func 31) #[] #[]) := (BK3.out.gr G0.out).cell 2
  have l2_0_0 : w1.cell? ⟨w.heap.size, 0, none⟩ = some (.func (.func 17) #[] #[]) := (BK1.out.gr G1.out).cell 0
  have l2_0_1 : w1.cell? ⟨w.heap.size, 1, none⟩ = some (.func (.func 19) #[] #[]) := (BK1.out.gr G1.out).cell 1
  have l2_0_2 : w1.cell? ⟨w.heap.size, 2, none⟩ = some (.nilFunc) := (BK1.out.gr G1.out).cell 2
  have l3_0_0 : w2.cell? ⟨w.heap.size, 0, none⟩ = some (.func (.func 17) #[] #[]) := (BK1.out.gr G2.out).cell 0
  have l3_0_1 : w2.cell? ⟨w.heap.size, 1, none⟩ = some (.func (.func 19) #[] #[]) := (BK1.out.gr G2.out).cell 1
  have l3_0_2 : w2.cell? ⟨w.heap.size, 2, none⟩ = some (.nilFunc) := (BK1.out.gr G2.out).cell 2
  have l3_1_0 : w2.cell? ⟨w.heap.size + 1, 0, none⟩ = some (.func (.func 21) #[] #[]) := (BK2.out.gr G2.out).cell 0
  have l3_1_1 : w2.cell? ⟨w.heap.size + 1, 1, none⟩ = some (.func (.func 23) #[] #[]) := (BK2.out.gr G2.out).cell 1
  have l3_1_2 : w2.cell? ⟨w.heap.size + 1, 2, none⟩ = some (.func (.func 25) #[] #[]) := (BK2.out.gr G2.out).cell 2
  have l4_3_0 : w3.cell? ⟨w.heap.size + 3, 0, none⟩ = some (.func (.func 33) #[] #[]) := (BK4.out.gr G3.out).cell 0
  have l4_3_1 : w3.cell? ⟨w.heap.size + 3, 1, none⟩ = some (.func (.func 35) #[] #[]) := (BK4.out.gr G3.out).cell 1
  have l4_3_2 : w3.cell? ⟨w.heap.size + 3, 2, none⟩ = some (.func (.func 37) #[] #[]) := (BK4.out.gr G3.out).cell 2
  have l5_5_0 : w4.cell? ⟨w.heap.size + 5, 0, none⟩ = some (.func (.func 44) #[] #[]) := (BK6.out.gr G4.out).cell 0
  have l5_5_1 : w4.cell? ⟨w.heap.size + 5, 1, none⟩ = some (.func (.func 46) #[] #[]) := (BK6.out.gr G4.out).cell 1
  have l5_5_2 : w4.cell? ⟨w.heap.size + 5, 2, none⟩ = some (.func (.func 48) #[] #[]) := (BK6.out.gr G4.out).cell 2
  have l5_6_0 : w4.cell? ⟨w.heap.size + 6, 0, none⟩ = some (.func (.func 49) #[] #[]) := (BK7.out.gr G4.out).cell 0
  have l5_6_1 : w4.cell? ⟨w.heap.size + 6, 1, none⟩ = some (.func (.func 50) #[] #[]) := (BK7.out.gr G4.out).cell 1
  have l5_6_2 : w4.cell? ⟨w.heap.size + 6, 2, none⟩ = some (.nilFunc) := (BK7.out.gr G4.out).cell 2
  have l5_7_0 : w4.cell? ⟨w.heap.size + 7, 0, none⟩ = some (.func (.func 52) #[] #[]) := (BK8.out.gr G4.out).cell 0
  have l5_7_1 : w4.cell? ⟨w.heap.size + 7, 1, none⟩ = some (.func (.func 54) #[] #[]) := (BK8.out.gr G4.out).cell 1
  have l5_7_2 : w4.cell? ⟨w.heap.size + 7, 2, none⟩ = some (.func (.func 56) #[] #[]) := (BK8.out.gr G4.out).cell 2
  have l6_5_0 : w5.cell? ⟨w.heap.size + 5, 0, none⟩ = some (.func (.func 44) #[] #[]) := (BK6.out.gr G5.out).cell 0
  have l6_5_1 : w5.cell? ⟨w.heap.size + 5, 1, none⟩ = some (.func (.func 46) #[] #[]) := (BK6.out.gr G5.out).cell 1
  have l6_5_2 : w5.cell? ⟨w.heap.size + 5, 2, none⟩ = some (.func (.func 48) #[] #[]) := (BK6.out.gr G5.out).cell 2
  have l6_6_0 : w5.cell? ⟨w.heap.size + 6, 0, none⟩ = some (.func (.func 49) #[] #[]) := (BK7.out.gr G5.out).cell 0
  have l6_6_1 : w5.cell? ⟨w.heap.size + 6, 1, none⟩ = some (.func (.func 50) #[] #[]) := (BK7.out.gr G5.out).cell 1
  have l6_6_2 : w5.cell? ⟨w.heap.size + 6, 2, none⟩ = some (.nilFunc) := (BK7.out.gr G5.out).cell 2
  have l7_5_0 : w6.cell? ⟨w.heap.size + 5, 0, none⟩ = some (.func (.func 44) #[] #[]) := (BK6.out.gr G6.out).cell 0
  have l7_5_1 : w6.cell? ⟨w.heap.size + 5, 1, none⟩ = some (.func (.func 46) #[] #[]) := (BK6.out.gr G6.out).cell 1
  have l7_5_2 : w6.cell? ⟨w.heap.size + 5, 2, none⟩ = some (.func (.func 48) #[] #[]) := (BK6.out.gr G6.out).cell 2
  have l8_4_0 : w7.cell? ⟨w.heap.size + 4, 0, none⟩ = some (.func (.func 39) #[] #[]) := (BK5.out.gr G7.out).cell 0
  have l8_4_1 : w7.cell? ⟨w.heap.size + 4, 1, none⟩ = some (.func (.func 41) #[] #[]) := (BK5.out.gr G7.out).cell 1
  have l8_4_2 : w7.cell? ⟨w.heap.size + 4, 2, none⟩ = some (.func (.func 43) #[] #[]) := (BK5.out.gr G7.out).cell 2
  have l8_5_0 : w7.cell? ⟨w.heap.size + 5, 0, none⟩ = some (.func (.func 44) #[] #[]) := (BK6.out.gr G7.out).cell 0
  have l8_5_1 : w7.cell? ⟨w.heap.size + 5, 1, none⟩ = some (.func (.func 46) #[] #[]) := (BK6.out.gr G7.out).cell 1
  have l8_5_2 : w7.cell? ⟨w.heap.size + 5, 2, none⟩ = some (.func (.func 48) #[] #[]) := (BK6.out.gr G7.out).cell 2
  have l9_4_0 : w8.cell? ⟨w.heap.size + 4, 0, none⟩ = some (.func (.func 39) #[] #[]) := (BK5.out.gr G8.out).cell 0
  have l9_4_1 : w8.cell? ⟨w.heap.size + 4, 1, none⟩ = some (.func (.func 41) #[] #[]) := (BK5.out.gr G8.out).cell 1
  have l9_4_2 : w8.cell? ⟨w.heap.size + 4, 2, none⟩ = some (.func (.func 43) #[] #[]) := (BK5.out.gr G8.out).cell 2
  have l9_5_0 : w8.cell? ⟨w.heap.size + 5, 0, none⟩ = some (.func (.func 44) #[] #[]) := (BK6.out.gr G8.out).cell 0
  have l9_5_1 : w8.cell? ⟨w.heap.size + 5, 1, none⟩ = some (.func (.func 46) #[] #[]) := (BK6.out.gr G8.out).cell 1
  have l9_5_2 : w8.cell? ⟨w.heap.size + 5, 2, none⟩ = some (.func (.func 48) #[] #[]) := (BK6.out.gr G8.out).cell 2
  have l9_6_0 : w8.cell? ⟨w.heap.size + 6, 0, none⟩ = some (.func (.func 49) #[] #[]) := (BK7.out.gr G8.out).cell 0
  have l9_6_1 : w8.cell? ⟨w.heap.size + 6, 1, none⟩ = some (.func (.func 50) #[] #[]) := (BK7.out.gr G8.out).cell 1
  have l9_6_2 : w8.cell? ⟨w.heap.size + 6, 2, none⟩ = some (.nilFunc) := (BK7.out.gr G8.out).cell 2
  have l9_7_0 : w8.cell? ⟨w.heap.size + 7, 0, none⟩ = some (.func (.func 52) #[] #[]) := (BK8.out.gr G8.out).cell 0
  have l9_7_1 : w8.cell? ⟨w.heap.size + 7, 1, none⟩ = some (.func (.func 54) #[] #[]) := (BK8.out.gr G8.out).cell 1
  have l9_7_2 : w8.cell? ⟨w.heap.size + 7, 2, none⟩ = some (.func (.func 56) #[] #[]) := (BK8.out.gr G8.out).cell 2
  rw [ha1] at r1
  rw [ha2] at r2
  rw [ha3] at r3
  rw [ha4] at r4
  rw [ha5] at r5
  rw [ha6] at r6
  rw [ha7] at r7
  rw [ha8] at r8
  rw [ha9] at r9
  clear hkm hmb o0 o1 o2 o3 o4 o5 o6 o7 o8 o9 ha1 ga1 ka1 x1 y1 q1 kb1 gg1 e1 hm1 ha2 ga2 ka2 x2 y2 q2 kb2 gg2 e2 hm2 ha3 ga3 ka3 x3 y3 q3 kb3 gg3 e3 hm3 ha4 ga4 ka4 x4 y4 q4 kb4 gg4 e4 hm4 ha5 ga5 ka5 x5 y5 q5 kb5 gg5 e5 hm5 ha6 ga6 ka6 x6 y6 q6 kb6 gg6 e6 hm6 ha7 ga7 ka7 x7 y7 q7 kb7 gg7 e7 hm7 ha8 ga8 ka8 x8 y8 q8 kb8 gg8 e8 hm8 ha9 ga9 ka9 x9 y9 q9 kb9 gg9 e9 hm9 hm0
  go_enter Try.func8, Try.ntmps8
  go_upto_region 9 with fail
  rw [← HW.out]
  clear G0 G1 G2 G3 G4 G5 G6 G7 G8 G9 GA BK1 BK2 BK3 BK4 BK5 BK6 BK7 BK8
  go_wp2
  go_ret
  exact ⟨_, rfl, HK.out, GE.out⟩
end Go.Proofs.Ytiemgmbjhllmbaa
