/-
  Package entry: what the parts' closures read.
-/
import Derived.Test.YtiemgmbjhllmbaaYEnParts
set_option linter.unusedVariables false
set_option maxRecDepth 100000
namespace Go.Proofs.Ytiemgmbjhllmbaa
open Go.RowKit
/-- Part of an entry has been read: into block b. -/
def GotPart (w : World) (base : Nat → Prop) (g b : Nat) (Q : Nat → Prop) (x : EntD) (s : RS) (e : Ending) (w' : World) : Prop := e = .returned (.tuple #[]) ∧ Rs w' base g s ∧ EntAt Q w' b x ∧ Ch (fun k => k = g ∨ k = b) w w'
set_option maxHeartbeats 1000000 in
theorem get_client (w : World) (base : Nat → Prop) (g : Nat) (s : RS) (b : Nat) (x : EntD) (Q : Nat → Prop) (hr : Rs w base g s) (hb : ∀ k, base k → k < w.heap.size) (hl : s.1.length ≤ 1000000000) (h : EntAt Q w b x) (hQ : ∀ k, w.heap.size ≤ k → Q k) (hQg : ¬ Q g) (hQb : ¬ Q b) (hbg : b ≠ g) (hnb : ¬ base b) :
    Calls Try.prog 19 #[.pointer (some ⟨g, 0, none⟩), .pointer (some ⟨b, 0, none⟩)] w (GotPart w base g b Q (putVal x (rVal .client s).1) (rVal .client s).2) := by
  have C := small_any w base g s hr hl
  have C2 := fun W h => small_any W base g (rSmall s).2 h (Nat.le_trans (left_small s) hl)
  obtain ⟨cl, hcl⟩ : ∃ cl, cl = (rSmall s).1 := ⟨_, rfl⟩
  obtain ⟨rq, hrq⟩ : ∃ rq, rq = (rSmall (rSmall s).2).1 := ⟨_, rfl⟩
  obtain ⟨s9, hs9⟩ : ∃ s9, s9 = (rSmall (rSmall s).2).2 := ⟨_, rfl⟩
  have e0 : rVal .client s = (.client cl rq, s9) := by rw [hcl, hrq, hs9]; rfl
  rw [e0]
  rw [← hrq, ← hs9] at C2
  obtain ⟨s1, hs1⟩ : ∃ s1, s1 = (rSmall s).2 := ⟨_, rfl⟩
  rw [← hs1] at C2
  rw [← hcl, ← hs1] at C
  have CC2 := Lib.hid C2
  clear C2 hs1
  clear e0 hcl hrq hs9
  have CC := Lib.hid C
  obtain ⟨q, K, hp⟩ := h
  have KK := Lib.hid K
  have HP := Lib.hid hp
  have hbl := K.lt
  have hne : (some g : Option Nat) ≠ some b := fun e => by injection e with e; exact hbg e.symm
  have HNE := Lib.hid hne
  have HQ := Lib.hid hQ
  clear C K hp hr hb hne hQ
  go_enter Try.func19, Try.ntmps19
  go_wp2_with fail
  refine CC.out.mono ?_
  rintro e w0 ⟨rfl, hr0, hg0⟩
  go_wp2_with fail
  refine (CC2.out _ hr0).mono ?_
  rintro e w1 ⟨rfl, hr1, hg1⟩
  have K1 := (KK.out.other hg0 HNE.out).other hg1 HNE.out
  have ch1 := (Ch.of_grownBy (ρ := fun k => k = g ∨ k = b) hg0 (fun k hk => by cases hk; exact .inl rfl)).trans (Ch.of_grownBy (ρ := fun k => k = g ∨ k = b) hg1 (fun k hk => by cases hk; exact .inl rfl))
  have kf := ((K1.set 1 (.int .u32 (cl : Int))).set 2 (.int .u32 (rq : Int)))
  have gf : w1.grownBy ((w1.setCell ⟨b, 1, none⟩ (.int .u32 (cl : Int))).setCell ⟨b, 2, none⟩ (.int .u32 (rq : Int))) (some b) := (grownBy_trans (grownBy_setCell w1 b 1 (.int .u32 (cl : Int))) (grownBy_setCell _ b 2 (.int .u32 (rq : Int))))
  have ch2 := ch1.trans (Ch.of_grownBy (ρ := fun k => k = g ∨ k = b) gf (fun k hk => by cases hk; exact .inr rfl))
  have KP := HP.out.keep (Keep.of_ch ch2 (fun k hk e => by rcases e with rfl | rfl; exact hQg hk; exact hQb hk))
  have K2 : CellsAt ((w1.setCell ⟨b, 1, none⟩ (.int .u32 (cl : Int))).setCell ⟨b, 2, none⟩ (.int .u32 (rq : Int))) b (entCells (putVal x (.client cl rq)) q) 39 := kf
  have EP : EntAt Q _ b _ := ⟨_, K2, KP⟩
  have R2 := rs_new hr1 gf hnb
  have E9 := Lib.hid EP
  have R9 := Lib.hid R2
  have CH := Lib.hid ch2
  have c1 : w1.cell? ⟨b, 1, none⟩ = some (.int .u32 (x.client : Int)) := K1.cell 1
  have f1 := K1.frozen 1
  have c2 : w1.cell? ⟨b, 2, none⟩ = some (.int .u32 (x.req : Int)) := K1.cell 2
  have f2 := K1.frozen 2
  clear K1 kf gf ch1 ch2 KP K2 EP R2
  go_wp2
  go_end0
  exact ⟨rfl, R9.out, E9.out, CH.out⟩
set_option maxHeartbeats 1000000 in
theorem get_owner (w : World) (base : Nat → Prop) (g : Nat) (s : RS) (b : Nat) (x : EntD) (Q : Nat → Prop) (hr : Rs w base g s) (hb : ∀ k, base k → k < w.heap.size) (hl : s.1.length ≤ 1000000000) (h : EntAt Q w b x) (hQ : ∀ k, w.heap.size ≤ k → Q k) (hQg : ¬ Q g) (hQb : ¬ Q b) (hbg : b ≠ g) (hnb : ¬ base b) :
    Calls Try.prog 23 #[.pointer (some ⟨g, 0, none⟩), .pointer (some ⟨b, 0, none⟩)] w (GotPart w base g b Q (putVal x (rVal .owner s).1) (rVal .owner s).2) := by
  have C := getSess_any w base g s hr hb hl
  obtain ⟨si, hsi⟩ : ∃ si, si = (rSess s).1.1 := ⟨_, rfl⟩
  obtain ⟨nn, hnn⟩ : ∃ nn, nn = (rSess s).1.2 := ⟨_, rfl⟩
  obtain ⟨s9, hs9⟩ : ∃ s9, s9 = (rSess s).2 := ⟨_, rfl⟩
  have e0 : rVal .owner s = (.owner si nn, s9) := by rw [hsi, hnn, hs9]; rfl
  rw [e0]
  rw [← hsi, ← hnn, ← hs9] at C
  clear e0 hsi hnn hs9
  have CC := Lib.hid C
  obtain ⟨q, K, hp⟩ := h
  have KK := Lib.hid K
  have HP := Lib.hid hp
  have hbl := K.lt
  have hne : (some g : Option Nat) ≠ some b := fun e => by injection e with e; exact hbg e.symm
  have HNE := Lib.hid hne
  have HQ := Lib.hid hQ
  clear C K hp hr hb hne hQ
  go_enter Try.func23, Try.ntmps23
  go_wp2_with fail
  refine CC.out.mono ?_
  rintro e w1 ⟨_, rfl, rfl, hr1, hg1⟩
  have K1 := KK.out.other hg1 HNE.out
  have ch1 := Ch.of_grownBy (ρ := fun k => k = g ∨ k = b) hg1 (fun k hk => by cases hk; exact .inl rfl)
  have kf := ((K1.set 3 (.int .i64 si)).set 4 (.int .u32 (nn : Int)))
  have gf : w1.grownBy ((w1.setCell ⟨b, 3, none⟩ (.int .i64 si)).setCell ⟨b, 4, none⟩ (.int .u32 (nn : Int))) (some b) := (grownBy_trans (grownBy_setCell w1 b 3 (.int .i64 si)) (grownBy_setCell _ b 4 (.int .u32 (nn : Int))))
  have ch2 := ch1.trans (Ch.of_grownBy (ρ := fun k => k = g ∨ k = b) gf (fun k hk => by cases hk; exact .inr rfl))
  have KP := HP.out.keep (Keep.of_ch ch2 (fun k hk e => by rcases e with rfl | rfl; exact hQg hk; exact hQb hk))
  have K2 : CellsAt ((w1.setCell ⟨b, 3, none⟩ (.int .i64 si)).setCell ⟨b, 4, none⟩ (.int .u32 (nn : Int))) b (entCells (putVal x (.owner si nn)) q) 39 := kf
  have EP : EntAt Q _ b _ := ⟨_, K2, KP⟩
  have R2 := rs_new hr1 gf hnb
  have E9 := Lib.hid EP
  have R9 := Lib.hid R2
  have CH := Lib.hid ch2
  have c3 : w1.cell? ⟨b, 3, none⟩ = some (.int .i64 x.osite) := K1.cell 3
  have f3 := K1.frozen 3
  have c4 : w1.cell? ⟨b, 4, none⟩ = some (.int .u32 (x.on : Int)) := K1.cell 4
  have f4 := K1.frozen 4
  clear K1 kf gf ch1 ch2 KP K2 EP R2
  go_wp2
  go_end0
  exact ⟨rfl, R9.out, E9.out, CH.out⟩
set_option maxHeartbeats 1000000 in
theorem get_op (w : World) (base : Nat → Prop) (g : Nat) (s : RS) (b : Nat) (x : EntD) (Q : Nat → Prop) (hr : Rs w base g s) (hb : ∀ k, base k → k < w.heap.size) (hl : s.1.length ≤ 1000000000) (h : EntAt Q w b x) (hQ : ∀ k, w.heap.size ≤ k → Q k) (hQg : ¬ Q g) (hQb : ¬ Q b) (hbg : b ≠ g) (hnb : ¬ base b) :
    Calls Try.prog 29 #[.pointer (some ⟨g, 0, none⟩), .pointer (some ⟨b, 0, none⟩)] w (GotPart w base g b Q (putVal x (rVal .op s).1) (rVal .op s).2) := by
  have C := getOp_any w base g s hr hb hl
  obtain ⟨o, ho⟩ : ∃ o, o = (rOp s).1 := ⟨_, rfl⟩
  obtain ⟨s9, hs9⟩ : ∃ s9, s9 = (rOp s).2 := ⟨_, rfl⟩
  have e0 : rVal .op s = (.op o, s9) := by rw [ho, hs9]; rfl
  rw [e0]
  rw [← ho, ← hs9] at C
  clear e0 ho hs9
  obtain ⟨⟨ki, pa, da, ve, sq, ep⟩, ps⟩ := o
  have CC := Lib.hid C
  obtain ⟨q, K, hp⟩ := h
  have KK := Lib.hid K
  have HP := Lib.hid hp
  have hbl := K.lt
  have hne : (some g : Option Nat) ≠ some b := fun e => by injection e with e; exact hbg e.symm
  have HNE := Lib.hid hne
  have HQ := Lib.hid hQ
  clear C K hp hr hb hne hQ
  go_enter Try.func29, Try.ntmps29
  go_wp2_with fail
  refine CC.out.mono ?_
  rintro e w1 ⟨_, rfl, ⟨dv, pv, rfl, hop⟩, hr1, hg1⟩
  obtain ⟨hp1, hp2⟩ := hop.parts
  dsimp only [opCells, OpD.h, OpD.parts] at hp1 hp2 ⊢
  obtain ⟨ad, cd, rfl⟩ := hp1.1.oneCells
  obtain ⟨ap, ac, rfl⟩ := hp2.shape
  have K1 := KK.out.other hg1 HNE.out
  have ch1 := Ch.of_grownBy (ρ := fun k => k = g ∨ k = b) hg1 (fun k hk => by cases hk; exact .inl rfl)
  have kf := (((((((K1.set 5 (.int .u8 (ki : Int))).set 6 (.string ⟨pa.toArray⟩)).set 7 (.slice ad (bytes da).length cd)).set 8 (.int .i64 ve)).set 9 (.bool sq)).set 10 (.bool ep)).set 11 (.slice ap ps.length ac))
  have gf : w1.grownBy (((((((w1.setCell ⟨b, 5, none⟩ (.int .u8 (ki : Int))).setCell ⟨b, 6, none⟩ (.string ⟨pa.toArray⟩)).setCell ⟨b, 7, none⟩ (.slice ad (bytes da).length cd)).setCell ⟨b, 8, none⟩ (.int .i64 ve)).setCell ⟨b, 9, none⟩ (.bool sq)).setCell ⟨b, 10, none⟩ (.bool ep)).setCell ⟨b, 11, none⟩ (.slice ap ps.length ac)) (some b) := (grownBy_trans (grownBy_trans (grownBy_trans (grownBy_trans (grownBy_trans (grownBy_trans (grownBy_setCell w1 b 5 (.int .u8 (ki : Int))) (grownBy_setCell _ b 6 (.string ⟨pa.toArray⟩))) (grownBy_setCell _ b 7 (.slice ad (bytes da).length cd))) (grownBy_setCell _ b 8 (.int .i64 ve))) (grownBy_setCell _ b 9 (.bool sq))) (grownBy_setCell _ b 10 (.bool ep))) (grownBy_setCell _ b 11 (.slice ap ps.length ac)))
  have ch2 := ch1.trans (Ch.of_grownBy (ρ := fun k => k = g ∨ k = b) gf (fun k hk => by cases hk; exact .inr rfl))
  have KP := HP.out.keep (Keep.of_ch ch2 (fun k hk e => by rcases e with rfl | rfl; exact hQg hk; exact hQb hk))
  have K2 : CellsAt (((((((w1.setCell ⟨b, 5, none⟩ (.int .u8 (ki : Int))).setCell ⟨b, 6, none⟩ (.string ⟨pa.toArray⟩)).setCell ⟨b, 7, none⟩ (.slice ad (bytes da).length cd)).setCell ⟨b, 8, none⟩ (.int .i64 ve)).setCell ⟨b, 9, none⟩ (.bool sq)).setCell ⟨b, 10, none⟩ (.bool ep)).setCell ⟨b, 11, none⟩ (.slice ap ps.length ac)) b (entCells (putVal x (.op (.mk ⟨ki, pa, da, ve, sq, ep⟩ ps))) ⟨.slice ad (bytes da).length cd, .slice ap ps.length ac, q.sv, q.ev, q.fv⟩) 39 := kf
  have NP : OpP Q _ (.mk ⟨ki, pa, da, ve, sq, ep⟩ ps) (.slice ad (bytes da).length cd) (.slice ap ps.length ac) := ((hop.mono fun k hk => HQ.out k hk).keep (Keep.of_grown gf hQb))
  have EP : EntAt Q _ b _ := ⟨_, K2, ⟨NP, KP.2.1, KP.2.2⟩⟩
  have R2 := rs_new hr1 gf hnb
  have E9 := Lib.hid EP
  have R9 := Lib.hid R2
  have CH := Lib.hid ch2
  have c5 : w1.cell? ⟨b, 5, none⟩ = some (.int .u8 (x.op.h.kind : Int)) := K1.cell 5
  have f5 := K1.frozen 5
  have c6 : w1.cell? ⟨b, 6, none⟩ = some (.string ⟨x.op.h.path.toArray⟩) := K1.cell 6
  have f6 := K1.frozen 6
  have c7 : w1.cell? ⟨b, 7, none⟩ = some (q.dv) := K1.cell 7
  have f7 := K1.frozen 7
  have c8 : w1.cell? ⟨b, 8, none⟩ = some (.int .i64 x.op.h.version) := K1.cell 8
  have f8 := K1.frozen 8
  have c9 : w1.cell? ⟨b, 9, none⟩ = some (.bool x.op.h.seq) := K1.cell 9
  have f9 := K1.frozen 9
  have c10 : w1.cell? ⟨b, 10, none⟩ = some (.bool x.op.h.eph) := K1.cell 10
  have f10 := K1.frozen 10
  have c11 : w1.cell? ⟨b, 11, none⟩ = some (q.pv) := K1.cell 11
  have f11 := K1.frozen 11
  clear K1 kf gf ch1 ch2 KP K2 EP R2
  go_wp2
  go_end0
  exact ⟨rfl, R9.out, E9.out, CH.out⟩
set_option maxHeartbeats 1000000 in
theorem get_item (w : World) (base : Nat → Prop) (g : Nat) (s : RS) (b : Nat) (x : EntD) (Q : Nat → Prop) (hr : Rs w base g s) (hb : ∀ k, base k → k < w.heap.size) (hl : s.1.length ≤ 1000000000) (h : EntAt Q w b x) (hQ : ∀ k, w.heap.size ≤ k → Q k) (hQg : ¬ Q g) (hQb : ¬ Q b) (hbg : b ≠ g) (hnb : ¬ base b) :
    Calls Try.prog 35 #[.pointer (some ⟨g, 0, none⟩), .pointer (some ⟨b, 0, none⟩)] w (GotPart w base g b Q (putVal x (rVal .item s).1) (rVal .item s).2) := by
  have C := getItem_any w base g s hr hb hl
  obtain ⟨it, hit⟩ : ∃ it, it = (rItem s).1 := ⟨_, rfl⟩
  obtain ⟨s9, hs9⟩ : ∃ s9, s9 = (rItem s).2 := ⟨_, rfl⟩
  have e0 : rVal .item s = (.item it, s9) := by rw [hit, hs9]; rfl
  rw [e0]
  rw [← hit, ← hs9] at C
  clear e0 hit hs9
  obtain ⟨ori, seq, reg, epo, st, es, clo⟩ := it
  have CC := Lib.hid C
  obtain ⟨q, K, hp⟩ := h
  have KK := Lib.hid K
  have HP := Lib.hid hp
  have hbl := K.lt
  have hne : (some g : Option Nat) ≠ some b := fun e => by injection e with e; exact hbg e.symm
  have HNE := Lib.hid hne
  have HQ := Lib.hid hQ
  clear C K hp hr hb hne hQ
  go_enter Try.func35, Try.ntmps35
  go_wp2_with fail
  refine CC.out.mono ?_
  rintro e w1 ⟨_, rfl, ⟨sv, ev, rfl, hit⟩, hr1, hg1⟩
  obtain ⟨hi1, hi2⟩ := hit
  dsimp only [itemCells] at hi1 hi2 ⊢
  obtain ⟨sa, sc, rfl⟩ := hi1.1.oneCells
  obtain ⟨ea, ec, rfl⟩ := hi2.shape
  have K1 := KK.out.other hg1 HNE.out
  have ch1 := Ch.of_grownBy (ρ := fun k => k = g ∨ k = b) hg1 (fun k hk => by cases hk; exact .inl rfl)
  have kf := (((((((K1.set 12 (.int .i64 ori)).set 13 (.int .u64 (seq : Int))).set 14 (.int .i64 reg)).set 15 (.int .u64 (epo : Int))).set 16 (.slice sa (nums st).length sc)).set 17 (.slice ea es.length ec)).set 18 (.int .u32 (clo : Int)))
  have gf : w1.grownBy (((((((w1.setCell ⟨b, 12, none⟩ (.int .i64 ori)).setCell ⟨b, 13, none⟩ (.int .u64 (seq : Int))).setCell ⟨b, 14, none⟩ (.int .i64 reg)).setCell ⟨b, 15, none⟩ (.int .u64 (epo : Int))).setCell ⟨b, 16, none⟩ (.slice sa (nums st).length sc)).setCell ⟨b, 17, none⟩ (.slice ea es.length ec)).setCell ⟨b, 18, none⟩ (.int .u32 (clo : Int))) (some b) := (grownBy_trans (grownBy_trans (grownBy_trans (grownBy_trans (grownBy_trans (grownBy_trans (grownBy_setCell w1 b 12 (.int .i64 ori)) (grownBy_setCell _ b 13 (.int .u64 (seq : Int)))) (grownBy_setCell _ b 14 (.int .i64 reg))) (grownBy_setCell _ b 15 (.int .u64 (epo : Int)))) (grownBy_setCell _ b 16 (.slice sa (nums st).length sc))) (grownBy_setCell _ b 17 (.slice ea es.length ec))) (grownBy_setCell _ b 18 (.int .u32 (clo : Int))))
  have ch2 := ch1.trans (Ch.of_grownBy (ρ := fun k => k = g ∨ k = b) gf (fun k hk => by cases hk; exact .inr rfl))
  have KP := HP.out.keep (Keep.of_ch ch2 (fun k hk e => by rcases e with rfl | rfl; exact hQg hk; exact hQb hk))
  have K2 : CellsAt (((((((w1.setCell ⟨b, 12, none⟩ (.int .i64 ori)).setCell ⟨b, 13, none⟩ (.int .u64 (seq : Int))).setCell ⟨b, 14, none⟩ (.int .i64 reg)).setCell ⟨b, 15, none⟩ (.int .u64 (epo : Int))).setCell ⟨b, 16, none⟩ (.slice sa (nums st).length sc)).setCell ⟨b, 17, none⟩ (.slice ea es.length ec)).setCell ⟨b, 18, none⟩ (.int .u32 (clo : Int))) b (entCells (putVal x (.item ⟨ori, seq, reg, epo, st, es, clo⟩)) ⟨q.dv, q.pv, .slice sa (nums st).length sc, .slice ea es.length ec, q.fv⟩) 39 := kf
  have NP : ItemP Q _ ⟨ori, seq, reg, epo, st, es, clo⟩ (.slice sa (nums st).length sc) (.slice ea es.length ec) := ((show ItemP (From w.heap.size) w1 ⟨ori, seq, reg, epo, st, es, clo⟩ _ _ from ⟨hi1, hi2⟩).mono fun k hk => HQ.out k hk).keep (Keep.of_grown gf hQb)
  have EP : EntAt Q _ b _ := ⟨_, K2, ⟨KP.1, NP, KP.2.2⟩⟩
  have R2 := rs_new hr1 gf hnb
  have E9 := Lib.hid EP
  have R9 := Lib.hid R2
  have CH := Lib.hid ch2
  have c12 : w1.cell? ⟨b, 12, none⟩ = some (.int .i64 x.item.origin) := K1.cell 12
  have f12 := K1.frozen 12
  have c13 : w1.cell? ⟨b, 13, none⟩ = some (.int .u64 (x.item.seq : Int)) := K1.cell 13
  have f13 := K1.frozen 13
  have c14 : w1.cell? ⟨b, 14, none⟩ = some (.int .i64 x.item.region) := K1.cell 14
  have f14 := K1.frozen 14
  have c15 : w1.cell? ⟨b, 15, none⟩ = some (.int .u64 (x.item.epoch : Int)) := K1.cell 15
  have f15 := K1.frozen 15
  have c16 : w1.cell? ⟨b, 16, none⟩ = some (q.sv) := K1.cell 16
  have f16 := K1.frozen 16
  have c17 : w1.cell? ⟨b, 17, none⟩ = some (q.ev) := K1.cell 17
  have f17 := K1.frozen 17
  have c18 : w1.cell? ⟨b, 18, none⟩ = some (.int .u32 (x.item.closed : Int)) := K1.cell 18
  have f18 := K1.frozen 18
  clear K1 kf gf ch1 ch2 KP K2 EP R2
  go_wp2
  go_end0
  exact ⟨rfl, R9.out, E9.out, CH.out⟩
set_option maxHeartbeats 1000000 in
theorem get_site (w : World) (base : Nat → Prop) (g : Nat) (s : RS) (b : Nat) (x : EntD) (Q : Nat → Prop) (hr : Rs w base g s) (hb : ∀ k, base k → k < w.heap.size) (hl : s.1.length ≤ 1000000000) (h : EntAt Q w b x) (hQ : ∀ k, w.heap.size ≤ k → Q k) (hQg : ¬ Q g) (hQb : ¬ Q b) (hbg : b ≠ g) (hnb : ¬ base b) :
    Calls Try.prog 41 #[.pointer (some ⟨g, 0, none⟩), .pointer (some ⟨b, 0, none⟩)] w (GotPart w base g b Q (putVal x (rVal .site s).1) (rVal .site s).2) := by
  have C := place_any w base g 3 s hr hl
  obtain ⟨pl, hpl⟩ : ∃ pl, pl = (rPlace 3 s).1 := ⟨_, rfl⟩
  obtain ⟨s9, hs9⟩ : ∃ s9, s9 = (rPlace 3 s).2 := ⟨_, rfl⟩
  have e0 : rVal .site s = (.site (pl : Int), s9) := by rw [hpl, hs9]; rfl
  rw [e0]
  rw [← hpl, ← hs9] at C
  clear e0 hpl hs9
  have CC := Lib.hid C
  obtain ⟨q, K, hp⟩ := h
  have KK := Lib.hid K
  have HP := Lib.hid hp
  have hbl := K.lt
  have hne : (some g : Option Nat) ≠ some b := fun e => by injection e with e; exact hbg e.symm
  have HNE := Lib.hid hne
  have HQ := Lib.hid hQ
  clear C K hp hr hb hne hQ
  go_enter Try.func41, Try.ntmps41
  go_wp2_with fail
  refine CC.out.mono ?_
  rintro e w1 ⟨rfl, hr1, hg1⟩
  have K1 := KK.out.other hg1 HNE.out
  have ch1 := Ch.of_grownBy (ρ := fun k => k = g ∨ k = b) hg1 (fun k hk => by cases hk; exact .inl rfl)
  have kf := (K1.set 19 (.int .i64 (pl : Int)))
  have gf : w1.grownBy (w1.setCell ⟨b, 19, none⟩ (.int .i64 (pl : Int))) (some b) := (grownBy_setCell w1 b 19 (.int .i64 (pl : Int)))
  have ch2 := ch1.trans (Ch.of_grownBy (ρ := fun k => k = g ∨ k = b) gf (fun k hk => by cases hk; exact .inr rfl))
  have KP := HP.out.keep (Keep.of_ch ch2 (fun k hk e => by rcases e with rfl | rfl; exact hQg hk; exact hQb hk))
  have K2 : CellsAt (w1.setCell ⟨b, 19, none⟩ (.int .i64 (pl : Int))) b (entCells (putVal x (.site (pl : Int))) q) 39 := kf
  have EP : EntAt Q _ b _ := ⟨_, K2, KP⟩
  have R2 := rs_new hr1 gf hnb
  have E9 := Lib.hid EP
  have R9 := Lib.hid R2
  have CH := Lib.hid ch2
  have c19 : w1.cell? ⟨b, 19, none⟩ = some (.int .i64 x.site) := K1.cell 19
  have f19 := K1.frozen 19
  clear K1 kf gf ch1 ch2 KP K2 EP R2
  go_wp2
  go_end0
  exact ⟨rfl, R9.out, E9.out, CH.out⟩
set_option maxHeartbeats 1000000 in
theorem get_wher (w : World) (base : Nat → Prop) (g : Nat) (s : RS) (b : Nat) (x : EntD) (Q : Nat → Prop) (hr : Rs w base g s) (hb : ∀ k, base k → k < w.heap.size) (hl : s.1.length ≤ 1000000000) (h : EntAt Q w b x) (hQ : ∀ k, w.heap.size ≤ k → Q k) (hQg : ¬ Q g) (hQb : ¬ Q b) (hbg : b ≠ g) (hnb : ¬ base b) :
    Calls Try.prog 46 #[.pointer (some ⟨g, 0, none⟩), .pointer (some ⟨b, 0, none⟩)] w (GotPart w base g b Q (putVal x (rVal .wher s).1) (rVal .wher s).2) := by
  have C := region_any w base g 0 s hr hl
  obtain ⟨rg, hrg⟩ : ∃ rg, rg = (rRegion 0 s).1 := ⟨_, rfl⟩
  obtain ⟨s9, hs9⟩ : ∃ s9, s9 = (rRegion 0 s).2 := ⟨_, rfl⟩
  have e0 : rVal .wher s = (.wher rg, s9) := by rw [hrg, hs9]; rfl
  rw [e0]
  rw [← hrg, ← hs9] at C
  clear e0 hrg hs9
  have CC := Lib.hid C
  obtain ⟨q, K, hp⟩ := h
  have KK := Lib.hid K
  have HP := Lib.hid hp
  have hbl := K.lt
  have hne : (some g : Option Nat) ≠ some b := fun e => by injection e with e; exact hbg e.symm
  have HNE := Lib.hid hne
  have HQ := Lib.hid hQ
  clear C K hp hr hb hne hQ
  go_enter Try.func46, Try.ntmps46
  go_wp2_with fail
  refine CC.out.mono ?_
  rintro e w1 ⟨rfl, hr1, hg1⟩
  have K1 := KK.out.other hg1 HNE.out
  have ch1 := Ch.of_grownBy (ρ := fun k => k = g ∨ k = b) hg1 (fun k hk => by cases hk; exact .inl rfl)
  have kf := (K1.set 20 (.int .i64 rg))
  have gf : w1.grownBy (w1.setCell ⟨b, 20, none⟩ (.int .i64 rg)) (some b) := (grownBy_setCell w1 b 20 (.int .i64 rg))
  have ch2 := ch1.trans (Ch.of_grownBy (ρ := fun k => k = g ∨ k = b) gf (fun k hk => by cases hk; exact .inr rfl))
  have KP := HP.out.keep (Keep.of_ch ch2 (fun k hk e => by rcases e with rfl | rfl; exact hQg hk; exact hQb hk))
  have K2 : CellsAt (w1.setCell ⟨b, 20, none⟩ (.int .i64 rg)) b (entCells (putVal x (.wher rg)) q) 39 := kf
  have EP : EntAt Q _ b _ := ⟨_, K2, KP⟩
  have R2 := rs_new hr1 gf hnb
  have E9 := Lib.hid EP
  have R9 := Lib.hid R2
  have CH := Lib.hid ch2
  have c20 : w1.cell? ⟨b, 20, none⟩ = some (.int .i64 x.region) := K1.cell 20
  have f20 := K1.frozen 20
  clear K1 kf gf ch1 ch2 KP K2 EP R2
  go_wp2
  go_end0
  exact ⟨rfl, R9.out, E9.out, CH.out⟩
set_option maxHeartbeats 1000000 in
theorem get_epoch (w : World) (base : Nat → Prop) (g : Nat) (s : RS) (b : Nat) (x : EntD) (Q : Nat → Prop) (hr : Rs w base g s) (hb : ∀ k, base k → k < w.heap.size) (hl : s.1.length ≤ 1000000000) (h : EntAt Q w b x) (hQ : ∀ k, w.heap.size ≤ k → Q k) (hQg : ¬ Q g) (hQb : ¬ Q b) (hbg : b ≠ g) (hnb : ¬ base b) :
    Calls Try.prog 50 #[.pointer (some ⟨g, 0, none⟩), .pointer (some ⟨b, 0, none⟩)] w (GotPart w base g b Q (putVal x (rVal .epoch s).1) (rVal .epoch s).2) := by
  have C := get_uint w base g s hr hl
  obtain ⟨ep, hep⟩ : ∃ ep, ep = (rUint s).1 := ⟨_, rfl⟩
  obtain ⟨s9, hs9⟩ : ∃ s9, s9 = (rUint s).2 := ⟨_, rfl⟩
  have e0 : rVal .epoch s = (.epoch ep, s9) := by rw [hep, hs9]; rfl
  rw [e0]
  rw [← hep, ← hs9] at C
  clear e0 hep hs9
  have CC := Lib.hid C
  obtain ⟨q, K, hp⟩ := h
  have KK := Lib.hid K
  have HP := Lib.hid hp
  have hbl := K.lt
  have hne : (some g : Option Nat) ≠ some b := fun e => by injection e with e; exact hbg e.symm
  have HNE := Lib.hid hne
  have HQ := Lib.hid hQ
  clear C K hp hr hb hne hQ
  go_enter Try.func50, Try.ntmps50
  go_wp2_with fail
  refine CC.out.mono ?_
  rintro e w1 ⟨rfl, hr1, hg1⟩
  have K1 := KK.out.other hg1 HNE.out
  have ch1 := Ch.of_grownBy (ρ := fun k => k = g ∨ k = b) hg1 (fun k hk => by cases hk; exact .inl rfl)
  have kf := (K1.set 21 (.int .u64 (ep : Int)))
  have gf : w1.grownBy (w1.setCell ⟨b, 21, none⟩ (.int .u64 (ep : Int))) (some b) := (grownBy_setCell w1 b 21 (.int .u64 (ep : Int)))
  have ch2 := ch1.trans (Ch.of_grownBy (ρ := fun k => k = g ∨ k = b) gf (fun k hk => by cases hk; exact .inr rfl))
  have KP := HP.out.keep (Keep.of_ch ch2 (fun k hk e => by rcases e with rfl | rfl; exact hQg hk; exact hQb hk))
  have K2 : CellsAt (w1.setCell ⟨b, 21, none⟩ (.int .u64 (ep : Int))) b (entCells (putVal x (.epoch ep)) q) 39 := kf
  have EP : EntAt Q _ b _ := ⟨_, K2, KP⟩
  have R2 := rs_new hr1 gf hnb
  have E9 := Lib.hid EP
  have R9 := Lib.hid R2
  have CH := Lib.hid ch2
  have c21 : w1.cell? ⟨b, 21, none⟩ = some (.int .u64 (x.epoch : Int)) := K1.cell 21
  have f21 := K1.frozen 21
  clear K1 kf gf ch1 ch2 KP K2 EP R2
  go_wp2
  go_end0
  exact ⟨rfl, R9.out, E9.out, CH.out⟩
set_option maxHeartbeats 1000000 in
theorem get_stamp (w : World) (base : Nat → Prop) (g : Nat) (s : RS) (b : Nat) (x : EntD) (Q : Nat → Prop) (hr : Rs w base g s) (hb : ∀ k, base k → k < w.heap.size) (hl : s.1.length ≤ 1000000000) (h : EntAt Q w b x) (hQ : ∀ k, w.heap.size ≤ k → Q k) (hQg : ¬ Q g) (hQb : ¬ Q b) (hbg : b ≠ g) (hnb : ¬ base b) :
    Calls Try.prog 54 #[.pointer (some ⟨g, 0, none⟩), .pointer (some ⟨b, 0, none⟩)] w (GotPart w base g b Q (putVal x (rVal .stamp s).1) (rVal .stamp s).2) := by
  have C := getStamp_any w base g s hr hb hl
  obtain ⟨st, hst⟩ : ∃ st, st = (rStamp s).1 := ⟨_, rfl⟩
  obtain ⟨s9, hs9⟩ : ∃ s9, s9 = (rStamp s).2 := ⟨_, rfl⟩
  have e0 : rVal .stamp s = (.stamp st, s9) := by rw [hst, hs9]; rfl
  rw [e0]
  rw [← hst, ← hs9] at C
  clear e0 hst hs9
  have CC := Lib.hid C
  obtain ⟨q, K, hp⟩ := h
  have KK := Lib.hid K
  have HP := Lib.hid hp
  have hbl := K.lt
  have hne : (some g : Option Nat) ≠ some b := fun e => by injection e with e; exact hbg e.symm
  have HNE := Lib.hid hne
  have HQ := Lib.hid hQ
  clear C K hp hr hb hne hQ
  go_enter Try.func54, Try.ntmps54
  go_wp2_with fail
  refine CC.out.mono ?_
  rintro e w1 ⟨v1, rfl, o1, hr1, hg1⟩
  obtain ⟨sa, sc, rfl⟩ := o1.shape
  have so := o1.slP
  have K1 := KK.out.other hg1 HNE.out
  have ch1 := Ch.of_grownBy (ρ := fun k => k = g ∨ k = b) hg1 (fun k hk => by cases hk; exact .inl rfl)
  have kf := (K1.set 22 (.slice sa (nums st).length sc))
  have gf : w1.grownBy (w1.setCell ⟨b, 22, none⟩ (.slice sa (nums st).length sc)) (some b) := (grownBy_setCell w1 b 22 (.slice sa (nums st).length sc))
  have ch2 := ch1.trans (Ch.of_grownBy (ρ := fun k => k = g ∨ k = b) gf (fun k hk => by cases hk; exact .inr rfl))
  have KP := HP.out.keep (Keep.of_ch ch2 (fun k hk e => by rcases e with rfl | rfl; exact hQg hk; exact hQb hk))
  have K2 : CellsAt (w1.setCell ⟨b, 22, none⟩ (.slice sa (nums st).length sc)) b (entCells (putVal x (.stamp st)) ⟨q.dv, q.pv, q.sv, q.ev, .slice sa (nums st).length sc⟩) 39 := kf
  have NP : SlP Q _ (.slice sa (nums st).length sc) (nums st) := (so.mono fun k hk => HQ.out k hk).keep (Keep.of_grown gf hQb)
  have EP : EntAt Q _ b _ := ⟨_, K2, ⟨KP.1, KP.2.1, NP⟩⟩
  have R2 := rs_new hr1 gf hnb
  have E9 := Lib.hid EP
  have R9 := Lib.hid R2
  have CH := Lib.hid ch2
  have c22 : w1.cell? ⟨b, 22, none⟩ = some (q.fv) := K1.cell 22
  have f22 := K1.frozen 22
  clear K1 kf gf ch1 ch2 KP K2 EP R2
  go_wp2
  go_end0
  exact ⟨rfl, R9.out, E9.out, CH.out⟩
theorem getPart_any (p : PartK) (w : World) (base : Nat → Prop) (g : Nat) (s : RS) (b : Nat) (x : EntD) (Q : Nat → Prop) (hr : Rs w base g s) (hb : ∀ k, base k → k < w.heap.size) (hl : s.1.length ≤ 1000000000) (h : EntAt Q w b x) (hQ : ∀ k, w.heap.size ≤ k → Q k) (hQg : ¬ Q g) (hQb : ¬ Q b) (hbg : b ≠ g) (hnb : ¬ base b) :
    Calls Try.prog (getF p) #[.pointer (some ⟨g, 0, none⟩), .pointer (some ⟨b, 0, none⟩)] w (GotPart w base g b Q (putVal x (rVal p s).1) (rVal p s).2) := by
  cases p with
  | client => exact get_client w base g s b x Q hr hb hl h hQ hQg hQb hbg hnb
  | owner => exact get_owner w base g s b x Q hr hb hl h hQ hQg hQb hbg hnb
  | op => exact get_op w base g s b x Q hr hb hl h hQ hQg hQb hbg hnb
  | item => exact get_item w base g s b x Q hr hb hl h hQ hQg hQb hbg hnb
  | site => exact get_site w base g s b x Q hr hb hl h hQ hQg hQb hbg hnb
  | wher => exact get_wher w base g s b x Q hr hb hl h hQ hQg hQb hbg hnb
  | epoch => exact get_epoch w base g s b x Q hr hb hl h hQ hQg hQb hbg hnb
  | stamp => exact get_stamp w base g s b x Q hr hb hl h hQ hQg hQb hbg hnb
end Go.Proofs.Ytiemgmbjhllmbaa
