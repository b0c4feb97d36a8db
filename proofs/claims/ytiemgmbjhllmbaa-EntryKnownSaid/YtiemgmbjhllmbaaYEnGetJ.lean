/-
  Package entry: what reads rows of effects, and items.
-/
import Derived.Test.YtiemgmbjhllmbaaYEnGetI
set_option linter.unusedVariables false
set_option maxRecDepth 100000
namespace Go.Proofs.Ytiemgmbjhllmbaa
open Go.RowKit
def GotE (w : World) (base : Nat → Prop) (g : Nat) (l : List EffD) (s : RS) (en : Ending) (w' : World) : Prop := ∃ v, en = .returned v ∧ EffsR w' w.heap.size v l ∧ Rs w' base g s ∧ w.grownBy w' (some g)
set_option maxHeartbeats 2000000 in
theorem listedE_any (w : World) (base : Nat → Prop) (g : Nat) (s : RS) (hr : Rs w base g s) (hb : ∀ k, base k → k < w.heap.size) (hl : s.1.length ≤ 1000000000) :
    Calls Try.prog 79 #[.pointer (some ⟨g, 0, none⟩), .int .i64 16, .func (.func 80) #[] #[]] w (GotE w base g (rList 16 rEff s).1 (rList 16 rEff s).2) := by
  obtain ⟨n, hn⟩ : ∃ n, n = (rCount ((16 : Nat) : Int) s).1 := ⟨_, rfl⟩
  obtain ⟨s1, hs1⟩ : ∃ s1, s1 = (rCount ((16 : Nat) : Int) s).2 := ⟨_, rfl⟩
  have e1 : rList 16 rEff s = rMany rEff n s1 := by rw [hn, hs1]; rfl
  have hn3 : n ≤ 16 := by rw [hn]; exact rCount_most 16 s
  have l1 : s1.1.length ≤ 1000000000 := by rw [hs1]; exact Nat.le_trans (rCount_left 16 s) hl
  have CO := get_count w base g s ((16 : Nat) : Int) (by decide) hr hl
  rw [← hn, ← hs1] at CO
  rw [e1]
  have hgl := hr.lt
  have CC := Lib.hid CO
  clear CO hn hs1 e1
  go_enter Try.func79, Try.ntmps79
  go_wp2_with fail
  refine CC.out.mono ?_
  rintro e w1 ⟨rfl, hr1, hg1⟩
  go_wp2
  go_loopw [7, 11] (fun v i wr => ∃ k : Nat, k ≤ n ∧ i = .int .i64 k ∧ EffsR wr w.heap.size v (rMany rEff k s1).1 ∧ Rs wr base g (rMany rEff k s1).2 ∧ w.grownBy wr (some g)) (fun _ i _ => n - (intOf i).toNat)
  case atStart => exact ⟨0, Nat.zero_le _, rfl, EffsR.nil _ _, hr1, hg1⟩
  case round =>
    clear hr1 hg1
    obtain ⟨k, hk, rfl, ho, hr2, hg2⟩ := hrel
    obtain ⟨wo, rfl⟩ : ∃ wo : World, wo = wr := ⟨_, rfl⟩
    by_cases hlt : k < n
    · have l2 := Nat.le_trans (left_many left_eff k s1) l1
      have en : rMany rEff (k + 1) s1 = ((rMany rEff k s1).1 ++ [(rEff (rMany rEff k s1).2).1], (rEff (rMany rEff k s1).2).2) := rfl
      have hlen : (rMany rEff k s1).1.length = k := rMany_length _ _ _
      have EN := Lib.hid en
      obtain ⟨ls, hls⟩ : ∃ ls, ls = (rMany rEff k s1).1 := ⟨_, rfl⟩
      obtain ⟨sk, hsk⟩ : ∃ sk, sk = (rMany rEff k s1).2 := ⟨_, rfl⟩
      rw [← hls, ← hsk] at EN
      rw [← hls] at ho hlen
      rw [← hsk] at hr2 l2
      have HLEN := Lib.hid hlen
      clear en hls hsk hlen
      have hbo : ∀ j, base j → j < wo.heap.size := fun j hj => Nat.lt_of_lt_of_le (hb j hj) hg2.size
      have GU := getEff_any wo base g sk hr2 hbo l2
      obtain ⟨x, hx⟩ : ∃ x, x = (rEff sk).1 := ⟨_, rfl⟩
      obtain ⟨s3, hs3⟩ : ∃ s3, s3 = (rEff sk).2 := ⟨_, rfl⟩
      rw [← hx, ← hs3] at GU EN
      obtain ⟨pa, go, ⟨da, ve, ki, ne, si, nn, ma, ch, tu⟩⟩ := x
      have GU2 := Lib.hid GU
      have HBO := Lib.hid hbo
      clear GU hx hs3 hbo
      have i1 : (0 : Int) ≤ (k : Int) := by omega
      have i2 : (k : Int) < (n : Int) := by omega
      go_wp2_with fail
      refine GU2.out.mono ?_
      rintro e w3 ⟨vn, rfl, ⟨dv, rfl, sdv⟩, hr3, hg3⟩
      dsimp only [effCells, nodeCells] at sdv ⊢
      obtain ⟨ad, cd, rfl⟩ := sdv.1.oneCells
      have o3 := ho.keep (keep_from hg3 hgl)
      have hsz : w.heap.size ≤ w3.heap.size := (grownBy_trans hg2 hg3).size
      have hub : ∀ j, u7.ownBlock = some j → w.heap.size ≤ j ∧ j < wo.heap.size := ho.lt
      have hal : Gr w3 (w3.alloc (.cells #[.string ⟨pa.toArray⟩, .bool go, .slice ad (bytes da).length cd, .int .u32 (ve : Int), .int .u32 (ki : Int), .int .u32 (ne : Int), .int .i64 si, .int .u32 (nn : Int), .int .u64 (ma : Int), .int .u64 (ch : Int), .int .u64 (tu : Int)] 31)) := (Gr.refl w3).alloc _
      obtain ⟨v4, w4, hrun, p1, p2⟩ := run_append_eff (w3.alloc (.cells #[.string ⟨pa.toArray⟩, .bool go, .slice ad (bytes da).length cd, .int .u32 (ve : Int), .int .u32 (ki : Int), .int .u32 (ne : Int), .int .i64 si, .int .u32 (nn : Int), .int .u64 (ma : Int), .int .u64 (ch : Int), .int .u64 (tu : Int)] 31)) w.heap.size u7 ls ⟨pa, go, ⟨da, ve, ki, ne, si, nn, ma, ch, tu⟩⟩ (.slice ad (bytes da).length cd) w3.heap.size
        (o3.keep (Keep.of_gr hal)) ((sdv.gr hal).mono fun j hj => ⟨Nat.le_trans hg2.size hj, fun e => by have h1 := (hub j e).2; have h2 : wo.heap.size ≤ j := hj; omega⟩) (CellsAt.new w3 _ _) (by rw [HLEN.out]; omega) (by simp; omega)
      have r4 := rs_newO (Rs.gr hr3 hal) p2 (fun j hj hq => by have := (hub j hj).1; have := hb j hq; omega)
      have g4 : w.grownBy w4 (some g) := grown_newO (grownBy_trans (grownBy_trans hg2 hg3) (gr_grown hal g)) p2 (fun j hj => (hub j hj).1)
      have P1 : Hid (EffsR w4 w.heap.size v4 (rMany rEff (k + 1) s1).1) := Lib.hid (by rw [EN.out]; exact p1)
      have R4 : Hid (Rs w4 base g (rMany rEff (k + 1) s1).2) := Lib.hid (by rw [EN.out]; exact r4)
      have G4 := Lib.hid g4
      have HRUN := Lib.hid hrun
      clear hrun p1 p2 r4 g4 o3 ho hr2 hr3 hg2 hg3 hub hal sdv hsz
      go_wp2_with (at_builtin; refine wpList_run_append HRUN.out rfl _ _ rfl rfl rfl ?_; clear HRUN)
      go_roundw
      case rel => exact ⟨k + 1, by omega, by go_num, P1.out, R4.out, G4.out⟩
      case measure => simp [intOf]; omega
    · obtain rfl : k = n := by omega
      go_wp2
      go_ret
      exact ⟨_, rfl, ho, hr2, hg2⟩
/-! ### Items -/
def ItemIs (B : Nat) (x : ItemD) (v : Value) (W : World) : Prop := ∃ sv ev, v = .agg (itemCells x sv ev).toArray ∧ ItemP (From B) W x sv ev
set_option maxHeartbeats 4000000 in
theorem getItem_any (w : World) (base : Nat → Prop) (g : Nat) (s : RS) (hr : Rs w base g s) (hb : ∀ k, base k → k < w.heap.size) (hl : s.1.length ≤ 1000000000) :
    Calls Try.prog 36 #[.pointer (some ⟨g, 0, none⟩)] w (GotP w base g (ItemIs w.heap.size (rItem s).1) (rItem s).2) := by
  obtain ⟨s1, hs1⟩ : ∃ s1, s1 = (rPlace 3 s).2 := ⟨_, rfl⟩
  obtain ⟨s2, hs2⟩ : ∃ s2, s2 = (rUint s1).2 := ⟨_, rfl⟩
  obtain ⟨s3, hs3⟩ : ∃ s3, s3 = (rRegion (-1) s2).2 := ⟨_, rfl⟩
  obtain ⟨s4, hs4⟩ : ∃ s4, s4 = (rUint s3).2 := ⟨_, rfl⟩
  obtain ⟨s5, hs5⟩ : ∃ s5, s5 = (rStamp s4).2 := ⟨_, rfl⟩
  obtain ⟨s6, hs6⟩ : ∃ s6, s6 = (rList 16 rEff s5).2 := ⟨_, rfl⟩
  obtain ⟨s7, hs7⟩ : ∃ s7, s7 = (rSmall s6).2 := ⟨_, rfl⟩
  have e0 : rItem s = (⟨((rPlace 3 s).1 : Int), (rUint s1).1, (rRegion (-1) s2).1, (rUint s3).1, (rStamp s4).1, (rList 16 rEff s5).1, (rSmall s6).1⟩, s7) := by
    rw [hs7, hs6, hs5, hs4, hs3, hs2, hs1]; rfl
  have l1 : s1.1.length ≤ 1000000000 := by rw [hs1]; exact Nat.le_trans (left_place 3 s) hl
  have l2 : s2.1.length ≤ 1000000000 := by rw [hs2]; exact Nat.le_trans (rUint_left s1) l1
  have l3 : s3.1.length ≤ 1000000000 := by rw [hs3]; exact Nat.le_trans (left_region _ s2) l2
  have l4 : s4.1.length ≤ 1000000000 := by rw [hs4]; exact Nat.le_trans (rUint_left s3) l3
  have l5 : s5.1.length ≤ 1000000000 := by rw [hs5]; exact Nat.le_trans (left_stamp s4) l4
  have l6 : s6.1.length ≤ 1000000000 := by rw [hs6]; exact Nat.le_trans (left_list left_eff 16 s5) l5
  have C0 := fun W h => place_any W base g 3 s h hl
  have C1 := fun W h => get_uint W base g s1 h l1
  have C2 := fun W h => region_any W base g (-1) s2 h l2
  have C3 := fun W h => get_uint W base g s3 h l3
  have C4 := fun W h hb => getStamp_any W base g s4 h hb l4
  have C5 := fun W h hb => listedE_any W base g s5 h hb l5
  have C6 := fun W h => small_any W base g s6 h l6
  rw [← hs1] at C0
  rw [← hs2] at C1
  rw [← hs3] at C2
  rw [← hs4] at C3
  rw [← hs5] at C4
  rw [← hs6] at C5
  rw [← hs7] at C6
  rw [e0]
  clear e0 hs1 hs2 hs3 hs4 hs5 hs6 hs7 l1 l2 l3 l4 l5 l6
  obtain ⟨ori, hori⟩ : ∃ ori, ori = (rPlace 3 s).1 := ⟨_, rfl⟩
  obtain ⟨seq, hseq⟩ : ∃ seq, seq = (rUint s1).1 := ⟨_, rfl⟩
  obtain ⟨reg, hreg⟩ : ∃ reg, reg = (rRegion (-1) s2).1 := ⟨_, rfl⟩
  obtain ⟨epo, hepo⟩ : ∃ epo, epo = (rUint s3).1 := ⟨_, rfl⟩
  obtain ⟨st, hst⟩ : ∃ st, st = (rStamp s4).1 := ⟨_, rfl⟩
  obtain ⟨es, hes⟩ : ∃ es, es = (rList 16 rEff s5).1 := ⟨_, rfl⟩
  obtain ⟨clo, hclo⟩ : ∃ clo, clo = (rSmall s6).1 := ⟨_, rfl⟩
  rw [← hori] at C0
  rw [← hseq] at C1
  rw [← hreg] at C2
  rw [← hepo] at C3
  rw [← hst] at C4
  rw [← hes] at C5
  rw [← hclo] at C6
  rw [← hori, ← hseq, ← hreg, ← hepo, ← hst, ← hes, ← hclo]
  clear hori hseq hreg hepo hst hes hclo
  have D0 := Lib.hid C0
  have D1 := Lib.hid C1
  have D2 := Lib.hid C2
  have D3 := Lib.hid C3
  have D4 := Lib.hid C4
  have D5 := Lib.hid C5
  have D6 := Lib.hid C6
  clear C0 C1 C2 C3 C4 C5 C6
  obtain ⟨w1, hw1⟩ : ∃ w1, w1 = w.alloc (.cells #[.int .i64 0, .int .u64 0, .int .i64 0, .int .u64 0, .slice none 0 0, .slice none 0 0, .int .u32 0] 34) := ⟨_, rfl⟩
  have g1 : Gr w w1 := by rw [hw1]; exact (Gr.refl w).alloc _
  have z1 : w1.heap.size = w.heap.size + 1 := by rw [hw1]; simp
  have K1 : Hid (CellsAt w1 w.heap.size [.int .i64 0, .int .u64 0, .int .i64 0, .int .u64 0, .slice none 0 0, .slice none 0 0, .int .u32 0] 34) := Lib.hid (by rw [hw1]; exact CellsAt.new _ _ _)
  have hr1 := Rs.gr hr g1
  have hgl := hr.lt
  have hnb : ¬ base w.heap.size := fun h => Nat.lt_irrefl _ (hb _ h)
  have HW := Lib.hid hw1
  have HZ := Lib.hid z1
  have HS : Hid ((some g : Option Nat) ≠ some w.heap.size) := Lib.hid (fun e => by injection e with e; omega)
  have hgl1 : g < w1.heap.size := by omega
  have G1 := Lib.hid (gr_grown g1 g)
  have Z1 : Hid (w1.heap.size ≤ w1.heap.size) := Lib.hid (Nat.le_refl _)
  clear hw1 hr z1 g1
  go_enter Try.func36, Try.ntmps36
  go_wp2_with fail
  rw [← HW.out]
  refine (D0.out _ hr1).mono ?_
  rintro e w2 ⟨rfl, hr2, hg2⟩
  have G2 := Lib.hid (grownBy_trans G1.out hg2)
  have K2 := Lib.hid (K1.out.other hg2 HS.out)
  have Z2 := Lib.hid (Nat.le_trans Z1.out hg2.size)
  clear hg2 hr1 G1 K1 Z1
  go_wp2_with fail
  refine (D1.out _ hr2).mono ?_
  rintro e w3 ⟨rfl, hr3, hg3⟩
  have G3 := Lib.hid (grownBy_trans G2.out hg3)
  have K3 := Lib.hid (K2.out.other hg3 HS.out)
  have Z3 := Lib.hid (Nat.le_trans Z2.out hg3.size)
  clear hg3 hr2 G2 K2 Z2
  go_wp2_with fail
  refine (D2.out _ hr3).mono ?_
  rintro e w4 ⟨rfl, hr4, hg4⟩
  have G4 := Lib.hid (grownBy_trans G3.out hg4)
  have K4 := Lib.hid (K3.out.other hg4 HS.out)
  have Z4 := Lib.hid (Nat.le_trans Z3.out hg4.size)
  clear hg4 hr3 G3 K3 Z3
  go_wp2_with fail
  refine (D3.out _ hr4).mono ?_
  rintro e w5 ⟨rfl, hr5, hg5⟩
  have G5 := Lib.hid (grownBy_trans G4.out hg5)
  have K5 := Lib.hid (K4.out.other hg5 HS.out)
  have Z5 := Lib.hid (Nat.le_trans Z4.out hg5.size)
  clear hg5 hr4 G4 K4 Z4
  go_wp2_with fail
  refine (D4.out _ hr5 (fun j hj => by have := hb j hj; have := G5.out.size; omega)).mono ?_
  rintro e w6 ⟨v6, rfl, o6, hr6, hg6⟩
  have G6 := Lib.hid (grownBy_trans G5.out hg6)
  have K6 := Lib.hid (K5.out.other hg6 HS.out)
  have Z6 := Lib.hid (Nat.le_trans Z5.out hg6.size)
  obtain ⟨sa, sc, rfl⟩ := o6.shape
  have SV6 : Hid (SlP (fun j => w1.heap.size ≤ j ∧ j < w6.heap.size) w6 (.slice sa (nums st).length sc) (nums st)) := Lib.hid ((o6.slP.monoLt (Q := fun j => w1.heap.size ≤ j ∧ j < w6.heap.size) fun j hj hlt => ⟨Nat.le_trans Z5.out hj, hlt⟩))
  clear o6
  clear hg6 hr5 G5 K5 Z5
  have R6 := Lib.hid hr6
  clear hr6
  go_upto_region 2 with fail
  obtain ⟨W7, hW7⟩ : ∃ W7, W7 = w6.alloc (.cells #[.int .i64 (ori : Int), .int .u64 (seq : Int), .int .i64 reg, .int .u64 (epo : Int), .slice sa (nums st).length sc, .slice none 0 0, .int .u32 0] 34) := ⟨_, rfl⟩
  rw [← hW7]
  have g7 : Gr w6 W7 := by rw [hW7]; exact (Gr.refl w6).alloc _
  have KH7 : Hid (CellsAt W7 w6.heap.size [.int .i64 (ori : Int), .int .u64 (seq : Int), .int .i64 reg, .int .u64 (epo : Int), .slice sa (nums st).length sc, .slice none 0 0, .int .u32 0] 34) := Lib.hid (by rw [hW7]; exact CellsAt.new _ _ _)
  have z7 : W7.heap.size = w6.heap.size + 1 := by rw [hW7]; simp
  have G7 := Lib.hid (grownBy_trans G6.out (gr_grown g7 g))
  have K7 := Lib.hid (K6.out.gr g7)
  have R7 := Lib.hid (Rs.gr R6.out g7)
  have SV7 := Lib.hid (SV6.out.gr g7)
  have hb7 : ∀ j, base j → j < W7.heap.size := fun j hj => by have := hb j hj; have := G7.out.size; omega
  have hZ6 := Z6.out
  have HZ7 := Lib.hid z7
  obtain ⟨h6, hh6⟩ : ∃ h6, h6 = w6.heap.size := ⟨_, rfl⟩
  rw [← hh6] at KH7 SV7 HZ7 hZ6 ⊢
  clear hW7 g7 G6 K6 R6 SV6 Z6 z7 hh6
  go_wp2_with fail
  refine (D5.out _ R7.out hb7).mono ?_
  rintro e w8 ⟨v8, rfl, o8, hr8, hg8⟩
  obtain ⟨ea, ec, rfl⟩ := o8.shape
  have hz7 := HZ7.out
  have G8 := Lib.hid (grownBy_trans G7.out hg8)
  have K8 := Lib.hid (K7.out.other hg8 HS.out)
  have KH8 := Lib.hid (KH7.out.other hg8 (fun e => by injection e with e; omega))
  have SV8 : Hid (SlP (fun j => w1.heap.size ≤ j ∧ j ≠ h6) w8 (.slice sa (nums st).length sc) (nums st)) := Lib.hid ((SV7.out.keep (Keep.of_grown hg8 (fun h => by omega))).mono fun j hj => ⟨hj.1, by omega⟩)
  have EV8 : Hid (EffsP (fun j => w1.heap.size ≤ j ∧ j ≠ h6) w8 (.slice ea es.length ec) es) := Lib.hid (o8.effs.mono fun j hj => by have h1 : W7.heap.size ≤ j := hj; exact ⟨by omega, by omega⟩)
  have R8 := Lib.hid hr8
  have hl8 : h6 < w8.heap.size := KH8.out.lt
  have HL8 := Lib.hid hl8
  clear o8 hr8 hg8 G7 K7 KH7 SV7 R7 hb7 hl8 HZ7
  have y5 := KH8.out.cell 5
  have fy5 := KH8.out.frozen 5
  go_upto_region 3 with fail
  have kf := KH8.out.set 5 (.slice ea es.length ec)
  have gf := grownBy_setCell w8 h6 5 (.slice ea es.length ec)
  obtain ⟨w9, hw9⟩ : ∃ w9, w9 = w8.setCell ⟨h6, 5, none⟩ (.slice ea es.length ec) := ⟨_, rfl⟩
  rw [← hw9] at kf gf ⊢
  simp only [List.set_cons_zero, List.set_cons_succ] at kf
  have hne : (some h6 : Option Nat) ≠ some w.heap.size := fun e => by injection e with e; have := HZ.out; omega
  have KH9 : Hid (CellsAt w9 h6 [.int .i64 (ori : Int), .int .u64 (seq : Int), .int .i64 reg, .int .u64 (epo : Int), .slice sa (nums st).length sc, .slice ea es.length ec, .int .u32 0] 34) := Lib.hid kf
  have K9 := Lib.hid (K8.out.other gf hne)
  have G9 := Lib.hid (grown_new G8.out gf (by have := HZ.out; omega))
  have hnb6 : ¬ base h6 := fun h => by have := hb _ h; have := HZ.out; omega
  have R9 := Lib.hid (rs_new R8.out gf hnb6)
  have SV9 := Lib.hid (SV8.out.keep (Keep.of_grown gf (fun h => h.2 rfl)))
  have EV9 := Lib.hid (EV8.out.keep (Keep.of_grown gf (fun h => h.2 rfl)))
  have HNE := Lib.hid hne
  clear kf gf hw9 y5 fy5 K8 KH8 G8 R8 SV8 EV8 hne
  go_wp2_with fail
  refine (D6.out _ R9.out).mono ?_
  rintro e w10 ⟨rfl, hr10, hg10⟩
  have hgh : (some g : Option Nat) ≠ some h6 := fun e => by injection e with e; omega
  have G10 := Lib.hid (grownBy_trans G9.out hg10)
  have K10 := Lib.hid (K9.out.other hg10 HS.out)
  have KH10 := Lib.hid (KH9.out.other hg10 hgh)
  have SV10 := Lib.hid (SV9.out.keep (Keep.of_grown hg10 (fun h => by omega)))
  have EV10 := Lib.hid (EV9.out.keep (Keep.of_grown hg10 (fun h => by omega)))
  have R10 := Lib.hid hr10
  clear hr10 hg10 G9 K9 KH9 SV9 EV9 R9
  have y6 := KH10.out.cell 6
  have fy6 := KH10.out.frozen 6
  go_upto_region 4 with fail
  have kf := KH10.out.set 6 (.int .u32 (clo : Int))
  have gf := grownBy_setCell w10 h6 6 (.int .u32 (clo : Int))
  obtain ⟨w11, hw11⟩ : ∃ w11, w11 = w10.setCell ⟨h6, 6, none⟩ (.int .u32 (clo : Int)) := ⟨_, rfl⟩
  rw [← hw11] at kf gf ⊢
  simp only [List.set_cons_zero, List.set_cons_succ] at kf
  have K2 : Hid (CellsAt w11 h6 [.int .i64 (ori : Int), .int .u64 (seq : Int), .int .i64 reg, .int .u64 (epo : Int), .slice sa (nums st).length sc, .slice ea es.length ec, .int .u32 (clo : Int)] 34) := Lib.hid kf
  have KB2 := Lib.hid (K10.out.other gf HNE.out)
  have G2 := Lib.hid (grown_new G10.out gf (by have := HZ.out; omega))
  have R2 := Lib.hid (rs_new R10.out gf hnb6)
  have SVf := Lib.hid (SV10.out.keep (Keep.of_grown gf (fun h => h.2 rfl)))
  have EVf := Lib.hid (EV10.out.keep (Keep.of_grown gf (fun h => h.2 rfl)))
  clear kf gf hw11 y6 fy6 K10 KH10 G10 R10 SV10 EV10
  have y0 := K2.out.cell 0
  have b0 := KB2.out.cell 0
  have fb0 := KB2.out.frozen 0
  have y1 := K2.out.cell 1
  have b1 := KB2.out.cell 1
  have fb1 := KB2.out.frozen 1
  have y2 := K2.out.cell 2
  have b2 := KB2.out.cell 2
  have fb2 := KB2.out.frozen 2
  have y3 := K2.out.cell 3
  have b3 := KB2.out.cell 3
  have fb3 := KB2.out.frozen 3
  have y4 := K2.out.cell 4
  have b4 := KB2.out.cell 4
  have fb4 := KB2.out.frozen 4
  have y5 := K2.out.cell 5
  have b5 := KB2.out.cell 5
  have fb5 := KB2.out.frozen 5
  have y6 := K2.out.cell 6
  have b6 := KB2.out.cell 6
  have fb6 := KB2.out.frozen 6
  have kf := (((((((KB2.out.set 0 (.int .i64 (ori : Int))).set 1 (.int .u64 (seq : Int))).set 2 (.int .i64 reg)).set 3 (.int .u64 (epo : Int))).set 4 (.slice sa (nums st).length sc)).set 5 (.slice ea es.length ec)).set 6 (.int .u32 (clo : Int)))
  have gf : w11.grownBy (((((((w11.setCell ⟨w.heap.size, 0, none⟩ (.int .i64 (ori : Int))).setCell ⟨w.heap.size, 1, none⟩ (.int .u64 (seq : Int))).setCell ⟨w.heap.size, 2, none⟩ (.int .i64 reg)).setCell ⟨w.heap.size, 3, none⟩ (.int .u64 (epo : Int))).setCell ⟨w.heap.size, 4, none⟩ (.slice sa (nums st).length sc)).setCell ⟨w.heap.size, 5, none⟩ (.slice ea es.length ec)).setCell ⟨w.heap.size, 6, none⟩ (.int .u32 (clo : Int))) (some w.heap.size) := (grownBy_trans (grownBy_trans (grownBy_trans (grownBy_trans (grownBy_trans (grownBy_trans (grownBy_setCell w11 w.heap.size 0 (.int .i64 (ori : Int))) (grownBy_setCell _ w.heap.size 1 (.int .u64 (seq : Int)))) (grownBy_setCell _ w.heap.size 2 (.int .i64 reg))) (grownBy_setCell _ w.heap.size 3 (.int .u64 (epo : Int)))) (grownBy_setCell _ w.heap.size 4 (.slice sa (nums st).length sc))) (grownBy_setCell _ w.heap.size 5 (.slice ea es.length ec))) (grownBy_setCell _ w.heap.size 6 (.int .u32 (clo : Int))))
  have SF := (SVf.out.keep (Keep.of_grown gf (fun h => by have h1 := h.1; have := HZ.out; omega))).mono (Q := From w.heap.size) (fun k hk => by have h1 := hk.1; have := HZ.out; show w.heap.size ≤ k; omega)
  have EF := (EVf.out.keep (Keep.of_grown gf (fun h => by have h1 := h.1; have := HZ.out; omega))).mono (Q := From w.heap.size) (fun k hk => by have h1 := hk.1; have := HZ.out; show w.heap.size ≤ k; omega)
  have x0 := kf.cell 0
  have x1 := kf.cell 1
  have x2 := kf.cell 2
  have x3 := kf.cell 3
  have x4 := kf.cell 4
  have x5 := kf.cell 5
  have x6 := kf.cell 6
  simp only [List.set_cons_zero, List.set_cons_succ, List.getElem?_cons_zero, List.getElem?_cons_succ] at x0 x1 x2 x3 x4 x5 x6
  clear kf
  go_wp2
  exact bodyPost_ret (v := .agg #[.int .i64 (ori : Int), .int .u64 (seq : Int), .int .i64 reg, .int .u64 (epo : Int), .slice sa (nums st).length sc, .slice ea es.length ec, .int .u32 (clo : Int)]) (by simp [results, Try.f36, go_sem, x0, x1, x2, x3, x4, x5, x6]) rfl ⟨_, rfl, ⟨_, _, rfl, SF, EF⟩, rs_new R2.out gf hnb, grown_new G2.out gf (Nat.le_refl _)⟩
end Go.Proofs.Ytiemgmbjhllmbaa
