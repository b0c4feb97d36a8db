/-
  Package entry: what reads sessions, stamps, nodes, effects, items.
-/
import Derived.Test.YtiemgmbjhllmbaaYG
set_option linter.unusedVariables false
set_option maxRecDepth 100000
namespace Go.Proofs.Ytiemgmbjhllmbaa
open Go.RowKit
theorem getSess_any (w : World) (base : Nat → Prop) (g : Nat) (s : RS) (hr : Rs w base g s) (hb : ∀ k, base k → k < w.heap.size) (hl : s.1.length ≤ 1000000000) :
    Calls Try.prog 24 #[.pointer (some ⟨g, 0, none⟩)] w (GotP w base g (fun v _ => v = .agg #[.int .i64 (rSess s).1.1, .int .u32 ((rSess s).1.2 : Int)]) (rSess s).2) := by
  have e1 : rSess s = ((((rPlace 3 s).1 : Int), (rSmall (rPlace 3 s).2).1), (rSmall (rPlace 3 s).2).2) := rfl
  rw [e1]
  obtain ⟨w1, hw1⟩ : ∃ w1, w1 = w.alloc (.cells #[.int .i64 0, .int .u32 0] 25) := ⟨_, rfl⟩
  have g1 : Gr w w1 := by rw [hw1]; exact (Gr.refl w).alloc _
  have k1 : CellsAt w1 w.heap.size [.int .i64 0, .int .u32 0] 25 := by rw [hw1]; exact CellsAt.new _ _ _
  have hr1 := Rs.gr hr g1
  have hgl := hr.lt
  have hnb : ¬ base w.heap.size := fun h => Nat.lt_irrefl _ (hb _ h)
  have HW := Lib.hid hw1
  have HK := Lib.hid k1
  have l1 := Nat.le_trans (left_place 3 s) hl
  clear hw1 e1 k1
  go_enter Try.func24, Try.ntmps24
  go_wp2_with fail
  rw [← HW.out]
  refine (place_any _ base g 3 s hr1 hl).mono ?_
  rintro e w2 ⟨rfl, hr2, hg2⟩
  go_wp2_with fail
  refine (small_any _ base g _ hr2 l1).mono ?_
  rintro e w3 ⟨rfl, hr3, hg3⟩
  have hg := Lib.hid (grownBy_trans (grownBy_trans (gr_grown g1 g) hg2) hg3)
  have k3 := (HK.out.other hg2 (fun e => by injection e with e; omega)).other hg3 (fun e => by injection e with e; omega)
  have c0 := k3.cell 0
  have c1 := k3.cell 1
  have f0 := k3.frozen 0
  have f1 := k3.frozen 1
  have K3 := Lib.hid k3
  have R3 := Lib.hid hr3
  clear k3 hr1 hr2 hr3 hg2 hg3 g1 HK
  go_wp2
  have kf := ((K3.out.set 0 (.int .i64 ((rPlace 3 s).1 : Int))).set 1 (.int .u32 ((rSmall (rPlace 3 s).2).1 : Int)))
  have gf : w3.grownBy ((w3.setCell ⟨w.heap.size, 0, none⟩ (.int .i64 ((rPlace 3 s).1 : Int))).setCell ⟨w.heap.size, 1, none⟩ (.int .u32 ((rSmall (rPlace 3 s).2).1 : Int))) (some w.heap.size) := (grownBy_trans (grownBy_setCell w3 w.heap.size 0 (.int .i64 ((rPlace 3 s).1 : Int))) (grownBy_setCell _ w.heap.size 1 (.int .u32 ((rSmall (rPlace 3 s).2).1 : Int))))
  have x0 := kf.cell 0
  have x1 := kf.cell 1
  simp only [List.set_cons_zero, List.set_cons_succ, List.getElem?_cons_zero, List.getElem?_cons_succ] at x0 x1
  exact bodyPost_ret (v := .agg #[.int .i64 ((rPlace 3 s).1 : Int), .int .u32 ((rSmall (rPlace 3 s).2).1 : Int)]) (by simp [results, Try.f24, go_sem, x0, x1]) rfl ⟨_, rfl, rfl, rs_new R3.out gf hnb, grown_new hg.out gf (Nat.le_refl _)⟩
/-! ### Stamps -/
def GotN (w : World) (base : Nat → Prop) (g : Nat) (l : List Nat) (s : RS) (en : Ending) (w' : World) : Prop := ∃ v, en = .returned v ∧ Own w' w.heap.size 26 v (nums l) ∧ Rs w' base g s ∧ w.grownBy w' (some g)
set_option maxHeartbeats 1000000 in
theorem listedN_any (w : World) (base : Nat → Prop) (g : Nat) (s : RS) (hr : Rs w base g s) (hb : ∀ k, base k → k < w.heap.size) (hl : s.1.length ≤ 1000000000) :
    Calls Try.prog 86 #[.pointer (some ⟨g, 0, none⟩), .int .i64 3, .func (.func 51) #[] #[]] w (GotN w base g (rStamp s).1 (rStamp s).2) := by
  obtain ⟨n, hn⟩ : ∃ n, n = (rCount 3 s).1 := ⟨_, rfl⟩
  obtain ⟨s1, hs1⟩ : ∃ s1, s1 = (rCount 3 s).2 := ⟨_, rfl⟩
  have e1 : rStamp s = rMany rUint n s1 := by rw [hn, hs1]; rfl
  have hn3 : n ≤ 3 := by rw [hn]; exact rCount_most 3 s
  have l1 : s1.1.length ≤ 1000000000 := by rw [hs1]; exact Nat.le_trans (rCount_left 3 s) hl
  have CO := get_count w base g s 3 (by decide) hr hl
  rw [← hn, ← hs1] at CO
  rw [e1]
  have hgl := hr.lt
  have CC := Lib.hid CO
  clear CO hn hs1 e1
  go_enter Try.func86, Try.ntmps86
  go_wp2_with fail
  refine CC.out.mono ?_
  rintro e w1 ⟨rfl, hr1, hg1⟩
  go_wp2
  go_loopw [7, 11] (fun v i wr => ∃ k : Nat, k ≤ n ∧ i = .int .i64 k ∧ Own wr w.heap.size 26 v (nums (rMany rUint k s1).1) ∧ Rs wr base g (rMany rUint k s1).2 ∧ w.grownBy wr (some g)) (fun _ i _ => n - (intOf i).toNat)
  case atStart => exact ⟨0, Nat.zero_le _, rfl, Own.nil0 _ _ _, hr1, hg1⟩
  case round =>
    clear hr1 hg1
    obtain ⟨k, hk, rfl, ho, hr2, hg2⟩ := hrel
    obtain ⟨wo, rfl⟩ : ∃ wo : World, wo = wr := ⟨_, rfl⟩
    by_cases hlt : k < n
    · have l2 := Nat.le_trans (left_many rUint_left k s1) l1
      have en : rMany rUint (k + 1) s1 = ((rMany rUint k s1).1 ++ [(rUint (rMany rUint k s1).2).1], (rUint (rMany rUint k s1).2).2) := rfl
      have hlen : (rMany rUint k s1).1.length = k := rMany_length _ _ _
      have EN := Lib.hid en
      have U := rUint_lt (rMany rUint k s1).2
      obtain ⟨ls, hls⟩ : ∃ ls, ls = (rMany rUint k s1).1 := ⟨_, rfl⟩
      obtain ⟨sk, hsk⟩ : ∃ sk, sk = (rMany rUint k s1).2 := ⟨_, rfl⟩
      rw [← hls, ← hsk] at EN
      rw [← hls] at ho hlen
      rw [← hsk] at hr2 l2 U
      have HLEN := Lib.hid hlen
      clear en hls hsk hlen
      obtain ⟨x, hx⟩ : ∃ x, x = (rUint sk).1 := ⟨_, rfl⟩
      have GU := get_uint wo base g sk hr2 l2
      rw [← hx] at GU EN U
      have GU2 := Lib.hid GU
      clear GU hx
      have i1 : (0 : Int) ≤ (k : Int) := by omega
      have i2 : (k : Int) < (n : Int) := by omega
      go_wp2_with fail
      refine GU2.out.mono ?_
      rintro e w3 ⟨rfl, hr3, hg3⟩
      have o3 := ho.ch (Ch.of_grownBy (ρ := fun j => j = g) hg3 (fun k hk => by cases hk; rfl)) (fun j hj => by have := (ho.lt j hj).1; omega)
      have hsz : w.heap.size ≤ w3.heap.size := (grownBy_trans hg2 hg3).size
      obtain ⟨v4, w4, hrun, p1, p2⟩ := run_append_n (w3.alloc (.cells #[.int .u64 (x : Int)] 26)) w.heap.size u7 (.slice (some ⟨w3.heap.size, 0, none⟩) 1 1) ls [x] (World.ownsRow.alloc o3 _) (Sl.new w3 [_] _ _ _ _ rfl (by decide)) (by rw [HLEN.out]; simp; omega) (by simp; omega)
      have r4 := rs_newO (Rs.gr hr3 ((Gr.refl w3).alloc _)) p2 (fun j hj hq => by have := (o3.lt j hj).1; have := hb j hq; omega)
      have g4 : w.grownBy w4 (some g) := grown_newO (grownBy_trans (grownBy_trans hg2 hg3) (gr_grown ((Gr.refl w3).alloc _) g)) p2 (fun j hj => (o3.lt j hj).1)
      have P1 : Hid (Own w4 w.heap.size 26 v4 (nums (rMany rUint (k + 1) s1).1)) := Lib.hid (by rw [EN.out]; exact p1)
      have R4 : Hid (Rs w4 base g (rMany rUint (k + 1) s1).2) := Lib.hid (by rw [EN.out]; exact r4)
      have G4 := Lib.hid g4
      have HRUN := Lib.hid hrun
      clear hrun p1 p2 r4 g4 o3 ho hr2 hr3 hg2 hg3
      go_wp2_with (at_builtin; refine wpList_run_append HRUN.out rfl _ _ rfl rfl rfl ?_; clear HRUN)
      go_roundw
      case rel => exact ⟨k + 1, by omega, by go_num, P1.out, R4.out, G4.out⟩
      case measure => simp [intOf]; omega
    · obtain rfl : k = n := by omega
      go_wp2
      go_ret
      exact ⟨_, rfl, ho, hr2, hg2⟩
theorem getStamp_any (w : World) (base : Nat → Prop) (g : Nat) (s : RS) (hr : Rs w base g s) (hb : ∀ k, base k → k < w.heap.size) (hl : s.1.length ≤ 1000000000) :
    Calls Try.prog 55 #[.pointer (some ⟨g, 0, none⟩)] w (GotN w base g (rStamp s).1 (rStamp s).2) := by
  go_enter Try.func55, Try.ntmps55
  go_wp2_with fail
  refine (listedN_any w base g s hr hb hl).mono ?_
  rintro e w1 ⟨v, rfl, o1, r1, g1⟩
  go_wp2
  go_ret
  exact ⟨_, rfl, o1, r1, g1⟩
/-! ### Nodes -/
def NodeIs (B : Nat) (x : NodeD) (v : Value) (W : World) : Prop := ∃ dv, v = .agg (nodeCells x dv).toArray ∧ SlP (From B) W dv (bytes x.data)
set_option maxHeartbeats 2000000 in
theorem getNode_any (w : World) (base : Nat → Prop) (g : Nat) (s : RS) (hr : Rs w base g s) (hb : ∀ k, base k → k < w.heap.size) (hl : s.1.length ≤ 1000000000) :
    Calls Try.prog 94 #[.pointer (some ⟨g, 0, none⟩)] w (GotP w base g (NodeIs w.heap.size (rNode s).1) (rNode s).2) := by
  obtain ⟨s1, hs1⟩ : ∃ s1, s1 = (rTextM 64 s).2 := ⟨_, rfl⟩
  obtain ⟨s2, hs2⟩ : ∃ s2, s2 = (rSmall s1).2 := ⟨_, rfl⟩
  obtain ⟨s3, hs3⟩ : ∃ s3, s3 = (rSmall s2).2 := ⟨_, rfl⟩
  obtain ⟨s4, hs4⟩ : ∃ s4, s4 = (rSmall s3).2 := ⟨_, rfl⟩
  obtain ⟨s5, hs5⟩ : ∃ s5, s5 = (rSess s4).2 := ⟨_, rfl⟩
  obtain ⟨s6, hs6⟩ : ∃ s6, s6 = (rUint s5).2 := ⟨_, rfl⟩
  obtain ⟨s7, hs7⟩ : ∃ s7, s7 = (rUint s6).2 := ⟨_, rfl⟩
  obtain ⟨s8, hs8⟩ : ∃ s8, s8 = (rUint s7).2 := ⟨_, rfl⟩
  have e0 : rNode s = (⟨(rTextM 64 s).1, (rSmall s1).1, (rSmall s2).1, (rSmall s3).1, (rSess s4).1.1, (rSess s4).1.2, (rUint s5).1, (rUint s6).1, (rUint s7).1⟩, s8) := by
    rw [hs8, hs7, hs6, hs5, hs4, hs3, hs2, hs1]; rfl
  have l1 : s1.1.length ≤ 1000000000 := by rw [hs1]; exact Nat.le_trans (left_text 64 s) hl
  have l2 : s2.1.length ≤ 1000000000 := by rw [hs2]; exact Nat.le_trans (left_small s1) l1
  have l3 : s3.1.length ≤ 1000000000 := by rw [hs3]; exact Nat.le_trans (left_small s2) l2
  have l4 : s4.1.length ≤ 1000000000 := by rw [hs4]; exact Nat.le_trans (left_small s3) l3
  have l5 : s5.1.length ≤ 1000000000 := by rw [hs5]; exact Nat.le_trans (left_sess s4) l4
  have l6 : s6.1.length ≤ 1000000000 := by rw [hs6]; exact Nat.le_trans (rUint_left s5) l5
  have l7 : s7.1.length ≤ 1000000000 := by rw [hs7]; exact Nat.le_trans (rUint_left s6) l6
  have C0 := Lib.hid (fun W h hb => text_get W base g 64 s h hb hl)
  have C1 := fun W h => small_any W base g s1 h l1
  have C2 := fun W h => small_any W base g s2 h l2
  have C3 := fun W h => small_any W base g s3 h l3
  have C4 := fun W h hb => getSess_any W base g s4 h hb l4
  have C5 := fun W h => get_uint W base g s5 h l5
  have C6 := fun W h => get_uint W base g s6 h l6
  have C7 := fun W h => get_uint W base g s7 h l7
  rw [← hs1] at C0
  rw [← hs2] at C1
  rw [← hs3] at C2
  rw [← hs4] at C3
  rw [← hs5] at C4
  rw [← hs6] at C5
  rw [← hs7] at C6
  rw [← hs8] at C7
  rw [e0]
  clear e0 hs1 hs2 hs3 hs4 hs5 hs6 hs7 hs8 l1 l2 l3 l4 l5 l6 l7
  obtain ⟨da, hda⟩ : ∃ da, da = (rTextM 64 s).1 := ⟨_, rfl⟩
  obtain ⟨ve, hve⟩ : ∃ ve, ve = (rSmall s1).1 := ⟨_, rfl⟩
  obtain ⟨ki, hki⟩ : ∃ ki, ki = (rSmall s2).1 := ⟨_, rfl⟩
  obtain ⟨ne, hne⟩ : ∃ ne, ne = (rSmall s3).1 := ⟨_, rfl⟩
  obtain ⟨si, hsi⟩ : ∃ si, si = (rSess s4).1.1 := ⟨_, rfl⟩
  obtain ⟨nn, hnn⟩ : ∃ nn, nn = (rSess s4).1.2 := ⟨_, rfl⟩
  obtain ⟨ma, hma⟩ : ∃ ma, ma = (rUint s5).1 := ⟨_, rfl⟩
  obtain ⟨ch, hch⟩ : ∃ ch, ch = (rUint s6).1 := ⟨_, rfl⟩
  obtain ⟨tu, htu⟩ : ∃ tu, tu = (rUint s7).1 := ⟨_, rfl⟩
  rw [← hda] at C0
  rw [← hve] at C1
  rw [← hki] at C2
  rw [← hne] at C3
  rw [← hsi, ← hnn] at C4
  rw [← hma] at C5
  rw [← hch] at C6
  rw [← htu] at C7
  rw [← hda, ← hve, ← hki, ← hne, ← hsi, ← hnn, ← hma, ← hch, ← htu]
  clear hda hve hki hne hsi hnn hma hch htu
  have D1 := Lib.hid C1
  have D2 := Lib.hid C2
  have D3 := Lib.hid C3
  have D4 := Lib.hid C4
  have D5 := Lib.hid C5
  have D6 := Lib.hid C6
  have D7 := Lib.hid C7
  clear C1 C2 C3 C4 C5 C6 C7
  obtain ⟨w1, hw1⟩ : ∃ w1, w1 = w.alloc (.cells #[.slice none 0 0, .int .u32 0, .int .u32 0, .int .u32 0, .int .i64 0, .int .u32 0, .int .u64 0, .int .u64 0, .int .u64 0] 28) := ⟨_, rfl⟩
  have g1 : Gr w w1 := by rw [hw1]; exact (Gr.refl w).alloc _
  have z1 : w1.heap.size = w.heap.size + 1 := by rw [hw1]; simp
  have k1 : CellsAt w1 w.heap.size [.slice none 0 0, .int .u32 0, .int .u32 0, .int .u32 0, .int .i64 0, .int .u32 0, .int .u64 0, .int .u64 0, .int .u64 0] 28 := by rw [hw1]; exact CellsAt.new _ _ _
  have hr1 := Rs.gr hr g1
  have hgl := hr.lt
  have hnb : ¬ base w.heap.size := fun h => Nat.lt_irrefl _ (hb _ h)
  have hb1 : ∀ k, base k → k < w1.heap.size := fun k hk => by have := hb k hk; omega
  have HW := Lib.hid hw1
  have HZ := Lib.hid z1
  have hsb : (some g : Option Nat) ≠ some w.heap.size := fun e => by injection e with e; omega
  have HS := Lib.hid hsb
  have hgl1 : g < w1.heap.size := by omega
  clear hw1 hr z1 hsb
  go_enter Try.func94, Try.ntmps94
  go_wp2_with fail
  rw [← HW.out]
  refine (C0.out _ hr1 hb1).mono ?_
  rintro e w2 ⟨v2, rfl, o2, hr2, hg2⟩
  obtain ⟨ad, cd, rfl⟩ := o2.shape
  have S2 := Lib.hid (o2.slP)
  have G2 := Lib.hid (grownBy_trans (gr_grown g1 g) hg2)
  have K2 := Lib.hid (k1.other hg2 HS.out)
  have Z2 := Lib.hid hg2.size
  clear o2 hg2 k1 hr1
  go_wp2_with fail
  refine (D1.out _ hr2).mono ?_
  rintro e w3 ⟨rfl, hr3, hg3⟩
  have S3 := Lib.hid (S2.out.keep (keep_from hg3 hgl1))
  have G3 := Lib.hid (grownBy_trans G2.out hg3)
  have K3 := Lib.hid (K2.out.other hg3 HS.out)
  have Z3 := Lib.hid (Nat.le_trans Z2.out hg3.size)
  clear hg3 hr2 S2 G2 K2 Z2
  go_wp2_with fail
  refine (D2.out _ hr3).mono ?_
  rintro e w4 ⟨rfl, hr4, hg4⟩
  have S4 := Lib.hid (S3.out.keep (keep_from hg4 hgl1))
  have G4 := Lib.hid (grownBy_trans G3.out hg4)
  have K4 := Lib.hid (K3.out.other hg4 HS.out)
  have Z4 := Lib.hid (Nat.le_trans Z3.out hg4.size)
  clear hg4 hr3 S3 G3 K3 Z3
  go_wp2_with fail
  refine (D3.out _ hr4).mono ?_
  rintro e w5 ⟨rfl, hr5, hg5⟩
  have S5 := Lib.hid (S4.out.keep (keep_from hg5 hgl1))
  have G5 := Lib.hid (grownBy_trans G4.out hg5)
  have K5 := Lib.hid (K4.out.other hg5 HS.out)
  have Z5 := Lib.hid (Nat.le_trans Z4.out hg5.size)
  clear hg5 hr4 S4 G4 K4 Z4
  go_wp2_with fail
  refine (D4.out _ hr5 (fun j hj => by have := hb1 j hj; have := G5.out.size; have := HZ.out; have := Z5.out; omega)).mono ?_
  rintro e w6 ⟨v4, rfl, rfl, hr6, hg6⟩
  have S6 := Lib.hid (S5.out.keep (keep_from hg6 hgl1))
  have G6 := Lib.hid (grownBy_trans G5.out hg6)
  have K6 := Lib.hid (K5.out.other hg6 HS.out)
  have Z6 := Lib.hid (Nat.le_trans Z5.out hg6.size)
  clear hg6 hr5 S5 G5 K5 Z5
  go_wp2_with fail
  refine (D5.out _ hr6).mono ?_
  rintro e w7 ⟨rfl, hr7, hg7⟩
  have S7 := Lib.hid (S6.out.keep (keep_from hg7 hgl1))
  have G7 := Lib.hid (grownBy_trans G6.out hg7)
  have K7 := Lib.hid (K6.out.other hg7 HS.out)
  have Z7 := Lib.hid (Nat.le_trans Z6.out hg7.size)
  clear hg7 hr6 S6 G6 K6 Z6
  go_wp2_with fail
  refine (D6.out _ hr7).mono ?_
  rintro e w8 ⟨rfl, hr8, hg8⟩
  have S8 := Lib.hid (S7.out.keep (keep_from hg8 hgl1))
  have G8 := Lib.hid (grownBy_trans G7.out hg8)
  have K8 := Lib.hid (K7.out.other hg8 HS.out)
  have Z8 := Lib.hid (Nat.le_trans Z7.out hg8.size)
  clear hg8 hr7 S7 G7 K7 Z7
  go_wp2_with fail
  refine (D7.out _ hr8).mono ?_
  rintro e w9 ⟨rfl, hr9, hg9⟩
  have S9 := Lib.hid (S8.out.keep (keep_from hg9 hgl1))
  have G9 := Lib.hid (grownBy_trans G8.out hg9)
  have K9 := Lib.hid (K8.out.other hg9 HS.out)
  have Z9 := Lib.hid (Nat.le_trans Z8.out hg9.size)
  clear hg9 hr8 S8 G8 K8 Z8
  have R9 := Lib.hid hr9
  clear hr9
  have c0 := K9.out.cell 0
  have c1 := K9.out.cell 1
  have c2 := K9.out.cell 2
  have c3 := K9.out.cell 3
  have c4 := K9.out.cell 4
  have c5 := K9.out.cell 5
  have c6 := K9.out.cell 6
  have c7 := K9.out.cell 7
  have c8 := K9.out.cell 8
  have f0 := K9.out.frozen 0
  have f1 := K9.out.frozen 1
  have f2 := K9.out.frozen 2
  have f3 := K9.out.frozen 3
  have f4 := K9.out.frozen 4
  have f5 := K9.out.frozen 5
  have f6 := K9.out.frozen 6
  have f7 := K9.out.frozen 7
  have f8 := K9.out.frozen 8
  go_wp2
  have kf := (((((((((K9.out.set 0 (.slice ad (bytes da).length cd)).set 1 (.int .u32 (ve : Int))).set 2 (.int .u32 (ki : Int))).set 3 (.int .u32 (ne : Int))).set 4 (.int .i64 si)).set 5 (.int .u32 (nn : Int))).set 6 (.int .u64 (ma : Int))).set 7 (.int .u64 (ch : Int))).set 8 (.int .u64 (tu : Int)))
  have gf : w9.grownBy (((((((((w9.setCell ⟨w.heap.size, 0, none⟩ (.slice ad (bytes da).length cd)).setCell ⟨w.heap.size, 1, none⟩ (.int .u32 (ve : Int))).setCell ⟨w.heap.size, 2, none⟩ (.int .u32 (ki : Int))).setCell ⟨w.heap.size, 3, none⟩ (.int .u32 (ne : Int))).setCell ⟨w.heap.size, 4, none⟩ (.int .i64 si)).setCell ⟨w.heap.size, 5, none⟩ (.int .u32 (nn : Int))).setCell ⟨w.heap.size, 6, none⟩ (.int .u64 (ma : Int))).setCell ⟨w.heap.size, 7, none⟩ (.int .u64 (ch : Int))).setCell ⟨w.heap.size, 8, none⟩ (.int .u64 (tu : Int))) (some w.heap.size) := (grownBy_trans (grownBy_trans (grownBy_trans (grownBy_trans (grownBy_trans (grownBy_trans (grownBy_trans (grownBy_trans (grownBy_setCell w9 w.heap.size 0 (.slice ad (bytes da).length cd)) (grownBy_setCell _ w.heap.size 1 (.int .u32 (ve : Int)))) (grownBy_setCell _ w.heap.size 2 (.int .u32 (ki : Int)))) (grownBy_setCell _ w.heap.size 3 (.int .u32 (ne : Int)))) (grownBy_setCell _ w.heap.size 4 (.int .i64 si))) (grownBy_setCell _ w.heap.size 5 (.int .u32 (nn : Int)))) (grownBy_setCell _ w.heap.size 6 (.int .u64 (ma : Int)))) (grownBy_setCell _ w.heap.size 7 (.int .u64 (ch : Int)))) (grownBy_setCell _ w.heap.size 8 (.int .u64 (tu : Int))))
  have SF := S9.out.keep (Keep.of_grown gf (fun h => by have h1 : w1.heap.size ≤ w.heap.size := h; have := HZ.out; omega))
  have x0 := kf.cell 0
  have x1 := kf.cell 1
  have x2 := kf.cell 2
  have x3 := kf.cell 3
  have x4 := kf.cell 4
  have x5 := kf.cell 5
  have x6 := kf.cell 6
  have x7 := kf.cell 7
  have x8 := kf.cell 8
  simp only [List.set_cons_zero, List.set_cons_succ, List.getElem?_cons_zero, List.getElem?_cons_succ] at x0 x1 x2 x3 x4 x5 x6 x7 x8
  rw [bytes_length] at *
  exact bodyPost_ret (v := .agg #[.slice ad da.length cd, .int .u32 (ve : Int), .int .u32 (ki : Int), .int .u32 (ne : Int), .int .i64 si, .int .u32 (nn : Int), .int .u64 (ma : Int), .int .u64 (ch : Int), .int .u64 (tu : Int)]) (by simp [results, Try.f94, go_sem, x0, x1, x2, x3, x4, x5, x6, x7, x8]) rfl
    ⟨_, rfl, ⟨_, rfl, SF.mono fun k hk => by have h1 : w1.heap.size ≤ k := hk; have := HZ.out; show w.heap.size ≤ k; omega⟩, rs_new R9.out gf hnb, grown_new G9.out gf (Nat.le_refl _)⟩
end Go.Proofs.Ytiemgmbjhllmbaa
