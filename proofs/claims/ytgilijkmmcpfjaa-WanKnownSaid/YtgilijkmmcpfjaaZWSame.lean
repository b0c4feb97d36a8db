/-
  The document's comparison of messages of package wan.
-/
import Derived.Test.YtgilijkmmcpfjaaZX
import Derived.Test.YtgilijkmmcpfjaaZK
set_option linter.unusedVariables false
set_option linter.unusedSimpArgs false
set_option maxRecDepth 100000
namespace Go.Proofs.Ytgilijkmmcpfjaa
open Go.RowKit
def IsB (p : Prop) (v : Value) : Prop := ∃ z : Bool, v = .bool z ∧ (z = true ↔ p)
def IsNB (p : Prop) (v : Value) : Prop := ∃ z : Bool, v = .bool (!z) ∧ (z = true ↔ p)
def ItemShort (x : ItemD) : Prop := x.stamp.length ≤ 1000000 ∧ x.effs.length ≤ 1000000
set_option maxHeartbeats 4000000 in
theorem items_says (w : World) (v v' : Value) (la lb : List ItemD) (ha : ItemsP Any w v la) (hb : ItemsP Any w v' lb) (hl : la.length ≤ 1000000) (hl2 : lb.length ≤ 1000000) (sa : ∀ x ∈ la, ItemShort x) (sb : ∀ x ∈ lb, ItemShort x) :
    Calls Try.prog 43 #[v, v'] w (Says (la = lb) w) := by
  obtain ⟨aa, ca, rfl⟩ := ha.shape
  obtain ⟨ab, cb, rfl⟩ := hb.shape
  by_cases hlen : la.length = lb.length
  rotate_left
  · have hne : ¬ la = lb := fun e => hlen (by rw [e])
    have HN := Lib.hid hne
    have hi : ¬ (la.length : Int) = (lb.length : Int) := fun e => hlen (by omega)
    clear hne hlen sa sb
    go_enter Try.func43, Try.ntmps43
    go_wp2
    go_ret
    exact says_by _ false (by simp) (by simp [HN.out]) (Gr.refl w)
  have HA := Lib.hid ha
  have HB := Lib.hid hb
  have SA := Lib.hid sa
  have SB := Lib.hid sb
  have LEN := Lib.hid hlen
  rw [← hlen]
  clear ha hb hlen hl2 sa sb
  go_enter Try.func43, Try.ntmps43
  go_wp2_with fail
  go_loopw [5] (fun i wr => ∃ k : Nat, k ≤ la.length ∧ i = .int .i64 k ∧ la.take k = lb.take k ∧ Gr w wr) (fun i _ => la.length - (intOf i).toNat)
  case atStart => exact ⟨0, Nat.zero_le _, rfl, rfl, Gr.refl _⟩
  case round =>
    obtain ⟨k, hk, rfl, hpre, hg⟩ := hrel
    have HP := Lib.hid hpre
    have HG := Lib.hid hg
    clear hpre hg
    by_cases hlt : k < la.length
    · have hlt2 : k < lb.length := by rw [← LEN.out]; exact hlt
      obtain ⟨B1, o1, _, sv1, ev1, e1, hB1, s1, t1⟩ := HA.out.at k hlt
      obtain ⟨B2, o2, _, sv2, ev2, e2, hB2, s2, t2⟩ := HB.out.at k hlt2
      injection e1 with e1 _ q1
      injection e2 with e2 _ q2
      subst e1 e2 q1 q2
      obtain ⟨x, hx⟩ : ∃ x, x = la[k] := ⟨_, rfl⟩
      obtain ⟨y, hy⟩ : ∃ y, y = lb[k] := ⟨_, rfl⟩
      have YES : Hid (x = y → la.take (k + 1) = lb.take (k + 1)) := Lib.hid fun e => by
        rw [List.take_add_one, List.take_add_one, HP.out, List.getElem?_eq_getElem hlt, List.getElem?_eq_getElem hlt2, ← hx, ← hy, e]
      have NO : Hid (¬ x = y → ¬ la = lb) := Lib.hid fun e e2 => e (by subst e2; rw [hx, hy])
      have SAY : Hid (∀ W, Gr w W → Calls Try.prog 79 #[.agg (itemCells x sv1 ev1).toArray, .agg (itemCells y sv2 ev2).toArray] W (Says (x = y) W)) := Lib.hid fun W hW => item_says W x y sv1 ev1 sv2 ev2 (by rw [hx]; exact s1.gr hW) (by rw [hy]; exact s2.gr hW) (by rw [hx]; exact SA.out _ (List.getElem_mem hlt)) (by rw [hy]; exact SB.out _ (List.getElem_mem hlt2))
      rw [← hx] at s1 t1
      rw [← hy] at s2 t2
      clear hx hy HP
      obtain ⟨sa1, ns1, sc1, ea1, ne1, ec1, rfl, rfl⟩ := item_shape s1
      obtain ⟨sa2, ns2, sc2, ea2, ne2, ec2, rfl, rfl⟩ := item_shape s2
      have T : Hid (∀ W, Gr w W → (W.cell? ⟨B1, o1 + k * 7, none⟩ = some (.int .i64 x.origin) ∧ W.cell? ⟨B1, o1 + k * 7 + 1, none⟩ = some (.int .u64 (x.seq : Int)) ∧ W.cell? ⟨B1, o1 + k * 7 + 2, none⟩ = some (.int .i64 x.region) ∧ W.cell? ⟨B1, o1 + k * 7 + 3, none⟩ = some (.int .u64 (x.epoch : Int)) ∧ W.cell? ⟨B1, o1 + k * 7 + 4, none⟩ = some (.slice sa1 ns1 sc1) ∧ W.cell? ⟨B1, o1 + k * 7 + 5, none⟩ = some (.slice ea1 ne1 ec1) ∧ W.cell? ⟨B1, o1 + k * 7 + 6, none⟩ = some (.int .u32 (x.closed : Int))) ∧ (W.cell? ⟨B2, o2 + k * 7, none⟩ = some (.int .i64 y.origin) ∧ W.cell? ⟨B2, o2 + k * 7 + 1, none⟩ = some (.int .u64 (y.seq : Int)) ∧ W.cell? ⟨B2, o2 + k * 7 + 2, none⟩ = some (.int .i64 y.region) ∧ W.cell? ⟨B2, o2 + k * 7 + 3, none⟩ = some (.int .u64 (y.epoch : Int)) ∧ W.cell? ⟨B2, o2 + k * 7 + 4, none⟩ = some (.slice sa2 ns2 sc2) ∧ W.cell? ⟨B2, o2 + k * 7 + 5, none⟩ = some (.slice ea2 ne2 ec2) ∧ W.cell? ⟨B2, o2 + k * 7 + 6, none⟩ = some (.int .u32 (y.closed : Int)))) := Lib.hid fun W hW => by
        have c1 : ∀ j u, j < 7 → (itemCells x (.slice sa1 ns1 sc1) (.slice ea1 ne1 ec1))[j]? = some u → W.cell? ⟨B1, o1 + k * 7 + j, none⟩ = some u := fun j u hj hu => (hW.cell (p := ⟨B1, o1 + k * 7 + j, none⟩) hB1).trans (t1 j u hj hu)
        have c2 : ∀ j u, j < 7 → (itemCells y (.slice sa2 ns2 sc2) (.slice ea2 ne2 ec2))[j]? = some u → W.cell? ⟨B2, o2 + k * 7 + j, none⟩ = some u := fun j u hj hu => (hW.cell (p := ⟨B2, o2 + k * 7 + j, none⟩) hB2).trans (t2 j u hj hu)
        exact ⟨⟨c1 0 _ (by decide) rfl, c1 1 _ (by decide) rfl, c1 2 _ (by decide) rfl, c1 3 _ (by decide) rfl, c1 4 _ (by decide) rfl, c1 5 _ (by decide) rfl, c1 6 _ (by decide) rfl⟩, ⟨c2 0 _ (by decide) rfl, c2 1 _ (by decide) rfl, c2 2 _ (by decide) rfl, c2 3 _ (by decide) rfl, c2 4 _ (by decide) rfl, c2 5 _ (by decide) rfl, c2 6 _ (by decide) rfl⟩⟩
      have GD := Lib.hid (HG.out.trans ((Gr.refl wr).drew))
      clear s1 s2 t1 t2
      have hk0 : (0 : Int) ≤ (k : Int) := by omega
      have hk1 : (k : Int) < (la.length : Int) := by omega
      go_wp2_with fail
      apply wp_region_draw_grow (.eq _ :: .eq _ :: .eq _ :: .eq _ :: .eq _ :: .eq _ :: .eq _ :: .eq _ :: .ok (fun v W => IsB (x = y) v) :: .ok (fun v W => IsNB (x = y) v) :: []) (by kernel_rfl) (by kernel_rfl) ⟨fun _ _ _ _ h => h, fun _ _ _ _ h => h, trivial⟩
      iterate 8
       apply wpG_eq
       · intro W hW hs
         obtain ⟨⟨x0, x1, x2, x3, x4, x5, x6⟩, ⟨y0, y1, y2, y3, y4, y5, y6⟩⟩ := T.out W (GD.out.trans hW)
         unfold opG
         go_simp
         first | exact resG_eq_mk _ _ _ | rfl
       simp only [Act.put, pt1, pt2, pt3]
      apply wpG_ok
      · intro W hW hs
        unfold opG
        go_simp
        refine resG_call ((SAY.out W (GD.out.trans hW)).mono ?_)
        rintro e W2 ⟨z, rfl, hz, hg⟩
        exact ⟨_, rfl, hg, z, rfl, hz⟩
      intro v8
      simp only [Act.put, pt1, pt2, pt3]
      apply wpG_ok
      · intro W hW hs
        obtain ⟨z, rfl, hz⟩ := hs _ (.head _) (by rfl)
        unfold opG
        go_simp
        exact resG_mk (Gr.refl _) ⟨z, rfl, hz⟩
      intro v9
      simp only [Act.put, pt1, pt2, pt3]
      apply wpG_nil
      intro W9 hW9 hsAll
      obtain ⟨z, rfl, hz⟩ := hsAll _ (.head _)
      clear hsAll
      have G9 := Lib.hid (GD.out.trans hW9)
      clear hW9
      cases z with
      | true =>
        have TK := Lib.hid (YES.out (hz.1 rfl))
        clear hz
        go_wp2
        go_roundw
        case rel => exact ⟨k + 1, by omega, by go_num, TK.out, G9.out⟩
        case measure => simp [intOf]; omega
      | false =>
        have HN := Lib.hid (NO.out (fun e => Bool.noConfusion (hz.2 e)))
        clear hz
        go_wp2
        go_ret
        exact says_by _ false (by simp) (by simp [HN.out]) G9.out
    · obtain rfl : k = la.length := by omega
      have HE : Hid (la = lb) := Lib.hid (by have h := HP.out; rw [List.take_of_length_le (Nat.le_refl _), List.take_of_length_le (by rw [LEN.out]; exact Nat.le_refl _)] at h; exact h)
      go_wp2
      go_ret
      exact says_by _ true (by simp) (by simp [HE.out]) HG.out
/-- What may be compared. -/
structure WanShort (x : WanD) : Prop where
  vector : x.vector.length ≤ 1000000
  items : x.items.length ≤ 1000000
  frontier : x.frontier.length ≤ 1000000
  each : ∀ y ∈ x.items, ItemShort y
set_option maxHeartbeats 8000000 in
theorem wan_says (w : World) (x y : WanD) (vv iv fv vv' iv' fv' : Value) (hp : WanP Any w x vv iv fv) (hq : WanP Any w y vv' iv' fv') (lx : WanShort x) (ly : WanShort y) :
    Calls Try.prog 15 #[.agg (wanCells x vv iv fv).toArray, .agg (wanCells y vv' iv' fv').toArray] w (Says (x = y) w) := by
  have CV : Hid (∀ W, Gr w W → Calls Try.prog 42 #[vv, vv'] W (Says (x.vector = y.vector) W)) := Lib.hid fun W hW => nums_says W _ _ _ _ (hp.gr hW).1.1 (hq.gr hW).1.1 lx.vector ly.vector
  have CF : Hid (∀ W, Gr w W → Calls Try.prog 42 #[fv, fv'] W (Says (x.frontier = y.frontier) W)) := Lib.hid fun W hW => nums_says W _ _ _ _ (hp.gr hW).2.2.1 (hq.gr hW).2.2.1 lx.frontier ly.frontier
  have CI : Hid (∀ W, Gr w W → Calls Try.prog 43 #[iv, iv'] W (Says (x.items = y.items) W)) := Lib.hid fun W hW => items_says W _ _ _ _ (hp.gr hW).2.1 (hq.gr hW).2.1 lx.items ly.items lx.each ly.each
  obtain ⟨a1, c1, rfl, _, _⟩ := Sl.numsAt' hp.1.1
  obtain ⟨a3, c3, rfl, _, _⟩ := Sl.numsAt' hp.2.2.1
  obtain ⟨a2, c2, rfl⟩ := hp.2.1.shape
  obtain ⟨d1, f1, rfl, _, _⟩ := Sl.numsAt' hq.1.1
  obtain ⟨d3, f3, rfl, _, _⟩ := Sl.numsAt' hq.2.2.1
  obtain ⟨d2, f2, rfl⟩ := hq.2.1.shape
  obtain ⟨n1, hn1⟩ : ∃ n, n = x.vector.length := ⟨_, rfl⟩
  obtain ⟨n2, hn2⟩ : ∃ n, n = x.items.length := ⟨_, rfl⟩
  obtain ⟨n3, hn3⟩ : ∃ n, n = x.frontier.length := ⟨_, rfl⟩
  obtain ⟨m1, hm1⟩ : ∃ n, n = y.vector.length := ⟨_, rfl⟩
  obtain ⟨m2, hm2⟩ : ∃ n, n = y.items.length := ⟨_, rfl⟩
  obtain ⟨m3, hm3⟩ : ∃ n, n = y.frontier.length := ⟨_, rfl⟩
  rw [← hn1, ← hm1] at CV
  rw [← hn2, ← hm2] at CI
  rw [← hn3, ← hm3] at CF
  rw [← hn1, ← hn2, ← hn3, ← hm1, ← hm2, ← hm3]
  clear hn1 hn2 hn3 hm1 hm2 hm3 hp hq lx ly
  obtain ⟨k1, s1, v1, i1, r1, e1, u1⟩ := x
  obtain ⟨k2, s2, v2, i2, r2, e2, u2⟩ := y
  dsimp only at CV CF CI
  have no0 : ¬ k1 = k2 → ¬ (⟨k1, s1, v1, i1, r1, e1, u1⟩ : WanD) = ⟨k2, s2, v2, i2, r2, e2, u2⟩ := fun h e => h (by injection e)
  have no1 : ¬ s1 = s2 → ¬ (⟨k1, s1, v1, i1, r1, e1, u1⟩ : WanD) = ⟨k2, s2, v2, i2, r2, e2, u2⟩ := fun h e => h (by injection e)
  have no2 : ¬ r1 = r2 → ¬ (⟨k1, s1, v1, i1, r1, e1, u1⟩ : WanD) = ⟨k2, s2, v2, i2, r2, e2, u2⟩ := fun h e => h (by injection e)
  have no3 : ¬ e1 = e2 → ¬ (⟨k1, s1, v1, i1, r1, e1, u1⟩ : WanD) = ⟨k2, s2, v2, i2, r2, e2, u2⟩ := fun h e => h (by injection e)
  have no4 : ¬ v1 = v2 → ¬ (⟨k1, s1, v1, i1, r1, e1, u1⟩ : WanD) = ⟨k2, s2, v2, i2, r2, e2, u2⟩ := fun h e => h (by injection e)
  have no5 : ¬ u1 = u2 → ¬ (⟨k1, s1, v1, i1, r1, e1, u1⟩ : WanD) = ⟨k2, s2, v2, i2, r2, e2, u2⟩ := fun h e => h (by injection e)
  have no6 : ¬ i1 = i2 → ¬ (⟨k1, s1, v1, i1, r1, e1, u1⟩ : WanD) = ⟨k2, s2, v2, i2, r2, e2, u2⟩ := fun h e => h (by injection e)
  show Calls Try.prog 15 #[.agg #[.int .u8 (k1 : Int), .int .i64 s1, .slice a1 n1 c1, .slice a2 n2 c2, .int .i64 r1, .int .u64 (e1 : Int), .slice a3 n3 c3], .agg #[.int .u8 (k2 : Int), .int .i64 s2, .slice d1 m1 f1, .slice d2 m2 f2, .int .i64 r2, .int .u64 (e2 : Int), .slice d3 m3 f3]] w _
  go_enter Try.func15, Try.ntmps15
  go_wp2_with (first | (refine wpList_boxE (cs := [.int .u8 (k1 : Int), .int .i64 s1, .slice a1 n1 c1, .slice a2 n2 c2, .int .i64 r1, .int .u64 (e1 : Int), .slice a3 n3 c3]) _ rfl rfl rfl ?_) | fail)
  intro w1 K1 G1 nz1
  have KK1 := Lib.hid K1
  have GG1 := Lib.hid G1
  clear K1 G1 nz1
  go_wp2_with (first | (refine wpList_boxE (cs := [.int .u8 (k2 : Int), .int .i64 s2, .slice d1 m1 f1, .slice d2 m2 f2, .int .i64 r2, .int .u64 (e2 : Int), .slice d3 m3 f3]) _ rfl rfl rfl ?_) | fail)
  intro w2 K2 G2 nz2
  obtain ⟨b1, hb1⟩ : ∃ b1, b1 = w.heap.size := ⟨_, rfl⟩
  obtain ⟨b2, hb2⟩ : ∃ b2, b2 = w1.heap.size := ⟨_, rfl⟩
  rw [← hb1, ← hb2]
  have kk := KK1.out.gr G2
  rw [← hb1] at kk
  rw [← hb2] at K2
  have T : Hid (∀ W, Gr w2 W → (W.cell? ⟨b1, 6, none⟩ = some (.slice a3 n3 c3) ∧ W.cell? ⟨b2, 6, none⟩ = some (.slice d3 m3 f3) ∧ W.cell? ⟨b1, 3, none⟩ = some (.slice a2 n2 c2) ∧ W.cell? ⟨b2, 3, none⟩ = some (.slice d2 m2 f2))) := Lib.hid fun W hW => ⟨(kk.gr hW).cell 6, (K2.gr hW).cell 6, (kk.gr hW).cell 3, (K2.gr hW).cell 3⟩
  have x0 := kk.cell 0
  have x1 := kk.cell 1
  have x2 := kk.cell 2
  have x4 := kk.cell 4
  have x5 := kk.cell 5
  have y0 := K2.cell 0
  have y1 := K2.cell 1
  have y2 := K2.cell 2
  have y4 := K2.cell 4
  have y5 := K2.cell 5
  simp only [List.getElem?_cons_zero, List.getElem?_cons_succ] at x0 y0 x1 y1 x2 y2 x4 y4 x5 y5
  have GG := Lib.hid (GG1.out.trans G2)
  clear kk K2 G2 KK1 GG1 hb1 hb2 nz2
  by_cases h0 : k1 = k2
  rotate_left
  · have HN := Lib.hid (no0 h0)
    have hq : ¬ ((k1 : Nat) : Int) = ((k2 : Nat) : Int) := fun e => h0 (by omega)
    clear h0 no0 no1 no2 no3 no4 no5 no6
    go_wp2
    go_ret
    exact says_by _ false (by simp [hq]) (by simp [HN.out]) GG.out
  subst h0
  by_cases h1 : s1 = s2
  rotate_left
  · have HN := Lib.hid (no1 h1)
    have hq : ¬ s1 = s2 := h1
    clear h1 no0 no1 no2 no3 no4 no5 no6
    go_wp2
    go_ret
    exact says_by _ false (by simp [hq]) (by simp [HN.out]) GG.out
  subst h1
  by_cases h2 : r1 = r2
  rotate_left
  · have HN := Lib.hid (no2 h2)
    have hq : ¬ r1 = r2 := h2
    clear h2 no0 no1 no2 no3 no4 no5 no6
    go_wp2
    go_ret
    exact says_by _ false (by simp [hq]) (by simp [HN.out]) GG.out
  subst h2
  by_cases h3 : e1 = e2
  rotate_left
  · have HN := Lib.hid (no3 h3)
    have hq : ¬ ((e1 : Nat) : Int) = ((e2 : Nat) : Int) := fun e => h3 (by omega)
    clear h3 no0 no1 no2 no3 no4 no5 no6
    go_wp2
    go_ret
    exact says_by _ false (by simp [hq]) (by simp [HN.out]) GG.out
  subst h3
  have N4 := Lib.hid no4
  have N5 := Lib.hid no5
  have N6 := Lib.hid no6
  clear no0 no1 no2 no3 no4 no5 no6
  go_wp2_with fail
  refine (CV.out w2 GG.out).mono ?_
  rintro e w3 ⟨z, rfl, hz, g3⟩
  have G3 := Lib.hid g3
  have HZ := Lib.hid hz
  clear hz g3
  cases z with
  | false =>
    have HN := Lib.hid (N4.out (fun e => Bool.noConfusion (HZ.out.2 e)))
    clear HZ
    go_wp2
    go_ret
    exact says_by _ false (by simp) (by simp [HN.out]) (GG.out.trans G3.out)
  | true =>
  have E4 := Lib.hid (HZ.out.1 rfl)
  clear HZ
  obtain ⟨z1, z2, z3, z4⟩ := T.out w3 G3.out
  go_wp2_with fail
  refine (CF.out w3 (GG.out.trans G3.out)).mono ?_
  rintro e w4 ⟨z, rfl, hz, g4⟩
  have G4 := Lib.hid (G3.out.trans g4)
  have HZ2 := Lib.hid hz
  clear hz g4 z1 z2 z3 z4
  cases z with
  | false =>
    have HN := Lib.hid (N5.out (fun e => Bool.noConfusion (HZ2.out.2 e)))
    clear HZ2
    go_wp2
    go_ret
    exact says_by _ false (by simp) (by simp [HN.out]) (GG.out.trans G4.out)
  | true =>
  have E5 := Lib.hid (HZ2.out.1 rfl)
  clear HZ2
  obtain ⟨z1, z2, z3, z4⟩ := T.out w4 G4.out
  go_wp2_with fail
  refine (CI.out w4 (GG.out.trans G4.out)).mono ?_
  rintro e w5 ⟨z, rfl, hz, g5⟩
  have G5 := Lib.hid (G4.out.trans g5)
  have HZ3 := Lib.hid hz
  clear hz g5 z1 z2 z3 z4
  cases z with
  | false =>
    have HN := Lib.hid (N6.out (fun e => Bool.noConfusion (HZ3.out.2 e)))
    clear HZ3
    go_wp2
    go_ret
    exact says_by _ false (by simp) (by simp [HN.out]) (GG.out.trans G5.out)
  | true =>
    have E6 := Lib.hid (HZ3.out.1 rfl)
    clear HZ3
    have HE : Hid ((⟨k1, s1, v1, i1, r1, e1, u1⟩ : WanD) = ⟨k1, s1, v2, i2, r1, e1, u2⟩) := Lib.hid (by rw [E4.out, E5.out, E6.out])
    go_wp2
    go_ret
    exact says_by _ true (by simp) (by simp [HE.out]) (GG.out.trans G5.out)
end Go.Proofs.Ytgilijkmmcpfjaa
