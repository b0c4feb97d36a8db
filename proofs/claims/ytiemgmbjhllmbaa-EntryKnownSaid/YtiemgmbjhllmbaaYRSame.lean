/-
  Of the document: the same nodes, effects, items, operations, entries.
-/
import Derived.Test.YtiemgmbjhllmbaaYEnRow
import Derived.Test.YtiemgmbjhllmbaaYEnLeq
import Derived.Deep.DeepCutAuto
set_option linter.unusedVariables false
set_option linter.unusedSimpArgs false
set_option maxRecDepth 100000
namespace Go.Proofs.Ytiemgmbjhllmbaa
open Go.RowKit
/-- The call answers a Boolean which is true just where the word is. -/
def Says (p : Prop) (w : World) (e : Ending) (w' : World) : Prop := ∃ z : Bool, e = .returned (.bool z) ∧ (z = true ↔ p) ∧ Gr w w'
theorem says {p : Prop} {w w' : World} (z : Bool) (h : z = true ↔ p) (g : Gr w w') : Says p w (.returned (.bool z)) w' := ⟨z, rfl, h, g⟩
theorem says_no {p : Prop} {w w' : World} (h : ¬ p) (g : Gr w w') : Says p w (.returned (.bool false)) w' := ⟨false, rfl, by simp [h], g⟩
theorem says_yes {p : Prop} {w w' : World} (h : p) (g : Gr w w') : Says p w (.returned (.bool true)) w' := ⟨true, rfl, by simp [h], g⟩
theorem says_by {p : Prop} {w w' : World} (z : Bool) (b : Bool) (h : z = b) (hb : b = true ↔ p) (g : Gr w w') : Says p w (.returned (.bool z)) w' := ⟨z, rfl, by rw [h]; exact hb, g⟩
set_option maxHeartbeats 4000000 in
theorem node_says (w : World) (x y : NodeD) (dv dv' : Value) (h1 : Sl w dv (bytes x.data)) (h2 : Sl w dv' (bytes y.data)) :
    Calls Try.prog 88 #[.agg (nodeCells x dv).toArray, .agg (nodeCells y dv').toArray] w (Says (x = y) w) := by
  obtain ⟨da1, ve1, ki1, ne1, si1, nn1, ma1, ch1, tu1⟩ := x
  obtain ⟨da2, ve2, ki2, ne2, si2, nn2, ma2, ch2, tu2⟩ := y
  dsimp only at h1 h2
  obtain ⟨a1, c1, hv⟩ := h1.oneCells
  rw [bytes_length] at hv
  subst hv
  obtain ⟨a2, c2, hv⟩ := h2.oneCells
  rw [bytes_length] at hv
  subst hv
  show Calls Try.prog 88 #[.agg #[.slice a1 da1.length c1, .int .u32 (ve1 : Int), .int .u32 (ki1 : Int), .int .u32 (ne1 : Int), .int .i64 si1, .int .u32 (nn1 : Int), .int .u64 (ma1 : Int), .int .u64 (ch1 : Int), .int .u64 (tu1 : Int)], .agg #[.slice a2 da2.length c2, .int .u32 (ve2 : Int), .int .u32 (ki2 : Int), .int .u32 (ne2 : Int), .int .i64 si2, .int .u32 (nn2 : Int), .int .u64 (ma2 : Int), .int .u64 (ch2 : Int), .int .u64 (tu2 : Int)]] w _
  have no0 : ¬ da1 = da2 → ¬ (⟨da1, ve1, ki1, ne1, si1, nn1, ma1, ch1, tu1⟩ : NodeD) = ⟨da2, ve2, ki2, ne2, si2, nn2, ma2, ch2, tu2⟩ := fun h e => h (by injection e)
  have no1 : ¬ ve1 = ve2 → ¬ (⟨da1, ve1, ki1, ne1, si1, nn1, ma1, ch1, tu1⟩ : NodeD) = ⟨da2, ve2, ki2, ne2, si2, nn2, ma2, ch2, tu2⟩ := fun h e => h (by injection e)
  have no2 : ¬ ki1 = ki2 → ¬ (⟨da1, ve1, ki1, ne1, si1, nn1, ma1, ch1, tu1⟩ : NodeD) = ⟨da2, ve2, ki2, ne2, si2, nn2, ma2, ch2, tu2⟩ := fun h e => h (by injection e)
  have no3 : ¬ ne1 = ne2 → ¬ (⟨da1, ve1, ki1, ne1, si1, nn1, ma1, ch1, tu1⟩ : NodeD) = ⟨da2, ve2, ki2, ne2, si2, nn2, ma2, ch2, tu2⟩ := fun h e => h (by injection e)
  have no4 : ¬ si1 = si2 → ¬ (⟨da1, ve1, ki1, ne1, si1, nn1, ma1, ch1, tu1⟩ : NodeD) = ⟨da2, ve2, ki2, ne2, si2, nn2, ma2, ch2, tu2⟩ := fun h e => h (by injection e)
  have no5 : ¬ nn1 = nn2 → ¬ (⟨da1, ve1, ki1, ne1, si1, nn1, ma1, ch1, tu1⟩ : NodeD) = ⟨da2, ve2, ki2, ne2, si2, nn2, ma2, ch2, tu2⟩ := fun h e => h (by injection e)
  have no6 : ¬ ma1 = ma2 → ¬ (⟨da1, ve1, ki1, ne1, si1, nn1, ma1, ch1, tu1⟩ : NodeD) = ⟨da2, ve2, ki2, ne2, si2, nn2, ma2, ch2, tu2⟩ := fun h e => h (by injection e)
  have no7 : ¬ ch1 = ch2 → ¬ (⟨da1, ve1, ki1, ne1, si1, nn1, ma1, ch1, tu1⟩ : NodeD) = ⟨da2, ve2, ki2, ne2, si2, nn2, ma2, ch2, tu2⟩ := fun h e => h (by injection e)
  have no8 : ¬ tu1 = tu2 → ¬ (⟨da1, ve1, ki1, ne1, si1, nn1, ma1, ch1, tu1⟩ : NodeD) = ⟨da2, ve2, ki2, ne2, si2, nn2, ma2, ch2, tu2⟩ := fun h e => h (by injection e)
  go_enter Try.func88, Try.ntmps88
  go_wp2_with (first | (refine wpList_boxE (cs := [.slice a1 da1.length c1, .int .u32 (ve1 : Int), .int .u32 (ki1 : Int), .int .u32 (ne1 : Int), .int .i64 si1, .int .u32 (nn1 : Int), .int .u64 (ma1 : Int), .int .u64 (ch1 : Int), .int .u64 (tu1 : Int)]) _ rfl rfl rfl ?_) | fail)
  intro w1 k1 g1 n1
  have K1 := Lib.hid k1
  have G1 := Lib.hid g1
  clear k1 g1 n1
  go_wp2_with (first | (refine wpList_boxE (cs := [.slice a2 da2.length c2, .int .u32 (ve2 : Int), .int .u32 (ki2 : Int), .int .u32 (ne2 : Int), .int .i64 si2, .int .u32 (nn2 : Int), .int .u64 (ma2 : Int), .int .u64 (ch2 : Int), .int .u64 (tu2 : Int)]) _ rfl rfl rfl ?_) | fail)
  intro w2 k2 g2 n2
  have s1 := run_string_sl (P := Try.prog) 22 5 9 Try.underlying22 Try.underlying5 Try.underlying9 (h1.below (G1.out.trans g2))
  have s2 := run_string_sl (P := Try.prog) 22 5 9 Try.underlying22 Try.underlying5 Try.underlying9 (h2.below (G1.out.trans g2))
  obtain ⟨b1, hb1⟩ : ∃ b1, b1 = w.heap.size := ⟨_, rfl⟩
  obtain ⟨b2, hb2⟩ : ∃ b2, b2 = w1.heap.size := ⟨_, rfl⟩
  rw [← hb1, ← hb2]
  have kk := K1.out.gr g2
  rw [← hb1] at kk
  rw [← hb2] at k2
  have x0 := kk.cell 0
  have x1 := kk.cell 1
  have x2 := kk.cell 2
  have x3 := kk.cell 3
  have x4 := kk.cell 4
  have x5 := kk.cell 5
  have x6 := kk.cell 6
  have x7 := kk.cell 7
  have x8 := kk.cell 8
  have y0 := k2.cell 0
  have y1 := k2.cell 1
  have y2 := k2.cell 2
  have y3 := k2.cell 3
  have y4 := k2.cell 4
  have y5 := k2.cell 5
  have y6 := k2.cell 6
  have y7 := k2.cell 7
  have y8 := k2.cell 8
  simp only [List.getElem?_cons_zero, List.getElem?_cons_succ] at x0 y0 x1 y1 x2 y2 x3 y3 x4 y4 x5 y5 x6 y6 x7 y7 x8 y8
  have GG := Lib.hid (G1.out.trans g2)
  clear kk k2 g2 n2 K1 G1 hb1 hb2 h1 h2
  by_cases h0 : da1 = da2
  rotate_left
  · have HN := Lib.hid (no0 h0)
    have hq : (da1 == da2) = false := by simpa using h0
    clear h0
    clear no0 no1 no2 no3 no4 no5 no6 no7 no8
    go_wp2
    go_ret
    exact says_by _ false (by simp [hq]) (by simp [HN.out]) GG.out
  subst h0
  by_cases h1 : ve1 = ve2
  rotate_left
  · have HN := Lib.hid (no1 h1)
    have hq : ¬ ((ve1 : Nat) : Int) = ((ve2 : Nat) : Int) := fun e => h1 (by omega)
    clear h1
    clear no0 no1 no2 no3 no4 no5 no6 no7 no8
    go_wp2
    go_ret
    exact says_by _ false (by simp [hq]) (by simp [HN.out]) GG.out
  subst h1
  by_cases h2 : ki1 = ki2
  rotate_left
  · have HN := Lib.hid (no2 h2)
    have hq : ¬ ((ki1 : Nat) : Int) = ((ki2 : Nat) : Int) := fun e => h2 (by omega)
    clear h2
    clear no0 no1 no2 no3 no4 no5 no6 no7 no8
    go_wp2
    go_ret
    exact says_by _ false (by simp [hq]) (by simp [HN.out]) GG.out
  subst h2
  by_cases h3 : ne1 = ne2
  rotate_left
  · have HN := Lib.hid (no3 h3)
    have hq : ¬ ((ne1 : Nat) : Int) = ((ne2 : Nat) : Int) := fun e => h3 (by omega)
    clear h3
    clear no0 no1 no2 no3 no4 no5 no6 no7 no8
    go_wp2
    go_ret
    exact says_by _ false (by simp [hq]) (by simp [HN.out]) GG.out
  subst h3
  by_cases h4 : si1 = si2
  rotate_left
  · have HN := Lib.hid (no4 h4)
    have hq : ¬ si1 = si2 := h4
    clear h4
    clear no0 no1 no2 no3 no4 no5 no6 no7 no8
    go_wp2
    go_ret
    exact says_by _ false (by simp [hq]) (by simp [HN.out]) GG.out
  subst h4
  by_cases h5 : nn1 = nn2
  rotate_left
  · have HN := Lib.hid (no5 h5)
    have hq : ¬ ((nn1 : Nat) : Int) = ((nn2 : Nat) : Int) := fun e => h5 (by omega)
    clear h5
    clear no0 no1 no2 no3 no4 no5 no6 no7 no8
    go_wp2
    go_ret
    exact says_by _ false (by simp [hq]) (by simp [HN.out]) GG.out
  subst h5
  by_cases h6 : ma1 = ma2
  rotate_left
  · have HN := Lib.hid (no6 h6)
    have hq : ¬ ((ma1 : Nat) : Int) = ((ma2 : Nat) : Int) := fun e => h6 (by omega)
    clear h6
    clear no0 no1 no2 no3 no4 no5 no6 no7 no8
    go_wp2
    go_ret
    exact says_by _ false (by simp [hq]) (by simp [HN.out]) GG.out
  subst h6
  by_cases h7 : ch1 = ch2
  rotate_left
  · have HN := Lib.hid (no7 h7)
    have hq : ¬ ((ch1 : Nat) : Int) = ((ch2 : Nat) : Int) := fun e => h7 (by omega)
    clear h7
    clear no0 no1 no2 no3 no4 no5 no6 no7 no8
    go_wp2
    go_ret
    exact says_by _ false (by simp [hq]) (by simp [HN.out]) GG.out
  subst h7
  by_cases h8 : tu1 = tu2
  rotate_left
  · have HN := Lib.hid (no8 h8)
    have hq : ¬ ((tu1 : Nat) : Int) = ((tu2 : Nat) : Int) := fun e => h8 (by omega)
    clear h8
    clear no0 no1 no2 no3 no4 no5 no6 no7 no8
    go_wp2
    go_ret
    exact says_by _ false (by simp [hq]) (by simp [HN.out]) GG.out
  subst h8
  clear no0 no1 no2 no3 no4 no5 no6 no7 no8
  go_wp2
  go_ret
  exact says_by _ true (by simp) (by simp) GG.out
set_option maxHeartbeats 4000000 in
theorem effs_says (w : World) (v v' : Value) (la lb : List EffD) (ha : EffsP Any w v la) (hb : EffsP Any w v' lb) (hl : la.length ≤ 1000000) (hl2 : lb.length ≤ 1000000) :
    Calls Try.prog 63 #[v, v'] w (Says (la = lb) w) := by
  obtain ⟨aa, ca, rfl⟩ := ha.shape
  obtain ⟨ab, cb, rfl⟩ := hb.shape
  by_cases hlen : la.length = lb.length
  rotate_left
  · have hne : ¬ la = lb := fun e => hlen (by rw [e])
    have HN := Lib.hid hne
    have hi : ¬ (la.length : Int) = (lb.length : Int) := fun e => hlen (by omega)
    clear hne hlen
    go_enter Try.func63, Try.ntmps63
    go_wp2
    go_ret
    exact says_by _ false (by simp) (by simp [HN.out]) (Gr.refl w)
  have HA := Lib.hid ha
  have HB := Lib.hid hb
  have LEN := Lib.hid hlen
  rw [← hlen]
  clear ha hb hlen hl2
  go_enter Try.func63, Try.ntmps63
  go_wp2_with fail
  go_loopw [5] (fun i wr => ∃ k : Nat, k ≤ la.length ∧ i = .int .i64 k ∧ la.take k = lb.take k ∧ Gr w wr) (fun i _ => la.length - (intOf i).toNat)
  case atStart => exact ⟨0, Nat.zero_le _, rfl, rfl, Gr.refl _⟩
  case round =>
    obtain ⟨k, hk, rfl, hpre, hg⟩ := hrel
    have HP := Lib.hid hpre
    have HG := Lib.hid hg
    clear hpre hg
    by_cases hlt : k < la.length
    · have hlt2 : k < lb.length := by rw [← LEN.out]; exact hlt
      obtain ⟨B1, o1, _, dv1, e1, hB1, s1, t1⟩ := HA.out.at k hlt
      obtain ⟨B2, o2, _, dv2, e2, hB2, s2, t2⟩ := HB.out.at k hlt2
      injection e1 with e1 _ q1
      injection e2 with e2 _ q2
      subst e1 e2 q1 q2
      obtain ⟨x, hx⟩ : ∃ x, x = la[k] := ⟨_, rfl⟩
      obtain ⟨y, hy⟩ : ∃ y, y = lb[k] := ⟨_, rfl⟩
      have YES : Hid (x = y → la.take (k + 1) = lb.take (k + 1)) := Lib.hid fun e => by
        rw [List.take_add_one, List.take_add_one, HP.out, List.getElem?_eq_getElem hlt, List.getElem?_eq_getElem hlt2, ← hx, ← hy, e]
      have NO : Hid (¬ x = y → ¬ la = lb) := Lib.hid fun e e2 => e (by subst e2; rw [hx, hy])
      rw [← hx] at s1 t1
      rw [← hy] at s2 t2
      clear hx hy HP
      obtain ⟨pa1, gn1, nd1⟩ := x
      obtain ⟨pa2, gn2, nd2⟩ := y
      dsimp only at s1 s2
      have T : Hid (∀ W, Gr w W → (W.cell? ⟨B1, o1 + k * 11, none⟩ = some (.string ⟨pa1.toArray⟩) ∧ W.cell? ⟨B1, o1 + k * 11 + 1, none⟩ = some (.bool gn1) ∧ W.cell? ⟨B1, o1 + k * 11 + 2, none⟩ = some (dv1) ∧ W.cell? ⟨B1, o1 + k * 11 + 3, none⟩ = some (.int .u32 (nd1.version : Int)) ∧ W.cell? ⟨B1, o1 + k * 11 + 4, none⟩ = some (.int .u32 (nd1.kin : Int)) ∧ W.cell? ⟨B1, o1 + k * 11 + 5, none⟩ = some (.int .u32 (nd1.next : Int)) ∧ W.cell? ⟨B1, o1 + k * 11 + 6, none⟩ = some (.int .i64 nd1.site) ∧ W.cell? ⟨B1, o1 + k * 11 + 7, none⟩ = some (.int .u32 (nd1.n : Int)) ∧ W.cell? ⟨B1, o1 + k * 11 + 8, none⟩ = some (.int .u64 (nd1.made : Int)) ∧ W.cell? ⟨B1, o1 + k * 11 + 9, none⟩ = some (.int .u64 (nd1.changed : Int)) ∧ W.cell? ⟨B1, o1 + k * 11 + 10, none⟩ = some (.int .u64 (nd1.touched : Int))) ∧ (W.cell? ⟨B2, o2 + k * 11, none⟩ = some (.string ⟨pa2.toArray⟩) ∧ W.cell? ⟨B2, o2 + k * 11 + 1, none⟩ = some (.bool gn2) ∧ W.cell? ⟨B2, o2 + k * 11 + 2, none⟩ = some (dv2) ∧ W.cell? ⟨B2, o2 + k * 11 + 3, none⟩ = some (.int .u32 (nd2.version : Int)) ∧ W.cell? ⟨B2, o2 + k * 11 + 4, none⟩ = some (.int .u32 (nd2.kin : Int)) ∧ W.cell? ⟨B2, o2 + k * 11 + 5, none⟩ = some (.int .u32 (nd2.next : Int)) ∧ W.cell? ⟨B2, o2 + k * 11 + 6, none⟩ = some (.int .i64 nd2.site) ∧ W.cell? ⟨B2, o2 + k * 11 + 7, none⟩ = some (.int .u32 (nd2.n : Int)) ∧ W.cell? ⟨B2, o2 + k * 11 + 8, none⟩ = some (.int .u64 (nd2.made : Int)) ∧ W.cell? ⟨B2, o2 + k * 11 + 9, none⟩ = some (.int .u64 (nd2.changed : Int)) ∧ W.cell? ⟨B2, o2 + k * 11 + 10, none⟩ = some (.int .u64 (nd2.touched : Int)))) := Lib.hid fun W hW => by
        have c1 : ∀ j u, j < 11 → (effCells ⟨pa1, gn1, nd1⟩ dv1)[j]? = some u → W.cell? ⟨B1, o1 + k * 11 + j, none⟩ = some u := fun j u hj hu => (hW.cell (p := ⟨B1, o1 + k * 11 + j, none⟩) hB1).trans (t1 j u hj hu)
        have c2 : ∀ j u, j < 11 → (effCells ⟨pa2, gn2, nd2⟩ dv2)[j]? = some u → W.cell? ⟨B2, o2 + k * 11 + j, none⟩ = some u := fun j u hj hu => (hW.cell (p := ⟨B2, o2 + k * 11 + j, none⟩) hB2).trans (t2 j u hj hu)
        exact ⟨⟨c1 0 _ (by decide) rfl, c1 1 _ (by decide) rfl, c1 2 _ (by decide) rfl, c1 3 _ (by decide) rfl, c1 4 _ (by decide) rfl, c1 5 _ (by decide) rfl, c1 6 _ (by decide) rfl, c1 7 _ (by decide) rfl, c1 8 _ (by decide) rfl, c1 9 _ (by decide) rfl, c1 10 _ (by decide) rfl⟩, ⟨c2 0 _ (by decide) rfl, c2 1 _ (by decide) rfl, c2 2 _ (by decide) rfl, c2 3 _ (by decide) rfl, c2 4 _ (by decide) rfl, c2 5 _ (by decide) rfl, c2 6 _ (by decide) rfl, c2 7 _ (by decide) rfl, c2 8 _ (by decide) rfl, c2 9 _ (by decide) rfl, c2 10 _ (by decide) rfl⟩⟩
      have S := Lib.hid (And.intro s1.1 s2.1)
      have GD := Lib.hid (HG.out.trans ((Gr.refl wr).drew))
      clear s1 s2 t1 t2
      have hk0 : (0 : Int) ≤ (k : Int) := by omega
      have hk1 : (k : Int) < (la.length : Int) := by omega
      by_cases h0 : pa1 = pa2
      rotate_left
      · have HN := Lib.hid (NO.out (fun e => h0 (by injection e)))
        have hq : (pa1 == pa2) = false := by simpa using h0
        clear h0 NO YES
        go_wp2_with fail
        apply wp_region_draw_grow (.eq _ :: .eq _ :: .eq _ :: .eq _ :: .eq _ :: .eq _ :: .eq _ :: .eq _ :: .eq _ :: .eq _ :: .eq _ :: .eq _ :: .eq _ :: .eq _ :: .eq _ :: .eq _ :: .eq _ :: .eq _ :: .eq _ :: .eq _ :: .eq _ :: .eq _ :: .eq _ :: .eq _ :: .eq _ :: .eq _ :: .eq _ :: .eq _ :: .eq _ :: .eq _ :: .eq _ :: .eq _ :: .eq _ :: .eq _ :: .eq _ :: .eq _ :: .eq _ :: .eq _ :: []) (by kernel_rfl) (by kernel_rfl) trivial
        iterate 38
         apply wpG_eq
         · intro W hW hs
           obtain ⟨⟨x0, x1, x2, x3, x4, x5, x6, x7, x8, x9, x10⟩, ⟨y0, y1, y2, y3, y4, y5, y6, y7, y8, y9, y10⟩⟩ := T.out W (GD.out.trans hW)
           unfold opG
           go_simp
           first | exact resG_eq_mk _ _ _ | rfl
         simp only [Act.put, pt1, pt2, pt3]
        apply wpG_nil
        intro W9 hW9 hsAll
        clear hsAll
        have GZ := Lib.hid (GD.out.trans hW9)
        clear hW9
        go_wp2
        go_ret
        exact says_by _ false (by simp) (by simp [HN.out]) GZ.out
      subst h0
      by_cases h1 : gn1 = gn2
      rotate_left
      · have HN := Lib.hid (NO.out (fun e => h1 (by injection e)))
        have hq : (gn1 == gn2) = false := by simpa using h1
        clear h1 NO YES
        go_wp2_with fail
        apply wp_region_draw_grow (.eq _ :: .eq _ :: .eq _ :: .eq _ :: .eq _ :: .eq _ :: .eq _ :: .eq _ :: .eq _ :: .eq _ :: .eq _ :: .eq _ :: .eq _ :: .eq _ :: .eq _ :: .eq _ :: .eq _ :: .eq _ :: .eq _ :: .eq _ :: .eq _ :: .eq _ :: .eq _ :: .eq _ :: .eq _ :: .eq _ :: .eq _ :: .eq _ :: .eq _ :: .eq _ :: .eq _ :: .eq _ :: .eq _ :: .eq _ :: .eq _ :: .eq _ :: .eq _ :: .eq _ :: []) (by kernel_rfl) (by kernel_rfl) trivial
        iterate 38
         apply wpG_eq
         · intro W hW hs
           obtain ⟨⟨x0, x1, x2, x3, x4, x5, x6, x7, x8, x9, x10⟩, ⟨y0, y1, y2, y3, y4, y5, y6, y7, y8, y9, y10⟩⟩ := T.out W (GD.out.trans hW)
           unfold opG
           go_simp
           first | exact resG_eq_mk _ _ _ | rfl
         simp only [Act.put, pt1, pt2, pt3]
        apply wpG_nil
        intro W9 hW9 hsAll
        clear hsAll
        have GZ := Lib.hid (GD.out.trans hW9)
        clear hW9
        go_wp2
        go_ret
        exact says_by _ false (by simp) (by simp [HN.out]) GZ.out
      subst h1
      by_cases h2 : nd1 = nd2
      rotate_left
      · have HN := Lib.hid (NO.out (fun e => h2 (by injection e)))
        have H2 := Lib.hid h2
        clear h2 NO YES
        go_wp2_with fail
        apply wp_region_draw_grow (.eq _ :: .eq _ :: .eq _ :: .eq _ :: .eq _ :: .eq _ :: .eq _ :: .eq _ :: .eq _ :: .eq _ :: .eq _ :: .eq _ :: .eq _ :: .eq _ :: .eq _ :: .eq _ :: .eq _ :: .eq _ :: .eq _ :: .eq _ :: .eq _ :: .eq _ :: .eq _ :: .eq _ :: .eq _ :: .eq _ :: .eq _ :: .eq _ :: .eq _ :: .eq _ :: .eq _ :: .eq _ :: .eq _ :: .eq _ :: .eq _ :: .eq _ :: .eq _ :: .eq _ :: []) (by kernel_rfl) (by kernel_rfl) trivial
        iterate 35
         apply wpG_eq
         · intro W hW hs
           obtain ⟨⟨x0, x1, x2, x3, x4, x5, x6, x7, x8, x9, x10⟩, ⟨y0, y1, y2, y3, y4, y5, y6, y7, y8, y9, y10⟩⟩ := T.out W (GD.out.trans hW)
           unfold opG
           go_simp
           first | exact resG_eq_mk _ _ _ | rfl
         simp only [Act.put, pt1, pt2, pt3]
        apply wpG_eq
        · intro W hW hs
          obtain ⟨⟨x0, x1, x2, x3, x4, x5, x6, x7, x8, x9, x10⟩, ⟨y0, y1, y2, y3, y4, y5, y6, y7, y8, y9, y10⟩⟩ := T.out W (GD.out.trans hW)
          obtain ⟨s1, s2⟩ := S.out
          have gW := GD.out.trans hW
          unfold opG
          go_simp
          refine resG_call ((node_says W _ _ _ _ (s1.below gW) (s2.below gW)).mono ?_)
          rintro e W2 ⟨z, rfl, hz, g2⟩
          obtain rfl : z = false := by cases z; rfl; exact absurd (hz.1 rfl) H2.out
          exact ⟨_, rfl, g2, rfl⟩
        simp only [Act.put, pt1, pt2, pt3]
        iterate 2
         apply wpG_eq
         · intro W hW hs
           obtain ⟨⟨x0, x1, x2, x3, x4, x5, x6, x7, x8, x9, x10⟩, ⟨y0, y1, y2, y3, y4, y5, y6, y7, y8, y9, y10⟩⟩ := T.out W (GD.out.trans hW)
           unfold opG
           go_simp
           first | exact resG_eq_mk _ _ _ | rfl
         simp only [Act.put, pt1, pt2, pt3]
        apply wpG_nil
        intro W9 hW9 hsAll
        clear hsAll
        have GZ := Lib.hid (GD.out.trans hW9)
        clear hW9
        go_wp2
        go_ret
        exact says_by _ false (by simp) (by simp [HN.out]) GZ.out
      have YY := Lib.hid (YES.out (by rw [h2]))
      have H2 := Lib.hid h2
      clear h2 NO YES
      go_wp2_with fail
      apply wp_region_draw_grow (.eq _ :: .eq _ :: .eq _ :: .eq _ :: .eq _ :: .eq _ :: .eq _ :: .eq _ :: .eq _ :: .eq _ :: .eq _ :: .eq _ :: .eq _ :: .eq _ :: .eq _ :: .eq _ :: .eq _ :: .eq _ :: .eq _ :: .eq _ :: .eq _ :: .eq _ :: .eq _ :: .eq _ :: .eq _ :: .eq _ :: .eq _ :: .eq _ :: .eq _ :: .eq _ :: .eq _ :: .eq _ :: .eq _ :: .eq _ :: .eq _ :: .eq _ :: .eq _ :: .eq _ :: []) (by kernel_rfl) (by kernel_rfl) trivial
      iterate 35
       apply wpG_eq
       · intro W hW hs
         obtain ⟨⟨x0, x1, x2, x3, x4, x5, x6, x7, x8, x9, x10⟩, ⟨y0, y1, y2, y3, y4, y5, y6, y7, y8, y9, y10⟩⟩ := T.out W (GD.out.trans hW)
         unfold opG
         go_simp
         first | exact resG_eq_mk _ _ _ | rfl
       simp only [Act.put, pt1, pt2, pt3]
      apply wpG_eq
      · intro W hW hs
        obtain ⟨⟨x0, x1, x2, x3, x4, x5, x6, x7, x8, x9, x10⟩, ⟨y0, y1, y2, y3, y4, y5, y6, y7, y8, y9, y10⟩⟩ := T.out W (GD.out.trans hW)
        obtain ⟨s1, s2⟩ := S.out
        have gW := GD.out.trans hW
        unfold opG
        go_simp
        refine resG_call ((node_says W _ _ _ _ (s1.below gW) (s2.below gW)).mono ?_)
        rintro e W2 ⟨z, rfl, hz, g2⟩
        obtain rfl : z = true := hz.2 H2.out
        exact ⟨_, rfl, g2, rfl⟩
      simp only [Act.put, pt1, pt2, pt3]
      iterate 2
       apply wpG_eq
       · intro W hW hs
         obtain ⟨⟨x0, x1, x2, x3, x4, x5, x6, x7, x8, x9, x10⟩, ⟨y0, y1, y2, y3, y4, y5, y6, y7, y8, y9, y10⟩⟩ := T.out W (GD.out.trans hW)
         unfold opG
         go_simp
         first | exact resG_eq_mk _ _ _ | rfl
       simp only [Act.put, pt1, pt2, pt3]
      apply wpG_nil
      intro W9 hW9 hsAll
      clear hsAll
      have GZ := Lib.hid (GD.out.trans hW9)
      clear hW9
      go_wp2
      go_roundw
      case rel => first | exact ⟨k + 1, by omega, by go_num, YY.out, GZ.out⟩ | ((repeat apply Exists.intro); apply And.intro; rotate_left; rfl; exact ⟨k + 1, by omega, by go_num, YY.out, GZ.out⟩)
      case measure => simp [intOf]; omega
    · obtain rfl : k = la.length := by omega
      have e : la = lb := by
        have h := HP.out
        rw [List.take_length, LEN.out, List.take_length] at h
        exact h
      have E := Lib.hid e
      clear e HP
      go_wp2
      go_ret
      exact says_by _ true (by simp) (by simp [E.out]) HG.out
end Go.Proofs.Ytiemgmbjhllmbaa
