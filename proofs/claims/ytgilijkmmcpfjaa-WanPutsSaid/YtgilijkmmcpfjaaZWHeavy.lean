/-
  Of the statements of package wan: heavy.
-/
import Derived.Test.YtgilijkmmcpfjaaZWTells
set_option linter.unusedVariables false
set_option linter.unusedSimpArgs false
set_option maxRecDepth 100000
namespace Go.Proofs.Ytgilijkmmcpfjaa
open Go.RowKit
/-- A Boolean comes back; where it is false, p. -/
def NotThenW (p : Prop) (w : World) (e : Ending) (w' : World) : Prop := ∃ z : Bool, e = .returned (.bool z) ∧ (z = false → p) ∧ Gr w w'
theorem NotThenW.yes {p : Prop} {w w' : World} (g : Gr w w') : NotThenW p w (.returned (.bool true)) w' := ⟨true, rfl, fun h => (by cases h), g⟩
theorem NotThenW.no {p : Prop} {w w' : World} (g : Gr w w') (h : p) : NotThenW p w (.returned (.bool false)) w' := ⟨false, rfl, fun _ => h, g⟩
structure WanLight (x : WanD) : Prop where
  vector : x.vector.length ≤ 10
  frontier : x.frontier.length ≤ 10
  items : x.items.length ≤ 12
  each : ∀ y ∈ x.items, y.stamp.length ≤ 10 ∧ y.effs.length ≤ 20
theorem WanLight.len {x : WanD} (h : WanLight x) : WanLen x := ⟨Nat.le_trans h.items (by decide), fun y hy => Nat.le_trans (h.each y hy).2 (by decide)⟩
theorem WanLight.short {x : WanD} (h : WanLight x) : WanShort x := ⟨Nat.le_trans h.vector (by decide), Nat.le_trans h.items (by decide), Nat.le_trans h.frontier (by decide), fun y hy => ⟨Nat.le_trans (h.each y hy).1 (by decide), Nat.le_trans (h.each y hy).2 (by decide)⟩⟩
set_option maxHeartbeats 8000000 in
theorem heavy_any (w : World) (x : WanD) (vv iv fv : Value) (hp : WanP Any w x vv iv fv) : Calls Try.prog 9 #[.agg (wanCells x vv iv fv).toArray] w (NotThenW (WanLight x) w) := by
  obtain ⟨va, vc, rfl, _, _⟩ := Sl.numsAt' hp.1.1
  obtain ⟨fa, fc, rfl, _, _⟩ := Sl.numsAt' hp.2.2.1
  obtain ⟨ia, ic, rfl⟩ := hp.2.1.shape
  obtain ⟨nv, hnv⟩ : ∃ n, n = x.vector.length := ⟨_, rfl⟩
  obtain ⟨nf, hnf⟩ : ∃ n, n = x.frontier.length := ⟨_, rfl⟩
  obtain ⟨n, hn⟩ : ∃ n, n = x.items.length := ⟨_, rfl⟩
  obtain ⟨PP, hPP⟩ : ∃ PP : Prop, PP = WanLight x := ⟨_, rfl⟩
  have OK : Hid (nv ≤ 10 → nf ≤ 10 → n ≤ 12 → (∀ j (hj : j < x.items.length), x.items[j].stamp.length ≤ 10 ∧ x.items[j].effs.length ≤ 20) → PP) := Lib.hid fun h1 h2 h3 h4 => by
    rw [hPP]
    exact ⟨by omega, by omega, by omega, fun y hy => by obtain ⟨j, hj, rfl⟩ := List.getElem_of_mem hy; exact h4 j hj⟩
  have HN := Lib.hid hn
  have HI := Lib.hid hp.2.1
  obtain ⟨E, hE⟩ : ∃ E, E = wanCells x (.slice va x.vector.length vc) (.slice ia x.items.length ic) (.slice fa x.frontier.length fc) := ⟨_, rfl⟩
  have CE : Hid (∀ W B, CellsAt W B E 26 → W.cell? ⟨B, 2, none⟩ = some (.slice va nv vc) ∧ W.cell? ⟨B, 3, none⟩ = some (.slice ia n ic) ∧ W.cell? ⟨B, 6, none⟩ = some (.slice fa nf fc)) := Lib.hid fun W B h => by
    subst hE; rw [hn, hnv, hnf]
    exact ⟨h.cell 2, h.cell 3, h.cell 6⟩
  rw [← hE, ← hPP]
  clear hnv hnf hn hPP hE hp
  go_enter Try.func9, Try.ntmps9
  go_wp2_with (first | (refine wpList_boxE _ rfl rfl rfl ?_) | fail)
  intro w1 k1 g1 nz1
  obtain ⟨b1, hb1⟩ : ∃ b1, b1 = w.heap.size := ⟨_, rfl⟩
  rw [← hb1]
  rw [← hb1] at k1
  have GG := Lib.hid g1
  have HI1 := Lib.hid (HI.out.gr g1)
  obtain ⟨x2, x3, x6⟩ := CE.out w1 b1 k1
  have X3 := Lib.hid x3
  have YES : Hid (NotThenW PP w (.returned (.bool true)) w1) := Lib.hid (NotThenW.yes g1)
  clear k1 g1 nz1 hb1 HI CE
  by_cases h0 : 10 < nv
  · have hq : (10 : Int) < (nv : Int) := by omega
    go_wp2
    go_ret
    exact YES.out
  have hq0 : ¬ (10 : Int) < (nv : Int) := by omega
  by_cases h1 : 10 < nf
  · have hq : (10 : Int) < (nf : Int) := by omega
    go_wp2
    go_ret
    exact YES.out
  have hq1 : ¬ (10 : Int) < (nf : Int) := by omega
  by_cases h2 : 12 < n
  · have hq : (12 : Int) < (n : Int) := by omega
    go_wp2
    go_ret
    exact YES.out
  have hq2 : ¬ (12 : Int) < (n : Int) := by omega
  have N12 : Hid (n ≤ 12) := Lib.hid (by omega)
  have OK2 := Lib.hid (OK.out (by omega) (by omega) (by omega))
  go_wp2_with fail
  go_loopw [3, 4] (fun i _ wr => ∃ k : Nat, k ≤ n ∧ i = .int .i64 k ∧ w1 = wr ∧ Hid (∀ j (hj : j < x.items.length), j < k → x.items[j].stamp.length ≤ 10 ∧ x.items[j].effs.length ≤ 20)) (fun i _ _ => n - (intOf i).toNat)
  case atStart => exact ⟨0, Nat.zero_le _, rfl, rfl, Lib.hid fun j _ h => absurd h (Nat.not_lt_zero _)⟩
  case round =>
    clear x2 x6 hq0 hq1 hq2 OK h0 h1 h2
    obtain ⟨k, hk, rfl, rfl, HJ⟩ := hrel
    have n12 := N12.out
    by_cases hlt : k < n
    · have hlt2 : k < x.items.length := by rw [← HN.out]; exact hlt
      obtain ⟨B3, o3, _, sv3, ev3, e3, hB3, op3, t3⟩ := HI1.out.at k hlt2
      rw [← HN.out] at e3
      injection e3 with e3 _ q3
      subst e3 q3
      obtain ⟨y, hy⟩ : ∃ y, y = x.items[k] := ⟨_, rfl⟩
      rw [← hy] at op3 t3
      obtain ⟨ast, cst, rfl, _, _⟩ := Sl.numsAt' op3.1.1
      obtain ⟨ae, ce, rfl⟩ := op3.2.shape
      obtain ⟨ns, hns⟩ : ∃ n, n = y.stamp.length := ⟨_, rfl⟩
      obtain ⟨es, hes⟩ : ∃ es, es = y.effs := ⟨_, rfl⟩
      have HE := Lib.hid op3.2
      rw [← hes] at HE
      have a4 := t3 4 _ (by decide) rfl
      have a5 := t3 5 _ (by decide) rfl
      rw [← hns] at a4
      rw [← hes] at a5
      have NEXT : Hid (ns ≤ 10 → es.length ≤ 20 → Hid (∀ j (hj : j < x.items.length), j < k + 1 → x.items[j].stamp.length ≤ 10 ∧ x.items[j].effs.length ≤ 20)) := Lib.hid fun h1 h2 => Lib.hid fun j hj hjk => by
        rcases Nat.lt_or_ge j k with h | h
        · exact HJ.out j hj h
        · obtain rfl : j = k := by omega
          rw [← hy, ← hns, ← hes]; exact ⟨h1, h2⟩
      clear hy hns hes t3 op3 HJ hlt2
      have i1 : (0 : Int) ≤ (k : Int) := by omega
      have i2 : (k : Int) < (n : Int) := by omega
      by_cases h4 : 20 < es.length
      · have hq : (20 : Int) < (es.length : Int) := by omega
        go_wp2
        go_ret
        exact YES.out
      have hq4 : ¬ (20 : Int) < (es.length : Int) := by omega
      by_cases h5 : 10 < ns
      · have hq : (10 : Int) < (ns : Int) := by omega
        go_wp2
        go_ret
        exact YES.out
      have hq5 : ¬ (10 : Int) < (ns : Int) := by omega
      have NX := Lib.hid (NEXT.out (by omega) (by omega))
      have e20 : es.length ≤ 20 := by omega
      clear NEXT
      go_wp2_with fail
      go_loopw [4] (fun i wr => ∃ m : Nat, m ≤ es.length ∧ i = .int .i64 m ∧ w1 = wr) (fun i _ => es.length - (intOf i).toNat)
      case atStart => exact ⟨0, Nat.zero_le _, rfl, rfl⟩
      case round =>
        clear a4 hq4 hq5 h4 h5
        obtain ⟨m, hm, rfl, rfl⟩ := hrel
        by_cases hlm : m < es.length
        · obtain ⟨B4, o4, _, dv4, e4, hB4, op4, t4⟩ := HE.out.at m hlm
          injection e4 with e4 _ q4
          subst e4 q4
          obtain ⟨z, hz⟩ : ∃ z, z = es[m] := ⟨_, rfl⟩
          rw [← hz] at op4 t4
          clear hz
          obtain ⟨pa, gn, nx⟩ := z
          replace op4 : SlP Any w1 dv4 (bytes nx.data) := op4
          obtain ⟨ad, cd, hv⟩ := op4.1.oneCells
          rw [bytes_length] at hv
          obtain ⟨nd, hnd⟩ : ∃ nd, nd = nx.data.length := ⟨_, rfl⟩
          rw [← hnd] at hv
          subst hv
          obtain ⟨np, hnp⟩ : ∃ np, np = pa.length := ⟨_, rfl⟩
          have lp : (pa.length : Int) = (np : Int) := by rw [hnp]
          have a0 := t4 0 _ (by decide) rfl
          have a2 := t4 2 _ (by decide) rfl
          simp only [effCells, nodeCells, Nat.add_zero] at a0 a2
          clear hnd hnp t4 op4
          have j1 : (0 : Int) ≤ (m : Int) := by omega
          have j2 : (m : Int) < (es.length : Int) := by omega
          by_cases h6 : 200 < np
          · have hq : (200 : Int) < (np : Int) := by omega
            go_wp2
            go_ret
            exact YES.out
          have hq6 : ¬ (200 : Int) < (np : Int) := by omega
          by_cases h7 : 200 < nd
          · have hq : (200 : Int) < (nd : Int) := by omega
            go_wp2
            go_ret
            exact YES.out
          have hq7 : ¬ (200 : Int) < (nd : Int) := by omega
          go_wp2
          go_roundw
          case rel => exact ⟨m + 1, by omega, by go_num, by trivial⟩
          case measure => simp [intOf]; omega
        · obtain rfl : m = es.length := by omega
          go_wp2
          go_roundw
          case rel => exact ⟨k + 1, by omega, by go_num, by trivial, NX.out⟩
          case measure => simp [intOf]; omega
    · obtain rfl : k = n := by omega
      have KN : Hid (NotThenW PP w (.returned (.bool false)) w1) := Lib.hid (NotThenW.no GG.out (OK2.out fun j hj => HJ.out j hj (by rw [HN.out]; exact hj)))
      go_wp2
      go_ret
      exact KN.out
end Go.Proofs.Ytgilijkmmcpfjaa
