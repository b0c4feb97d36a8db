/-
  The document's May of messages of package wan.
-/
import Derived.Test.YtgilijkmmcpfjaaZWPlain
import Derived.Test.YtgilijkmmcpfjaaZRMay
set_option linter.unusedVariables false
set_option linter.unusedSimpArgs false
set_option maxRecDepth 100000
namespace Go.Proofs.Ytgilijkmmcpfjaa
open Go.RowKit
theorem refMayW_iff (x : WanD) : (kindW x.kind = true ∧ plainW x = x ∧ 0 ≤ x.site ∧ x.site ≤ 2 ∧ 0 ≤ x.region ∧ x.region ≤ 3 ∧ x.vector.length ≤ 3 ∧ x.frontier.length ≤ 3 ∧ x.items.length ≤ 8 ∧ x.items.all mayItem = true) ↔ mayW x = true := by
  rw [mayW_iff]
  constructor
  · rintro ⟨h0, h1, h2, h3, h4, h5, h6, h7, h8, h9⟩
    have hk := (kindW_iff x.kind).1 h0
    have ha := List.all_eq_true.1 h9
    obtain ⟨k, s, v, it, r, e, f⟩ := x
    replace hk : 1 ≤ k ∧ k ≤ 6 := hk
    have hc : k = 1 ∨ k = 2 ∨ k = 3 ∨ k = 4 ∨ k = 5 ∨ k = 6 := by omega
    simp only at h2 h3 h4 h5 h6 h7 h8 ha
    rcases hc with rfl | rfl | rfl | rfl | rfl | rfl <;> simp [plainW] at h1 <;>
      exact ⟨hk, ⟨h2, Int.lt_add_one_of_le h3⟩, (by first | exact .inr ⟨rfl, h6⟩ | exact .inl (by simp_all)), (by first | exact .inr ⟨rfl, h7⟩ | exact .inl (by simp_all)),
        (by first | exact .inl (show r = 0 by omega) | (by_cases hz : r = 0; exact .inl hz; exact .inr ⟨rfl, show 0 < r by omega, show r < 4 by omega⟩)), (by first | exact .inr rfl | exact .inl (show e = 0 by omega)), (by first | exact .inr ⟨rfl, h8⟩ | exact .inl (by simp_all)), ha⟩
  · intro m
    have hk := m.kind
    have hc : x.kind = 1 ∨ x.kind = 2 ∨ x.kind = 3 ∨ x.kind = 4 ∨ x.kind = 5 ∨ x.kind = 6 := by omega
    have hv := m.vector
    have hf := m.frontier
    have hr := m.region
    have he := m.epoch
    have hi := m.items
    refine ⟨(kindW_iff _).2 hk, ?_, m.site.1, by have := m.site.2; omega, by omega, by omega, ?_, ?_, ?_, List.all_eq_true.2 m.all⟩
    · obtain ⟨k, s, v, it, r, e, f⟩ := x
      simp only at hc hv hf hr he hi ⊢
      rcases hc with rfl | rfl | rfl | rfl | rfl | rfl <;> simp_all [plainW, hasV, hasF, hasR, hasE, hasI]
    · rcases hv with h | h
      · rw [h]; exact Nat.zero_le _
      · exact h.2
    · rcases hf with h | h
      · rw [h]; exact Nat.zero_le _
      · exact h.2
    · rcases hi with h | h
      · rw [h]; exact Nat.zero_le _
      · exact h.2
theorem plainW_short {x : WanD} (h : WanShort x) : WanShort (plainW x) := by
  have z : ∀ {α : Type}, ([] : List α).length ≤ 1000000 := fun {α} => Nat.zero_le _
  have zi : ∀ y ∈ ([] : List ItemD), ItemShort y := fun y hy => by cases hy
  unfold plainW
  split
  · exact ⟨h.vector, z, z, zi⟩
  split
  · exact ⟨z, h.items, z, h.each⟩
  split
  · exact ⟨z, z, h.frontier, zi⟩
  split
  · exact ⟨z, z, z, zi⟩
  split
  · exact ⟨z, z, z, zi⟩
  · exact ⟨z, z, z, zi⟩
set_option maxHeartbeats 8000000 in
theorem dmayW_any (w : World) (x : WanD) (vv iv fv : Value) (hp : WanP Any w x vv iv fv) (sh : WanShort x) : Calls Try.prog 16 #[.agg (wanCells x vv iv fv).toArray] w (RetBool w (mayW x)) := by
  obtain ⟨va, vc, rfl, _, _⟩ := Sl.numsAt' hp.1.1
  obtain ⟨fa, fc, rfl, _, _⟩ := Sl.numsAt' hp.2.2.1
  obtain ⟨ia, ic, rfl⟩ := hp.2.1.shape
  obtain ⟨nv, hnv⟩ : ∃ n, n = x.vector.length := ⟨_, rfl⟩
  obtain ⟨nf, hnf⟩ : ∃ n, n = x.frontier.length := ⟨_, rfl⟩
  obtain ⟨n, hn⟩ : ∃ n, n = x.items.length := ⟨_, rfl⟩
  obtain ⟨E, hE⟩ : ∃ E, E = wanCells x (.slice va x.vector.length vc) (.slice ia x.items.length ic) (.slice fa x.frontier.length fc) := ⟨_, rfl⟩
  have EN : Hid (E.length = 7) := Lib.hid (by rw [hE]; rfl)
  have CE : Hid (∀ W b, CellsAt W b E 26 → W.cell? ⟨b, 1, none⟩ = some (.int .i64 x.site) ∧ W.cell? ⟨b, 2, none⟩ = some (.slice va nv vc) ∧ W.cell? ⟨b, 3, none⟩ = some (.slice ia n ic) ∧ W.cell? ⟨b, 4, none⟩ = some (.int .i64 x.region) ∧ W.cell? ⟨b, 6, none⟩ = some (.slice fa nf fc)) := Lib.hid fun W B h => by
    subst hE; rw [hn, hnv, hnf]
    exact ⟨h.cell 1, h.cell 2, h.cell 3, h.cell 4, h.cell 6⟩
  have PL : Hid (∀ W, Gr w W → Calls Try.prog 44 #[.agg E.toArray] W (RetPlainW W x)) := Lib.hid fun W hW => by rw [hE]; exact plain_any W x _ _ _ (hp.gr hW)
  have SAME : Hid (∀ W a b c, Gr w W → WanP Any W (plainW x) a b c → Calls Try.prog 15 #[.agg (wanCells (plainW x) a b c).toArray, .agg E.toArray] W (Says (plainW x = x) W)) := Lib.hid fun W a b c hW h => by rw [hE]; exact wan_says W _ _ _ _ _ _ _ _ h (hp.gr hW) (plainW_short sh) sh
  have HIT : Hid (ItemsP Any w (.slice ia x.items.length ic) x.items) := Lib.hid hp.2.1
  have EACH := Lib.hid sh.each
  have IFF := Lib.hid (refMayW_iff x)
  have HNV := Lib.hid hnv
  have HNF := Lib.hid hnf
  have HN := Lib.hid hn
  have N6 : Hid (n ≤ 1000000) := Lib.hid (by rw [hn]; exact sh.items)
  obtain ⟨m, hm⟩ : ∃ m, m = mayW x := ⟨_, rfl⟩
  rw [← hE, ← hm]
  rw [← hm] at IFF
  clear hnv hnf hn hE hp sh hm
  go_enter Try.func16, Try.ntmps16
  go_wp2_with (first | (refine wpList_boxE _ rfl rfl rfl ?_) | fail)
  intro w1 K1 G1 nz1
  obtain ⟨b, hb⟩ : ∃ b, b = w.heap.size := ⟨_, rfl⟩
  rw [← hb]
  rw [← hb] at K1
  have KB := Lib.hid K1
  have G1h := Lib.hid G1
  clear K1 nz1 hb G1
  go_wp2_with (first | (refine wpList_loadE wanTy _ rfl rfl rfl KB.out EN.out ?_) | fail)
  refine (PL.out w1 G1h.out).mono ?_
  rintro e w2 ⟨a2, b2, c2, rfl, hp2, g2⟩
  obtain ⟨y, hy⟩ : ∃ y, y = plainW x := ⟨_, rfl⟩
  obtain ⟨cb, hcb⟩ : ∃ cb, cb = kindW x.kind := ⟨_, rfl⟩
  rw [← hy] at hp2 SAME IFF ⊢
  rw [← hcb] at IFF ⊢
  obtain ⟨F, hF⟩ : ∃ F, F = wanCells y a2 b2 c2 := ⟨_, rfl⟩
  have FN1 : Hid (F.length = 7) := Lib.hid (by rw [hF]; rfl)
  have F1 : Hid (oneAll F) := Lib.hid (by rw [hF]; exact wan_one hp2)
  have HF := Lib.hid hF
  rw [← hF]
  have P2 := Lib.hid hp2
  have G2 := Lib.hid g2
  clear hy hcb hF hp2 g2
  go_wp2_with (first | (refine wpList_storeE wanTy _ _ rfl rfl rfl rfl (CellsAt.new _ _ _) FN1.out rfl F1.out ?_) | fail)
  intro w3 k3 c3
  have g3 : Gr w2 w3 := Below.trans ((Gr.refl w2).alloc _) (c3.below ((Gr.refl w2).alloc _).size (fun k hk => by have : k = w2.heap.size := hk; omega))
  have G3 := Lib.hid (G2.out.trans g3)
  have GG := Lib.hid (G1h.out.trans G3.out)
  have K3 := Lib.hid k3
  have KB3 := Lib.hid (KB.out.gr G3.out)
  have P3 := Lib.hid (P2.out.gr g3)
  clear k3 c3 g3 P2
  cases cb with
  | false =>
    have HN2 : Hid (m = false) := Lib.hid (by cases m with | false => rfl | true => exact absurd (IFF.out.2 rfl).1 (by decide))
    clear IFF
    go_wp2
    go_ret
    exact RetBool.mk (by rw [HN2.out]) GG.out
  | true =>
  go_wp2_with (first | (refine wpList_loadW wanTy _ rfl rfl rfl K3.out FN1.out ?_) | (refine wpList_loadW wanTy _ rfl rfl rfl KB3.out EN.out ?_) | fail)
  rw [HF.out]
  refine (SAME.out w3 a2 b2 c2 GG.out P3.out).mono ?_
  rintro e w4 ⟨z, rfl, hz, g4⟩
  rw [← HF.out]
  have G4 := Lib.hid (GG.out.trans g4)
  have KB4 := Lib.hid (KB3.out.gr g4)
  have HZ := Lib.hid hz
  clear hz g4 SAME P3 K3 KB3
  obtain ⟨x1, x2, x3, x4, x6⟩ := CE.out w4 b KB4.out
  cases z with
  | false =>
    have HN2 : Hid (m = false) := Lib.hid (by cases m with | false => rfl | true => exact absurd (HZ.out.2 (IFF.out.2 rfl).2.1) (by decide))
    clear IFF HZ x1 x2 x3 x4 x6
    go_wp2
    go_ret
    exact RetBool.mk (by rw [HN2.out]) G4.out
  | true =>
  have PE := Lib.hid (HZ.out.1 rfl)
  clear HZ
  by_cases h0 : x.site < 0
  · have hq : x.site < 0 := by omega
    have HN2 : Hid (m = false) := Lib.hid (by
      cases m with
      | false => rfl
      | true =>
        have q := (IFF.out.2 rfl).2.2.1
        have e1 := HNV.out; have e2 := HNF.out; have e3 := HN.out
        exfalso; omega)
    clear IFF PE h0
    go_wp2
    go_ret
    exact RetBool.mk (by rw [HN2.out]) G4.out
  have hq0 : ¬ x.site < 0 := by omega
  by_cases h1 : 2 < x.site
  · have hq : 2 < x.site := by omega
    have HN2 : Hid (m = false) := Lib.hid (by
      cases m with
      | false => rfl
      | true =>
        have q := (IFF.out.2 rfl).2.2.2.1
        have e1 := HNV.out; have e2 := HNF.out; have e3 := HN.out
        exfalso; omega)
    clear IFF PE h1
    go_wp2
    go_ret
    exact RetBool.mk (by rw [HN2.out]) G4.out
  have hq1 : ¬ 2 < x.site := by omega
  by_cases h2 : x.region < 0
  · have hq : x.region < 0 := by omega
    have HN2 : Hid (m = false) := Lib.hid (by
      cases m with
      | false => rfl
      | true =>
        have q := (IFF.out.2 rfl).2.2.2.2.1
        have e1 := HNV.out; have e2 := HNF.out; have e3 := HN.out
        exfalso; omega)
    clear IFF PE h2
    go_wp2
    go_ret
    exact RetBool.mk (by rw [HN2.out]) G4.out
  have hq2 : ¬ x.region < 0 := by omega
  by_cases h3 : 3 < x.region
  · have hq : 3 < x.region := by omega
    have HN2 : Hid (m = false) := Lib.hid (by
      cases m with
      | false => rfl
      | true =>
        have q := (IFF.out.2 rfl).2.2.2.2.2.1
        have e1 := HNV.out; have e2 := HNF.out; have e3 := HN.out
        exfalso; omega)
    clear IFF PE h3
    go_wp2
    go_ret
    exact RetBool.mk (by rw [HN2.out]) G4.out
  have hq3 : ¬ 3 < x.region := by omega
  by_cases h4 : 3 < nv
  · have hq : (3 : Int) < (nv : Int) := by omega
    have HN2 : Hid (m = false) := Lib.hid (by
      cases m with
      | false => rfl
      | true =>
        have q := (IFF.out.2 rfl).2.2.2.2.2.2.1
        have e1 := HNV.out; have e2 := HNF.out; have e3 := HN.out
        exfalso; omega)
    clear IFF PE h4
    go_wp2
    go_ret
    exact RetBool.mk (by rw [HN2.out]) G4.out
  have hq4 : ¬ (3 : Int) < (nv : Int) := by omega
  by_cases h5 : 3 < nf
  · have hq : (3 : Int) < (nf : Int) := by omega
    have HN2 : Hid (m = false) := Lib.hid (by
      cases m with
      | false => rfl
      | true =>
        have q := (IFF.out.2 rfl).2.2.2.2.2.2.2.1
        have e1 := HNV.out; have e2 := HNF.out; have e3 := HN.out
        exfalso; omega)
    clear IFF PE h5
    go_wp2
    go_ret
    exact RetBool.mk (by rw [HN2.out]) G4.out
  have hq5 : ¬ (3 : Int) < (nf : Int) := by omega
  by_cases h6 : 8 < n
  · have hq : (8 : Int) < (n : Int) := by omega
    have HN2 : Hid (m = false) := Lib.hid (by
      cases m with
      | false => rfl
      | true =>
        have q := (IFF.out.2 rfl).2.2.2.2.2.2.2.2.1
        have e1 := HNV.out; have e2 := HNF.out; have e3 := HN.out
        exfalso; omega)
    clear IFF PE h6
    go_wp2
    go_ret
    exact RetBool.mk (by rw [HN2.out]) G4.out
  have hq6 : ¬ (8 : Int) < (n : Int) := by omega
  have ALL : Hid (x.items.all mayItem = m) := Lib.hid (by
    rw [Bool.eq_iff_iff, ← IFF.out]
    have e1 := HNV.out; have e2 := HNF.out; have e3 := HN.out
    exact ⟨fun h => ⟨by trivial, PE.out, by omega, by omega, by omega, by omega, by omega, by omega, by omega, h⟩, fun h => h.2.2.2.2.2.2.2.2.2⟩)
  have CK : Hid (∀ W, Gr w4 W → W.cell? ⟨b, 3, none⟩ = some (.slice ia n ic)) := Lib.hid fun W hW => (CE.out W b (KB4.out.gr hW)).2.2.1
  clear IFF PE h0 h1 h2 h3
  go_wp2_with fail
  go_loopw [5] (fun i wr => ∃ k : Nat, k ≤ n ∧ i = .int .i64 k ∧ Hid ((x.items.take k).all mayItem = true) ∧ Gr w4 wr) (fun i _ => n - (intOf i).toNat)
  case atStart => exact ⟨0, Nat.zero_le _, rfl, Lib.hid rfl, Gr.refl _⟩
  case round =>
    clear x1 x2 x3 x4 x6 hq0 hq1 hq2 hq3 hq4 hq5 hq6
    obtain ⟨k, hk, rfl, HA, hg⟩ := hrel
    have x3 := CK.out wr hg
    by_cases hlt : k < n
    · have hlt2 : k < x.items.length := by rw [← HN.out]; exact hlt
      obtain ⟨B3, o3, _, sv3, ev3, e3, hB3, op3, t3⟩ := (HIT.out.gr (G4.out.trans hg)).at k hlt2
      rw [← HN.out] at e3
      injection e3 with e3 _ q3
      subst e3 q3
      have BAD : Hid (mayItem x.items[k] = false → m = false) := Lib.hid fun h => by rw [← ALL.out]; exact List.all_eq_false.2 ⟨_, List.getElem_mem hlt2, by rw [h]; decide⟩
      have NEXT : Hid (mayItem x.items[k] = true → (x.items.take (k + 1)).all mayItem = true) := Lib.hid fun h => all_next mayItem x.items k hlt2 HA.out h
      have hsh : x.items[k].effs.length ≤ 1000000 := (EACH.out _ (List.getElem_mem hlt2)).2
      obtain ⟨q, hq⟩ : ∃ q, q = x.items[k] := ⟨_, rfl⟩
      rw [← hq] at op3 t3 BAD NEXT hsh
      have MI := Lib.hid fun W (hW : Gr wr W) => dmayitem_any W q sv3 ev3 (op3.gr hW) hsh
      obtain ⟨sa1, ns1, sc1, ea1, ne1, ec1, rfl, rfl⟩ := item_shape op3
      obtain ⟨mi, hmi⟩ : ∃ mi, mi = mayItem q := ⟨_, rfl⟩
      rw [← hmi] at BAD NEXT MI
      have a0 := t3 0 _ (by decide) rfl
      have a1 := t3 1 _ (by decide) rfl
      have a2 := t3 2 _ (by decide) rfl
      have a3 := t3 3 _ (by decide) rfl
      have a4 := t3 4 _ (by decide) rfl
      have a5 := t3 5 _ (by decide) rfl
      have a6 := t3 6 _ (by decide) rfl
      simp only [Nat.add_zero] at a0 a1 a2 a3 a4 a5 a6
      have HG := Lib.hid hg
      clear hq hmi op3 t3 hlt2 hsh HA hg
      have i1 : (0 : Int) ≤ (k : Int) := by omega
      have i2 : (k : Int) < (n : Int) := by omega
      go_wp2_with fail
      refine (MI.out wr (Gr.refl _)).mono ?_
      rintro e w5 ⟨rfl, g5⟩
      have G5 := Lib.hid (HG.out.trans g5)
      clear a0 a1 a2 a3 a4 a5 a6 x3 g5 MI
      cases mi with
      | true =>
        have TK := Lib.hid (NEXT.out rfl)
        clear NEXT BAD
        go_wp2
        go_roundw
        case rel => exact ⟨k + 1, by omega, by go_num, TK, G5.out⟩
        case measure => simp [intOf]; omega
      | false =>
        have HN2 := Lib.hid (BAD.out rfl)
        have GZ := Lib.hid (G4.out.trans G5.out)
        clear NEXT BAD
        go_wp2
        go_ret
        exact RetBool.mk (by rw [HN2.out]) GZ.out
    · obtain rfl : k = n := by omega
      have HM : Hid (m = true) := Lib.hid (by rw [← ALL.out, ← HA.out, List.take_of_length_le (by rw [HN.out]; exact Nat.le_refl _)])
      have GZ := Lib.hid (G4.out.trans hg)
      clear HA hg
      go_wp2
      go_ret
      exact RetBool.mk (by rw [HM.out]) GZ.out
end Go.Proofs.Ytgilijkmmcpfjaa
