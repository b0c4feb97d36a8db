/-
  Of the document: May, Put.
  Of the document: Put answers as the program's.
-/
import Derived.Test.YtiemgmbjhllmbaaGreatZRPlain2
import Derived.Test.YtiemgmbjhllmbaaGreatZRApp5
import Derived.Test.YtiemgmbjhllmbaaGreatZEnPutX
section
set_option linter.unusedVariables false
set_option linter.unusedSimpArgs false
set_option maxRecDepth 100000
namespace Go.Proofs.YtiemgmbjhllmbaaGreat
open Go.RowKit
theorem mayOp_flat {o : OpD} (h : mayOp o = true) : Flat o := by
  obtain ⟨a, ps⟩ := o
  replace h : (mayHead a && (decide (ps.length ≤ 6) && ps.all mayOp0)) = true := h
  simp only [Bool.and_eq_true, decide_eq_true_eq] at h
  intro p hp
  have h2 := List.all_eq_true.1 h.2.2 p hp
  unfold mayOp0 at h2
  simp only [Bool.and_eq_true, decide_eq_true_eq] at h2
  exact List.eq_nil_of_length_eq_zero (by omega)
theorem mayX_flat {x : EntD} (h : mayX x) : Flat x.op := mayOp_flat (mayX_all h .op)
theorem mayX_short {x : EntD} (h : mayX x) : EntShort x := by
  have h1 : mayOp x.op = true := mayX_all h .op
  have h2 : mayItem x.item = true := mayX_all h .item
  have h3 : decide (x.frontier.length ≤ 3) = true := mayX_all h .stamp
  have p1 : x.op.parts.length ≤ 6 := by
    unfold mayOp at h1
    simp only [Bool.and_eq_true, decide_eq_true_eq] at h1
    exact h1.2.1
  unfold mayItem at h2
  simp only [Bool.and_eq_true, decide_eq_true_eq] at h2 h3
  exact ⟨by omega, by omega, by omega, by omega⟩
theorem condX_of {x : EntD} (h : ∀ p, mayPart x p = true) : condX x = true := by
  have h1 : maySess x.osite = true := h .owner
  have h2 : mayOp x.op = true := h .op
  have h3 : mayItem x.item = true := h .item
  unfold condX
  split
  · rw [h1, h2]; rfl
  · exact h1
  · exact h3
  · rfl
theorem refMay_iff (x : EntD) : ((refPlain x).2 = true ∧ 0 ≤ x.site ∧ x.site < 3 ∧ 0 ≤ x.region ∧ x.region < 4 ∧ x.frontier.length ≤ 3 ∧ (refPlain x).1 = x ∧ Flat (refPlain x).1.op) ↔ mayX x := by
  constructor
  · rintro ⟨h1, h2, h3, h4, h5, h6, h7, h8⟩
    unfold refPlain at h1 h7
    cases hk : kindK x.kind with
    | false => rw [hk] at h1; cases h1
    | true =>
      rw [hk, if_pos rfl] at h1 h7
      replace h1 : condX x = true := h1
      replace h7 : plainX x = x := h7
      refine ⟨hk, ?_, h7⟩
      have q1 : mayPart x .site = true := by show (decide (0 ≤ x.site) && decide (x.site < 3)) = true; simp [h2, h3]
      have q2 : mayPart x .wher = true := by show (decide (0 ≤ x.region) && decide (x.region < 4)) = true; simp [h4, h5]
      have q3 : mayPart x .stamp = true := by show decide (x.frontier.length ≤ 3) = true; simp [h6]
      have q4 : mayPart x .client = true := rfl
      have q5 : mayPart x .epoch = true := rfl
      unfold kindK at hk
      simp only [Bool.and_eq_true, decide_eq_true_eq] at hk
      unfold condX at h1
      rcases (by omega : x.kind = 1 ∨ x.kind = 2 ∨ x.kind = 3 ∨ x.kind = 4 ∨ x.kind = 5 ∨ x.kind = 6 ∨ x.kind = 7 ∨ x.kind = 8 ∨ x.kind = 9) with h | h | h | h | h | h | h | h | h
      · simp only [h, Bool.and_eq_true] at h1
        have p1 : mayPart x .owner = true := h1.1
        have p2 : mayPart x .op = true := h1.2
        rw [h]; simp [kindP, q4, p1, p2]
      · rw [h]; simp [kindP, q4]
      · simp only [h] at h1
        have p1 : mayPart x .owner = true := h1
        rw [h]; simp [kindP, q4, p1]
      · simp only [h] at h1
        have p1 : mayPart x .item = true := h1
        rw [h]; simp [kindP, p1]
      · rw [h]; simp [kindP, q2, q3, q5]
      · rw [h]; simp [kindP, q2, q5]
      · rw [h]; simp [kindP, q2]
      · rw [h]; simp [kindP, q1, q2]
      · rw [h]; simp [kindP, q1, q2, q3, q5]
  · intro h
    have ha := mayX_all h
    have q1 : (decide (0 ≤ x.site) && decide (x.site < 3)) = true := ha .site
    have q2 : (decide (0 ≤ x.region) && decide (x.region < 4)) = true := ha .wher
    have q3 : decide (x.frontier.length ≤ 3) = true := ha .stamp
    simp only [Bool.and_eq_true, decide_eq_true_eq] at q1 q2 q3
    have e : refPlain x = (x, true) := by unfold refPlain; rw [h.1, if_pos rfl, h.2.2, condX_of ha]
    rw [e]
    exact ⟨rfl, q1.1, q1.2, q2.1, q2.2, q3, rfl, mayX_flat h⟩
set_option maxHeartbeats 4000000 in
theorem dmay_any (w : World) (x : EntD) (q : EntV) (hp : EntP Any w x q) (ok : EntOk x) (big : EntShort x) : Calls Tryz.prog 15 #[.agg (entCells x q).toArray] w (Says (mayX x) w) := by
  have hp0 := hp
  obtain ⟨da, dc, pa, pc, sa, sc, ea, ec, fa, fc, rfl⟩ := hp.shapes
  obtain ⟨fn, hfn⟩ : ∃ fn, fn = x.frontier.length := ⟨_, rfl⟩
  have hnl := nums_length x.frontier
  obtain ⟨E, hE⟩ : ∃ E, E = entCells x ⟨.slice da (bytes x.op.h.data).length dc, .slice pa x.op.parts.length pc, .slice sa (nums x.item.stamp).length sc, .slice ea x.item.effs.length ec, .slice fa (nums x.frontier).length fc⟩ := ⟨_, rfl⟩
  have HE := Lib.hid hE
  have EN : Hid (E.length = 23) := Lib.hid (by rw [hE]; rfl)
  have CE : Hid (∀ W b, CellsAt W b E 35 → W.cell? ⟨b, 19, none⟩ = some (.int .i64 x.site) ∧ W.cell? ⟨b, 20, none⟩ = some (.int .i64 x.region) ∧ W.cell? ⟨b, 22, none⟩ = some (.slice fa fn fc)) := Lib.hid fun W b h => by subst hE; rw [hfn, ← hnl]; exact ⟨h.cell 19, h.cell 20, h.cell 22⟩
  have PL := Lib.hid fun W (hW : Gr w W) => dplain_any W x _ (hp.gr hW) ok big
  have HP := Lib.hid hp0
  have BIG := Lib.hid big
  have FNL := Lib.hid hfn
  rw [← hE]
  rw [← hE] at PL
  clear hE hp hp0 ok big hfn hnl
  go_enter Tryz.func15, Tryz.ntmps15
  go_wp2_with (first | (refine wpList_boxE _ rfl rfl rfl ?_) | fail)
  intro w1 K1 G1 n1
  obtain ⟨b, hb⟩ : ∃ b, b = w.heap.size := ⟨_, rfl⟩
  rw [← hb]
  rw [← hb] at K1
  have KB := Lib.hid K1
  have G1h := Lib.hid G1
  clear K1 n1 hb G1
  go_wp2_with (first | (refine wpList_loadE entTy _ rfl rfl rfl KB.out EN.out ?_) | fail)
  refine (PL.out w1 G1h.out).mono ?_
  rintro e w2 ⟨q2, rfl, hp2, g2⟩
  obtain ⟨y, hy⟩ : ∃ y, y = (refPlain x).1 := ⟨_, rfl⟩
  obtain ⟨cb, hcb⟩ : ∃ cb, cb = (refPlain x).2 := ⟨_, rfl⟩
  rw [← hy] at hp2 ⊢
  rw [← hcb]
  obtain ⟨F, hF⟩ : ∃ F, F = entCells y q2 := ⟨_, rfl⟩
  have FN1 : Hid (F.length = 23) := Lib.hid (by rw [hF]; rfl)
  have F1 : Hid (oneAll F) := Lib.hid (by rw [hF]; exact hp2.one)
  have HF := Lib.hid hF
  rw [← hF]
  have HY := Lib.hid hy
  have HCB := Lib.hid hcb
  have P2 := Lib.hid hp2
  have G2 := Lib.hid g2
  clear hy hcb hF hp2 g2
  go_wp2_with (first | (refine wpList_storeE entTy _ _ rfl rfl rfl rfl (CellsAt.new _ _ _) FN1.out rfl F1.out ?_) | fail)
  intro w3 k3 c3
  have g3 : Gr w2 w3 := Below.trans ((Gr.refl w2).alloc _) (c3.below ((Gr.refl w2).alloc _).size (fun k hk => by have : k = w2.heap.size := hk; omega))
  have G3 := Lib.hid (G2.out.trans g3)
  have GG := Lib.hid (G1h.out.trans G3.out)
  have K3 := Lib.hid k3
  have KB3 := Lib.hid (KB.out.gr G3.out)
  have P3 := Lib.hid (P2.out.gr g3)
  obtain ⟨x19, x20, x22⟩ := CE.out w3 b KB3.out
  clear k3 c3 g3
  cases cb with
  | false =>
    have HN : Hid (¬ mayX x) := Lib.hid (fun h => by have h1 := ((refMay_iff x).2 h).1; rw [← HCB.out] at h1; cases h1)
    go_wp2
    go_ret
    exact says_by _ false (by simp) ⟨fun h => (by cases h), fun h => absurd h HN.out⟩ GG.out
  | true =>
    by_cases h0 : 0 ≤ x.site
    rotate_left
    · have HN : Hid (¬ mayX x) := Lib.hid (fun h => h0 (by have := (refMay_iff x).2 h; exact this.2.1))
      have hq : x.site < 0 := by omega
      clear h0
      go_wp2
      go_ret
      exact says_by _ false (by first | rfl | (simp; omega) | simp) ⟨fun h => (by cases h), fun h => absurd h HN.out⟩ GG.out
    by_cases h1 : x.site < 3
    rotate_left
    · have HN : Hid (¬ mayX x) := Lib.hid (fun h => h1 (by have := (refMay_iff x).2 h; exact this.2.2.1))
      have hq : 3 ≤ x.site := by omega
      clear h1
      go_wp2
      go_ret
      exact says_by _ false (by first | rfl | (simp; omega) | simp) ⟨fun h => (by cases h), fun h => absurd h HN.out⟩ GG.out
    by_cases h2 : 0 ≤ x.region
    rotate_left
    · have HN : Hid (¬ mayX x) := Lib.hid (fun h => h2 (by have := (refMay_iff x).2 h; exact this.2.2.2.1))
      have hq : x.region < 0 := by omega
      clear h2
      go_wp2
      go_ret
      exact says_by _ false (by first | rfl | (simp; omega) | simp) ⟨fun h => (by cases h), fun h => absurd h HN.out⟩ GG.out
    by_cases h3 : x.region < 4
    rotate_left
    · have HN : Hid (¬ mayX x) := Lib.hid (fun h => h3 (by have := (refMay_iff x).2 h; exact this.2.2.2.2.1))
      have hq : 4 ≤ x.region := by omega
      clear h3
      go_wp2
      go_ret
      exact says_by _ false (by first | rfl | (simp; omega) | simp) ⟨fun h => (by cases h), fun h => absurd h HN.out⟩ GG.out
    by_cases h4 : (fn : Int) ≤ 3
    rotate_left
    · have HN : Hid (¬ mayX x) := Lib.hid (fun h => h4 (by have := (refMay_iff x).2 h; have h2 := this.2.2.2.2.2.1; have := FNL.out; omega))
      have hq : (3 : Int) < (fn : Int) := by omega
      clear h4
      go_wp2
      go_ret
      exact says_by _ false (by first | rfl | (simp; omega) | simp) ⟨fun h => (by cases h), fun h => absurd h HN.out⟩ GG.out
    go_wp2_with (first | (refine wpList_loadW entTy _ rfl rfl rfl K3.out FN1.out ?_) | (refine wpList_loadW entTy _ rfl rfl rfl KB3.out EN.out ?_) | fail)
    rw [HF.out, HE.out]
    have SH : EntShort y := by
      rw [HY.out]
      have hb := BIG.out
      unfold refPlain
      split
      · refine ⟨?_, ?_, ?_, ?_⟩
        · rcases plainX_op x with h | h <;> simp only [h]; exact hb.parts; exact Nat.zero_le _
        · rcases plainX_item x with h | h <;> simp only [h]; exact hb.stamp; exact Nat.zero_le _
        · rcases plainX_item x with h | h <;> simp only [h]; exact hb.effs; exact Nat.zero_le _
        · rcases plainX_front x with h | h <;> simp only [h]; exact hb.frontier; exact Nat.zero_le _
      · exact ⟨Nat.zero_le _, Nat.zero_le _, Nat.zero_le _, Nat.zero_le _⟩
    refine (ent_says w3 y x _ _ P3.out (HP.out.gr GG.out) SH BIG.out).mono ?_
    rintro e w4 ⟨z, rfl, hz, g4⟩
    rw [← HF.out, ← HE.out]
    have ZZ : Hid (z = true ↔ mayX x) := Lib.hid (by
      rw [hz, ← refMay_iff x, ← HY.out, ← HCB.out]
      have := FNL.out
      exact ⟨fun h => ⟨rfl, h0, h1, h2, h3, by omega, h.1, h.2⟩, fun h => ⟨h.2.2.2.2.2.2.1, h.2.2.2.2.2.2.2⟩⟩)
    have G4 := Lib.hid (GG.out.trans g4)
    clear hz g4 SH
    go_wp2
    go_ret
    exact says_by _ z (by simp) ZZ.out G4.out
end Go.Proofs.YtiemgmbjhllmbaaGreat
end
section
set_option linter.unusedVariables false
set_option linter.unusedSimpArgs false
set_option maxRecDepth 100000
namespace Go.Proofs.YtiemgmbjhllmbaaGreat
open Go.RowKit
set_option maxHeartbeats 2000000 in
theorem dput_any (w : World) (x : EntD) (q : EntV) (hp : EntP Any w x q) (ok : EntOk x) (big : EntBig x) (short : EntShort x) : Calls Tryz.prog 10 #[.agg (entCells x q).toArray] w (RetPut w x) := by
  have KEY : Hid (∀ v L n w', putV x = (L, n) → Sl w' v (bytes L) → Gr w w' → RetPut w x (.returned (.tuple #[v, .int .i64 n])) w') := Lib.hid fun v L n w' => retPut_mk v L n w'
  have MAY := Lib.hid fun W (hW : Gr w W) => dmay_any W x q (hp.gr hW) ok short
  have BYT : Hid (mayX x → ∀ W, Gr w W → Calls Tryz.prog 23 #[.agg (entCells x q).toArray] W (RetSl W (tellB x))) := Lib.hid fun h W hW => dbytes_any W x q h.1 (hp.gr hW) ok big (mayX_flat h)
  have NO : Hid (¬ mayX x → putV x = ([], 1)) := Lib.hid fun h => putV_not ok big.fit (by decide) h
  have YES : Hid (mayX x → putV x = if 4096 < (tellB x).length then ([], 3) else (tellB x, 0)) := Lib.hid fun h => putV_may ok big.fit (by decide) h
  obtain ⟨E, hE⟩ : ∃ E, E = entCells x q := ⟨_, rfl⟩
  have HE := Lib.hid hE
  have EN : Hid (E.length = 23) := Lib.hid (by rw [hE]; rfl)
  rw [← hE] at MAY BYT ⊢
  clear hE hp ok big short
  go_enter Tryz.func10, Tryz.ntmps10
  go_wp2_with (first | (refine wpList_boxE _ rfl rfl rfl ?_) | fail)
  intro w1 K1 G1 n1
  obtain ⟨b, hb⟩ : ∃ b, b = w.heap.size := ⟨_, rfl⟩
  rw [← hb]
  rw [← hb] at K1
  have KB := Lib.hid K1
  have G1h := Lib.hid G1
  clear K1 n1 hb G1
  go_wp2_with (first | (refine wpList_loadE entTy _ rfl rfl rfl KB.out EN.out ?_) | fail)
  refine (MAY.out w1 G1h.out).mono ?_
  rintro e w2 ⟨z, rfl, hz, g2⟩
  have G2 := Lib.hid (G1h.out.trans g2)
  have KB2 := Lib.hid (KB.out.gr g2)
  cases z with
  | false =>
    have HN : Hid (¬ mayX x) := Lib.hid (fun h => by have := hz.2 h; cases this)
    have KN := Lib.hid (KEY.out (.slice none 0 0) [] 1 w2 (NO.out HN.out) (Sl.nil _ _ _) G2.out)
    clear hz g2
    go_wp2
    go_ret2
    exact KN.out
  | true =>
    have HM : Hid (mayX x) := Lib.hid (hz.1 rfl)
    clear hz g2
    go_wp2_with (first | (refine wpList_loadE entTy _ rfl rfl rfl KB2.out EN.out ?_) | fail)
    refine (BYT.out HM.out w2 G2.out).mono ?_
    rintro e w3 ⟨v3, rfl, s3, g3⟩
    have G3 := Lib.hid (G2.out.trans g3)
    have PV := YES.out HM.out
    obtain ⟨L, hL⟩ : ∃ L, L = tellB x := ⟨_, rfl⟩
    rw [← hL] at PV s3
    obtain ⟨a3, c3, hv⟩ := s3.oneCells
    rw [bytes_length] at hv
    subst hv
    have S3 := Lib.hid s3
    have HPV := Lib.hid PV
    clear s3 g3 PV hL
    by_cases hbig : 4096 < L.length
    · have KN := Lib.hid (KEY.out (.slice none 0 0) [] 3 w3 (by rw [HPV.out, if_pos hbig]) (Sl.nil _ _ _) G3.out)
      have hi : (4096 : Int) < (L.length : Int) := by omega
      go_wp2
      go_ret2
      exact KN.out
    · have KN := Lib.hid (KEY.out _ L 0 w3 (by rw [HPV.out, if_neg hbig]) S3.out G3.out)
      have hi : (L.length : Int) ≤ 4096 := by omega
      go_wp2
      go_ret2
      exact KN.out
end Go.Proofs.YtiemgmbjhllmbaaGreat
end
