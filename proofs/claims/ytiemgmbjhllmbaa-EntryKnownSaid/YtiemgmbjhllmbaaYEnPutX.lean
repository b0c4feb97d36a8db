/-
  Package entry: Put.
-/
import Derived.Test.YtiemgmbjhllmbaaYL
import Derived.Test.YtiemgmbjhllmbaaYEnBig
set_option linter.unusedVariables false
set_option maxRecDepth 100000
namespace Go.Proofs.Ytiemgmbjhllmbaa
open Go.RowKit
/-- What Put hands back. -/
def RetPut (w : World) (x : EntD) (e : Ending) (w' : World) : Prop := ∃ v, e = .returned (.tuple #[v, .int .i64 (putV x).2]) ∧ Sl w' v (bytes (putV x).1) ∧ Gr w w'
theorem retPut_mk {w : World} {x : EntD} (v : Value) (L : List UInt8) (n : Int) (w' : World) (h : putV x = (L, n)) (hs : Sl w' v (bytes L)) (hg : Gr w w') : RetPut w x (.returned (.tuple #[v, .int .i64 n])) w' := ⟨v, by rw [h], by rw [h]; exact hs, hg⟩
theorem putV_by (x : EntD) (kk am rd sm : Bool) (L : List UInt8) (h1 : kk = kindK x.kind) (h2 : am = (kindP x.kind).all (mayPart x)) (h3 : rd = entOk (tellB x)) (h4 : sm = decide (wholeB x = wholeB (rEnt (tellB x)).1)) (h5 : L = tellB x) :
    (kk = false → putV x = ([], 1)) ∧ (am = false → putV x = ([], 1)) ∧ (rd = false → putV x = ([], 1)) ∧ (sm = false → putV x = ([], 1)) ∧ (kk = true → am = true → rd = true → sm = true → (4096 < L.length → putV x = ([], 3)) ∧ (L.length ≤ 4096 → putV x = (L, 0))) := by
  unfold putV
  rw [← h1, ← h2, ← h3, ← h4, ← h5]
  refine ⟨fun h => by simp [h], fun h => by simp [h], fun h => by simp [h], fun h => by simp [h], fun a b c d => ⟨fun h => by simp [a, b, c, d, h], fun h => by simp [a, b, c, d]; omega⟩⟩
set_option maxHeartbeats 2000000 in
theorem put_any (w : World) (x : EntD) (q : EntV) (hp : EntP Any w x q) (ok : EntOk x) (big : EntBig x) :
    Calls Try.prog 4 #[.agg (entCells x q).toArray] w (RetPut w x) := by
  have KEY : Hid (∀ v L n w', putV x = (L, n) → Sl w' v (bytes L) → Gr w w' → RetPut w x (.returned (.tuple #[v, .int .i64 n])) w') := Lib.hid fun v L n w' => retPut_mk v L n w'
  obtain ⟨ps, hps⟩ : ∃ ps, ps = kindP x.kind := ⟨_, rfl⟩
  obtain ⟨kk, hkk⟩ : ∃ kk, kk = kindK x.kind := ⟨_, rfl⟩
  obtain ⟨am, ham⟩ : ∃ am, am = (kindP x.kind).all (mayPart x) := ⟨_, rfl⟩
  obtain ⟨L, hL⟩ : ∃ L, L = tellB x := ⟨_, rfl⟩
  obtain ⟨rd, hrd⟩ : ∃ rd, rd = entOk (tellB x) := ⟨_, rfl⟩
  obtain ⟨sm, hsm⟩ : ∃ sm, sm = decide (wholeB x = wholeB (rEnt (tellB x)).1) := ⟨_, rfl⟩
  have PV := Lib.hid (putV_by x kk am rd sm L hkk ham hrd hsm hL)
  have hps4 : ps.length ≤ 4 := by rw [hps]; exact kindP_len x.kind
  have LOOK : Hid (∀ lo W m, KindMap lo W m → ∃ lv, (Instr.lookup 50 (.map (some m)) (.int .u8 (x.kind : Int)) true).run Try.prog W = .ok (.tuple #[lv, .bool kk]) W ∧ PartsFr lo W lv ps) := Lib.hid fun lo W m h => by rw [hps, hkk]; exact h.look x.kind ok.kind
  have CON : Hid (∀ W b pv, EntAt Any W b x → PartsAt W pv ps → Calls Try.prog 9 #[pv, .func (.func 10) #[] #[.pointer (some ⟨b, 0, none⟩)]] W (RetBool W (!am))) := Lib.hid fun W b pv h1 h2 => by rw [ham, ← hps]; exact contains_any W b x pv ps h1 ok big h2 hps4
  have TEL : Hid (∀ W b pv, EntAt Any W b x → PartsAt W pv ps → Calls Try.prog 11 #[.pointer (some ⟨b, 0, none⟩), pv] W (RetSl W L)) := Lib.hid fun W b pv h1 h2 => by rw [hL]; unfold tellB; rw [← hps]; exact tell_any W b x pv ps h1 ok big h2 hps4
  have hLl : L.length ≤ 1000000000 := by
    have := partsFlat_le x big ps ps.length hps4
    rw [List.take_of_length_le (Nat.le_refl _)] at this
    rw [hL]; unfold tellB; rw [← hps, List.length_append, be_length]; omega
  have REA : Hid (∀ W v, Sl W v (bytes L) → Calls Try.prog 12 #[v] W (RetRead W L)) := Lib.hid fun W v h => read_any W v L h hLl
  obtain ⟨y, hy⟩ : ∃ y, y = (rEnt (tellB x)).1 := ⟨_, rfl⟩
  have RR : Hid (∀ W e W', RetRead W L e W' → ∃ q2 pv, e = .returned (.tuple #[.agg (entCells y q2).toArray, pv, .bool rd]) ∧ EntP (From W.heap.size) W' y q2 ∧ Gr W W') := Lib.hid fun W e W' h => by rw [hy, hrd, ← hL]; exact h
  have SAM : Hid (∀ W q1 q2, rd = true → EntP Any W x q1 → EntP Any W y q2 → Calls Try.prog 13 #[.agg (entCells x q1).toArray, .agg (entCells y q2).toArray] W (RetBool W sm)) := Lib.hid fun W q1 q2 hr h1 h2 => by
    rw [hsm, ← hy]
    refine esame_any W x y q1 q2 h1 h2 ok ?_ big ?_
    · rw [hy]; exact rEnt_ok _
    · rw [hrd] at hr
      rw [hy]; exact mayX_big (entOk_good hr).1
  have HP := Lib.hid hp
  obtain ⟨E, hE⟩ : ∃ E, E = entCells x q := ⟨_, rfl⟩
  have HE := Lib.hid hE
  have HEN : Hid (E.length = 23) := Lib.hid (by rw [hE]; rfl)
  have CE : Hid (∀ W B, CellsAt W B E 39 → W.cell? ⟨B, 0, none⟩ = some (.int .u8 (x.kind : Int))) := Lib.hid fun W B h => by subst hE; exact h.cell 0
  rw [← hE]
  clear hps hkk ham hL hrd hsm hp ok big hy hLl hE hps4
  go_enter Try.func4, Try.ntmps4
  go_wp2_with (first | (refine wpList_boxE _ rfl rfl rfl ?_) | fail)
  intro w1 K1 G1 n1
  obtain ⟨b, hb⟩ : ∃ b, b = w.heap.size := ⟨_, rfl⟩
  rw [← hb]
  rw [← hb] at K1
  have GG := Lib.hid G1
  have CK : Hid (∀ W, Gr w1 W → W.cell? ⟨b, 0, none⟩ = some (.int .u8 (x.kind : Int))) := Lib.hid fun W hW => CE.out W b (K1.gr hW)
  have KE : Hid (∀ W, Gr w1 W → CellsAt W b E 39) := Lib.hid fun W hW => K1.gr hW
  have EA : Hid (∀ W, Gr w1 W → EntAt Any W b x) := Lib.hid fun W hW => ⟨q, by rw [← HE.out]; exact K1.gr hW, HP.out.gr (G1.trans hW)⟩
  have GD : Hid (Gr w1 w1.drew) := Lib.hid ((Gr.refl w1).drew)
  clear K1 G1 n1 hb
  go_wp2_with fail
  apply wp_region_draw_grow (.ok (fun v W => ∃ m, v = .map (some m) ∧ KindMap 0 W m) :: .eq _ :: .eq _ :: .ok (fun v W => ∃ lv, v = .tuple #[lv, .bool kk] ∧ PartsFr 0 W lv ps) :: .ok (fun v W => ∃ lv, v = .tuple #[lv, .bool kk] ∧ PartsFr 0 W lv ps) :: .ok (fun v W => PartsFr 0 W v ps) :: .ok (fun v W => v = .bool kk) :: .ok (fun v W => PartsFr 0 W v ps) :: .ok (fun v W => v = .bool kk) :: []) (by kernel_rfl) (by kernel_rfl) ⟨fun _ _ _ hg h => by obtain ⟨m, e, h⟩ := h; exact ⟨m, e, h.below hg⟩, fun _ _ _ hg h => by obtain ⟨lv, e, h⟩ := h; exact ⟨lv, e, h.gr hg⟩, fun _ _ _ hg h => by obtain ⟨lv, e, h⟩ := h; exact ⟨lv, e, h.gr hg⟩, fun _ _ _ hg h => PartsFr.gr h hg, fun _ _ _ _ h => h, fun _ _ _ hg h => PartsFr.gr h hg, fun _ _ _ _ h => h, trivial⟩
  apply wpG_ok
  · intro W hW hs
    unfold opG
    go_simp
    refine resG_call ((kinds_any W).mono ?_)
    rintro e W2 ⟨m, rfl, km, g2⟩
    exact ⟨_, rfl, g2, m, rfl, km.lo (Nat.zero_le _)⟩
  intro v0
  simp only [Act.put, pt1, pt2, pt3]
  iterate 2
   apply wpG_eq
   · intro W hW hs
     have cn := CK.out W (GD.out.trans hW)
     unfold opG
     go_simp
     first | exact resG_eq_mk _ _ _ | rfl
   simp only [Act.put, pt1, pt2, pt3]
  apply wpG_ok
  · intro W hW hs
    obtain ⟨m, rfl, km⟩ := hs _ (.head _) (by rfl)
    obtain ⟨lv, hlv, hpf⟩ := LOOK.out _ W m km
    exact opG_look2 hlv (by rfl) _ _ rfl rfl rfl ⟨lv, rfl, hpf⟩
  intro v3
  simp only [Act.put, pt1, pt2, pt3]
  apply wpG_ok
  · intro W hW hs
    obtain ⟨lv, rfl, hpf⟩ := hs _ (.head _) (by rfl)
    have cn := CK.out W (GD.out.trans hW)
    unfold opG
    go_simp
    exact resG_mk (Gr.refl _) ⟨lv, rfl, hpf⟩
  intro v4
  simp only [Act.put, pt1, pt2, pt3]
  apply wpG_ok
  · intro W hW hs
    obtain ⟨lv, rfl, hpf⟩ := hs _ (.head _) (by rfl)
    have cn := CK.out W (GD.out.trans hW)
    unfold opG
    go_simp
    exact resG_mk (Gr.refl _) hpf
  intro v5
  simp only [Act.put, pt1, pt2, pt3]
  apply wpG_ok
  · intro W hW hs
    obtain ⟨lv, rfl, hpf⟩ := hs _ (.tail _ (.head _)) (by rfl)
    have cn := CK.out W (GD.out.trans hW)
    unfold opG
    go_simp
    exact resG_mk (Gr.refl _) rfl
  intro v6
  simp only [Act.put, pt1, pt2, pt3]
  apply wpG_ok
  · intro W hW hs
    obtain hpf := hs _ (.tail _ (.head _)) (by rfl)
    have cn := CK.out W (GD.out.trans hW)
    unfold opG
    go_simp
    exact resG_mk (Gr.refl _) hpf
  intro v7
  simp only [Act.put, pt1, pt2, pt3]
  apply wpG_ok
  · intro W hW hs
    obtain rfl := hs _ (.tail _ (.head _)) (by rfl)
    have cn := CK.out W (GD.out.trans hW)
    unfold opG
    go_simp
    exact resG_mk (Gr.refl _) rfl
  intro v8
  simp only [Act.put, pt1, pt2, pt3]
  apply wpG_nil
  intro W9 hW9 hsAll
  obtain hpf := hsAll _ (.tail _ (.head _))
  obtain hkk := hsAll _ (.head _)
  clear hsAll
  subst hkk
  obtain ⟨pa0, pc0, rfl⟩ := hpf.1.shape
  have G9 := Lib.hid (GD.out.trans hW9)
  have PF := Lib.hid hpf.1
  clear hW9 hpf
  cases kk with
  | false =>
    have KN := Lib.hid (KEY.out (.slice none 0 0) [] 1 W9 (PV.out.1 (by simp)) (Sl.nil _ _ _) (GG.out.trans G9.out))
    go_wp2
    go_ret2
    exact KN.out
  | true =>
    go_wp2_with fail
    refine (CON.out W9 b _ (EA.out _ G9.out) PF.out).mono ?_
    rintro e w2 ⟨rfl, g2⟩
    have G2 := Lib.hid (G9.out.trans g2)
    have PF2 := Lib.hid (PF.out.gr g2)
    clear g2
    cases am with
    | false =>
      have KN := Lib.hid (KEY.out (.slice none 0 0) [] 1 w2 (PV.out.2.1 (by simp)) (Sl.nil _ _ _) (GG.out.trans G2.out))
      go_wp2
      go_ret2
      exact KN.out
    | true =>
      go_wp2_with fail
      refine (TEL.out w2 b _ (EA.out _ G2.out) PF2.out).mono ?_
      rintro e w3 ⟨v3, rfl, s3, g3⟩
      have G3 := Lib.hid (G2.out.trans g3)
      have S3 := Lib.hid s3
      obtain ⟨a3, c3, rfl⟩ := s3.oneCells
      have blen : (bytes L).length = L.length := by simp [Go.Proofs.Ytiemgmbjhllmbaa.bytes]
      rw [blen]
      rw [blen] at S3
      clear s3 g3 blen
      go_wp2_with fail
      refine (REA.out w3 _ S3.out).mono ?_
      intro e w4 hr4
      obtain ⟨q2, pv, rfl, p4, g4⟩ := RR.out _ _ _ hr4
      have P4 := Lib.hid p4
      have G4 := Lib.hid (G3.out.trans g4)
      have S4 := Lib.hid (S3.out.below g4)
      obtain ⟨F, hF⟩ : ∃ F, F = entCells y q2 := ⟨_, rfl⟩
      have HF := Lib.hid hF
      have HFN : Hid (F.length = 23) := Lib.hid (by rw [hF]; rfl)
      have HF1 : Hid (oneAll F) := Lib.hid (by rw [hF]; exact p4.one)
      rw [← hF]
      clear hr4 p4 g4 hF
      go_wp2_with (first | (refine wpList_storeE entTy _ _ rfl rfl rfl rfl (CellsAt.new _ _ _) HFN.out rfl HF1.out ?_) | fail)
      intro w5 k5 ch5
      have g5 : Gr w4 w5 := Below.trans ((Gr.refl w4).alloc _) (ch5.below ((Gr.refl w4).alloc _).size (fun k hk => by have : k = w4.heap.size := hk; omega))
      have G5 := Lib.hid (G4.out.trans g5)
      have K5 := Lib.hid k5
      have P5 := Lib.hid (P4.out.gr g5)
      have S5 := Lib.hid (S4.out.below g5)
      clear k5 ch5 g5
      cases rd with
      | false =>
        have KN := Lib.hid (KEY.out (.slice none 0 0) [] 1 w5 (PV.out.2.2.1 (by simp)) (Sl.nil _ _ _) (GG.out.trans G5.out))
        go_wp2
        go_ret2
        exact KN.out
      | true =>
        have KE5 := Lib.hid (KE.out w5 G5.out)
        go_wp2_with (first | (refine wpList_loadW entTy _ rfl rfl rfl KE5.out HEN.out ?_) | (refine wpList_loadW entTy _ rfl rfl rfl K5.out HFN.out ?_) | fail)
        rw [HE.out, HF.out]
        refine (SAM.out w5 q q2 (by simp) (HP.out.gr (GG.out.trans G5.out)) (P5.out.mono (fun _ _ => trivial))).mono ?_
        rintro e w6 ⟨rfl, g6⟩
        have G6 := Lib.hid (G5.out.trans g6)
        have S6 := Lib.hid (S5.out.below g6)
        rw [← HE.out, ← HF.out]
        clear g6
        cases sm with
        | false =>
          have KN := Lib.hid (KEY.out (.slice none 0 0) [] 1 w6 (PV.out.2.2.2.1 (by simp)) (Sl.nil _ _ _) (GG.out.trans G6.out))
          go_wp2
          go_ret2
          exact KN.out
        | true =>
          have PL := PV.out.2.2.2.2 (by simp) (by simp) (by simp) (by simp)
          by_cases hbig : 4096 < L.length
          · have KN := Lib.hid (KEY.out (.slice none 0 0) [] 3 w6 (PL.1 hbig) (Sl.nil _ _ _) (GG.out.trans G6.out))
            have hi : (4096 : Int) < (L.length : Int) := by omega
            clear PL
            go_wp2
            go_ret2
            exact KN.out
          · have KN := Lib.hid (KEY.out _ L 0 w6 (PL.2 (by omega)) S6.out (GG.out.trans G6.out))
            have hi : (L.length : Int) ≤ 4096 := by omega
            clear PL
            go_wp2
            go_ret2
            exact KN.out
end Go.Proofs.Ytiemgmbjhllmbaa
