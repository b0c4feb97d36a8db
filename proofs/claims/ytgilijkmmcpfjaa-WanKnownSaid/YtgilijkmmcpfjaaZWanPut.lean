/-
  Package wan: Put.
-/
import Derived.Test.YtgilijkmmcpfjaaZWanMay
import Derived.Test.YtgilijkmmcpfjaaZEnBig
import Derived.Test.YtgilijkmmcpfjaaZEnRow
set_option linter.unusedVariables false
set_option linter.unusedSimpArgs false
set_option maxRecDepth 100000
namespace Go.Proofs.Ytgilijkmmcpfjaa
open Go.RowKit
theorem item_le {x : ItemD} (hm : mayItem x = true) : (itemB x).length ≤ 4000 := by
  unfold mayItem at hm
  simp only [Bool.and_eq_true, decide_eq_true_eq] at hm
  obtain ⟨⟨_, h1⟩, h2, h3⟩ := hm
  have := effs_le x.effs h3
  rw [itemB_length]; omega
theorem items_le : ∀ (l : List ItemD), (∀ y ∈ l, mayItem y = true) → (l.flatMap itemB).length ≤ l.length * 4000
  | [], _ => by simp
  | y :: l, h => by
    have h1 := item_le (h y (.head _))
    have h2 := items_le l fun z hz => h z (.tail _ hz)
    rw [List.flatMap_cons, List.length_append, List.length_cons]; omega
set_option maxHeartbeats 400000 in
theorem wput_any (v vl : Value) (l : List UInt8) (xs : List Nat) (w : World) (hs : Sl w v (bytes l)) (hx : Sl w vl (nums xs)) (hk : ∀ k ∈ xs, k < 2 ^ 64) (hl : l.length + 8 + xs.length * 8 ≤ 900000000) :
    Calls Try.prog 22 #[v, vl] w (RetSl w (l ++ stampB xs)) := by
  obtain ⟨a, cap, rfl, hc⟩ := hx.numsAt
  have HC := Lib.hid hc
  have HK := Lib.hid hk
  have hw := wrap_nat64 xs.length (by omega)
  have hl8 : l.length ≤ 1000000000 := by omega
  have hn8 : xs.length < 2 ^ 64 := by omega
  clear hc hk hx
  go_enter Try.func22, Try.ntmps22
  go_wp2_with fail
  refine (wuint _ l xs.length _ hs hl8 hn8).mono ?_
  rintro e w1 ⟨v1, rfl, s1, g1⟩
  go_wp2_with fail
  go_loopw [0, 6, 14] (fun u x i wr => ∃ k : Nat, k ≤ xs.length ∧ i = .int .i64 k ∧ Sl wr u (bytes (l ++ be 8 xs.length ++ (xs.take k).flatMap (be 8))) ∧ Gr w wr) (fun _ _ i _ => xs.length - (intOf i).toNat)
  case atStart => exact ⟨0, Nat.zero_le _, rfl, by simpa using s1, g1⟩
  case round =>
    clear s1 g1
    obtain ⟨k, hk, rfl, hs2, hg⟩ := hrel
    by_cases hlt : k < xs.length
    · obtain ⟨b, off, rfl, hcell⟩ := HC.out k hlt
      have hx := HK.out _ (List.getElem_mem hlt)
      replace hcell := hcell wr hg
      have e1 : l ++ be 8 xs.length ++ (xs.take k).flatMap (be 8) ++ be 8 xs[k] = l ++ be 8 xs.length ++ (xs.take (k + 1)).flatMap (be 8) := by
        rw [List.take_add_one, List.getElem?_eq_getElem hlt, List.flatMap_append]; simp
      have E1 := Lib.hid e1
      have hl9 : (l ++ be 8 xs.length ++ (xs.take k).flatMap (be 8)).length ≤ 1000000000 := by
        rw [List.length_append, List.length_append, be_length, flatBe_length, List.length_take]; omega
      clear e1
      obtain ⟨x, hxx⟩ : ∃ x, x = xs[k] := ⟨_, rfl⟩
      rw [← hxx] at hcell hx E1
      clear hxx
      go_wp2_with fail
      refine (wuint _ _ x _ hs2 hl9 hx).mono ?_
      rintro e w2 ⟨v2, rfl, s2, g2⟩
      rw [E1.out] at s2
      have S2 := Lib.hid s2
      clear s2
      go_wp2
      go_roundw
      case rel => exact ⟨k + 1, by omega, by go_num, S2.out, hg.trans g2⟩
      case measure => simp [intOf]; omega
    · obtain rfl : k = xs.length := by omega
      rw [List.take_of_length_le (Nat.le_refl _)] at hs2
      have S2 := Lib.hid hs2
      clear hs2
      go_wp2
      go_ret
      exact ⟨_, rfl, by unfold stampB; rw [← List.append_assoc]; exact S2.out, hg⟩
theorem MayW.vec_le {x : WanD} (h : MayW x) : x.vector.length ≤ 3 := by
  rcases h.vector with e | e
  · rw [e]; exact Nat.zero_le _
  · exact e.2
theorem MayW.fro_le {x : WanD} (h : MayW x) : x.frontier.length ≤ 3 := by
  rcases h.frontier with e | e
  · rw [e]; exact Nat.zero_le _
  · exact e.2
theorem MayW.items_le {x : WanD} (h : MayW x) : x.items.length ≤ 8 := by
  rcases h.items with e | e
  · rw [e]; exact Nat.zero_le _
  · exact e.2
/-- What Put hands back. -/
def RetPutW (w : World) (x : WanD) (e : Ending) (w' : World) : Prop := ∃ v, e = .returned (.tuple #[v, .int .i64 (putW x).2]) ∧ Sl w' v (bytes (putW x).1) ∧ Gr w w'
theorem retPutW_mk {w : World} {x : WanD} (v : Value) (L : List UInt8) (n : Int) (w' : World) (h : putW x = (L, n)) (hs : Sl w' v (bytes L)) (hg : Gr w w') : RetPutW w x (.returned (.tuple #[v, .int .i64 n])) w' := ⟨v, by rw [h], by rw [h]; exact hs, hg⟩
theorem hasTy : RowTy Try.prog 54 5 := ⟨⟨_, Try.underlying54⟩, by kernel_rfl⟩
theorem has_cases (n : Nat) (h : kindW n = true) : (hasV n = true ∧ hasI n = false ∧ hasR n = false ∧ hasE n = false ∧ hasF n = false) ∨ (hasV n = false ∧ hasI n = true ∧ hasR n = false ∧ hasE n = false ∧ hasF n = false) ∨
    (hasV n = false ∧ hasI n = false ∧ hasR n = true ∧ hasE n = true ∧ hasF n = true) ∨ (hasV n = false ∧ hasI n = false ∧ hasR n = true ∧ hasE n = true ∧ hasF n = false) ∨ (hasV n = false ∧ hasI n = false ∧ hasR n = true ∧ hasE n = false ∧ hasF n = false) := by
  have h2 := (kindW_iff n).1 h
  rcases (by omega : n = 1 ∨ n = 2 ∨ n = 3 ∨ n = 4 ∨ n = 5 ∨ n = 6) with rfl | rfl | rfl | rfl | rfl | rfl <;> simp [hasV, hasI, hasR, hasE, hasF]
set_option maxHeartbeats 8000000 in
theorem putW_any (w : World) (x : WanD) (vv iv fv : Value) (hp : WanP Any w x vv iv fv) (ok : WanOk x) (len : WanLen x) :
    Calls Try.prog 10 #[.agg (wanCells x vv iv fv).toArray] w (RetPutW w x) := by
  have KEY : Hid (∀ v L n w', putW x = (L, n) → Sl w' v (bytes L) → Gr w w' → RetPutW w x (.returned (.tuple #[v, .int .i64 n])) w') := Lib.hid fun v L n w' => retPutW_mk v L n w'
  have MAY : Hid (∀ W, Gr w W → Calls Try.prog 18 #[.agg (wanCells x vv iv fv).toArray] W (RetBool W (mayW x))) := Lib.hid fun W hW => mayW_any W x vv iv fv (hp.gr hW) ok len
  obtain ⟨va, vc, rfl, _, _⟩ := Sl.numsAt' hp.1.1
  obtain ⟨fa, fc, rfl, _, _⟩ := Sl.numsAt' hp.2.2.1
  obtain ⟨ia, ic, rfl⟩ := hp.2.1.shape
  obtain ⟨n, hn⟩ : ∃ n, n = x.items.length := ⟨_, rfl⟩
  obtain ⟨hv, hhv⟩ : ∃ hv, hv = hasV x.kind := ⟨_, rfl⟩
  obtain ⟨hi, hhi⟩ : ∃ hi, hi = hasI x.kind := ⟨_, rfl⟩
  obtain ⟨hr, hhr⟩ : ∃ hr, hr = hasR x.kind := ⟨_, rfl⟩
  obtain ⟨he, hhe⟩ : ∃ he, he = hasE x.kind := ⟨_, rfl⟩
  obtain ⟨hf, hhf⟩ : ∃ hf, hf = hasF x.kind := ⟨_, rfl⟩
  have LOOK : Hid (∀ W g, WMap W g → (Instr.lookup 55 (.map (some g)) (.int .u8 (x.kind : Int)) false).run Try.prog W = .ok (hC hv hi hr he hf) W) := Lib.hid fun W g h => by
    have := h.look1 x.kind ok.kind
    unfold hasC at this
    rw [← hhv, ← hhi, ← hhr, ← hhe, ← hhf] at this
    exact this
  have HCS : Hid (mayW x = true → _) := Lib.hid fun h => by
    have := has_cases x.kind (kindW_iff x.kind |>.2 ((mayW_iff x).1 h).kind)
    rw [← hhv, ← hhi, ← hhr, ← hhe, ← hhf] at this
    exact this
  have EQ : Hid (wanB x = be 1 (x.kind + 16) ++ (be 1 (byteOf x.site) ++ (opt hr (be 8 (u64 x.region)) ++ (opt he (be 8 x.epoch) ++ (opt hv (stampB x.vector) ++ (opt hf (stampB x.frontier) ++ opt hi (itemsB x.items))))))) := Lib.hid (by rw [hhv, hhi, hhr, hhe, hhf]; rfl)
  have MW : Hid (mayW x = true → MayW x) := Lib.hid (mayW_iff x).1
  have NOT : Hid (mayW x = false → putW x = ([], 1)) := Lib.hid fun h => by unfold putW; rw [h]; rfl
  have YES : Hid (mayW x = true → putW x = (wanB x, 0)) := Lib.hid fun h => by unfold putW; rw [h]; rfl
  have HN := Lib.hid hn
  have HP := Lib.hid hp
  have OK := Lib.hid ok
  have hrw : IntKind.u64.wrap x.region = ((u64 x.region : Nat) : Int) := by unfold u64; simp [IntKind.wrap, IntKind.bits, IntKind.signed]; omega
  have HRW := Lib.hid hrw
  have HEP := Lib.hid ok.epoch
  obtain ⟨E, hE⟩ : ∃ E, E = wanCells x (.slice va x.vector.length vc) (.slice ia x.items.length ic) (.slice fa x.frontier.length fc) := ⟨_, rfl⟩
  have EN : Hid (E.length = 7) := Lib.hid (by rw [hE]; rfl)
  have CE : Hid (∀ W b, CellsAt W b E 26 → W.cell? ⟨b, 0, none⟩ = some (.int .u8 (x.kind : Int)) ∧ W.cell? ⟨b, 1, none⟩ = some (.int .i64 x.site) ∧ W.cell? ⟨b, 2, none⟩ = some (.slice va x.vector.length vc) ∧ W.cell? ⟨b, 3, none⟩ = some (.slice ia n ic) ∧ W.cell? ⟨b, 4, none⟩ = some (.int .i64 x.region) ∧ W.cell? ⟨b, 5, none⟩ = some (.int .u64 (x.epoch : Int)) ∧ W.cell? ⟨b, 6, none⟩ = some (.slice fa x.frontier.length fc)) := Lib.hid fun W B h => by
    subst hE; rw [hn]
    exact ⟨h.cell 0, h.cell 1, h.cell 2, h.cell 3, h.cell 4, h.cell 5, h.cell 6⟩
  rw [← hE] at MAY ⊢
  obtain ⟨m, hm⟩ : ∃ m, m = mayW x := ⟨_, rfl⟩
  rw [← hm] at MAY HCS MW NOT YES
  clear hn hhv hhi hhr hhe hhf hE hp len ok hrw hm
  go_enter Try.func10, Try.ntmps10
  go_wp2_with (first | (refine wpList_boxE _ rfl rfl rfl ?_) | fail)
  intro w1 K1 G1 n1
  obtain ⟨b, hb⟩ : ∃ b, b = w.heap.size := ⟨_, rfl⟩
  rw [← hb]
  rw [← hb] at K1
  have GW := Lib.hid G1
  have KK := Lib.hid K1
  have CK : Hid (∀ W, Gr w1 W → W.cell? ⟨b, 0, none⟩ = some (.int .u8 (x.kind : Int)) ∧ W.cell? ⟨b, 1, none⟩ = some (.int .i64 x.site) ∧ W.cell? ⟨b, 2, none⟩ = some (.slice va x.vector.length vc) ∧ W.cell? ⟨b, 3, none⟩ = some (.slice ia n ic) ∧ W.cell? ⟨b, 4, none⟩ = some (.int .i64 x.region) ∧ W.cell? ⟨b, 5, none⟩ = some (.int .u64 (x.epoch : Int)) ∧ W.cell? ⟨b, 6, none⟩ = some (.slice fa x.frontier.length fc)) := Lib.hid fun W hW => CE.out W b (K1.gr hW)
  clear K1 G1 n1 hb CE
  go_wp2_with (first | (refine wpList_loadE wanTy _ rfl rfl rfl KK.out EN.out ?_) | fail)
  refine (MAY.out w1 GW.out).mono ?_
  rintro e w2 ⟨rfl, g2⟩
  have G2 := Lib.hid g2
  clear g2
  cases m with
  | false =>
    have KN := Lib.hid (KEY.out (.slice none 0 0) [] 1 w2 (NOT.out rfl) (Sl.nil _ _ _) (GW.out.trans G2.out))
    go_wp2
    go_ret2
    exact KN.out
  | true =>
  have mw := MW.out rfl
  have hk6 := mw.kind
  have YE : Hid (putW x = (wanB x, 0)) := Lib.hid (YES.out rfl)
  have CS := HCS.out rfl
  have GD : Hid (Gr w1 w2.drew) := Lib.hid (G2.out.trans (Gr.refl w2).drew)
  have MWH := Lib.hid mw
  clear mw MW NOT YES HCS MAY
  go_wp2_with fail
  apply wp_region_draw_tail 5 (.ok (fun v W => ∃ g, v = .map (some g) ∧ WMap W g) :: .eq _ :: .eq _ :: .eq _ :: .ok (fun v W => ∃ h, v = .pointer (some ⟨h, 0, none⟩) ∧ CellsAt W h [.bool false, .bool false, .bool false, .bool false, .bool false] 54 ∧ w2.heap.size ≤ h) :: []) (by kernel_rfl) (by kernel_rfl) ⟨fun v W W' hg ⟨g, e, hk⟩ => ⟨g, e, hk.below hg⟩, fun v W W' hg ⟨h, e, hb, hs⟩ => ⟨h, e, hb.gr hg, hs⟩, trivial⟩
  simp only [List.take_succ_cons, List.take_zero, List.drop_succ_cons, List.drop_zero]
  apply wpG_ok
  · intro W hW hs
    unfold opG
    go_simp
    refine resG_call ((wkinds_any W).mono ?_)
    rintro e W2 ⟨g, rfl, hk, hg⟩
    exact ⟨_, rfl, hg, g, rfl, hk⟩
  intro v0
  simp only [Act.put, pt1, pt2, pt3]
  iterate 2
   apply wpG_eq
   · intro W hW hs
     have cn := (CK.out W (GD.out.trans hW)).1
     unfold opG
     go_simp
     first | exact resG_eq_mk _ _ _ | rfl
   simp only [Act.put, pt1, pt2, pt3]
  apply wpG_eq
  · intro W hW hs
    obtain ⟨g, rfl, hkm⟩ := hs _ (.head _) (by rfl)
    have q1 := LOOK.out W g hkm
    unfold opG
    go_simp
    exact resG_eq_mk _ _ _
  simp only [Act.put, pt1, pt2, pt3]
  apply wpG_ok
  · intro W hW hs
    unfold opG
    go_simp
    exact resG_mk ((Gr.refl W).alloc _) ⟨_, rfl, CellsAt.new _ _ _, (Gr.trans (Gr.refl w2).drew hW).size⟩
  intro v4
  simp only [Act.put, pt1, pt2, pt3]
  apply wpG_nil
  intro W1 hW1 hsAll
  obtain ⟨h, rfl, kbh, hbase⟩ := hsAll _ (.head _)
  clear hsAll
  have KB := Lib.hid kbh
  have HW1 := Lib.hid hW1
  clear kbh hW1
  go_wp2_with (first | (refine wpList_storeE hasTy _ _ rfl rfl rfl rfl KB.out rfl rfl rfl ?_) | fail)
  intro w5 k5 ch5
  have hsz : w2.heap.size ≤ h := hbase
  have g5 : Gr w2 w5 := Below.trans ((Gr.refl w2).drew.trans HW1.out) (ch5.below (((Gr.refl w2).drew.trans HW1.out).size) (fun k hk => by have : k = h := hk; omega))
  have G5 := Lib.hid (G2.out.trans g5)
  have K5 := Lib.hid k5
  have CL : Hid (∀ W, Gr w5 W → W.cell? ⟨b, 1, none⟩ = some (.int .i64 x.site) ∧ W.cell? ⟨b, 2, none⟩ = some (.slice va x.vector.length vc) ∧ W.cell? ⟨b, 3, none⟩ = some (.slice ia n ic) ∧ W.cell? ⟨b, 4, none⟩ = some (.int .i64 x.region) ∧ W.cell? ⟨b, 5, none⟩ = some (.int .u64 (x.epoch : Int)) ∧ W.cell? ⟨b, 6, none⟩ = some (.slice fa x.frontier.length fc) ∧
      W.cell? ⟨h, 0, none⟩ = some (.bool hv) ∧ W.cell? ⟨h, 1, none⟩ = some (.bool hi) ∧ W.cell? ⟨h, 2, none⟩ = some (.bool hr) ∧ W.cell? ⟨h, 3, none⟩ = some (.bool he) ∧ W.cell? ⟨h, 4, none⟩ = some (.bool hf)) := Lib.hid fun W hW => by
    obtain ⟨_, a1, a2, a3, a4, a5, a6⟩ := CK.out W (G5.out.trans hW)
    have k := CellsAt.gr k5 hW
    exact ⟨a1, a2, a3, a4, a5, a6, k.cell 0, k.cell 1, k.cell 2, k.cell 3, k.cell 4⟩
  have C0 : Hid (∀ W, Gr w5 W → W.cell? ⟨b, 0, none⟩ = some (.int .u8 (x.kind : Int)) ∧ W.cell? ⟨b, 1, none⟩ = some (.int .i64 x.site)) := Lib.hid fun W hW => ⟨(CK.out W (G5.out.trans hW)).1, (CK.out W (G5.out.trans hW)).2.1⟩
  have GG : Hid (Gr w w5) := Lib.hid (GW.out.trans G5.out)
  have GD5 : Hid (Gr w5 w5.drew) := Lib.hid ((Gr.refl w5).drew)
  have hkw : IntKind.u8.wrap ((x.kind : Int) + 16) = ((x.kind + 16 : Nat) : Int) := by simp [IntKind.wrap, IntKind.bits, IntKind.signed]; omega
  have hsw := wrap_byte x.site
  have HKW := Lib.hid hkw
  have HSW := Lib.hid hsw
  have hk22 : x.kind + 16 < 256 := by omega
  have hb256 := byteOf_lt x.site
  have H22 := Lib.hid hk22
  have HB256 := Lib.hid hb256
  clear k5 ch5 g5 hkw hsw hk22 hb256 hsz hbase CK LOOK KB HW1 hk6
  go_wp2_with fail
  apply wp_region_draw_grow (.eq _ :: .eq _ :: .eq _ :: .ok (fun v W => Sl W v (bytes ([] ++ be 1 (x.kind + 16)))) :: .eq _ :: .eq _ :: .eq _ :: .ok (fun v W => Sl W v (bytes ([] ++ be 1 (x.kind + 16) ++ be 1 (byteOf x.site)))) :: .ok (fun v W => Sl W v (bytes ([] ++ be 1 (x.kind + 16) ++ be 1 (byteOf x.site)))) :: []) (by kernel_rfl) (by kernel_rfl) ⟨mono_sl _, mono_sl _, mono_sl _, trivial⟩
  iterate 2
   apply wpG_eq
   · intro W hW hs
     obtain ⟨c0, c1⟩ := C0.out W (GD5.out.trans hW)
     unfold opG
     go_simp
     first | exact resG_eq_mk _ _ _ | rfl
   simp only [Act.put, pt1, pt2, pt3]
  apply wpG_eq
  · intro W hW hs
    obtain ⟨c0, c1⟩ := C0.out W (GD5.out.trans hW)
    have hB := HKW.out
    unfold opG
    go_simp
    first | exact resG_eq_mk _ _ _ | rfl
  simp only [Act.put, pt1, pt2, pt3]
  apply wpG_ok
  · intro W hW hs
    obtain ⟨c0, c1⟩ := C0.out W (GD5.out.trans hW)
    unfold opG
    go_simp
    refine resG_call ((wbyte _ [] (x.kind + 16) _ (Sl.nil _ _ _) (by simp) H22.out).mono ?_)
    rintro e W2 ⟨v2, rfl, s2, g2⟩
    exact ⟨_, rfl, g2, s2⟩
  intro v3
  simp only [Act.put, pt1, pt2, pt3]
  iterate 2
   apply wpG_eq
   · intro W hW hs
     obtain ⟨c0, c1⟩ := C0.out W (GD5.out.trans hW)
     unfold opG
     go_simp
     first | exact resG_eq_mk _ _ _ | rfl
   simp only [Act.put, pt1, pt2, pt3]
  apply wpG_eq
  · intro W hW hs
    obtain ⟨c0, c1⟩ := C0.out W (GD5.out.trans hW)
    have hB := HSW.out
    unfold opG
    go_simp
    first | exact resG_eq_mk _ _ _ | rfl
  simp only [Act.put, pt1, pt2, pt3]
  apply wpG_ok
  · intro W hW hs
    obtain s1 := hs _ (.head _) (by rfl)
    obtain ⟨c0, c1⟩ := C0.out W (GD5.out.trans hW)
    unfold opG
    go_simp
    refine resG_call ((wbyte _ _ (byteOf x.site) _ s1 (by simp [be_length]) HB256.out).mono ?_)
    rintro e W2 ⟨v2, rfl, s2, g2⟩
    exact ⟨_, rfl, g2, s2⟩
  intro v7
  simp only [Act.put, pt1, pt2, pt3]
  apply wpG_ok
  · intro W hW hs
    obtain s1 := hs _ (.head _) (by rfl)
    obtain ⟨c0, c1⟩ := C0.out W (GD5.out.trans hW)
    unfold opG
    go_simp
    exact resG_mk (Gr.refl _) s1
  intro v8
  simp only [Act.put, pt1, pt2, pt3]
  apply wpG_nil
  intro W9 hW9 hsAll
  obtain s9 := hsAll _ (.head _)
  clear hsAll
  have S9 := Lib.hid s9
  have G9 := Lib.hid (GD5.out.trans hW9)
  clear s9 hW9
  obtain ⟨L, hL⟩ : ∃ L, L = [] ++ be 1 (x.kind + 16) ++ be 1 (byteOf x.site) := ⟨_, rfl⟩
  have LL : Hid (L.length = 2) := Lib.hid (by rw [hL]; simp [be_length])
  have EL : Hid (wanB x = L ++ (opt hr (be 8 (u64 x.region)) ++ (opt he (be 8 x.epoch) ++ (opt hv (stampB x.vector) ++ (opt hf (stampB x.frontier) ++ opt hi (itemsB x.items)))))) := Lib.hid (by rw [EQ.out, hL]; simp)
  rw [← hL] at S9
  clear hL EQ
  rcases CS with ⟨rfl, rfl, rfl, rfl, rfl⟩ | ⟨rfl, rfl, rfl, rfl, rfl⟩ | ⟨rfl, rfl, rfl, rfl, rfl⟩ | ⟨rfl, rfl, rfl, rfl, rfl⟩ | ⟨rfl, rfl, rfl, rfl, rfl⟩
  · have CCW9 := CL.out W9 G9.out
    obtain ⟨W9c1, W9c2, W9c3, W9c4, W9c5, W9c6, W9h0, W9h1, W9h2, W9h3, W9h4⟩ := CCW9
    go_wp2_with fail
    refine (wput_any _ _ L x.vector _ S9.out ((HP.out.gr (GG.out.trans G9.out)).1.1) OK.out.vector (by have := LL.out; have h2 := MWH.out.vec_le; simp [be_length, this]; omega)).mono ?_
    rintro e x0 ⟨v0, rfl, s0, g0⟩
    have S0 := Lib.hid s0
    have GX0 := Lib.hid (G9.out.trans g0)
    clear s0 g0
    have CCx0 := CL.out x0 GX0.out
    obtain ⟨x0c1, x0c2, x0c3, x0c4, x0c5, x0c6, x0h0, x0h1, x0h2, x0h3, x0h4⟩ := CCx0
    have KN := Lib.hid (KEY.out _ (L ++ stampB x.vector) 0 x0 (by rw [YE.out, EL.out]; simp [opt, List.append_assoc]) S0.out (GG.out.trans GX0.out))
    go_wp2
    go_ret2
    exact KN.out
  · have CCW9 := CL.out W9 G9.out
    obtain ⟨W9c1, W9c2, W9c3, W9c4, W9c5, W9c6, W9h0, W9h1, W9h2, W9h3, W9h4⟩ := CCW9
    have hnw := wrap_nat64 n (by have h2 := MWH.out.items_le; have h3 := HN.out; omega)
    have hn8 : n ≤ 8 := by rw [HN.out]; exact MWH.out.items_le
    go_wp2_with fail
    refine (wuint _ L n _ S9.out (by have := LL.out; omega) (by omega)).mono ?_
    rintro e x0 ⟨v0, rfl, s0, g0⟩
    have S0 := Lib.hid s0
    have GX0 := Lib.hid (G9.out.trans g0)
    clear s0 g0
    have CCx0 := CL.out x0 GX0.out
    obtain ⟨x0c1, x0c2, x0c3, x0c4, x0c5, x0c6, x0h0, x0h1, x0h2, x0h3, x0h4⟩ := CCx0
    go_wp2_with fail
    go_loopw [5, 7, 59] (fun u _ i wr => ∃ k : Nat, k ≤ n ∧ i = .int .i64 k ∧ Sl wr u (bytes (L ++ be 8 n ++ (x.items.take k).flatMap itemB)) ∧ Gr w5 wr) (fun _ _ i _ => n - (intOf i).toNat)
    case atStart => exact ⟨0, Nat.zero_le _, rfl, by simpa using S0.out, GX0.out⟩
    case round =>
      clear W9c1 W9c2 W9c3 W9c4 W9c5 W9c6 W9h0 W9h1 W9h2 W9h3 W9h4 x0c1 x0c2 x0c3 x0c4 x0c5 x0c6 x0h0 x0h1 x0h2 x0h3 x0h4
      obtain ⟨k, hk, rfl, hs2, hg⟩ := hrel
      obtain ⟨wo, rfl⟩ : ∃ wo : World, wo = wr := ⟨_, rfl⟩
      by_cases hlt : k < n
      · have hlt2 : k < x.items.length := by rw [← HN.out]; exact hlt
        obtain ⟨B, o, c, sv, ev, e0, hB, hr2, hcell⟩ := (HP.out.gr (GG.out.trans hg)).2.1.at k hlt2
        rw [← HN.out] at e0
        injection e0 with e1 _ e3
        subst e1 e3
        have hmy := MWH.out.all _ (List.getElem_mem hlt2)
        have hlb : (L ++ be 8 n ++ (x.items.take k).flatMap itemB).length ≤ 600000000 := by
          have h1 := items_le (x.items.take k) fun y hy => MWH.out.all y (List.mem_of_mem_take hy)
          have h2 := LL.out
          rw [List.length_take] at h1
          rw [List.length_append, List.length_append, be_length]; omega
        have e1 : L ++ be 8 n ++ (x.items.take k).flatMap itemB ++ itemB x.items[k] = L ++ be 8 n ++ (x.items.take (k + 1)).flatMap itemB := by
          rw [List.take_add_one, List.getElem?_eq_getElem hlt2, List.flatMap_append]; simp
        have PUT := fun W (hW : Gr wo W) v' hv => putItem_any v' (L ++ be 8 n ++ (x.items.take k).flatMap itemB) x.items[k] sv ev W hv (hr2.gr hW) (OK.out.items _ (List.getElem_mem hlt2)) (item_fit hmy) hlb
        have E1 := Lib.hid e1
        obtain ⟨sa, ns, sc, ea, ne, ec, rfl, rfl⟩ := item_shape hr2
        obtain ⟨y, hy⟩ : ∃ y, y = x.items[k] := ⟨_, rfl⟩
        rw [← hy] at PUT hcell E1
        clear hy e1 hmy hlb hr2
        have c0 := hcell 0 _ (by decide) rfl
        have c1 := hcell 1 _ (by decide) rfl
        have c2 := hcell 2 _ (by decide) rfl
        have c3 := hcell 3 _ (by decide) rfl
        have c4 := hcell 4 _ (by decide) rfl
        have c5 := hcell 5 _ (by decide) rfl
        have c6 := hcell 6 _ (by decide) rfl
        simp only [itemCells, Nat.add_zero] at c0 c1 c2 c3 c4 c5 c6
        have i1 : (0 : Int) ≤ (k : Int) := by omega
        have i2 : (k : Int) < (n : Int) := by omega
        have PU := Lib.hid PUT
        clear hcell PUT
        go_wp2_with fail
        refine (PU.out _ ((Gr.refl wo).alloc _) _ (hs2.below ((Gr.refl wo).alloc _))).mono ?_
        rintro e w8 ⟨v8, rfl, s8, g8⟩
        rw [E1.out] at s8
        have S8 := Lib.hid s8
        have G8 := Lib.hid (hg.trans (((Gr.refl wo).alloc _).trans g8))
        clear s8 g8
        go_wp2
        go_roundw
        case rel => exact ⟨k + 1, by omega, by go_num, S8.out, G8.out⟩
        case measure => simp [intOf]; omega
      · obtain rfl : k = n := by omega
        rw [List.take_of_length_le (by rw [HN.out]; exact Nat.le_refl _)] at hs2
        have KN := Lib.hid (KEY.out _ _ 0 wo (by rw [YE.out, EL.out]; simp [opt, itemsB, List.append_assoc, HN.out]) hs2 (GG.out.trans hg))
        clear hs2
        go_wp2
        go_ret2
        exact KN.out
  · have hrw := HRW.out
    have CCW9 := CL.out W9 G9.out
    obtain ⟨W9c1, W9c2, W9c3, W9c4, W9c5, W9c6, W9h0, W9h1, W9h2, W9h3, W9h4⟩ := CCW9
    go_wp2_with fail
    refine (wuint _ L (u64 x.region) _ S9.out (by have := LL.out; simp [be_length, this]) (by unfold u64; omega)).mono ?_
    rintro e x0 ⟨v0, rfl, s0, g0⟩
    have S0 := Lib.hid s0
    have GX0 := Lib.hid (G9.out.trans g0)
    clear s0 g0
    have CCx0 := CL.out x0 GX0.out
    obtain ⟨x0c1, x0c2, x0c3, x0c4, x0c5, x0c6, x0h0, x0h1, x0h2, x0h3, x0h4⟩ := CCx0
    go_wp2_with fail
    refine (wuint _ (L ++ be 8 (u64 x.region)) x.epoch _ S0.out (by have := LL.out; simp [be_length, this]) HEP.out).mono ?_
    rintro e x1 ⟨v1, rfl, s1, g1⟩
    have S1 := Lib.hid s1
    have GX1 := Lib.hid (GX0.out.trans g1)
    clear s1 g1
    have CCx1 := CL.out x1 GX1.out
    obtain ⟨x1c1, x1c2, x1c3, x1c4, x1c5, x1c6, x1h0, x1h1, x1h2, x1h3, x1h4⟩ := CCx1
    go_wp2_with fail
    refine (wput_any _ _ ((L ++ be 8 (u64 x.region)) ++ be 8 x.epoch) x.frontier _ S1.out ((HP.out.gr (GG.out.trans GX1.out)).2.2.1) OK.out.frontier (by have := LL.out; have h2 := MWH.out.fro_le; simp [be_length, this]; omega)).mono ?_
    rintro e x2 ⟨v2, rfl, s2, g2⟩
    have S2 := Lib.hid s2
    have GX2 := Lib.hid (GX1.out.trans g2)
    clear s2 g2
    have CCx2 := CL.out x2 GX2.out
    obtain ⟨x2c1, x2c2, x2c3, x2c4, x2c5, x2c6, x2h0, x2h1, x2h2, x2h3, x2h4⟩ := CCx2
    have KN := Lib.hid (KEY.out _ (((L ++ be 8 (u64 x.region)) ++ be 8 x.epoch) ++ stampB x.frontier) 0 x2 (by rw [YE.out, EL.out]; simp [opt, List.append_assoc]) S2.out (GG.out.trans GX2.out))
    go_wp2
    go_ret2
    exact KN.out
  · have hrw := HRW.out
    have CCW9 := CL.out W9 G9.out
    obtain ⟨W9c1, W9c2, W9c3, W9c4, W9c5, W9c6, W9h0, W9h1, W9h2, W9h3, W9h4⟩ := CCW9
    go_wp2_with fail
    refine (wuint _ L (u64 x.region) _ S9.out (by have := LL.out; simp [be_length, this]) (by unfold u64; omega)).mono ?_
    rintro e x0 ⟨v0, rfl, s0, g0⟩
    have S0 := Lib.hid s0
    have GX0 := Lib.hid (G9.out.trans g0)
    clear s0 g0
    have CCx0 := CL.out x0 GX0.out
    obtain ⟨x0c1, x0c2, x0c3, x0c4, x0c5, x0c6, x0h0, x0h1, x0h2, x0h3, x0h4⟩ := CCx0
    go_wp2_with fail
    refine (wuint _ (L ++ be 8 (u64 x.region)) x.epoch _ S0.out (by have := LL.out; simp [be_length, this]) HEP.out).mono ?_
    rintro e x1 ⟨v1, rfl, s1, g1⟩
    have S1 := Lib.hid s1
    have GX1 := Lib.hid (GX0.out.trans g1)
    clear s1 g1
    have CCx1 := CL.out x1 GX1.out
    obtain ⟨x1c1, x1c2, x1c3, x1c4, x1c5, x1c6, x1h0, x1h1, x1h2, x1h3, x1h4⟩ := CCx1
    have KN := Lib.hid (KEY.out _ ((L ++ be 8 (u64 x.region)) ++ be 8 x.epoch) 0 x1 (by rw [YE.out, EL.out]; simp [opt, List.append_assoc]) S1.out (GG.out.trans GX1.out))
    go_wp2
    go_ret2
    exact KN.out
  · have hrw := HRW.out
    have CCW9 := CL.out W9 G9.out
    obtain ⟨W9c1, W9c2, W9c3, W9c4, W9c5, W9c6, W9h0, W9h1, W9h2, W9h3, W9h4⟩ := CCW9
    go_wp2_with fail
    refine (wuint _ L (u64 x.region) _ S9.out (by have := LL.out; simp [be_length, this]) (by unfold u64; omega)).mono ?_
    rintro e x0 ⟨v0, rfl, s0, g0⟩
    have S0 := Lib.hid s0
    have GX0 := Lib.hid (G9.out.trans g0)
    clear s0 g0
    have CCx0 := CL.out x0 GX0.out
    obtain ⟨x0c1, x0c2, x0c3, x0c4, x0c5, x0c6, x0h0, x0h1, x0h2, x0h3, x0h4⟩ := CCx0
    have KN := Lib.hid (KEY.out _ (L ++ be 8 (u64 x.region)) 0 x0 (by rw [YE.out, EL.out]; simp [opt, List.append_assoc]) S0.out (GG.out.trans GX0.out))
    go_wp2
    go_ret2
    exact KN.out
end Go.Proofs.Ytgilijkmmcpfjaa
