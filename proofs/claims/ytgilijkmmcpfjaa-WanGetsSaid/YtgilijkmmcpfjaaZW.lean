/-
  Of the document: what puts numbers, stamps of messages of package wan behind bytes.
  Of the document: Put of messages of package wan answers as the program's.
-/
import Derived.Test.YtgilijkmmcpfjaaZRApp2
import Derived.Test.YtgilijkmmcpfjaaZV
import Derived.Test.YtgilijkmmcpfjaaZRApp4
section
set_option linter.unusedVariables false
set_option linter.unusedSimpArgs false
set_option maxRecDepth 100000
namespace Go.Proofs.Ytgilijkmmcpfjaa
open Go.RowKit
set_option maxHeartbeats 400000 in
theorem dnumW_any (w : World) (B : Nat) (v : Value) (l : List UInt8) (n : Nat) (hn : n < 2 ^ 64) (ho : Own w B 5 v (bytes l)) (hB : B ≤ w.heap.size) (hl : l.length ≤ 1000000000) :
    Calls Try.prog 25 #[v, .int .u64 (n : Int)] w (RetApp w B v (l ++ be 8 n)) := by
  have HO := Lib.hid ho
  have HB := Lib.hid hB
  clear ho hB
  go_enter Try.func25, Try.ntmps25
  go_wp2_with fail
  refine (refnumber_any n 8 _ hn (by decide)).mono ?_
  rintro e w1 ⟨y, rfl, oy, b1⟩
  obtain ⟨v2, w2, hr, ha⟩ := run_append_c w1 B v y l (be 8 n) (HO.out.gr b1) oy.sl (by rw [be_length]; omega) (Nat.le_trans HB.out b1.size)
  have HR := Lib.hid hr
  have HA := Lib.hid (App.grL b1 ha)
  clear hr ha b1 oy
  go_wp2_with (at_builtin; refine wpList_run_append HR.out rfl _ _ rfl rfl rfl ?_; clear HR)
  go_ret
  exact ⟨_, rfl, HA.out⟩
set_option maxHeartbeats 1000000 in
theorem dstampW_any (w : World) (B : Nat) (v vl : Value) (l : List UInt8) (xs : List Nat) (hx : SlP (fun k => k < B) w vl (nums xs)) (hk : ∀ k ∈ xs, k < 2 ^ 64) (ho : Own w B 5 v (bytes l)) (hB : B ≤ w.heap.size) (hl : l.length + 8 + xs.length * 8 ≤ 900000000) :
    Calls Try.prog 24 #[v, vl] w (RetApp w B v (l ++ stampB xs)) := by
  have EE : Hid (l ++ stampB xs = l ++ be 8 xs.length ++ (xs.take xs.length).flatMap (be 8)) := Lib.hid (by unfold stampB; rw [List.take_length, List.append_assoc])
  obtain ⟨a, cap, hv, hcap, _⟩ := Sl.numsAt' hx.1
  subst hv
  have XN := Lib.hid fun W (hW : Keep (fun k => k < B) w W) => (hx.keep hW).1
  have HV1 : Hid (∀ k, v.ownBlock = some k → B ≤ k) := Lib.hid (ho.ownBlock_ge)
  have HB := Lib.hid hB
  have HK := Lib.hid hk
  have wn := wrap_nat64 xs.length (by omega)
  have C := Lib.hid (dnumW_any w B v l xs.length (by omega) ho hB (by omega))
  clear ho hB hx
  go_enter Try.func24, Try.ntmps24
  go_wp2_with fail
  refine C.out.mono ?_
  rintro e w1 ⟨v1, rfl, ha⟩
  have HA := Lib.hid ha
  clear ha
  go_wp2_with fail
  go_loopw [0, 5] (fun u i wr => ∃ k : Nat, k ≤ xs.length ∧ i = .int .i64 k ∧ App w B v (l ++ be 8 xs.length ++ (xs.take k).flatMap (be 8)) u wr) (fun _ i _ => xs.length - (intOf i).toNat)
  case atStart => exact ⟨0, Nat.zero_le _, rfl, by simpa using HA.out⟩
  case round =>
    obtain ⟨k, hk, rfl, hap⟩ := hrel
    by_cases hlt : k < xs.length
    · obtain ⟨Bx, off, rfl, hcell⟩ := Sl.numAt (XN.out wr (hap.keep HV1.out)) k hlt
      have e1 : l ++ be 8 xs.length ++ (xs.take k).flatMap (be 8) ++ be 8 xs[k] = l ++ be 8 xs.length ++ (xs.take (k + 1)).flatMap (be 8) := by
        rw [List.take_add_one, List.getElem?_eq_getElem hlt, List.flatMap_append, List.append_assoc]; simp
      have D := dnumW_any wr B _ (l ++ be 8 xs.length ++ (xs.take k).flatMap (be 8)) xs[k] (HK.out _ (List.getElem_mem hlt)) hap.own (Nat.le_trans HB.out hap.grown.size) (by
        rw [List.length_append, List.length_append, be_length, flatBe_length, List.length_take]; omega)
      rw [e1] at D
      have DD := Lib.hid D
      have HAP := Lib.hid hap
      clear D e1 hap
      have i1 : (0 : Int) ≤ (k : Int) := by omega
      have i2 : (k : Int) < (xs.length : Int) := by omega
      go_wp2_with fail
      refine DD.out.mono ?_
      rintro e w2 ⟨v2, rfl, ha⟩
      have HA2 := Lib.hid (HAP.out.trans ha)
      clear ha
      go_wp2
      go_roundw
      case rel => exact ⟨k + 1, by omega, by go_num, HA2.out⟩
      case measure => simp [intOf]; omega
    · obtain rfl : k = xs.length := by omega
      rw [← EE.out] at hap
      have HAP := Lib.hid hap
      clear hap
      go_wp2
      go_ret
      exact ⟨_, rfl, HAP.out⟩
end Go.Proofs.Ytgilijkmmcpfjaa
end
section
set_option linter.unusedVariables false
set_option linter.unusedSimpArgs false
set_option maxRecDepth 100000
namespace Go.Proofs.Ytgilijkmmcpfjaa
open Go.RowKit
theorem App.toGr {w w2 W : World} {B : Nat} {v0 v : Value} {L : List UInt8} (h : App w2 B v0 L v W) (hv : ∀ k, v0.ownBlock = some k → w.heap.size ≤ k) (g : Gr w w2) : Gr w W :=
  ⟨h.grown.os.trans g.os, h.grown.tape.trans g.tape, h.grown.output.trans g.output, Nat.le_trans g.size h.grown.size, fun k hk => (h.grown.block k (Nat.lt_of_lt_of_le hk g.size) (fun e => by have := hv k e.symm; omega)).trans (g.block k hk)⟩
theorem WanP.below {w : World} {x : WanD} {a b c : Value} {B : Nat} (h : WanP Any w x a b c) (hB : w.heap.size ≤ B) : WanP (fun k => k < B) w x a b c :=
  ⟨h.1.monoLt fun k _ hk => Nat.lt_of_lt_of_le hk hB, h.2.1.monoLt fun k _ hk => Nat.lt_of_lt_of_le hk hB, h.2.2.monoLt fun k _ hk => Nat.lt_of_lt_of_le hk hB⟩
theorem be1_two (x y : Nat) (hx : x < 256) (hy : y < 256) : bytes (be 1 x ++ be 1 y) = [.int .u8 (x : Int), .int .u8 (y : Int)] := by
  rw [bytes_append, be1_byte x hx, be1_byte y hy]; rfl
set_option maxHeartbeats 8000000 in
theorem dputW_any (w : World) (x : WanD) (vv iv fv : Value) (hp : WanP Any w x vv iv fv) (ok : WanOk x) (sh : WanShort x) :
    Calls Try.prog 11 #[.agg (wanCells x vv iv fv).toArray] w (RetPutW w x) := by
  have KEY : Hid (∀ v L n w', putW x = (L, n) → Sl w' v (bytes L) → Gr w w' → RetPutW w x (.returned (.tuple #[v, .int .i64 n])) w') := Lib.hid fun v L n w' => retPutW_mk v L n w'
  have MAY : Hid (∀ W, Gr w W → Calls Try.prog 16 #[.agg (wanCells x vv iv fv).toArray] W (RetBool W (mayW x))) := Lib.hid fun W hW => dmayW_any W x vv iv fv (hp.gr hW) sh
  obtain ⟨va, vc, rfl, _, _⟩ := Sl.numsAt' hp.1.1
  obtain ⟨fa, fc, rfl, _, _⟩ := Sl.numsAt' hp.2.2.1
  obtain ⟨ia, ic, rfl⟩ := hp.2.1.shape
  obtain ⟨n, hn⟩ : ∃ n, n = x.items.length := ⟨_, rfl⟩
  have EQ : Hid (wanB x = be 1 (x.kind + 16) ++ be 1 (byteOf x.site) ++ bodyB x.kind x) := Lib.hid (by unfold wanB; rw [List.append_assoc])
  have MW : Hid (mayW x = true → MayW x) := Lib.hid (mayW_iff x).1
  have NOT : Hid (mayW x = false → putW x = ([], 1)) := Lib.hid fun h => by unfold putW; rw [h]; rfl
  have YES : Hid (mayW x = true → putW x = (wanB x, 0)) := Lib.hid fun h => by unfold putW; rw [h]; rfl
  have HN := Lib.hid hn
  have HP := Lib.hid hp
  have OK := Lib.hid ok
  have hrw : IntKind.u64.wrap x.region = ((Go.Proofs.Ytgilijkmmcpfjaa.u64 x.region : Nat) : Int) := by unfold Go.Proofs.Ytgilijkmmcpfjaa.u64; simp [IntKind.wrap, IntKind.bits, IntKind.signed]; omega
  have HRW := Lib.hid hrw
  obtain ⟨E, hE⟩ : ∃ E, E = wanCells x (.slice va x.vector.length vc) (.slice ia x.items.length ic) (.slice fa x.frontier.length fc) := ⟨_, rfl⟩
  have EN : Hid (E.length = 7) := Lib.hid (by rw [hE]; rfl)
  have CE : Hid (∀ W b, CellsAt W b E 26 → W.cell? ⟨b, 0, none⟩ = some (.int .u8 (x.kind : Int)) ∧ W.cell? ⟨b, 1, none⟩ = some (.int .i64 x.site) ∧ W.cell? ⟨b, 2, none⟩ = some (.slice va x.vector.length vc) ∧ W.cell? ⟨b, 3, none⟩ = some (.slice ia n ic) ∧ W.cell? ⟨b, 4, none⟩ = some (.int .i64 x.region) ∧ W.cell? ⟨b, 5, none⟩ = some (.int .u64 (x.epoch : Int)) ∧ W.cell? ⟨b, 6, none⟩ = some (.slice fa x.frontier.length fc)) := Lib.hid fun W B h => by
    subst hE; rw [hn]
    exact ⟨h.cell 0, h.cell 1, h.cell 2, h.cell 3, h.cell 4, h.cell 5, h.cell 6⟩
  rw [← hE] at MAY ⊢
  obtain ⟨m, hm⟩ : ∃ m, m = mayW x := ⟨_, rfl⟩
  rw [← hm] at MAY MW NOT YES
  clear hn hE hp ok hrw hm sh
  go_enter Try.func11, Try.ntmps11
  go_wp2_with (first | (refine wpList_boxE _ rfl rfl rfl ?_) | fail)
  intro w1 K1 G1 n1
  obtain ⟨b, hb⟩ : ∃ b, b = w.heap.size := ⟨_, rfl⟩
  rw [← hb]
  rw [← hb] at K1
  have GW := Lib.hid G1
  have KK := Lib.hid K1
  clear K1 G1 n1 hb
  go_wp2_with (first | (refine wpList_loadE wanTy _ rfl rfl rfl KK.out EN.out ?_) | fail)
  refine (MAY.out w1 GW.out).mono ?_
  rintro e w2 ⟨rfl, g2⟩
  have G2 := Lib.hid (GW.out.trans g2)
  have K2 := Lib.hid (KK.out.gr g2)
  clear g2
  cases m with
  | false =>
    have KN := Lib.hid (KEY.out (.slice none 0 0) [] 1 w2 (NOT.out rfl) (Sl.nil _ _ _) G2.out)
    go_wp2
    go_ret2
    exact KN.out
  | true =>
  have mw := MW.out rfl
  have hkk := mw.kind
  have MWH := Lib.hid mw
  have YE : Hid (putW x = (wanB x, 0)) := Lib.hid (YES.out rfl)
  obtain ⟨kk, hkk2⟩ : ∃ kk, kk = x.kind + 16 := ⟨_, rfl⟩
  obtain ⟨bs, hbs⟩ : ∃ bs, bs = byteOf x.site := ⟨_, rfl⟩
  have hkw : IntKind.u8.wrap ((x.kind : Int) + 16) = (kk : Int) := by rw [hkk2]; simp [IntKind.wrap, IntKind.bits, IntKind.signed]; omega
  have hsw := wrap_byte x.site
  rw [← hbs] at hsw
  have hk22 : x.kind + 16 < 256 := by omega
  have hb256 := byteOf_lt x.site
  obtain ⟨B, hB⟩ : ∃ B, B = w2.heap.size := ⟨_, rfl⟩
  obtain ⟨w3, hw3⟩ : ∃ w3, w3 = w2.alloc (.cells #[.int .u8 (kk : Int), .int .u8 (bs : Int)] 5) := ⟨_, rfl⟩
  have g3 : Gr w2 w3 := by rw [hw3]; exact (Gr.refl w2).alloc _
  obtain ⟨u0, hu0⟩ : ∃ u0, u0 = (.slice (some ⟨w2.heap.size, 0, none⟩) 2 2 : Value) := ⟨_, rfl⟩
  have O3 : Own w3 B 5 u0 (bytes (be 1 (x.kind + 16) ++ be 1 (byteOf x.site))) := by
    rw [hw3, be1_two _ _ hk22 hb256, hB, hu0, ← hkk2, ← hbs]
    exact World.ownsRow_lit w2 #[.int .u8 _, .int .u8 _] 2 (Nat.le_refl _) (by decide) rfl
  have HBB : Hid (b < B) := Lib.hid (by rw [hB]; exact K2.out.lt)
  have K3 := Lib.hid (K2.out.gr g3)
  have G3 := Lib.hid (G2.out.trans g3)
  have P3 := Lib.hid ((HP.out.gr G2.out).below (B := B) (by rw [hB]; exact Nat.le_refl _) |>.gr g3)
  have HBx : Hid (B ≤ w3.heap.size) := Lib.hid (by rw [hB]; exact g3.size)
  have HBW : Hid (w.heap.size ≤ B) := Lib.hid (by rw [hB]; exact G2.out.size)
  have HU := Lib.hid hu0
  have HW : w2.alloc (.cells #[.int .u8 (kk : Int), .int .u8 (bs : Int)] 5) = w3 := hw3.symm
  have HO := Lib.hid O3
  have HV0 : Hid (∀ k, u0.ownBlock = some k → k < w3.drew.heap.size) := Lib.hid fun k hk => (World.ownsRow.lt O3 k hk).2
  have HV1 : Hid (∀ k, u0.ownBlock = some k → B ≤ k) := Lib.hid O3.ownBlock_ge
  have FIN : Hid (∀ v W, App w3 B u0 (wanB x) v W → RetPutW w x (.returned (.tuple #[v, .int .i64 0])) W) := Lib.hid fun v W h => KEY.out v _ 0 W YE.out h.own.sl (h.toGr (fun k hk => Nat.le_trans HBW.out (HV1.out k hk)) G3.out)
  have KB : Hid (∀ W, Ch (rhoOf u0) w3.drew W → W.cell? ⟨b, 0, none⟩ = some (.int .u8 (x.kind : Int)) ∧ W.cell? ⟨b, 1, none⟩ = some (.int .i64 x.site) ∧ W.cell? ⟨b, 2, none⟩ = some (.slice va x.vector.length vc) ∧ W.cell? ⟨b, 3, none⟩ = some (.slice ia n ic) ∧ W.cell? ⟨b, 4, none⟩ = some (.int .i64 x.region) ∧ W.cell? ⟨b, 5, none⟩ = some (.int .u64 (x.epoch : Int)) ∧ W.cell? ⟨b, 6, none⟩ = some (.slice fa x.frontier.length fc)) := Lib.hid fun W hW => CE.out W b ((K3.out.gr (Gr.refl w3).drew).ch hW (fun e => by have h1 := HV1.out b e; have h2 := HBB.out; omega))
  obtain ⟨y0, y1, _⟩ := CE.out w2 b K2.out
  obtain ⟨z0, _⟩ := CE.out w3 b K3.out
  obtain ⟨L0, hL0⟩ : ∃ L0, L0 = be 1 (x.kind + 16) ++ be 1 (byteOf x.site) := ⟨_, rfl⟩
  have LL : Hid (L0.length = 2) := Lib.hid (by rw [hL0]; simp [be_length])
  rw [← hL0] at HO EQ
  have hep : x.epoch < 2 ^ 64 := OK.out.epoch
  have hl0 := LL.out
  have hll := hl0
  have HEP := Lib.hid hep
  clear mw hk22 hb256 hB hw3 g3 hu0 O3 hL0 MAY MW NOT YES KEY G2 KK GW hep hl0 hkk2 hbs
  by_cases hk1 : x.kind = 1
  case pos =>
    have q1 : ((x.kind : Int) == 1) = true := by simp [hk1]
    have EL : Hid (wanB x = L0 ++ (stampB x.vector)) := Lib.hid (by rw [EQ.out, hk1]; simp [bodyB, opt, hasV, hasI, hasR, hasE, hasF])
    clear hk1 hkk
    have hrw := HRW.out
    go_wp2_with fail
    try rw [← HU.out]
    clear y0 y1 z0 hkw hsw
    refine (dstampW_any w3 B u0 _ L0 x.vector P3.out.1 OK.out.vector HO.out HBx.out (by have h2 := MWH.out.vec_le; omega)).mono ?_
    rintro e w4 ⟨v4, rfl, ha⟩
    have KN := Lib.hid (FIN.out v4 w4 (by rw [EL.out]; exact ha))
    clear ha
    go_wp2
    go_ret2
    exact KN.out
  by_cases hk2 : x.kind = 2
  case pos =>
    have n1 : ((x.kind : Int) == 1) = false := by have := hk1; simp; omega
    have q2 : ((x.kind : Int) == 2) = true := by simp [hk2]
    have EL : Hid (wanB x = L0 ++ (itemsB x.items)) := Lib.hid (by rw [EQ.out, hk2]; simp [bodyB, opt, hasV, hasI, hasR, hasE, hasF])
    clear hk1 hk2 hkk
    have hn8 : n ≤ 8 := by rw [HN.out]; exact MWH.out.items_le
    have hnw := wrap_nat64 n (by omega)
    have C := Lib.hid (dnumW_any w3 B u0 L0 n (by omega) HO.out HBx.out (by omega))
    obtain ⟨_, _, _, z3, _⟩ := CE.out w3 b K3.out
    have HFL : Hid (∀ k, ((x.items.take k).flatMap itemB).length ≤ 8 * 4000) := Lib.hid fun k => by
      have h1 := items_le (x.items.take k) (fun y hy => MWH.out.all y (List.mem_of_mem_take hy))
      have h2 : (x.items.take k).length ≤ 8 := by rw [List.length_take, ← HN.out]; omega
      omega
    have hrw := HRW.out
    go_wp2_with fail
    try rw [← HU.out]
    clear y0 y1 z0 hkw hsw
    refine C.out.mono ?_
    rintro e w4 ⟨v4, rfl, ha⟩
    have AP4 := Lib.hid ha
    clear ha C z3
    go_wp2_with fail
    go_loopw [4, 5] (fun z i wr => ∃ k : Nat, k ≤ n ∧ i = .int .i64 k ∧ App w3 B u0 (L0 ++ be 8 n ++ (x.items.take k).flatMap itemB) z wr) (fun _ i _ => n - (intOf i).toNat)
    case atStart => exact ⟨0, Nat.zero_le _, rfl, by simpa using AP4.out⟩
    case round =>
      clear AP4 hrw hnw
      obtain ⟨k, hk, rfl, hap⟩ := hrel
      have kb : CellsAt wr b E 26 := (hap.grown.block b K3.out.lt (fun e => by have h1 := HV1.out b e.symm; have h2 := HBB.out; omega)).trans K3.out
      obtain ⟨_, _, _, z3, _⟩ := CE.out wr b kb
      clear kb
      by_cases hlt : k < n
      · have hlt2 : k < x.items.length := by rw [← HN.out]; exact hlt
        have hi := P3.out.2.1.keep (hap.keep HV1.out)
        obtain ⟨B3, o3, _, sv3, ev3, e3, hB3, op3, t3⟩ := hi.at k hlt2
        rw [← HN.out] at e3
        injection e3 with e3 _ q3
        subst e3 q3
        have e1 : L0 ++ be 8 n ++ (x.items.take k).flatMap itemB ++ itemB x.items[k] = L0 ++ be 8 n ++ (x.items.take (k + 1)).flatMap itemB := by
          rw [List.take_add_one, List.getElem?_eq_getElem hlt2, List.flatMap_append, List.append_assoc]; simp
        have hfk := HFL.out k
        have hlk : (L0 ++ be 8 n ++ (x.items.take k).flatMap itemB).length ≤ 500000000 := by simp only [List.length_append, be_length, stampB_length]; omega
        have D := ditem_any wr B _ sv3 ev3 (L0 ++ be 8 n ++ (x.items.take k).flatMap itemB) x.items[k] (OK.out.items _ (List.getElem_mem hlt2)) (item_fit (MWH.out.all _ (List.getElem_mem hlt2))) op3 hap.own (Nat.le_trans HBx.out hap.grown.size) hlk
        rw [e1] at D
        have DD := Lib.hid D
        have HAP := Lib.hid hap
        obtain ⟨y, hy⟩ : ∃ y, y = x.items[k] := ⟨_, rfl⟩
        rw [← hy] at op3 t3 DD
        obtain ⟨sa1, ns1, sc1, ea1, ne1, ec1, rfl, rfl⟩ := item_shape op3
        have a0 := t3 0 _ (by decide) rfl
        have a1 := t3 1 _ (by decide) rfl
        have a2 := t3 2 _ (by decide) rfl
        have a3 := t3 3 _ (by decide) rfl
        have a4 := t3 4 _ (by decide) rfl
        have a5 := t3 5 _ (by decide) rfl
        have a6 := t3 6 _ (by decide) rfl
        simp only [Nat.add_zero] at a0 a1 a2 a3 a4 a5 a6
        clear D e1 hap hi op3 t3 hy hfk hlk hlt2
        have i1 : (0 : Int) ≤ (k : Int) := by omega
        have i2 : (k : Int) < (n : Int) := by omega
        go_wp2_with fail
        refine DD.out.mono ?_
        rintro e w5 ⟨v5, rfl, ha⟩
        have HA2 := Lib.hid (HAP.out.trans ha)
        clear ha a0 a1 a2 a3 a4 a5 a6 z3
        go_wp2
        go_roundw
        case rel => exact ⟨k + 1, by omega, by go_num, HA2.out⟩
        case measure => simp [intOf]; omega
      · obtain rfl : k = n := by omega
        have KN := Lib.hid (FIN.out _ wr (by
          rw [EL.out]
          have h2 : x.items.take k = x.items := List.take_of_length_le (by rw [HN.out]; exact Nat.le_refl _)
          have h1 := hap
          rw [h2] at h1
          unfold itemsB
          rw [← HN.out, ← List.append_assoc]; exact h1))
        clear hap
        go_wp2
        go_ret2
        exact KN.out
  by_cases hk5 : x.kind = 5
  case pos =>
    have n1 : ((x.kind : Int) == 1) = false := by have := hk1; simp; omega
    have n2 : ((x.kind : Int) == 2) = false := by have := hk2; simp; omega
    have q5 : ((x.kind : Int) == 5) = true := by simp [hk5]
    have EL : Hid (wanB x = L0 ++ (be 8 (Go.Proofs.Ytgilijkmmcpfjaa.u64 x.region))) := Lib.hid (by rw [EQ.out, hk5]; simp [bodyB, opt, hasV, hasI, hasR, hasE, hasF])
    clear hk1 hk2 hk5 hkk
    have hrw := HRW.out
    go_wp2_with fail
    try rw [← HU.out]
    clear y0 y1 z0 hkw hsw
    refine (dnumW_any w3 B u0 L0 (Go.Proofs.Ytgilijkmmcpfjaa.u64 x.region) (u64_lt _) HO.out HBx.out (by omega)).mono ?_
    rintro e w4 ⟨v4, rfl, ha⟩
    have KN := Lib.hid (FIN.out v4 w4 (by rw [EL.out]; exact ha))
    clear ha
    go_wp2
    go_ret2
    exact KN.out
  by_cases hk4 : x.kind = 4
  case pos =>
    have n1 : ((x.kind : Int) == 1) = false := by have := hk1; simp; omega
    have n2 : ((x.kind : Int) == 2) = false := by have := hk2; simp; omega
    have n5 : ((x.kind : Int) == 5) = false := by have := hk5; simp; omega
    have q4 : ((x.kind : Int) == 4) = true := by simp [hk4]
    have EL : Hid (wanB x = L0 ++ (be 8 (Go.Proofs.Ytgilijkmmcpfjaa.u64 x.region) ++ be 8 x.epoch)) := Lib.hid (by rw [EQ.out, hk4]; simp [bodyB, opt, hasV, hasI, hasR, hasE, hasF])
    clear hk1 hk2 hk5 hk4 hkk
    have hrw := HRW.out
    go_wp2_with fail
    try rw [← HU.out]
    clear y0 y1 z0 hkw hsw
    apply wp_region_draw_turnU (rhoOf u0) (StU B u0 (fun k => ([L0, L0 ++ be 8 (Go.Proofs.Ytgilijkmmcpfjaa.u64 x.region), L0 ++ be 8 (Go.Proofs.Ytgilijkmmcpfjaa.u64 x.region) ++ be 8 x.epoch, L0 ++ be 8 (Go.Proofs.Ytgilijkmmcpfjaa.u64 x.region) ++ be 8 x.epoch] : List (List UInt8)).getD k [])) (.eq _ :: .eq _ :: .eq _ :: .eq _ :: .use TU :: .eq _ :: .eq _ :: .use TU :: .use TU :: .eq _ :: []) (by kernel_rfl) (by kernel_rfl) (by kernel_rfl) ⟨TU.mono _, TU.mono _, TU.mono _, trivial⟩ StU.gr ⟨(HO.out.gr (Gr.refl _).drew), fun k hk => .inl hk⟩
    iterate 4
     apply wpU_eq
     · intro U W hW hU hs
       have cc := KB.out W hW
       have hrw := HRW.out
       have c4 := cc.2.2.2.2.1
       have c5 := cc.2.2.2.2.2.1
       have c6 := cc.2.2.2.2.2.2
       clear cc
       unfold opT
       go_simp
       first | exact resT_eq_mk _ _ _ | exact ⟨Gr.refl _, rfl⟩
     simp only [Act.put, pt1, pt2, pt3]
    apply wpU_use
    · intro U W hW hU hS hs
      have cc := KB.out W hW
      have hrw := HRW.out
      have c4 := cc.2.2.2.2.1
      have c5 := cc.2.2.2.2.2.1
      have c6 := cc.2.2.2.2.2.2
      clear cc
      have hu : Own W B 5 u0 (bytes (L0)) := hS.1
      have hBW : B ≤ W.heap.size := Nat.le_trans HBx.out hW.size
      have hlen : (L0).length ≤ 900000000 := (by (try simp only [List.length_append, be_length, stampB_length]); omega)
      refine opT_hide fun VV hVV => ?_
      have HVV := Lib.hid hVV
      have HS := Lib.hid hS
      clear hVV hS
      unfold opT
      go_simp
      refine resT_call ((dnumW_any W B u0 _ (Go.Proofs.Ytgilijkmmcpfjaa.u64 x.region) (u64_lt _) hu hBW (by have := hlen; omega)).mono ?_)
      rintro e W2 ⟨v2, rfl, ha⟩
      obtain ⟨c1, c2⟩ := StU.user HS.out (v' := v2) (W' := W2) (by first | exact ha | simpa only [List.append_assoc] using ha)
      exact ⟨_, rfl, c1, HVV.out _ _ ⟨c2, trivial⟩⟩
    intro a1
    simp only [Act.put, pt1, pt2, pt3]
    iterate 2
     apply wpU_eq
     · intro U W hW hU hs
       have cc := KB.out W hW
       have hrw := HRW.out
       have c4 := cc.2.2.2.2.1
       have c5 := cc.2.2.2.2.2.1
       have c6 := cc.2.2.2.2.2.2
       clear cc
       unfold opT
       go_simp
       first | exact resT_eq_mk _ _ _ | exact ⟨Gr.refl _, rfl⟩
     simp only [Act.put, pt1, pt2, pt3]
    apply wpU_use
    · intro U W hW hU hS hs
      have cc := KB.out W hW
      have hrw := HRW.out
      have c4 := cc.2.2.2.2.1
      have c5 := cc.2.2.2.2.2.1
      have c6 := cc.2.2.2.2.2.2
      clear cc
      have hu : Own W B 5 a1 (bytes (L0 ++ be 8 (Go.Proofs.Ytgilijkmmcpfjaa.u64 x.region))) := hS.1
      have hBW : B ≤ W.heap.size := Nat.le_trans HBx.out hW.size
      have hlen : (L0 ++ be 8 (Go.Proofs.Ytgilijkmmcpfjaa.u64 x.region)).length ≤ 900000000 := (by (try simp only [List.length_append, be_length, stampB_length]); omega)
      refine opT_hide fun VV hVV => ?_
      have HVV := Lib.hid hVV
      have HS := Lib.hid hS
      clear hVV hS
      unfold opT
      go_simp
      refine resT_call ((dnumW_any W B a1 _ x.epoch HEP.out hu hBW (by have := hlen; omega)).mono ?_)
      rintro e W2 ⟨v2, rfl, ha⟩
      obtain ⟨c1, c2⟩ := StU.user HS.out (v' := v2) (W' := W2) (by first | exact ha | simpa only [List.append_assoc] using ha)
      exact ⟨_, rfl, c1, HVV.out _ _ ⟨c2, trivial⟩⟩
    intro a2
    simp only [Act.put, pt1, pt2, pt3]
    apply wpU_use
    · intro U W hW hU hS hs
      have cc := KB.out W hW
      have hrw := HRW.out
      have c4 := cc.2.2.2.2.1
      have c5 := cc.2.2.2.2.2.1
      have c6 := cc.2.2.2.2.2.2
      clear cc
      have hu : Own W B 5 a2 (bytes (L0 ++ be 8 (Go.Proofs.Ytgilijkmmcpfjaa.u64 x.region) ++ be 8 x.epoch)) := hS.1
      have hBW : B ≤ W.heap.size := Nat.le_trans HBx.out hW.size
      have hlen : (L0 ++ be 8 (Go.Proofs.Ytgilijkmmcpfjaa.u64 x.region) ++ be 8 x.epoch).length ≤ 900000000 := (by (try simp only [List.length_append, be_length, stampB_length]); omega)
      have ha := App.refl hu
      obtain ⟨c1, c2⟩ := StU.user hS (v' := a2) (W' := W) ha
      refine opT_hide fun VV hVV => ?_
      have HVV := Lib.hid (hVV _ _ ⟨c2, trivial⟩)
      clear hVV c2
      unfold opT
      go_simp
      exact ⟨c1, HVV.out⟩
    intro a4
    simp only [Act.put, pt1, pt2, pt3]
    apply wpU_eq
    · intro U W hW hU hs
      have cc := KB.out W hW
      have hrw := HRW.out
      have c4 := cc.2.2.2.2.1
      have c5 := cc.2.2.2.2.2.1
      have c6 := cc.2.2.2.2.2.2
      clear cc
      unfold opT
      go_simp
      first | exact resT_eq_mk _ _ _ | exact ⟨Gr.refl _, rfl⟩
    simp only [Act.put, pt1, pt2, pt3]
    apply wpU_nil
    intro U W9 hW9 hU9 hS9 hs9
    have hA : App w3 B u0 (L0 ++ be 8 (Go.Proofs.Ytgilijkmmcpfjaa.u64 x.region) ++ be 8 x.epoch) a4 W9 := App.grL ((Gr.refl _).drew) (StU.fin hS9 hW9 hU9)
    have KP : Keep (fun k => k < B) w3 W9 := hA.keep HV1.out
    have KN := Lib.hid (FIN.out a4 W9 (by rw [EL.out]; simpa only [List.append_assoc] using hA))
    clear hS9 hW9 hU9 hs9 hA KP
    go_wp2
    go_ret2
    exact KN.out
  have n1 : ((x.kind : Int) == 1) = false := by have := hk1; simp; omega
  have n2 : ((x.kind : Int) == 2) = false := by have := hk2; simp; omega
  have n5 : ((x.kind : Int) == 5) = false := by have := hk5; simp; omega
  have n4 : ((x.kind : Int) == 4) = false := by have := hk4; simp; omega
  have EL : Hid (wanB x = L0 ++ (be 8 (Go.Proofs.Ytgilijkmmcpfjaa.u64 x.region) ++ be 8 x.epoch ++ stampB x.frontier)) := Lib.hid (by rcases (show x.kind = 3 ∨ x.kind = 6 by omega) with h | h <;> rw [EQ.out, h] <;> simp [bodyB, opt, hasV, hasI, hasR, hasE, hasF])
  clear hk1 hk2 hk5 hk4 hkk
  have hrw := HRW.out
  go_wp2_with fail
  try rw [← HU.out]
  clear y0 y1 z0 hkw hsw
  apply wp_region_draw_turnU (rhoOf u0) (StU B u0 (fun k => ([L0, L0 ++ be 8 (Go.Proofs.Ytgilijkmmcpfjaa.u64 x.region), L0 ++ be 8 (Go.Proofs.Ytgilijkmmcpfjaa.u64 x.region) ++ be 8 x.epoch, L0 ++ be 8 (Go.Proofs.Ytgilijkmmcpfjaa.u64 x.region) ++ be 8 x.epoch ++ stampB x.frontier, L0 ++ be 8 (Go.Proofs.Ytgilijkmmcpfjaa.u64 x.region) ++ be 8 x.epoch ++ stampB x.frontier] : List (List UInt8)).getD k [])) (.eq _ :: .eq _ :: .eq _ :: .eq _ :: .use TU :: .eq _ :: .eq _ :: .use TU :: .eq _ :: .eq _ :: .use TU :: .use TU :: .eq _ :: []) (by kernel_rfl) (by kernel_rfl) (by kernel_rfl) ⟨TU.mono _, TU.mono _, TU.mono _, TU.mono _, trivial⟩ StU.gr ⟨(HO.out.gr (Gr.refl _).drew), fun k hk => .inl hk⟩
  iterate 4
   apply wpU_eq
   · intro U W hW hU hs
     have cc := KB.out W hW
     have hrw := HRW.out
     have c4 := cc.2.2.2.2.1
     have c5 := cc.2.2.2.2.2.1
     have c6 := cc.2.2.2.2.2.2
     clear cc
     unfold opT
     go_simp
     first | exact resT_eq_mk _ _ _ | exact ⟨Gr.refl _, rfl⟩
   simp only [Act.put, pt1, pt2, pt3]
  apply wpU_use
  · intro U W hW hU hS hs
    have cc := KB.out W hW
    have hrw := HRW.out
    have c4 := cc.2.2.2.2.1
    have c5 := cc.2.2.2.2.2.1
    have c6 := cc.2.2.2.2.2.2
    clear cc
    have hu : Own W B 5 u0 (bytes (L0)) := hS.1
    have hBW : B ≤ W.heap.size := Nat.le_trans HBx.out hW.size
    have hlen : (L0).length ≤ 900000000 := (by have h8 := MWH.out.fro_le; (try simp only [List.length_append, be_length, stampB_length]); omega)
    refine opT_hide fun VV hVV => ?_
    have HVV := Lib.hid hVV
    have HS := Lib.hid hS
    clear hVV hS
    unfold opT
    go_simp
    refine resT_call ((dnumW_any W B u0 _ (Go.Proofs.Ytgilijkmmcpfjaa.u64 x.region) (u64_lt _) hu hBW (by have := hlen; omega)).mono ?_)
    rintro e W2 ⟨v2, rfl, ha⟩
    obtain ⟨c1, c2⟩ := StU.user HS.out (v' := v2) (W' := W2) (by first | exact ha | simpa only [List.append_assoc] using ha)
    exact ⟨_, rfl, c1, HVV.out _ _ ⟨c2, trivial⟩⟩
  intro a1
  simp only [Act.put, pt1, pt2, pt3]
  iterate 2
   apply wpU_eq
   · intro U W hW hU hs
     have cc := KB.out W hW
     have hrw := HRW.out
     have c4 := cc.2.2.2.2.1
     have c5 := cc.2.2.2.2.2.1
     have c6 := cc.2.2.2.2.2.2
     clear cc
     unfold opT
     go_simp
     first | exact resT_eq_mk _ _ _ | exact ⟨Gr.refl _, rfl⟩
   simp only [Act.put, pt1, pt2, pt3]
  apply wpU_use
  · intro U W hW hU hS hs
    have cc := KB.out W hW
    have hrw := HRW.out
    have c4 := cc.2.2.2.2.1
    have c5 := cc.2.2.2.2.2.1
    have c6 := cc.2.2.2.2.2.2
    clear cc
    have hu : Own W B 5 a1 (bytes (L0 ++ be 8 (Go.Proofs.Ytgilijkmmcpfjaa.u64 x.region))) := hS.1
    have hBW : B ≤ W.heap.size := Nat.le_trans HBx.out hW.size
    have hlen : (L0 ++ be 8 (Go.Proofs.Ytgilijkmmcpfjaa.u64 x.region)).length ≤ 900000000 := (by have h8 := MWH.out.fro_le; (try simp only [List.length_append, be_length, stampB_length]); omega)
    refine opT_hide fun VV hVV => ?_
    have HVV := Lib.hid hVV
    have HS := Lib.hid hS
    clear hVV hS
    unfold opT
    go_simp
    refine resT_call ((dnumW_any W B a1 _ x.epoch HEP.out hu hBW (by have := hlen; omega)).mono ?_)
    rintro e W2 ⟨v2, rfl, ha⟩
    obtain ⟨c1, c2⟩ := StU.user HS.out (v' := v2) (W' := W2) (by first | exact ha | simpa only [List.append_assoc] using ha)
    exact ⟨_, rfl, c1, HVV.out _ _ ⟨c2, trivial⟩⟩
  intro a2
  simp only [Act.put, pt1, pt2, pt3]
  iterate 2
   apply wpU_eq
   · intro U W hW hU hs
     have cc := KB.out W hW
     have hrw := HRW.out
     have c4 := cc.2.2.2.2.1
     have c5 := cc.2.2.2.2.2.1
     have c6 := cc.2.2.2.2.2.2
     clear cc
     unfold opT
     go_simp
     first | exact resT_eq_mk _ _ _ | exact ⟨Gr.refl _, rfl⟩
   simp only [Act.put, pt1, pt2, pt3]
  apply wpU_use
  · intro U W hW hU hS hs
    have cc := KB.out W hW
    have hrw := HRW.out
    have c4 := cc.2.2.2.2.1
    have c5 := cc.2.2.2.2.2.1
    have c6 := cc.2.2.2.2.2.2
    clear cc
    have hu : Own W B 5 a2 (bytes (L0 ++ be 8 (Go.Proofs.Ytgilijkmmcpfjaa.u64 x.region) ++ be 8 x.epoch)) := hS.1
    have hBW : B ≤ W.heap.size := Nat.le_trans HBx.out hW.size
    have hlen : (L0 ++ be 8 (Go.Proofs.Ytgilijkmmcpfjaa.u64 x.region) ++ be 8 x.epoch).length ≤ 900000000 := (by have h8 := MWH.out.fro_le; (try simp only [List.length_append, be_length, stampB_length]); omega)
    refine opT_hide fun VV hVV => ?_
    have HVV := Lib.hid hVV
    have HS := Lib.hid hS
    clear hVV hS
    unfold opT
    go_simp
    refine resT_call ((dstampW_any W B a2 _ _ x.frontier ((P3.out.2.2.gr (Gr.refl w3).drew).keep (keep_rho hW HV1.out)) OK.out.frontier hu hBW (by have h8 := MWH.out.fro_le; (try simp only [List.length_append, be_length, stampB_length]); omega)).mono ?_)
    rintro e W2 ⟨v2, rfl, ha⟩
    obtain ⟨c1, c2⟩ := StU.user HS.out (v' := v2) (W' := W2) (by first | exact ha | simpa only [List.append_assoc] using ha)
    exact ⟨_, rfl, c1, HVV.out _ _ ⟨c2, trivial⟩⟩
  intro a3
  simp only [Act.put, pt1, pt2, pt3]
  apply wpU_use
  · intro U W hW hU hS hs
    have cc := KB.out W hW
    have hrw := HRW.out
    have c4 := cc.2.2.2.2.1
    have c5 := cc.2.2.2.2.2.1
    have c6 := cc.2.2.2.2.2.2
    clear cc
    have hu : Own W B 5 a3 (bytes (L0 ++ be 8 (Go.Proofs.Ytgilijkmmcpfjaa.u64 x.region) ++ be 8 x.epoch ++ stampB x.frontier)) := hS.1
    have hBW : B ≤ W.heap.size := Nat.le_trans HBx.out hW.size
    have hlen : (L0 ++ be 8 (Go.Proofs.Ytgilijkmmcpfjaa.u64 x.region) ++ be 8 x.epoch ++ stampB x.frontier).length ≤ 900000000 := (by have h8 := MWH.out.fro_le; (try simp only [List.length_append, be_length, stampB_length]); omega)
    have ha := App.refl hu
    obtain ⟨c1, c2⟩ := StU.user hS (v' := a3) (W' := W) ha
    refine opT_hide fun VV hVV => ?_
    have HVV := Lib.hid (hVV _ _ ⟨c2, trivial⟩)
    clear hVV c2
    unfold opT
    go_simp
    exact ⟨c1, HVV.out⟩
  intro a4
  simp only [Act.put, pt1, pt2, pt3]
  apply wpU_eq
  · intro U W hW hU hs
    have cc := KB.out W hW
    have hrw := HRW.out
    have c4 := cc.2.2.2.2.1
    have c5 := cc.2.2.2.2.2.1
    have c6 := cc.2.2.2.2.2.2
    clear cc
    unfold opT
    go_simp
    first | exact resT_eq_mk _ _ _ | exact ⟨Gr.refl _, rfl⟩
  simp only [Act.put, pt1, pt2, pt3]
  apply wpU_nil
  intro U W9 hW9 hU9 hS9 hs9
  have hA : App w3 B u0 (L0 ++ be 8 (Go.Proofs.Ytgilijkmmcpfjaa.u64 x.region) ++ be 8 x.epoch ++ stampB x.frontier) a4 W9 := App.grL ((Gr.refl _).drew) (StU.fin hS9 hW9 hU9)
  have KP : Keep (fun k => k < B) w3 W9 := hA.keep HV1.out
  have KN := Lib.hid (FIN.out a4 W9 (by rw [EL.out]; simpa only [List.append_assoc] using hA))
  clear hS9 hW9 hU9 hs9 hA KP
  go_wp2
  go_ret2
  exact KN.out
end Go.Proofs.Ytgilijkmmcpfjaa
end
