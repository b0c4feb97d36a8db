/-
  Package entry: whole, same.
  Package entry: same, Get.
-/
import Derived.Test.YtiemgmbjhllmbaaYEnReadF
section
set_option linter.unusedVariables false
set_option maxRecDepth 100000
namespace Go.Proofs.Ytiemgmbjhllmbaa
open Go.RowKit
def wholeZ (x : EntD) : List Int := [x.kind, x.client, x.req, x.osite, x.on, x.site, x.region, i64 x.epoch, x.item.origin, x.item.region]
theorem u64_nat (n : Nat) (h : n < 2 ^ 64) : u64 (n : Int) = n := by unfold u64; omega
theorem wholeZ_B (x : EntD) (ok : EntOk x) : (wholeZ x).flatMap (fun z => be 8 (u64 z)) = (wholeL x).flatMap (be 8) := by
  have h : (wholeZ x).map u64 = wholeL x := by
    unfold wholeZ wholeL
    have h1 := ok.kind
    have h2 := ok.client
    have h3 := ok.req
    have h4 := ok.on
    simp only [List.map_cons, List.map_nil, u64_i64 _ ok.epoch, u64_nat x.kind (by omega), u64_nat x.client (by omega), u64_nat x.req (by omega), u64_nat x.on (by omega)]
  rw [← h, List.flatMap_map]
theorem wholeZ_len (x : EntD) : (wholeZ x).length = 10 := rfl
theorem flatZ_length (l : List Int) : (l.flatMap (fun z => be 8 (u64 z))).length = l.length * 8 := by
  induction l with
  | nil => rfl
  | cons z l ih => rw [List.flatMap_cons, List.length_append, ih, be_length, List.length_cons]; omega
theorem flatZ_take (l : List Int) (k : Nat) (z : Int) (h : l[k]? = some z) : (l.take (k + 1)).flatMap (fun z => be 8 (u64 z)) = (l.take k).flatMap (fun z => be 8 (u64 z)) ++ be 8 (u64 z) := by
  obtain ⟨hk, he⟩ := List.getElem?_eq_some_iff.1 h
  rw [List.take_add_one, List.getElem?_eq_getElem hk, he]; simp
theorem wrap_small {n m : Nat} (h : n < m) (hm : m ≤ 2 ^ 32) : IntKind.i64.wrap (n : Int) = (n : Int) := by rw [IntKind.wrap_i64]; omega
theorem wrap_i64' (n : Nat) (h : n < 2 ^ 64) : IntKind.i64.wrap (n : Int) = i64 n := by rw [IntKind.wrap_i64]; unfold i64 wrap64; omega
set_option maxHeartbeats 2000000 in
theorem whole_any (w : World) (x : EntD) (q : EntV) (hp : EntP Any w x q) (ok : EntOk x) (big : EntBig x) :
    Calls Try.prog 62 #[.agg (entCells x q).toArray] w (RetSl w (wholeB x)) := by
  have WOP := fun W (hW : Gr w W) v l hs hl => putOp_any w x.op q.dv q.pv hp.1 ok.op W v l hW hs hl
  have WST := fun W (hW : Gr w W) v l hs hl => putStamp_any v q.fv l x.frontier W hs (hp.2.2.1.below hW) ok.frontier hl
  have WIT := fun W (hW : Gr w W) v l hs hl => putItem_any v l x.item q.sv q.ev W hs (hp.2.1.gr hW) ok.item big.item hl
  have Z := Lib.hid (wholeZ_B x ok)
  have hb1 := Lib.hid big.op
  have hb2 := Lib.hid big.frontier
  obtain ⟨E, hE⟩ : ∃ E, E = entCells x q := ⟨_, rfl⟩
  rw [← hE]
  have k1 := wrap_small ok.kind (by decide)
  have k2 := wrap_small ok.client (by decide)
  have k3 := wrap_small ok.req (by decide)
  have k4 := wrap_small ok.on (by decide)
  have k5 := wrap_i64' x.epoch ok.epoch
  obtain ⟨da, dc, pa, pc, sa, sc, ea, ec, fa, fc, rfl⟩ := hp.shapes
  have CE : Hid (∀ W B, CellsAt W B E 39 → W.cell? ⟨B, 0, none⟩ = some (.int .u8 (x.kind : Int)) ∧ W.cell? ⟨B, 1, none⟩ = some (.int .u32 (x.client : Int)) ∧ W.cell? ⟨B, 2, none⟩ = some (.int .u32 (x.req : Int)) ∧ W.cell? ⟨B, 3, none⟩ = some (.int .i64 x.osite) ∧ W.cell? ⟨B, 4, none⟩ = some (.int .u32 (x.on : Int)) ∧ W.cell? ⟨B, 5, none⟩ = some (.int .u8 (x.op.h.kind : Int)) ∧ W.cell? ⟨B, 6, none⟩ = some (.string ⟨x.op.h.path.toArray⟩) ∧ W.cell? ⟨B, 7, none⟩ = some (.slice da (bytes x.op.h.data).length dc) ∧ W.cell? ⟨B, 8, none⟩ = some (.int .i64 x.op.h.version) ∧ W.cell? ⟨B, 9, none⟩ = some (.bool x.op.h.seq) ∧ W.cell? ⟨B, 10, none⟩ = some (.bool x.op.h.eph) ∧ W.cell? ⟨B, 11, none⟩ = some (.slice pa x.op.parts.length pc) ∧ W.cell? ⟨B, 12, none⟩ = some (.int .i64 x.item.origin) ∧ W.cell? ⟨B, 13, none⟩ = some (.int .u64 (x.item.seq : Int)) ∧ W.cell? ⟨B, 14, none⟩ = some (.int .i64 x.item.region) ∧ W.cell? ⟨B, 15, none⟩ = some (.int .u64 (x.item.epoch : Int)) ∧ W.cell? ⟨B, 16, none⟩ = some (.slice sa (nums x.item.stamp).length sc) ∧ W.cell? ⟨B, 17, none⟩ = some (.slice ea x.item.effs.length ec) ∧ W.cell? ⟨B, 18, none⟩ = some (.int .u32 (x.item.closed : Int)) ∧ W.cell? ⟨B, 19, none⟩ = some (.int .i64 x.site) ∧ W.cell? ⟨B, 20, none⟩ = some (.int .i64 x.region) ∧ W.cell? ⟨B, 21, none⟩ = some (.int .u64 (x.epoch : Int)) ∧ W.cell? ⟨B, 22, none⟩ = some (.slice fa (nums x.frontier).length fc)) := Lib.hid fun W B h => by subst hE; exact ⟨h.cell 0, h.cell 1, h.cell 2, h.cell 3, h.cell 4, h.cell 5, h.cell 6, h.cell 7, h.cell 8, h.cell 9, h.cell 10, h.cell 11, h.cell 12, h.cell 13, h.cell 14, h.cell 15, h.cell 16, h.cell 17, h.cell 18, h.cell 19, h.cell 20, h.cell 21, h.cell 22⟩
  have WO := Lib.hid WOP
  have WS := Lib.hid WST
  have WI := Lib.hid WIT
  clear WOP WST WIT ok big hp hE
  go_enter Try.func62, Try.ntmps62
  go_wp2_with (first | (refine wpList_boxE _ rfl rfl rfl ?_) | fail)
  intro w1 K1 G1 n1
  have KK := Lib.hid K1
  have GG := Lib.hid G1
  obtain ⟨b, hb⟩ : ∃ b, b = w.heap.size := ⟨_, rfl⟩
  rw [← hb]
  rw [← hb] at K1 KK
  have cc := CE.out w1 b K1
  have c0 := cc.1
  have c1 := cc.2.1
  have c2 := cc.2.2.1
  have c3 := cc.2.2.2.1
  have c4 := cc.2.2.2.2.1
  have c19 := cc.2.2.2.2.2.2.2.2.2.2.2.2.2.2.2.2.2.2.2.1
  have c20 := cc.2.2.2.2.2.2.2.2.2.2.2.2.2.2.2.2.2.2.2.2.1
  have c21 := cc.2.2.2.2.2.2.2.2.2.2.2.2.2.2.2.2.2.2.2.2.2.1
  have c12 := cc.2.2.2.2.2.2.2.2.2.2.2.2.1
  have c14 := cc.2.2.2.2.2.2.2.2.2.2.2.2.2.2.1
  clear cc K1 G1 n1 hb
  go_wp2_with fail
  obtain ⟨w3, hw3⟩ : ∃ w3, w3 = w1.alloc (.cells #[.int .i64 (x.kind : Int), .int .i64 (x.client : Int), .int .i64 (x.req : Int), .int .i64 x.osite, .int .i64 (x.on : Int), .int .i64 x.site, .int .i64 x.region, .int .i64 (i64 x.epoch), .int .i64 x.item.origin, .int .i64 x.item.region] 2) := ⟨_, rfl⟩
  rw [← hw3]
  have g3 : Gr w1 w3 := by rw [hw3]; exact (Gr.refl w1).alloc _
  have k3 : CellsAt w3 w1.heap.size ((wholeZ x).map (Value.int .i64)) 2 := by rw [hw3]; exact CellsAt.new _ _ _
  have C3 : Hid (∀ W, Gr w3 W → ∀ k, k < 10 → ∃ z : Int, (wholeZ x)[k]? = some z ∧ W.cell? ⟨w1.heap.size, k, none⟩ = some (.int .i64 z)) := Lib.hid fun W hW k hk => by
    have hk' : k < (wholeZ x).length := hk
    refine ⟨(wholeZ x)[k], List.getElem?_eq_getElem hk', ?_⟩
    rw [(k3.gr hW).cell k, List.getElem?_map, List.getElem?_eq_getElem hk']
    rfl
  have G3 := Lib.hid (GG.out.trans g3)
  have K3 := Lib.hid (KK.out.gr g3)
  have S3 := Lib.hid (Sl.nil w3 none 0)
  obtain ⟨zs, hzs⟩ : ∃ zs, zs = wholeZ x := ⟨_, rfl⟩
  have ZL : Hid (zs.length = 10) := Lib.hid (by rw [hzs]; rfl)
  rw [← hzs] at C3 Z
  generalize w1.heap.size = gf at *
  clear hw3 g3 k3 KK GG k1 k2 k4 k5 hzs c0 c1 c2 c3 c4 c19 c20 c21 c12 c14
  go_loopw [3, 5, 37] (fun u y i wr => ∃ k : Nat, k ≤ 10 ∧ i = .int .i64 k ∧ Sl wr u (bytes ((zs.take k).flatMap (fun z => be 8 (u64 z)))) ∧ Gr w3 wr) (fun _ _ i _ => 10 - (intOf i).toNat)
  case atStart => exact ⟨0, by decide, rfl, S3.out, Gr.refl _⟩
  case round =>
    clear S3
    obtain ⟨k, hk, rfl, hs4, g4⟩ := hrel
    by_cases hlt : k < 10
    · obtain ⟨z, hz, hcell⟩ := C3.out wr g4 k hlt
      have e1 := flatZ_take zs k z hz
      have L4 : ((zs.take k).flatMap (fun z => be 8 (u64 z))).length ≤ 1000000000 := by
        rw [flatZ_length, List.length_take]; omega
      have F1 := Lib.hid e1
      have C := wint _ _ z _ hs4 L4
      rw [← e1] at C
      have CC := Lib.hid C
      have G4 := Lib.hid g4
      clear e1 hz C hs4 g4
      have i1 : (0 : Int) ≤ (k : Int) := by omega
      have i2 : (k : Int) < 10 := by omega
      go_wp2_with fail
      refine CC.out.mono ?_
      rintro e w5 ⟨v5, rfl, s5, g5⟩
      have S5 := Lib.hid s5
      have G5 := Lib.hid (G4.out.trans g5)
      clear s5 g5
      go_wp2
      go_roundw
      case rel => exact ⟨k + 1, by omega, by go_num, S5.out, G5.out⟩
      case measure => simp [intOf]; omega
    · obtain rfl : k = 10 := by omega
      rw [List.take_of_length_le (by rw [ZL.out]; exact Nat.le_refl _), Z.out] at hs4
      have S4 := Lib.hid hs4
      have G4 := Lib.hid (G3.out.trans g4)
      have K4 := Lib.hid (K3.out.gr g4)
      have L5 : ((wholeL x).flatMap (be 8)).length = 80 := by rw [flatBe_length]; rfl
      have LL := Lib.hid L5
      clear hs4 g4 C3 L5
      have GD : Hid (Gr wr wr.drew) := Lib.hid ((Gr.refl wr).drew)
      go_wp2_with fail
      apply wp_region_draw_grow (.ok (fun v W => Sl W v (bytes ((wholeL x).flatMap (be 8)))) :: .eq _ :: .eq _ :: .ok (fun v W => Sl W v (bytes ((wholeL x).flatMap (be 8) ++ opB x.op))) :: .eq _ :: .eq _ :: .ok (fun v W => Sl W v (bytes ((wholeL x).flatMap (be 8) ++ opB x.op ++ stampB x.frontier))) :: .ok (fun v W => Sl W v (bytes ((wholeL x).flatMap (be 8) ++ opB x.op ++ stampB x.frontier))) :: []) (by kernel_rfl) (by kernel_rfl) ⟨mono_sl _, mono_sl _, mono_sl _, mono_sl _, trivial⟩
      apply wpG_ok
      · intro W hW hs
        have cc := CE.out W b (K4.out.gr (GD.out.trans hW))
        have d5 := cc.2.2.2.2.2.1
        have d6 := cc.2.2.2.2.2.2.1
        have d7 := cc.2.2.2.2.2.2.2.1
        have d8 := cc.2.2.2.2.2.2.2.2.1
        have d9 := cc.2.2.2.2.2.2.2.2.2.1
        have d10 := cc.2.2.2.2.2.2.2.2.2.2.1
        have d11 := cc.2.2.2.2.2.2.2.2.2.2.2.1
        have d22 := cc.2.2.2.2.2.2.2.2.2.2.2.2.2.2.2.2.2.2.2.2.2.2
        clear cc
        unfold opG
        go_simp
        exact resG_mk (Gr.refl _) ((S4.out.below GD.out).below hW)
      intro v0
      simp only [Act.put, pt1, pt2, pt3]
      iterate 2
       apply wpG_eq
       · intro W hW hs
         have cc := CE.out W b (K4.out.gr (GD.out.trans hW))
         have d5 := cc.2.2.2.2.2.1
         have d6 := cc.2.2.2.2.2.2.1
         have d7 := cc.2.2.2.2.2.2.2.1
         have d8 := cc.2.2.2.2.2.2.2.2.1
         have d9 := cc.2.2.2.2.2.2.2.2.2.1
         have d10 := cc.2.2.2.2.2.2.2.2.2.2.1
         have d11 := cc.2.2.2.2.2.2.2.2.2.2.2.1
         have d22 := cc.2.2.2.2.2.2.2.2.2.2.2.2.2.2.2.2.2.2.2.2.2.2
         clear cc
         unfold opG
         go_simp
         first | exact resG_eq_mk _ _ _ | rfl
       simp only [Act.put, pt1, pt2, pt3]
      apply wpG_ok
      · intro W hW hs
        obtain s1 := hs _ (.head _) (by rfl)
        have cc := CE.out W b (K4.out.gr (GD.out.trans hW))
        have d5 := cc.2.2.2.2.2.1
        have d6 := cc.2.2.2.2.2.2.1
        have d7 := cc.2.2.2.2.2.2.2.1
        have d8 := cc.2.2.2.2.2.2.2.2.1
        have d9 := cc.2.2.2.2.2.2.2.2.2.1
        have d10 := cc.2.2.2.2.2.2.2.2.2.2.1
        have d11 := cc.2.2.2.2.2.2.2.2.2.2.2.1
        have d22 := cc.2.2.2.2.2.2.2.2.2.2.2.2.2.2.2.2.2.2.2.2.2.2
        clear cc
        unfold opG
        go_simp
        refine resG_call ((WO.out W (G4.out.trans (GD.out.trans hW)) _ _ s1 (by have h1 := hb1.out; rw [LL.out]; omega)).mono ?_)
        rintro e W2 ⟨v2, rfl, s2, g2⟩
        exact ⟨_, rfl, g2, by simpa only [List.append_assoc] using s2⟩
      intro v3
      simp only [Act.put, pt1, pt2, pt3]
      iterate 2
       apply wpG_eq
       · intro W hW hs
         have cc := CE.out W b (K4.out.gr (GD.out.trans hW))
         have d5 := cc.2.2.2.2.2.1
         have d6 := cc.2.2.2.2.2.2.1
         have d7 := cc.2.2.2.2.2.2.2.1
         have d8 := cc.2.2.2.2.2.2.2.2.1
         have d9 := cc.2.2.2.2.2.2.2.2.2.1
         have d10 := cc.2.2.2.2.2.2.2.2.2.2.1
         have d11 := cc.2.2.2.2.2.2.2.2.2.2.2.1
         have d22 := cc.2.2.2.2.2.2.2.2.2.2.2.2.2.2.2.2.2.2.2.2.2.2
         clear cc
         unfold opG
         go_simp
         first | exact resG_eq_mk _ _ _ | rfl
       simp only [Act.put, pt1, pt2, pt3]
      apply wpG_ok
      · intro W hW hs
        obtain s1 := hs _ (.head _) (by rfl)
        have cc := CE.out W b (K4.out.gr (GD.out.trans hW))
        have d5 := cc.2.2.2.2.2.1
        have d6 := cc.2.2.2.2.2.2.1
        have d7 := cc.2.2.2.2.2.2.2.1
        have d8 := cc.2.2.2.2.2.2.2.2.1
        have d9 := cc.2.2.2.2.2.2.2.2.2.1
        have d10 := cc.2.2.2.2.2.2.2.2.2.2.1
        have d11 := cc.2.2.2.2.2.2.2.2.2.2.2.1
        have d22 := cc.2.2.2.2.2.2.2.2.2.2.2.2.2.2.2.2.2.2.2.2.2.2
        clear cc
        unfold opG
        go_simp
        refine resG_call ((WS.out W (G4.out.trans (GD.out.trans hW)) _ _ s1 (by have h1 := hb1.out; have h2 := hb2.out; rw [List.length_append, LL.out]; omega)).mono ?_)
        rintro e W2 ⟨v2, rfl, s2, g2⟩
        exact ⟨_, rfl, g2, by simpa only [List.append_assoc] using s2⟩
      intro v6
      simp only [Act.put, pt1, pt2, pt3]
      apply wpG_ok
      · intro W hW hs
        obtain s1 := hs _ (.head _) (by rfl)
        have cc := CE.out W b (K4.out.gr (GD.out.trans hW))
        have d5 := cc.2.2.2.2.2.1
        have d6 := cc.2.2.2.2.2.2.1
        have d7 := cc.2.2.2.2.2.2.2.1
        have d8 := cc.2.2.2.2.2.2.2.2.1
        have d9 := cc.2.2.2.2.2.2.2.2.2.1
        have d10 := cc.2.2.2.2.2.2.2.2.2.2.1
        have d11 := cc.2.2.2.2.2.2.2.2.2.2.2.1
        have d22 := cc.2.2.2.2.2.2.2.2.2.2.2.2.2.2.2.2.2.2.2.2.2.2
        clear cc
        unfold opG
        go_simp
        exact resG_mk (Gr.refl _) s1
      intro v7
      simp only [Act.put, pt1, pt2, pt3]
      apply wpG_nil
      intro W9 hW9 hsAll
      obtain s51 := hsAll _ (.head _)
      clear hsAll
      have G9 := Lib.hid (G4.out.trans (GD.out.trans hW9))
      have S9 := Lib.hid s51
      have cc := CE.out W9 b (K4.out.gr (GD.out.trans hW9))
      have c12 := cc.2.2.2.2.2.2.2.2.2.2.2.2.1
      have c13 := cc.2.2.2.2.2.2.2.2.2.2.2.2.2.1
      have c14 := cc.2.2.2.2.2.2.2.2.2.2.2.2.2.2.1
      have c15 := cc.2.2.2.2.2.2.2.2.2.2.2.2.2.2.2.1
      have c16 := cc.2.2.2.2.2.2.2.2.2.2.2.2.2.2.2.2.1
      have c17 := cc.2.2.2.2.2.2.2.2.2.2.2.2.2.2.2.2.2.1
      have c18 := cc.2.2.2.2.2.2.2.2.2.2.2.2.2.2.2.2.2.2.1
      have L6 : ((wholeL x).flatMap (be 8) ++ opB x.op ++ stampB x.frontier).length ≤ 600000000 := by
        have h1 := hb1.out
        have h2 := hb2.out
        rw [List.length_append, List.length_append, LL.out, stampB_length]; omega
      clear cc hW9 s51
      go_wp2_with fail
      refine (WI.out _ G9.out _ _ S9.out L6).mono ?_
      rintro e w10 ⟨v10, rfl, s10, g10⟩
      have S10 := Lib.hid s10
      have G10 := Lib.hid (G9.out.trans g10)
      clear s10 g10
      go_wp2
      go_ret
      exact ⟨_, rfl, S10.out, G10.out⟩
end Go.Proofs.Ytiemgmbjhllmbaa
end
section
set_option linter.unusedVariables false
set_option maxRecDepth 100000
namespace Go.Proofs.Ytiemgmbjhllmbaa
open Go.RowKit
theorem beq_bytes (l m : List UInt8) : (l == m) = decide (l = m) := Bool.eq_iff_iff.2 (by simp)
theorem equal_any (w : World) (v u : Value) (l m : List UInt8) (hv : Sl w v (bytes l)) (hu : Sl w u (bytes m)) :
    Calls Try.prog 61 #[v, u] w (RetBool w (decide (l = m))) := by
  have r1 := run_string_sl (P := Try.prog) 22 5 9 Try.underlying22 Try.underlying5 Try.underlying9 hv
  have r2 := run_string_sl (P := Try.prog) 22 5 9 Try.underlying22 Try.underlying5 Try.underlying9 hu
  obtain ⟨a, c, rfl⟩ := hv.oneCells
  obtain ⟨a', c', rfl⟩ := hu.oneCells
  clear hv hu
  go_enter Try.func61, Try.ntmps61
  go_wp2
  go_ret
  exact RetBool.mk (beq_bytes l m) (Gr.refl w)
set_option maxHeartbeats 1000000 in
theorem esame_any (w : World) (x y : EntD) (qx qy : EntV) (hx : EntP Any w x qx) (hy : EntP Any w y qy) (okx : EntOk x) (oky : EntOk y) (bx : EntBig x) (hby : EntBig y) :
    Calls Try.prog 13 #[.agg (entCells x qx).toArray, .agg (entCells y qy).toArray] w (RetBool w (decide (wholeB x = wholeB y))) := by
  have W1 := Lib.hid fun W (hW : Gr w W) => whole_any W x qx (hx.gr hW) okx bx
  have W2 := Lib.hid fun W (hW : Gr w W) => whole_any W y qy (hy.gr hW) oky hby
  obtain ⟨E1, hE1⟩ : ∃ E, E = entCells x qx := ⟨_, rfl⟩
  obtain ⟨E2, hE2⟩ : ∃ E, E = entCells y qy := ⟨_, rfl⟩
  have l1 : Hid (E1.length = 23) := Lib.hid (by rw [hE1]; rfl)
  have l2 : Hid (E2.length = 23) := Lib.hid (by rw [hE2]; rfl)
  rw [← hE1] at W1 ⊢
  rw [← hE2] at W2 ⊢
  clear hE1 hE2 hx hy okx oky bx hby
  go_enter Try.func13, Try.ntmps13
  go_wp2_with (first | (refine wpList_boxE _ rfl rfl rfl ?_) | fail)
  intro w1 K1 G1 n1
  have KE0 := Lib.hid K1
  have GG0 := Lib.hid G1
  clear K1 G1
  go_wp2_with (first | (refine wpList_boxE _ rfl rfl rfl ?_) | fail)
  intro w2 K2 G2 n2
  have KE1 := Lib.hid (KE0.out.gr G2)
  have KE2 := Lib.hid K2
  have GG := Lib.hid (GG0.out.trans G2)
  have GD : Hid (Gr w2 w2.drew) := Lib.hid ((Gr.refl w2).drew)
  clear K2 G2 n1 n2
  go_wp2_with fail
  apply wp_region_draw_grow (.eq _ :: .ok (fun v W => Sl W v (bytes (wholeB x))) :: .eq _ :: .ok (fun v W => Sl W v (bytes (wholeB y))) :: .ok (fun v W => v = .bool (decide (wholeB x = wholeB y))) :: .ok (fun v W => v = .bool (decide (wholeB x = wholeB y))) :: []) (by kernel_rfl) (by kernel_rfl) ⟨mono_sl _, mono_sl _, fun _ _ _ _ h => h, fun _ _ _ _ h => h, trivial⟩
  apply wpG_eq
  · intro W hW hs
    exact opG_load entTy _ rfl rfl rfl (KE1.out.gr (GD.out.trans hW)) l1.out rfl
  simp only [Act.put, pt1, pt2, pt3]
  apply wpG_ok
  · intro W hW hs
    unfold opG
    go_simp
    refine resG_call ((W1.out W (GG.out.trans (GD.out.trans hW))).mono ?_)
    rintro e W2 ⟨v2, rfl, s2, g2⟩
    exact ⟨_, rfl, g2, s2⟩
  intro v1
  simp only [Act.put, pt1, pt2, pt3]
  apply wpG_eq
  · intro W hW hs
    exact opG_load entTy _ rfl rfl rfl (KE2.out.gr (GD.out.trans hW)) l2.out rfl
  simp only [Act.put, pt1, pt2, pt3]
  apply wpG_ok
  · intro W hW hs
    unfold opG
    go_simp
    refine resG_call ((W2.out W (GG.out.trans (GD.out.trans hW))).mono ?_)
    rintro e W2 ⟨v2, rfl, s2, g2⟩
    exact ⟨_, rfl, g2, s2⟩
  intro v3
  simp only [Act.put, pt1, pt2, pt3]
  apply wpG_ok
  · intro W hW hs
    obtain s1 := hs _ (.tail _ (.head _)) (by rfl)
    obtain s2 := hs _ (.head _) (by rfl)
    unfold opG
    go_simp
    refine resG_call ((equal_any W _ _ _ _ s1 s2).mono ?_)
    rintro e W2 ⟨rfl, g2⟩
    exact ⟨_, rfl, g2, rfl⟩
  intro v4
  simp only [Act.put, pt1, pt2, pt3]
  apply wpG_ok
  · intro W hW hs
    obtain rfl := hs _ (.head _) (by rfl)
    unfold opG
    go_simp
    exact resG_mk (Gr.refl _) rfl
  intro v5
  simp only [Act.put, pt1, pt2, pt3]
  apply wpG_nil
  intro W9 hW9 hsAll
  obtain rfl := hsAll _ (.head _)
  clear hsAll
  have GZ := Lib.hid (GG.out.trans (GD.out.trans hW9))
  clear hW9
  go_wp2
  go_ret
  exact RetBool.mk rfl GZ.out
/-- What Get hands back. -/
def RetGet (w : World) (l : List UInt8) (e : Ending) (w' : World) : Prop := ∃ q, e = .returned (.tuple #[.agg (entCells (getV l).1 q).toArray, .int .i64 (getV l).2]) ∧ EntP (From w.heap.size) w' (getV l).1 q ∧ Gr w w'
theorem getV_ok (l : List UInt8) : getV l = if entOk l = false ∨ 4096 < l.length then (zeroX, 2) else ((rEnt l).1, 0) := by
  unfold getV
  cases h : entOk l <;> by_cases h2 : 4096 < l.length <;> simp [h2]
set_option maxHeartbeats 2000000 in
theorem get_any (w : World) (v : Value) (l : List UInt8) (hs : Sl w v (bytes l)) (hl : l.length ≤ 1000000000) :
    Calls Try.prog 5 #[v] w (RetGet w l) := by
  obtain ⟨a, cap, rfl⟩ := hs.oneCells
  have RD := Lib.hid fun W (hW : Gr w W) => read_any W (.slice a (bytes l).length cap) l (hs.below hW) hl
  obtain ⟨w1, hw1⟩ : ∃ w1, w1 = w.alloc (.cells zeroL.toArray 39) := ⟨_, rfl⟩
  have g1 : Gr w w1 := by rw [hw1]; exact (Gr.refl w).alloc _
  have k1 : CellsAt w1 w.heap.size zeroL 39 := by rw [hw1]; exact CellsAt.new _ _ _
  have n1 : w1.heap.size = w.heap.size + 1 := by rw [hw1]; simp
  have HW : Hid (w1 = w.alloc (.cells #[.int .u8 0, .int .u32 0, .int .u32 0, .int .i64 0, .int .u32 0, .int .u8 0, .string ⟨#[]⟩, .slice none 0 0, .int .i64 0, .bool false, .bool false, .slice none 0 0, .int .i64 0, .int .u64 0, .int .i64 0, .int .u64 0, .slice none 0 0, .slice none 0 0, .int .u32 0, .int .i64 0, .int .i64 0, .int .u64 0, .slice none 0 0] 39)) := Lib.hid hw1
  have G1 := Lib.hid g1
  have K1 := Lib.hid k1
  have N1 := Lib.hid n1
  have hv := getV_ok l
  have blen : (bytes l).length = l.length := by simp [Go.Proofs.Ytiemgmbjhllmbaa.bytes]
  rw [blen]
  rw [blen] at RD
  clear hw1 hs g1 k1 n1 blen
  go_enter Try.func5, Try.ntmps5
  go_wp2_with fail
  rw [← HW.out]
  refine (RD.out w1 G1.out).mono ?_
  rintro e w2 ⟨q, pv, rfl, hp, g2⟩
  have P2 := Lib.hid hp
  have G2 := Lib.hid g2
  obtain ⟨E, hE⟩ : ∃ E, E = entCells (rEnt l).1 q := ⟨_, rfl⟩
  have hEn : E.length = 23 := by rw [hE]; rfl
  have hE1 : oneAll E := by rw [hE]; exact hp.one
  have HEN := Lib.hid hEn
  have HE1 := Lib.hid hE1
  have HE := Lib.hid hE
  obtain ⟨ok, hok⟩ : ∃ ok, ok = entOk l := ⟨_, rfl⟩
  rw [← hE, ← hok]
  rw [← hok] at hv
  have HV := Lib.hid hv
  clear hp g2 hE hEn hE1 hok hv
  go_wp2_with (first | (refine wpList_storeE entTy _ _ rfl rfl rfl rfl (CellsAt.new _ _ _) HEN.out rfl HE1.out ?_) | fail)
  intro w3 k3 ch3
  have g3 : Gr w2 w3 := Below.trans ((Gr.refl w2).alloc _) (ch3.below ((Gr.refl w2).alloc _).size (fun k hk => by have : k = w2.heap.size := hk; omega))
  have G3 := Lib.hid g3
  have K3 := Lib.hid k3
  clear g3 k3 ch3
  have GA := Lib.hid (G1.out.trans (G2.out.trans G3.out))
  have KR := Lib.hid (K1.out.gr (G2.out.trans G3.out))
  have hne : Hid (∀ B, B = w2.heap.size → B ≠ w.heap.size) := Lib.hid fun B hB => by have := G2.out.size; have := N1.out; omega
  have PE := Lib.hid ((P2.out.gr G3.out).mono (Q := From w.heap.size) (fun j hj => by have h1 : w1.heap.size ≤ j := hj; have := N1.out; show w.heap.size ≤ j; omega))
  have NO : Hid (ok = false ∨ 4096 < l.length → ∀ w4, CellsAt w4 w.heap.size zeroL 39 → Gr w w4 → RetGet w l (.returned (.tuple #[.agg zeroL.toArray, .int .i64 2])) w4) := Lib.hid fun h w4 k4 g4 => by
    have e := HV.out
    rw [if_pos h] at e
    exact ⟨zeroQ, by rw [e]; rfl, by rw [e]; exact EntP.zero _ _ 0, g4⟩
  have YES : Hid (¬ (ok = false ∨ 4096 < l.length) → ∀ w4, Ch (fun j => j = w.heap.size) w3 w4 → RetGet w l (.returned (.tuple #[.agg E.toArray, .int .i64 0])) w4) := Lib.hid fun h w4 c4 => by
    have e := HV.out
    rw [if_neg h] at e
    refine ⟨q, by rw [e, HE.out], ?_, Below.trans GA.out (c4.below GA.out.size (fun j hj => by have : j = w.heap.size := hj; omega))⟩
    rw [e]
    exact ((P2.out.gr G3.out).keep (Keep.of_ch c4 (fun j h1 h2 => by have h3 : w1.heap.size ≤ j := h1; have := N1.out; omega))).mono (Q := From w.heap.size) (fun j hj => by have h1 : w1.heap.size ≤ j := hj; have := N1.out; show w.heap.size ≤ j; omega)
  cases ok with
  | false =>
    go_wp2_with (first | (refine wpList_buildTo rfl 39 _ rfl (some 20) rfl _ built_ent0 ?_) | (refine wpList_storeE entTy _ _ rfl rfl rfl rfl KR.out zeroL_len zeroL_len zeroL_one ?_) | fail)
    intro w4 k4 ch4
    have K4 := Lib.hid k4
    have G4 := Lib.hid (Below.trans GA.out (ch4.below GA.out.size (fun j hj => by have : j = w.heap.size := hj; omega)))
    clear k4 ch4
    go_wp2
    exact bodyPost_ret (v := .tuple #[.agg zeroL.toArray, .int .i64 2]) (results_row2 (fn := Try.f5) entTy rfl _ _ rfl K4.out zeroL_len) rfl (NO.out (by simp) w4 K4.out G4.out)
  | true =>
    by_cases hbig : 4096 < l.length
    · have hi : (4096 : Int) < (l.length : Int) := by omega
      go_wp2_with (first | (refine wpList_buildTo rfl 39 _ rfl (some 20) rfl _ built_ent0 ?_) | (refine wpList_storeE entTy _ _ rfl rfl rfl rfl KR.out zeroL_len zeroL_len zeroL_one ?_) | fail)
      intro w4 k4 ch4
      have K4 := Lib.hid k4
      have G4 := Lib.hid (Below.trans GA.out (ch4.below GA.out.size (fun j hj => by have : j = w.heap.size := hj; omega)))
      clear k4 ch4
      go_wp2
      exact bodyPost_ret (v := .tuple #[.agg zeroL.toArray, .int .i64 2]) (results_row2 (fn := Try.f5) entTy rfl _ _ rfl K4.out zeroL_len) rfl (NO.out (by first | exact .inr hbig | (simp; omega)) w4 K4.out G4.out)
    · have hi : (l.length : Int) ≤ 4096 := by omega
      have YY := Lib.hid (YES.out (by simp; omega))
      go_wp2_with (first | (refine wpList_loadE entTy _ rfl rfl rfl K3.out HEN.out ?_) | (refine wpList_storeE entTy _ _ rfl rfl rfl rfl KR.out HEN.out zeroL_len HE1.out ?_) | fail)
      intro w4 k4 ch4
      have K4 := Lib.hid k4
      have C4 := Lib.hid ch4
      clear k4 ch4
      go_wp2
      exact bodyPost_ret (v := .tuple #[.agg E.toArray, .int .i64 0]) (results_row2 (fn := Try.f5) entTy rfl _ _ rfl K4.out HEN.out) rfl (YY.out w4 C4.out)
end Go.Proofs.Ytiemgmbjhllmbaa
end
