/-
  Package entry: what puts nodes, effects, items.
-/
import Derived.Test.YtiemgmbjhllmbaaYEnPut
set_option linter.unusedVariables false
set_option maxRecDepth 100000
namespace Go.Proofs.Ytiemgmbjhllmbaa
open Go.RowKit
theorem three_take (f : Nat → List UInt8) (a b c k : Nat) (hk : k < 3) (x : Nat) (hx : [a, b, c][k]? = some x) : ([a, b, c].take (k + 1)).flatMap f = ([a, b, c].take k).flatMap f ++ f x := by
  rw [List.take_add_one, hx, List.flatMap_append]; simp
set_option maxHeartbeats 2000000 in
theorem putNode_any (v : Value) (l : List UInt8) (x : NodeD) (dv : Value) (w : World) (hs : Sl w v (bytes l)) (hd : Sl w dv (bytes x.data)) (ok : NodeOk x) (hl : l.length + 61 + x.data.length ≤ 900000000) :
    Calls Try.prog 93 #[v, .agg (nodeCells x dv).toArray] w (RetSl w (l ++ nodeB x)) := by
  obtain ⟨da, ve, ki, ne, si, nn, ma, ch, tu⟩ := x
  obtain ⟨o1, o2, o3, o4, o5, o6, o7, o8⟩ := ok
  dsimp only at hd hl o1 o2 o3 o4 o5 o6 o7 o8
  obtain ⟨ad, cd, rfl⟩ := hd.oneCells
  show Calls Try.prog 93 #[v, .agg #[.slice ad (bytes da).length cd, .int .u32 (ve : Int), .int .u32 (ki : Int), .int .u32 (ne : Int), .int .i64 si, .int .u32 (nn : Int), .int .u64 (ma : Int), .int .u64 (ch : Int), .int .u64 (tu : Int)]] w (RetSl w (l ++ nodeB ⟨da, ve, ki, ne, si, nn, ma, ch, tu⟩))
  obtain ⟨w1, hbox⟩ : ∃ w1, w1 = w.alloc (.cells #[.slice ad (bytes da).length cd, .int .u32 (ve : Int), .int .u32 (ki : Int), .int .u32 (ne : Int), .int .i64 si, .int .u32 (nn : Int), .int .u64 (ma : Int), .int .u64 (ch : Int), .int .u64 (tu : Int)] 28) := ⟨_, rfl⟩
  have g1 : Gr w w1 := by rw [hbox]; exact (Gr.refl w).alloc _
  have k1 : CellsAt w1 w.heap.size [.slice ad (bytes da).length cd, .int .u32 (ve : Int), .int .u32 (ki : Int), .int .u32 (ne : Int), .int .i64 si, .int .u32 (nn : Int), .int .u64 (ma : Int), .int .u64 (ch : Int), .int .u64 (tu : Int)] 28 := by rw [hbox]; exact CellsAt.new _ _ _
  have T : Hid (∀ W, Gr w1 W → W.cell? ⟨w.heap.size, 0, none⟩ = some (.slice ad (bytes da).length cd) ∧ W.cell? ⟨w.heap.size, 1, none⟩ = some (.int .u32 (ve : Int)) ∧ W.cell? ⟨w.heap.size, 2, none⟩ = some (.int .u32 (ki : Int)) ∧ W.cell? ⟨w.heap.size, 3, none⟩ = some (.int .u32 (ne : Int)) ∧ W.cell? ⟨w.heap.size, 4, none⟩ = some (.int .i64 si) ∧ W.cell? ⟨w.heap.size, 5, none⟩ = some (.int .u32 (nn : Int)) ∧ W.cell? ⟨w.heap.size, 6, none⟩ = some (.int .u64 (ma : Int)) ∧ W.cell? ⟨w.heap.size, 7, none⟩ = some (.int .u64 (ch : Int)) ∧ W.cell? ⟨w.heap.size, 8, none⟩ = some (.int .u64 (tu : Int))) := Lib.hid fun W hW => ⟨(k1.gr hW).cell 0, (k1.gr hW).cell 1, (k1.gr hW).cell 2, (k1.gr hW).cell 3, (k1.gr hW).cell 4, (k1.gr hW).cell 5, (k1.gr hW).cell 6, (k1.gr hW).cell 7, (k1.gr hW).cell 8⟩
  have HW := Lib.hid hbox
  clear hbox
  have SD := Lib.hid (hd.below g1)
  have S1 := hs.below g1
  have G1 := Lib.hid g1
  have E1 : Hid (l ++ nodeB ⟨da, ve, ki, ne, si, nn, ma, ch, tu⟩ = l ++ textB da ++ [ve, ki, ne].flatMap (be 8) ++ sessB si nn ++ [ma, ch, tu].flatMap (be 8)) := Lib.hid (by simp [nodeB])
  rw [E1.out]
  have L0 : l.length ≤ 1000000000 := by omega
  have LD : da.length ≤ 1000000000 := by omega
  have w1v := wrap_nat64 ve (by omega)
  have w1k := wrap_nat64 ki (by omega)
  have w1n := wrap_nat64 ne (by omega)
  obtain ⟨a, c, rfl⟩ := hs.oneCells
  have c0 := (T.out w1 (Gr.refl _)).1
  clear k1 hs g1 hd
  go_enter Try.func93, Try.ntmps93
  go_wp2_with fail
  rw [← HW.out]
  refine (wtext _ _ l da _ S1 SD.out L0 LD).mono ?_
  rintro e w2 ⟨v2, rfl, s2, g2⟩
  have G2 := Lib.hid g2
  have S2 := Lib.hid s2
  have cc := T.out w2 g2
  have c1 := cc.2.1
  have c2 := cc.2.2.1
  have c3 := cc.2.2.2.1
  clear cc c0 S1 g2 s2
  go_wp2_with fail
  obtain ⟨w3, hw3⟩ : ∃ w3, w3 = w2.alloc (.cells #[.int .u32 (ve : Int), .int .u32 (ki : Int), .int .u32 (ne : Int)] 23) := ⟨_, rfl⟩
  rw [← hw3]
  have g3 : Gr w2 w3 := by rw [hw3]; exact (Gr.refl w2).alloc _
  have k3 : CellsAt w3 w2.heap.size [.int .u32 (ve : Int), .int .u32 (ki : Int), .int .u32 (ne : Int)] 23 := by rw [hw3]; exact CellsAt.new _ _ _
  have C3 : Hid (∀ W, Gr w3 W → ∀ k, k < 3 → ∃ x : Nat, [ve, ki, ne][k]? = some x ∧ x < 2 ^ 64 ∧ IntKind.u64.wrap (x : Int) = (x : Int) ∧ W.cell? ⟨w2.heap.size, k, none⟩ = some (.int .u32 (x : Int))) := Lib.hid fun W hW k hk => by
    rcases (by omega : k = 0 ∨ k = 1 ∨ k = 2) with rfl | rfl | rfl
    · exact ⟨ve, rfl, by omega, w1v, (k3.gr hW).cell 0⟩
    · exact ⟨ki, rfl, by omega, w1k, (k3.gr hW).cell 1⟩
    · exact ⟨ne, rfl, by omega, w1n, (k3.gr hW).cell 2⟩
  have G3 := Lib.hid (G2.out.trans g3)
  have S3 := Lib.hid (S2.out.below g3)
  clear hw3 g3 k3 S2 G2 c1 c2 c3 w1v w1k w1n
  generalize w2.heap.size = gf at *
  go_loopw [0, 6, 21] (fun u x i wr => ∃ k : Nat, k ≤ 3 ∧ i = .int .i64 k ∧ Sl wr u (bytes (l ++ textB da ++ ([ve, ki, ne].take k).flatMap (be 8))) ∧ Gr w3 wr) (fun _ _ i _ => 3 - (intOf i).toNat)
  case atStart => exact ⟨0, by decide, rfl, by simpa using S3.out, Gr.refl _⟩
  case round =>
    clear S3
    obtain ⟨k, hk, rfl, hs4, g4⟩ := hrel
    by_cases hlt : k < 3
    · obtain ⟨x, hx, hx64, hwr, hcell⟩ := C3.out wr g4 k hlt
      have e1 := three_take (be 8) ve ki ne k hlt x hx
      have HX := Lib.hid hx
      have L4 : (l ++ textB da ++ ([ve, ki, ne].take k).flatMap (be 8)).length ≤ 1000000000 := by
        rw [List.length_append, List.length_append, textB_length, flatBe_length, List.length_take]
        simp only [List.length_cons, List.length_nil]
        omega
      have F1 := Lib.hid e1
      clear e1 hx
      have i1 : (0 : Int) ≤ (k : Int) := by omega
      have i2 : (k : Int) < 3 := by omega
      go_wp2_with fail
      refine (wuint _ _ x _ hs4 L4 hx64).mono ?_
      rintro e w5 ⟨v5, rfl, s5, g5⟩
      have S5 : Hid (Sl w5 v5 (bytes (l ++ textB da ++ ([ve, ki, ne].take (k + 1)).flatMap (be 8)))) := Lib.hid (by rw [F1.out, ← List.append_assoc]; exact s5)
      have G5 := Lib.hid (g4.trans g5)
      clear s5 g5
      go_wp2
      go_roundw
      case rel => exact ⟨k + 1, by omega, by go_num, S5.out, G5.out⟩
      case measure => simp [intOf]; omega
    · obtain rfl : k = 3 := by omega
      rw [show [ve, ki, ne].take 3 = [ve, ki, ne] from rfl] at hs4
      have G4 := Lib.hid (G3.out.trans g4)
      have S4 := Lib.hid hs4
      have cc := T.out wr G4.out
      have c4 := cc.2.2.2.2.1
      have c5 := cc.2.2.2.2.2.1
      have L5 : (l ++ textB da ++ [ve, ki, ne].flatMap (be 8)).length ≤ 900000000 := by
        rw [List.length_append, List.length_append, textB_length, flatBe_length]
        simp only [List.length_cons, List.length_nil]
        omega
      clear cc hs4 g4 C3
      go_wp2_with fail
      refine (putSess_any _ _ si nn _ S4.out L5 o5).mono ?_
      rintro e w6 ⟨v6, rfl, s6, g6⟩
      have G6 := Lib.hid (G4.out.trans g6)
      have S6 := Lib.hid s6
      have cc := T.out w6 G6.out
      have c6 := cc.2.2.2.2.2.2.1
      have c7 := cc.2.2.2.2.2.2.2.1
      have c8 := cc.2.2.2.2.2.2.2.2
      clear cc s6 g6 c4 c5 S4 G4
      go_wp2_with fail
      obtain ⟨w7, hw7⟩ : ∃ w7, w7 = w6.alloc (.cells #[.int .u64 (ma : Int), .int .u64 (ch : Int), .int .u64 (tu : Int)] 26) := ⟨_, rfl⟩
      rw [← hw7]
      have g7 : Gr w6 w7 := by rw [hw7]; exact (Gr.refl w6).alloc _
      have k7 : CellsAt w7 w6.heap.size [.int .u64 (ma : Int), .int .u64 (ch : Int), .int .u64 (tu : Int)] 26 := by rw [hw7]; exact CellsAt.new _ _ _
      have C7 : Hid (∀ W, Gr w7 W → ∀ k, k < 3 → ∃ x : Nat, [ma, ch, tu][k]? = some x ∧ x < 2 ^ 64 ∧ W.cell? ⟨w6.heap.size, k, none⟩ = some (.int .u64 (x : Int))) := Lib.hid fun W hW k hk => by
        rcases (by omega : k = 0 ∨ k = 1 ∨ k = 2) with rfl | rfl | rfl
        · exact ⟨ma, rfl, o6, (k7.gr hW).cell 0⟩
        · exact ⟨ch, rfl, o7, (k7.gr hW).cell 1⟩
        · exact ⟨tu, rfl, o8, (k7.gr hW).cell 2⟩
      have G7 := Lib.hid (G1.out.trans (G6.out.trans g7))
      have S7 := Lib.hid (S6.out.below g7)
      clear hw7 g7 k7 S6 G6 c6 c7 c8 T SD
      generalize w6.heap.size = gh at *
      obtain ⟨wo, hwo⟩ : ∃ wo : World, wo = wr := ⟨_, rfl⟩
      clear hwo
      go_loopw [0, 8, 42] (fun u x i wr => ∃ k : Nat, k ≤ 3 ∧ i = .int .i64 k ∧ Sl wr u (bytes (l ++ textB da ++ [ve, ki, ne].flatMap (be 8) ++ sessB si nn ++ ([ma, ch, tu].take k).flatMap (be 8))) ∧ Gr w7 wr) (fun _ _ i _ => 3 - (intOf i).toNat)
      case atStart => exact ⟨0, by decide, rfl, by simpa using S7.out, Gr.refl _⟩
      case round =>
        clear S7
        obtain ⟨k, hk, rfl, hs8, g8⟩ := hrel
        by_cases hlt : k < 3
        · obtain ⟨x, hx, hx64, hcell⟩ := C7.out _ g8 k hlt
          have e1 := three_take (be 8) ma ch tu k hlt x hx
          have HX := Lib.hid hx
          have L8 : (l ++ textB da ++ [ve, ki, ne].flatMap (be 8) ++ sessB si nn ++ ([ma, ch, tu].take k).flatMap (be 8)).length ≤ 1000000000 := by
            rw [List.length_append, List.length_append, List.length_append, List.length_append, textB_length, flatBe_length, flatBe_length, sessB_length, List.length_take]
            simp only [List.length_cons, List.length_nil]
            omega
          have F1 := Lib.hid e1
          clear e1 hx
          have i1 : (0 : Int) ≤ (k : Int) := by omega
          have i2 : (k : Int) < 3 := by omega
          go_wp2_with fail
          refine (wuint _ _ x _ hs8 L8 hx64).mono ?_
          rintro e w9 ⟨v9, rfl, s9, g9⟩
          have S9 : Hid (Sl w9 v9 (bytes (l ++ textB da ++ [ve, ki, ne].flatMap (be 8) ++ sessB si nn ++ ([ma, ch, tu].take (k + 1)).flatMap (be 8)))) := Lib.hid (by rw [F1.out, ← List.append_assoc]; exact s9)
          have G9 := Lib.hid (g8.trans g9)
          clear s9 g9
          go_wp2
          go_roundw
          case rel => exact ⟨k + 1, by omega, by go_num, S9.out, G9.out⟩
          case measure => simp [intOf]; omega
        · obtain rfl : k = 3 := by omega
          rw [show [ma, ch, tu].take 3 = [ma, ch, tu] from rfl] at hs8
          have S8 := Lib.hid hs8
          have G8 := Lib.hid (G7.out.trans g8)
          clear hs8 g8 C7
          go_wp2
          go_ret
          exact ⟨_, rfl, S8.out, G8.out⟩
set_option maxHeartbeats 2000000 in
theorem putEff_any (v : Value) (l : List UInt8) (x : EffD) (dv : Value) (w : World) (hs : Sl w v (bytes l)) (hd : Sl w dv (bytes x.node.data)) (ok : EffOk x) (hl : l.length + 66 + x.path.length + x.node.data.length ≤ 900000000) :
    Calls Try.prog 78 #[v, .agg (effCells x dv).toArray] w (RetSl w (l ++ effB x)) := by
  obtain ⟨pa, go, nd⟩ := x
  have NODE := fun W v' l' hv hl' hd' => putNode_any v' l' nd dv W hv hd' ok hl'
  obtain ⟨ad, cd, rfl⟩ := hd.oneCells
  obtain ⟨da, ve, ki, ne, si, nn, ma, ch, tu⟩ := nd
  dsimp only at hd hl
  show Calls Try.prog 78 #[v, .agg #[.string ⟨pa.toArray⟩, .bool go, .slice ad (bytes da).length cd, .int .u32 (ve : Int), .int .u32 (ki : Int), .int .u32 (ne : Int), .int .i64 si, .int .u32 (nn : Int), .int .u64 (ma : Int), .int .u64 (ch : Int), .int .u64 (tu : Int)]] w (RetSl w (l ++ effB ⟨pa, go, ⟨da, ve, ki, ne, si, nn, ma, ch, tu⟩⟩))
  obtain ⟨w1, hbox⟩ : ∃ w1, w1 = w.alloc (.cells #[.string ⟨pa.toArray⟩, .bool go, .slice ad (bytes da).length cd, .int .u32 (ve : Int), .int .u32 (ki : Int), .int .u32 (ne : Int), .int .i64 si, .int .u32 (nn : Int), .int .u64 (ma : Int), .int .u64 (ch : Int), .int .u64 (tu : Int)] 31) := ⟨_, rfl⟩
  have g1 : Gr w w1 := by rw [hbox]; exact (Gr.refl w).alloc _
  have k1 : CellsAt w1 w.heap.size [.string ⟨pa.toArray⟩, .bool go, .slice ad (bytes da).length cd, .int .u32 (ve : Int), .int .u32 (ki : Int), .int .u32 (ne : Int), .int .i64 si, .int .u32 (nn : Int), .int .u64 (ma : Int), .int .u64 (ch : Int), .int .u64 (tu : Int)] 31 := by rw [hbox]; exact CellsAt.new _ _ _
  have T : Hid (∀ W, Gr w1 W → W.cell? ⟨w.heap.size, 0, none⟩ = some (.string ⟨pa.toArray⟩) ∧ W.cell? ⟨w.heap.size, 1, none⟩ = some (.bool go) ∧ W.cell? ⟨w.heap.size, 2, none⟩ = some (.slice ad (bytes da).length cd) ∧ W.cell? ⟨w.heap.size, 3, none⟩ = some (.int .u32 (ve : Int)) ∧ W.cell? ⟨w.heap.size, 4, none⟩ = some (.int .u32 (ki : Int)) ∧ W.cell? ⟨w.heap.size, 5, none⟩ = some (.int .u32 (ne : Int)) ∧ W.cell? ⟨w.heap.size, 6, none⟩ = some (.int .i64 si) ∧ W.cell? ⟨w.heap.size, 7, none⟩ = some (.int .u32 (nn : Int)) ∧ W.cell? ⟨w.heap.size, 8, none⟩ = some (.int .u64 (ma : Int)) ∧ W.cell? ⟨w.heap.size, 9, none⟩ = some (.int .u64 (ch : Int)) ∧ W.cell? ⟨w.heap.size, 10, none⟩ = some (.int .u64 (tu : Int))) := Lib.hid fun W hW => ⟨(k1.gr hW).cell 0, (k1.gr hW).cell 1, (k1.gr hW).cell 2, (k1.gr hW).cell 3, (k1.gr hW).cell 4, (k1.gr hW).cell 5, (k1.gr hW).cell 6, (k1.gr hW).cell 7, (k1.gr hW).cell 8, (k1.gr hW).cell 9, (k1.gr hW).cell 10⟩
  have HW := Lib.hid hbox
  clear hbox
  have S1 := Lib.hid (hs.below g1)
  have SD := Lib.hid (hd.below g1)
  have G1 := Lib.hid g1
  have NO := Lib.hid NODE
  have GD : Hid (Gr w1 w1.drew) := Lib.hid ((Gr.refl w1).drew)
  have L0 : l.length ≤ 1000000000 := by omega
  have LP : pa.length ≤ 1000000000 := by omega
  have L1 : (l ++ textB pa).length ≤ 1000000000 := by rw [List.length_append, textB_length]; omega
  have L2 : (l ++ (textB pa ++ flagB go)).length + 61 + da.length ≤ 900000000 := by rw [List.length_append, List.length_append, textB_length, flagB_length]; omega
  obtain ⟨a, c, rfl⟩ := hs.oneCells
  clear k1 hs g1 hd NODE ok
  cases go with
  | true =>
    have E1 : Hid (effB ⟨pa, true, ⟨da, ve, ki, ne, si, nn, ma, ch, tu⟩⟩ = textB pa ++ flagB true) := Lib.hid (by simp [effB])
    rw [E1.out]
    go_enter Try.func78, Try.ntmps78
    go_wp2_with fail
    rw [← HW.out]
    apply wp_region_draw_grow (.eq _ :: .eq _ :: .eq _ :: .ok (fun v W => Sl W v (bytes pa)) :: .ok (fun v W => Sl W v (bytes (l ++ textB pa))) :: .eq _ :: .eq _ :: .ok (fun v W => Sl W v (bytes (l ++ (textB pa ++ flagB true)))) :: .ok (fun v W => Sl W v (bytes (l ++ (textB pa ++ flagB true)))) :: []) (by kernel_rfl) (by kernel_rfl) ⟨mono_sl _, mono_sl _, mono_sl _, mono_sl _, trivial⟩
    iterate 3
     apply wpG_eq
     · intro W hW hs
       obtain ⟨c0, c1, c2, c3, c4, c5, c6, c7, c8, c9, c10⟩ := T.out W (GD.out.trans hW)
       unfold opG
       go_simp
       first | exact resG_eq_mk _ _ _ | rfl
     simp only [Act.put, pt1, pt2, pt3]
    apply wpG_ok
    · intro W hW hs
      obtain ⟨c0, c1, c2, c3, c4, c5, c6, c7, c8, c9, c10⟩ := T.out W (GD.out.trans hW)
      obtain ⟨vb, wb, hrb, sb, gb⟩ := run_bytes_sl (P := Try.prog) W 9 22 5 pa Try.underlying9 Try.underlying22 Try.underlying5
      unfold opG
      go_simp
      exact resG_mk gb sb
    intro v3
    simp only [Act.put, pt1, pt2, pt3]
    apply wpG_ok
    · intro W hW hs
      obtain sp := hs _ (.head _) (by rfl)
      obtain ⟨c0, c1, c2, c3, c4, c5, c6, c7, c8, c9, c10⟩ := T.out W (GD.out.trans hW)
      unfold opG
      go_simp
      refine resG_call ((wtext _ _ l pa _ (S1.out.below (GD.out.trans hW)) sp L0 LP).mono ?_)
      rintro e W2 ⟨v2, rfl, s2, g2⟩
      exact ⟨_, rfl, g2, by simpa only [List.append_assoc] using s2⟩
    intro v4
    simp only [Act.put, pt1, pt2, pt3]
    iterate 2
     apply wpG_eq
     · intro W hW hs
       obtain ⟨c0, c1, c2, c3, c4, c5, c6, c7, c8, c9, c10⟩ := T.out W (GD.out.trans hW)
       unfold opG
       go_simp
       first | exact resG_eq_mk _ _ _ | rfl
     simp only [Act.put, pt1, pt2, pt3]
    apply wpG_ok
    · intro W hW hs
      obtain s1 := hs _ (.head _) (by rfl)
      obtain ⟨c0, c1, c2, c3, c4, c5, c6, c7, c8, c9, c10⟩ := T.out W (GD.out.trans hW)
      unfold opG
      go_simp
      refine resG_call ((flag_any _ _ true _ s1 L1).mono ?_)
      rintro e W2 ⟨v2, rfl, s2, g2⟩
      exact ⟨_, rfl, g2, by simpa only [List.append_assoc] using s2⟩
    intro v7
    simp only [Act.put, pt1, pt2, pt3]
    apply wpG_ok
    · intro W hW hs
      obtain s1 := hs _ (.head _) (by rfl)
      obtain ⟨c0, c1, c2, c3, c4, c5, c6, c7, c8, c9, c10⟩ := T.out W (GD.out.trans hW)
      unfold opG
      go_simp
      exact resG_mk (Gr.refl _) s1
    intro v8
    simp only [Act.put, pt1, pt2]
    apply wpG_nil
    intro W9 hW9 hsAll
    obtain s9 := hsAll _ (.head _)
    clear hsAll
    have GA := Lib.hid (GD.out.trans hW9)
    have SA := Lib.hid s9
    have c1 := (T.out W9 GA.out).2.1
    clear hW9 s9 S1
    go_wp2
    go_ret
    exact ⟨_, rfl, SA.out, G1.out.trans GA.out⟩
  | false =>
    have E1 : Hid (effB ⟨pa, false, ⟨da, ve, ki, ne, si, nn, ma, ch, tu⟩⟩ = textB pa ++ flagB false ++ nodeB ⟨da, ve, ki, ne, si, nn, ma, ch, tu⟩) := Lib.hid (by simp [effB])
    rw [E1.out]
    go_enter Try.func78, Try.ntmps78
    go_wp2_with fail
    rw [← HW.out]
    apply wp_region_draw_grow (.eq _ :: .eq _ :: .eq _ :: .ok (fun v W => Sl W v (bytes pa)) :: .ok (fun v W => Sl W v (bytes (l ++ textB pa))) :: .eq _ :: .eq _ :: .ok (fun v W => Sl W v (bytes (l ++ (textB pa ++ flagB false)))) :: .ok (fun v W => Sl W v (bytes (l ++ (textB pa ++ flagB false)))) :: []) (by kernel_rfl) (by kernel_rfl) ⟨mono_sl _, mono_sl _, mono_sl _, mono_sl _, trivial⟩
    iterate 3
     apply wpG_eq
     · intro W hW hs
       obtain ⟨c0, c1, c2, c3, c4, c5, c6, c7, c8, c9, c10⟩ := T.out W (GD.out.trans hW)
       unfold opG
       go_simp
       first | exact resG_eq_mk _ _ _ | rfl
     simp only [Act.put, pt1, pt2, pt3]
    apply wpG_ok
    · intro W hW hs
      obtain ⟨c0, c1, c2, c3, c4, c5, c6, c7, c8, c9, c10⟩ := T.out W (GD.out.trans hW)
      obtain ⟨vb, wb, hrb, sb, gb⟩ := run_bytes_sl (P := Try.prog) W 9 22 5 pa Try.underlying9 Try.underlying22 Try.underlying5
      unfold opG
      go_simp
      exact resG_mk gb sb
    intro v3
    simp only [Act.put, pt1, pt2, pt3]
    apply wpG_ok
    · intro W hW hs
      obtain sp := hs _ (.head _) (by rfl)
      obtain ⟨c0, c1, c2, c3, c4, c5, c6, c7, c8, c9, c10⟩ := T.out W (GD.out.trans hW)
      unfold opG
      go_simp
      refine resG_call ((wtext _ _ l pa _ (S1.out.below (GD.out.trans hW)) sp L0 LP).mono ?_)
      rintro e W2 ⟨v2, rfl, s2, g2⟩
      exact ⟨_, rfl, g2, by simpa only [List.append_assoc] using s2⟩
    intro v4
    simp only [Act.put, pt1, pt2, pt3]
    iterate 2
     apply wpG_eq
     · intro W hW hs
       obtain ⟨c0, c1, c2, c3, c4, c5, c6, c7, c8, c9, c10⟩ := T.out W (GD.out.trans hW)
       unfold opG
       go_simp
       first | exact resG_eq_mk _ _ _ | rfl
     simp only [Act.put, pt1, pt2, pt3]
    apply wpG_ok
    · intro W hW hs
      obtain s1 := hs _ (.head _) (by rfl)
      obtain ⟨c0, c1, c2, c3, c4, c5, c6, c7, c8, c9, c10⟩ := T.out W (GD.out.trans hW)
      unfold opG
      go_simp
      refine resG_call ((flag_any _ _ false _ s1 L1).mono ?_)
      rintro e W2 ⟨v2, rfl, s2, g2⟩
      exact ⟨_, rfl, g2, by simpa only [List.append_assoc] using s2⟩
    intro v7
    simp only [Act.put, pt1, pt2, pt3]
    apply wpG_ok
    · intro W hW hs
      obtain s1 := hs _ (.head _) (by rfl)
      obtain ⟨c0, c1, c2, c3, c4, c5, c6, c7, c8, c9, c10⟩ := T.out W (GD.out.trans hW)
      unfold opG
      go_simp
      exact resG_mk (Gr.refl _) s1
    intro v8
    simp only [Act.put, pt1, pt2]
    apply wpG_nil
    intro W9 hW9 hsAll
    obtain s9 := hsAll _ (.head _)
    clear hsAll
    have GA := Lib.hid (GD.out.trans hW9)
    have SA := Lib.hid s9
    obtain ⟨c0, c1, c2, c3, c4, c5, c6, c7, c8, c9, c10⟩ := T.out W9 GA.out
    clear hW9 s9 S1
    go_wp2_with fail
    refine (NO.out _ _ _ SA.out L2 (SD.out.below GA.out)).mono ?_
    rintro e w2 ⟨v2, rfl, s2, g2⟩
    have S2 : Hid (Sl w2 v2 (bytes (l ++ (textB pa ++ flagB false ++ nodeB ⟨da, ve, ki, ne, si, nn, ma, ch, tu⟩)))) := Lib.hid (by rw [← List.append_assoc]; exact s2)
    have G2 := Lib.hid (G1.out.trans (GA.out.trans g2))
    clear s2 g2
    go_wp2
    go_ret
    exact ⟨_, rfl, S2.out, G2.out⟩
theorem effsFlat_le (es : List EffD) (k : Nat) (hk : k < es.length) : ((es.take k).flatMap effB).length + (effB es[k]).length ≤ (es.flatMap effB).length := by
  have h := congrArg (fun l => (List.flatMap effB l).length) (List.take_append_drop (k + 1) es)
  simp only [List.flatMap_append, List.length_append] at h
  rw [List.take_add_one, List.getElem?_eq_getElem hk, List.flatMap_append, List.length_append] at h
  simp only [Option.toList_some, List.flatMap_cons, List.flatMap_nil, List.append_nil] at h
  omega
theorem effsFlat_ge (es : List EffD) : es.length ≤ (es.flatMap effB).length := by
  induction es with
  | nil => simp
  | cons e l ih => rw [List.flatMap_cons, List.length_append, List.length_cons, effB_length]; omega
/-- How much there is of what is not put, too. -/
def effW (e : EffD) : Nat := 66 + e.path.length + e.node.data.length
set_option maxHeartbeats 1000000 in
theorem listE_any (w0 : World) (ev : Value) (es : List EffD) (hp : EffsP Any w0 ev es) (ok : ∀ e ∈ es, EffOk e) (hw : ∀ e ∈ es, effW e ≤ 100000000)
    (w : World) (v : Value) (l : List UInt8) (hg0 : Gr w0 w) (hs : Sl w v (bytes l)) (hl : l.length + 8 + (es.flatMap effB).length ≤ 800000000) :
    Calls Try.prog 77 #[v, ev, .func (.func 78) #[] #[]] w (RetSl w (l ++ (be 8 es.length ++ es.flatMap effB))) := by
  obtain ⟨a, cap, rfl⟩ := hp.shape
  have HP := Lib.hid hp
  have OK := Lib.hid ok
  have HWW := Lib.hid hw
  have hge := effsFlat_ge es
  have hwl := wrap_nat64 es.length (by omega)
  have hl8 : l.length ≤ 1000000000 := by omega
  have hn8 : es.length < 2 ^ 64 := by omega
  have H0 := Lib.hid hg0
  clear hp hg0 ok hw
  go_enter Try.func77, Try.ntmps77
  go_wp2_with fail
  refine (wuint _ l es.length _ hs hl8 hn8).mono ?_
  rintro e w1 ⟨v1, rfl, s1, g1⟩
  go_wp2_with fail
  go_loopw [0, 8, 16] (fun u x i wr => ∃ k : Nat, k ≤ es.length ∧ i = .int .i64 k ∧ Sl wr u (bytes (l ++ be 8 es.length ++ (es.take k).flatMap effB)) ∧ Gr w wr) (fun _ _ i _ => es.length - (intOf i).toNat)
  case atStart => exact ⟨0, Nat.zero_le _, rfl, by simpa using s1, g1⟩
  case round =>
    clear s1 g1
    obtain ⟨k, hk, rfl, hs2, hg⟩ := hrel
    obtain ⟨wo, rfl⟩ : ∃ wo : World, wo = wr := ⟨_, rfl⟩
    by_cases hlt : k < es.length
    · obtain ⟨B, o, c, dv, e0, hB, hdv, hcell⟩ := HP.out.at k hlt
      injection e0 with e1 _ e3
      subst e1 e3
      have hgg := H0.out.trans hg
      have cell : ∀ j u, j < 11 → (effCells es[k] dv)[j]? = some u → wo.cell? ⟨B, o + k * 11 + j, none⟩ = some u := fun j u hj hu => (hgg.cell (p := ⟨B, o + k * 11 + j, none⟩) hB).trans (hcell j u hj hu)
      have e1 : l ++ be 8 es.length ++ (es.take k).flatMap effB ++ effB es[k] = l ++ be 8 es.length ++ (es.take (k + 1)).flatMap effB := by
        rw [List.take_add_one, List.getElem?_eq_getElem hlt, List.flatMap_append]; simp
      have hle := effsFlat_le es k hlt
      have hwk := HWW.out _ (List.getElem_mem hlt)
      have hl9 : (l ++ be 8 es.length ++ (es.take k).flatMap effB).length + 66 + es[k].path.length + es[k].node.data.length ≤ 900000000 := by
        unfold effW at hwk
        rw [List.length_append, List.length_append, be_length]
        omega
      have PUT := fun (W : World) (v' : Value) (hv : Sl W v' (bytes (l ++ be 8 es.length ++ (es.take k).flatMap effB))) (hd : Sl W dv (bytes es[k].node.data)) => putEff_any v' (l ++ be 8 es.length ++ (es.take k).flatMap effB) es[k] dv W hv hd (OK.out _ (List.getElem_mem hlt)) hl9
      have sh := hdv.1.oneCells
      have SD := hdv.1.below hgg
      have E1 := Lib.hid e1
      obtain ⟨x, hx⟩ : ∃ x, x = es[k] := ⟨_, rfl⟩
      rw [← hx] at cell PUT E1 SD sh
      clear e1 hle hwk hl9 hcell hx hdv
      obtain ⟨pa, go, ⟨da, ve, ki, ne, si, nn, ma, ch, tu⟩⟩ := x
      have c0 := cell 0 _ (by decide) rfl
      have c1 := cell 1 _ (by decide) rfl
      have c2 := cell 2 _ (by decide) rfl
      have c3 := cell 3 _ (by decide) rfl
      have c4 := cell 4 _ (by decide) rfl
      have c5 := cell 5 _ (by decide) rfl
      have c6 := cell 6 _ (by decide) rfl
      have c7 := cell 7 _ (by decide) rfl
      have c8 := cell 8 _ (by decide) rfl
      have c9 := cell 9 _ (by decide) rfl
      have c10 := cell 10 _ (by decide) rfl
      obtain ⟨ad, cd, rfl⟩ := sh
      simp only [Nat.add_zero] at c0
      have i1 : (0 : Int) ≤ (k : Int) := by omega
      have i2 : (k : Int) < (es.length : Int) := by omega
      have PU := Lib.hid PUT
      have SD2 := Lib.hid SD
      clear cell PUT SD
      go_wp2_with fail
      refine (PU.out _ _ (hs2.below ((Gr.refl wo).alloc _)) (SD2.out.below ((Gr.refl wo).alloc _))).mono ?_
      rintro e w2 ⟨v2, rfl, s2, g2⟩
      rw [E1.out] at s2
      have S2 := Lib.hid s2
      have G2 := Lib.hid (hg.trans (((Gr.refl wo).alloc _).trans g2))
      clear s2 g2
      go_wp2
      go_roundw
      case rel => exact ⟨k + 1, by omega, by go_num, S2.out, G2.out⟩
      case measure => simp [intOf]; omega
    · obtain rfl : k = es.length := by omega
      rw [List.take_of_length_le (Nat.le_refl _)] at hs2
      have S2 := Lib.hid hs2
      clear hs2
      go_wp2
      go_ret
      exact ⟨_, rfl, by rw [← List.append_assoc]; exact S2.out, hg⟩
/-- An item of no more than so much. -/
def ItemFit (x : ItemD) : Prop := (itemB x).length ≤ 100000000 ∧ ∀ e ∈ x.effs, effW e ≤ 100000000
theorem itemB_length (x : ItemD) : (itemB x).length = 49 + x.stamp.length * 8 + (x.effs.flatMap effB).length := by
  unfold itemB
  rw [List.length_append, List.length_append, List.length_append, List.length_append, List.length_append, List.length_append, List.length_append, be_length, be_length, be_length, be_length, be_length, be_length, stampB_length]
  omega
set_option maxHeartbeats 2000000 in
theorem putItem_any (v : Value) (l : List UInt8) (x : ItemD) (sv ev : Value) (w : World) (hs : Sl w v (bytes l)) (hp : ItemP Any w x sv ev) (ok : ItemOk x) (hf : ItemFit x) (hl : l.length ≤ 600000000) :
    Calls Try.prog 34 #[v, .agg (itemCells x sv ev).toArray] w (RetSl w (l ++ itemB x)) := by
  obtain ⟨hf1, hf2⟩ := hf
  rw [itemB_length] at hf1
  obtain ⟨ori, seq, reg, epo, st, es, clo⟩ := x
  obtain ⟨o1, o2, o3, o4, o5, o6, o7⟩ := ok
  dsimp only at o1 o2 o3 o4 o5 o6 o7 hf1 hf2
  obtain ⟨hst, hev⟩ := hp
  dsimp only at hst hev
  have LIST := fun W hW v' l' hv hl' => listE_any w ev es hev o6 hf2 W v' l' hW hv hl'
  obtain ⟨sa, sc, rfl⟩ := hst.1.oneCells
  obtain ⟨ae, ce, rfl⟩ := hev.shape
  show Calls Try.prog 34 #[v, .agg #[.int .i64 ori, .int .u64 (seq : Int), .int .i64 reg, .int .u64 (epo : Int), .slice sa (nums st).length sc, .slice ae es.length ce, .int .u32 (clo : Int)]] w (RetSl w (l ++ itemB ⟨ori, seq, reg, epo, st, es, clo⟩))
  obtain ⟨w1, hbox⟩ : ∃ w1, w1 = w.alloc (.cells #[.int .i64 ori, .int .u64 (seq : Int), .int .i64 reg, .int .u64 (epo : Int), .slice sa (nums st).length sc, .slice ae es.length ce, .int .u32 (clo : Int)] 34) := ⟨_, rfl⟩
  have g1 : Gr w w1 := by rw [hbox]; exact (Gr.refl w).alloc _
  have k1 : CellsAt w1 w.heap.size [.int .i64 ori, .int .u64 (seq : Int), .int .i64 reg, .int .u64 (epo : Int), .slice sa (nums st).length sc, .slice ae es.length ce, .int .u32 (clo : Int)] 34 := by rw [hbox]; exact CellsAt.new _ _ _
  have T : Hid (∀ W, Gr w1 W → W.cell? ⟨w.heap.size, 0, none⟩ = some (.int .i64 ori) ∧ W.cell? ⟨w.heap.size, 1, none⟩ = some (.int .u64 (seq : Int)) ∧ W.cell? ⟨w.heap.size, 2, none⟩ = some (.int .i64 reg) ∧ W.cell? ⟨w.heap.size, 3, none⟩ = some (.int .u64 (epo : Int)) ∧ W.cell? ⟨w.heap.size, 4, none⟩ = some (.slice sa (nums st).length sc) ∧ W.cell? ⟨w.heap.size, 5, none⟩ = some (.slice ae es.length ce) ∧ W.cell? ⟨w.heap.size, 6, none⟩ = some (.int .u32 (clo : Int))) := Lib.hid fun W hW => ⟨(k1.gr hW).cell 0, (k1.gr hW).cell 1, (k1.gr hW).cell 2, (k1.gr hW).cell 3, (k1.gr hW).cell 4, (k1.gr hW).cell 5, (k1.gr hW).cell 6⟩
  have HW := Lib.hid hbox
  clear hbox
  have E1 : Hid (itemB ⟨ori, seq, reg, epo, st, es, clo⟩ = be 1 (byteOf ori) ++ (be 8 seq ++ (be 8 (u64 reg) ++ (be 8 epo ++ (stampB st ++ (be 8 es.length ++ (es.flatMap effB ++ be 8 clo))))))) := Lib.hid (by simp [itemB])
  rw [E1.out]
  have HLI := Lib.hid LIST
  have S1 := Lib.hid (hs.below g1)
  have SV := Lib.hid (hst.1.below g1)
  have O5 := Lib.hid o5
  have G1 := Lib.hid g1
  have GD : Hid (Gr w1 w1.drew) := Lib.hid ((Gr.refl w1).drew)
  have HB := Lib.hid (wrap_byte ori)
  have hb := byteOf_lt ori
  have o7' : clo < 2 ^ 64 := by omega
  have HCL := Lib.hid (wrap_nat64 clo o7')
  have L0 : l.length ≤ 1000000000 := by omega
  have L1 : (l ++ be 1 (byteOf ori)).length ≤ 1000000000 := by simp only [List.length_append, be_length]; omega
  have L2 : (l ++ (be 1 (byteOf ori) ++ be 8 seq)).length ≤ 1000000000 := by simp only [List.length_append, be_length]; omega
  have L3 : (l ++ (be 1 (byteOf ori) ++ (be 8 seq ++ be 8 (u64 reg)))).length ≤ 1000000000 := by simp only [List.length_append, be_length]; omega
  have L4 : (l ++ (be 1 (byteOf ori) ++ (be 8 seq ++ (be 8 (u64 reg) ++ be 8 epo)))).length ≤ 1000000000 := by simp only [List.length_append, be_length]; omega
  have L4' : (l ++ (be 1 (byteOf ori) ++ (be 8 seq ++ (be 8 (u64 reg) ++ be 8 epo)))).length + 8 + st.length * 8 ≤ 900000000 := by simp only [List.length_append, be_length]; omega
  have L5 : (l ++ (be 1 (byteOf ori) ++ (be 8 seq ++ (be 8 (u64 reg) ++ (be 8 epo ++ stampB st))))).length + 8 + (es.flatMap effB).length ≤ 800000000 := by simp only [List.length_append, be_length, stampB_length]; omega
  have L7 : (l ++ (be 1 (byteOf ori) ++ (be 8 seq ++ (be 8 (u64 reg) ++ (be 8 epo ++ (stampB st ++ (be 8 es.length ++ es.flatMap effB))))))).length ≤ 1000000000 := by rw [List.length_append, List.length_append, List.length_append, List.length_append, List.length_append, List.length_append, List.length_append, be_length, be_length, be_length, be_length, be_length, stampB_length]; omega
  obtain ⟨a, c, rfl⟩ := hs.oneCells
  clear k1 hs g1 hst hev LIST o5 o6 hf2
  go_enter Try.func34, Try.ntmps34
  go_wp2_with fail
  rw [← HW.out]
  apply wp_region_draw_grow (.eq _ :: .eq _ :: .eq _ :: .eq _ :: .ok (fun v W => Sl W v (bytes (l ++ be 1 (byteOf ori)))) :: .eq _ :: .eq _ :: .ok (fun v W => Sl W v (bytes (l ++ (be 1 (byteOf ori) ++ be 8 seq)))) :: .ok (fun v W => Sl W v (bytes (l ++ (be 1 (byteOf ori) ++ be 8 seq)))) :: []) (by kernel_rfl) (by kernel_rfl) ⟨mono_sl _, mono_sl _, mono_sl _, trivial⟩
  iterate 3
   apply wpG_eq
   · intro W hW hs
     obtain ⟨c0, c1, c2, c3, c4, c5, c6⟩ := T.out W (GD.out.trans hW)
     unfold opG
     go_simp
     first | exact resG_eq_mk _ _ _ | rfl
   simp only [Act.put, pt1, pt2, pt3]
  apply wpG_eq
  · intro W hW hs
    obtain ⟨c0, c1, c2, c3, c4, c5, c6⟩ := T.out W (GD.out.trans hW)
    have hB := HB.out
    unfold opG
    go_simp
    first | exact resG_eq_mk _ _ _ | rfl
  simp only [Act.put, pt1, pt2, pt3]
  apply wpG_ok
  · intro W hW hs
    obtain ⟨c0, c1, c2, c3, c4, c5, c6⟩ := T.out W (GD.out.trans hW)
    unfold opG
    go_simp
    refine resG_call ((wbyte _ l (byteOf ori) _ (S1.out.below (GD.out.trans hW)) L0 hb).mono ?_)
    rintro e W2 ⟨v2, rfl, s2, g2⟩
    exact ⟨_, rfl, g2, by simpa only [List.append_assoc] using s2⟩
  intro v4
  simp only [Act.put, pt1, pt2, pt3]
  iterate 2
   apply wpG_eq
   · intro W hW hs
     obtain ⟨c0, c1, c2, c3, c4, c5, c6⟩ := T.out W (GD.out.trans hW)
     unfold opG
     go_simp
     first | exact resG_eq_mk _ _ _ | rfl
   simp only [Act.put, pt1, pt2, pt3]
  apply wpG_ok
  · intro W hW hs
    obtain s1 := hs _ (.head _) (by rfl)
    obtain ⟨c0, c1, c2, c3, c4, c5, c6⟩ := T.out W (GD.out.trans hW)
    unfold opG
    go_simp
    refine resG_call ((wuint _ _ seq _ s1 L1 o2).mono ?_)
    rintro e W2 ⟨v2, rfl, s2, g2⟩
    exact ⟨_, rfl, g2, by simpa only [List.append_assoc] using s2⟩
  intro v7
  simp only [Act.put, pt1, pt2, pt3]
  apply wpG_ok
  · intro W hW hs
    obtain s1 := hs _ (.head _) (by rfl)
    obtain ⟨c0, c1, c2, c3, c4, c5, c6⟩ := T.out W (GD.out.trans hW)
    unfold opG
    go_simp
    exact resG_mk (Gr.refl _) s1
  intro v9
  simp only [Act.put, pt1, pt2]
  apply wpG_nil
  intro W9 hW9 hsAll
  obtain s9 := hsAll _ (.head _)
  clear hsAll
  have GA : Hid (Gr w1 W9) := Lib.hid (GD.out.trans hW9)
  have GB : Hid (Gr w1 W9.drew) := Lib.hid (GA.out.trans ((Gr.refl W9).drew))
  have SA : Hid (Sl W9.drew v9 (bytes (l ++ (be 1 (byteOf ori) ++ be 8 seq)))) := Lib.hid (s9.below ((Gr.refl W9).drew))
  clear hW9 s9 S1
  go_wp2_with fail
  apply wp_region_draw_grow (.eq _ :: .eq _ :: .eq _ :: .ok (fun v W => Sl W v (bytes (l ++ (be 1 (byteOf ori) ++ (be 8 seq ++ be 8 (u64 reg)))))) :: .eq _ :: .eq _ :: .ok (fun v W => Sl W v (bytes (l ++ (be 1 (byteOf ori) ++ (be 8 seq ++ (be 8 (u64 reg) ++ be 8 epo)))))) :: .eq _ :: .eq _ :: .ok (fun v W => Sl W v (bytes (l ++ (be 1 (byteOf ori) ++ (be 8 seq ++ (be 8 (u64 reg) ++ (be 8 epo ++ stampB st))))))) :: .ok (fun v W => Sl W v (bytes (l ++ (be 1 (byteOf ori) ++ (be 8 seq ++ (be 8 (u64 reg) ++ (be 8 epo ++ stampB st))))))) :: []) (by kernel_rfl) (by kernel_rfl) ⟨mono_sl _, mono_sl _, mono_sl _, mono_sl _, trivial⟩
  iterate 3
   apply wpG_eq
   · intro W hW hs
     obtain ⟨c0, c1, c2, c3, c4, c5, c6⟩ := T.out W (GB.out.trans hW)
     unfold opG
     go_simp
     first | exact resG_eq_mk _ _ _ | rfl
   simp only [Act.put, pt1, pt2, pt3]
  apply wpG_ok
  · intro W hW hs
    obtain ⟨c0, c1, c2, c3, c4, c5, c6⟩ := T.out W (GB.out.trans hW)
    unfold opG
    go_simp
    refine resG_call ((wint _ _ reg _ (SA.out.below hW) L2).mono ?_)
    rintro e W2 ⟨v2, rfl, s2, g2⟩
    exact ⟨_, rfl, g2, by simpa only [List.append_assoc] using s2⟩
  intro v3
  simp only [Act.put, pt1, pt2, pt3]
  iterate 2
   apply wpG_eq
   · intro W hW hs
     obtain ⟨c0, c1, c2, c3, c4, c5, c6⟩ := T.out W (GB.out.trans hW)
     unfold opG
     go_simp
     first | exact resG_eq_mk _ _ _ | rfl
   simp only [Act.put, pt1, pt2, pt3]
  apply wpG_ok
  · intro W hW hs
    obtain s1 := hs _ (.head _) (by rfl)
    obtain ⟨c0, c1, c2, c3, c4, c5, c6⟩ := T.out W (GB.out.trans hW)
    unfold opG
    go_simp
    refine resG_call ((wuint _ _ epo _ s1 L3 o4).mono ?_)
    rintro e W2 ⟨v2, rfl, s2, g2⟩
    exact ⟨_, rfl, g2, by simpa only [List.append_assoc] using s2⟩
  intro v6
  simp only [Act.put, pt1, pt2, pt3]
  iterate 2
   apply wpG_eq
   · intro W hW hs
     obtain ⟨c0, c1, c2, c3, c4, c5, c6⟩ := T.out W (GB.out.trans hW)
     unfold opG
     go_simp
     first | exact resG_eq_mk _ _ _ | rfl
   simp only [Act.put, pt1, pt2, pt3]
  apply wpG_ok
  · intro W hW hs
    obtain s1 := hs _ (.head _) (by rfl)
    obtain ⟨c0, c1, c2, c3, c4, c5, c6⟩ := T.out W (GB.out.trans hW)
    unfold opG
    go_simp
    refine resG_call ((putStamp_any _ _ _ st _ s1 (SV.out.below (GB.out.trans hW)) O5.out L4').mono ?_)
    rintro e W2 ⟨v2, rfl, s2, g2⟩
    exact ⟨_, rfl, g2, by simpa only [List.append_assoc] using s2⟩
  intro v9
  simp only [Act.put, pt1, pt2, pt3]
  apply wpG_ok
  · intro W hW hs
    obtain s1 := hs _ (.head _) (by rfl)
    obtain ⟨c0, c1, c2, c3, c4, c5, c6⟩ := T.out W (GB.out.trans hW)
    unfold opG
    go_simp
    exact resG_mk (Gr.refl _) s1
  intro u9
  simp only [Act.put, pt1, pt2]
  apply wpG_nil
  intro W8 hW9 hsAll
  obtain s9 := hsAll _ (.head _)
  clear hsAll
  have GC : Hid (Gr w1 W8) := Lib.hid (GB.out.trans hW9)
  have GE : Hid (Gr w1 W8.drew) := Lib.hid (GC.out.trans ((Gr.refl W8).drew))
  have SB : Hid (Sl W8.drew u9 (bytes (l ++ (be 1 (byteOf ori) ++ (be 8 seq ++ (be 8 (u64 reg) ++ (be 8 epo ++ stampB st))))))) := Lib.hid (s9.below ((Gr.refl W8).drew))
  clear hW9 s9 SA
  go_wp2_with fail
  apply wp_region_draw_grow (.eq _ :: .eq _ :: .eq _ :: .ok (fun v W => Sl W v (bytes (l ++ (be 1 (byteOf ori) ++ (be 8 seq ++ (be 8 (u64 reg) ++ (be 8 epo ++ (stampB st ++ (be 8 es.length ++ es.flatMap effB))))))))) :: .eq _ :: .eq _ :: .eq _ :: .ok (fun v W => Sl W v (bytes (l ++ (be 1 (byteOf ori) ++ (be 8 seq ++ (be 8 (u64 reg) ++ (be 8 epo ++ (stampB st ++ (be 8 es.length ++ (es.flatMap effB ++ be 8 clo)))))))))) :: .ok (fun v W => Sl W v (bytes (l ++ (be 1 (byteOf ori) ++ (be 8 seq ++ (be 8 (u64 reg) ++ (be 8 epo ++ (stampB st ++ (be 8 es.length ++ (es.flatMap effB ++ be 8 clo)))))))))) :: []) (by kernel_rfl) (by kernel_rfl) ⟨mono_sl _, mono_sl _, mono_sl _, trivial⟩
  iterate 3
   apply wpG_eq
   · intro W hW hs
     obtain ⟨c0, c1, c2, c3, c4, c5, c6⟩ := T.out W (GE.out.trans hW)
     unfold opG
     go_simp
     first | exact resG_eq_mk _ _ _ | rfl
   simp only [Act.put, pt1, pt2, pt3]
  apply wpG_ok
  · intro W hW hs
    obtain ⟨c0, c1, c2, c3, c4, c5, c6⟩ := T.out W (GE.out.trans hW)
    unfold opG
    go_simp
    refine resG_call ((HLI.out _ (G1.out.trans (GE.out.trans hW)) _ _ (SB.out.below hW) L5).mono ?_)
    rintro e W2 ⟨v2, rfl, s2, g2⟩
    exact ⟨_, rfl, g2, by simpa only [List.append_assoc] using s2⟩
  intro v3
  simp only [Act.put, pt1, pt2, pt3]
  iterate 2
   apply wpG_eq
   · intro W hW hs
     obtain ⟨c0, c1, c2, c3, c4, c5, c6⟩ := T.out W (GE.out.trans hW)
     unfold opG
     go_simp
     first | exact resG_eq_mk _ _ _ | rfl
   simp only [Act.put, pt1, pt2, pt3]
  apply wpG_eq
  · intro W hW hs
    obtain ⟨c0, c1, c2, c3, c4, c5, c6⟩ := T.out W (GE.out.trans hW)
    have hB := HCL.out
    unfold opG
    go_simp
    first | exact resG_eq_mk _ _ _ | rfl
  simp only [Act.put, pt1, pt2, pt3]
  apply wpG_ok
  · intro W hW hs
    obtain s1 := hs _ (.head _) (by rfl)
    obtain ⟨c0, c1, c2, c3, c4, c5, c6⟩ := T.out W (GE.out.trans hW)
    unfold opG
    go_simp
    refine resG_call ((wuint _ _ clo _ s1 L7 o7').mono ?_)
    rintro e W2 ⟨v2, rfl, s2, g2⟩
    exact ⟨_, rfl, g2, by simpa only [List.append_assoc] using s2⟩
  intro v7
  simp only [Act.put, pt1, pt2, pt3]
  apply wpG_ok
  · intro W hW hs
    obtain s1 := hs _ (.head _) (by rfl)
    obtain ⟨c0, c1, c2, c3, c4, c5, c6⟩ := T.out W (GE.out.trans hW)
    unfold opG
    go_simp
    exact resG_mk (Gr.refl _) s1
  intro v8
  simp only [Act.put, pt1, pt2, pt3]
  apply wpG_nil
  intro W7 hW9 hsAll
  obtain s9 := hsAll _ (.head _)
  clear hsAll
  have GF : Hid (Gr w W7) := Lib.hid (G1.out.trans (GE.out.trans hW9))
  have SC := Lib.hid s9
  clear hW9 s9
  go_wp2
  go_ret
  exact ⟨_, rfl, SC.out, GF.out⟩
end Go.Proofs.Ytiemgmbjhllmbaa
