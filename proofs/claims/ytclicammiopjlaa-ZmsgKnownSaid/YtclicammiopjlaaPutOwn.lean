/-
  zmsg.Put: what it hands back is memory of its own.
-/
import Derived.Test.YtclicammiopjlaaPut
import Derived.Test.YtclicammiopjlaaGrowTail
set_option linter.unusedVariables false
namespace Go.Proofs.Ytclicammiopjlaa
open Go.RowKit

/-- Bytes of a call's own. -/
def OwnE (b : Nat) (w : World) (v : Value) (l : List UInt8) : Prop := ∃ B, b ≤ B ∧ Own w B 5 v (bytes l)
theorem OwnE.sl {b : Nat} {w : World} {v : Value} {l : List UInt8} (h : OwnE b w v l) : Sl w v (bytes l) := by obtain ⟨B, _, h⟩ := h; exact h.sl
theorem OwnE.below {b : Nat} {w w' : World} {v : Value} {l : List UInt8} (h : OwnE b w v l) (g : Gr w w') : OwnE b w' v l := by
  obtain ⟨B, hb, h⟩ := h
  exact ⟨B, hb, Own.gr h g⟩
def RetPutO (w : World) (m : MsgD) (e : Ending) (w' : World) : Prop :=
  Gr w w' ∧ if mayV m then ∃ v, e = .returned (.tuple #[v, .int .i64 0]) ∧ OwnE w.heap.size w' v (putV m) else e = .returned (.tuple #[.slice none 0 0, .int .i64 1])

set_option maxHeartbeats 4000000 in
theorem putown_any (w : World) (m : MsgD) (lv : Value) (hl : Lines w lv m.ls) (hok : MsgOk m) (hlen : m.ls.length ≤ maxLen) :
    Calls Try.prog 10 #[.agg (msgCells m lv)] w (RetPutO w m) := by
  obtain ⟨a, cap, rfl⟩ := hl.shape
  have gA : ∀ o, Gr w (w.alloc o) := fun o => (Gr.refl w).alloc o
  have hmx : m.ls.length ≤ 9223372036854775807 := Nat.le_trans hlen (by decide)
  unfold msgCells
  cases hmay : mayV m with
  | false =>
    have R : ∀ w', Gr w w' → RetPutO w m (.returned (.tuple #[.slice none 0 0, .int .i64 1])) w' := fun w' hg => ⟨hg, by rw [hmay]; rfl⟩
    have RR := Lib.hid R
    clear R
    go_enter Try.func10, Try.ntmps10
    go_wp2_with fail
    refine (may_any _ m _ (hl.below (gA _)) hok hlen).mono ?_
    rintro e w1 ⟨rfl, g1⟩
    rw [hmay]
    have G1 := Lib.hid (Gr.trans (gA _) g1)
    go_wp2
    exact bodyPost_ret (v := .tuple #[.slice none 0 0, .int .i64 1]) (by simp [results, Try.f10, go_sem]) rfl (RR.out _ G1.out)
  | true =>
    have R : ∀ v w', Gr w w' → OwnE w.heap.size w' v (putV m) → RetPutO w m (.returned (.tuple #[v, .int .i64 0])) w' := fun v w' hg hs => ⟨hg, by rw [hmay]; exact ⟨v, rfl, hs⟩⟩
    have RR := Lib.hid R
    clear R
    obtain ⟨k1, k2, e1, e2, c1, a1, a2, b1, b2, n1, hlines⟩ := mayV_facts hmay
    have HL := Lib.hid hlines
    have E64 : m.epoch < 18446744073709551616 := by omega
    have C64 : m.current < 18446744073709551616 := by omega
    obtain ⟨at9, hat⟩ := Int.eq_ofNat_of_zero_le a1
    obtain ⟨co9, hco⟩ := Int.eq_ofNat_of_zero_le b1
    have hfive : five m = [m.epoch, m.current, at9, co9, m.ls.length] := by unfold five; rw [hat, hco]; rfl
    have F5 := Lib.hid hfive
    have A9 : at9 ≤ 256 := by omega
    have C9 : co9 ≤ 256 := by omega
    have hep64 := hok.2.1
    have hcu64 := hok.2.2.1
    have w1u : IntKind.u64.wrap ((at9 : Nat) : Int) = ((at9 : Nat) : Int) := by simp [IntKind.wrap, IntKind.bits, IntKind.signed] <;> omega
    have w2u : IntKind.u64.wrap ((co9 : Nat) : Int) = ((co9 : Nat) : Int) := by simp [IntKind.wrap, IntKind.bits, IntKind.signed] <;> omega
    have w3u : IntKind.u64.wrap ((m.ls.length : Nat) : Int) = ((m.ls.length : Nat) : Int) := by simp [IntKind.wrap, IntKind.bits, IntKind.signed] <;> omega
    obtain ⟨w0, hw0⟩ : ∃ w0, w0 = w.alloc (.cells #[.int .u8 (m.kind : Int), .int .u64 (m.epoch : Int), .int .u64 (m.current : Int), .int .i64 (at9 : Int), .int .i64 (co9 : Int), .slice a m.ls.length cap] 25) := ⟨_, rfl⟩
    have g0 : Gr w w0 := by rw [hw0]; exact gA _
    have hb0 : w0.heap[w.heap.size]? = some (.cells #[.int .u8 (m.kind : Int), .int .u64 (m.epoch : Int), .int .u64 (m.current : Int), .int .i64 (at9 : Int), .int .i64 (co9 : Int), .slice a m.ls.length cap] 25 (0, 0)) := by rw [hw0]; exact heap_alloc_new w _
    have hz0 : w.heap.size < w0.heap.size := by rw [hw0]; simp
    have hc0 : ∀ W, Gr w0 W → ∀ j v, (#[.int .u8 (m.kind : Int), .int .u64 (m.epoch : Int), .int .u64 (m.current : Int), .int .i64 (at9 : Int), .int .i64 (co9 : Int), .slice a m.ls.length cap] : Array Value)[j]? = some v → W.cell? ⟨w.heap.size, j, none⟩ = some v := fun W hg j v hv => by
      rw [hg.cell (p := ⟨w.heap.size, j, none⟩) hz0, cell_of_row w0 _ j _ 25 (0, 0) hb0]; exact hv
    have y0 := hc0 w0 (Gr.refl _) 0 _ rfl
    have y1 := hc0 w0 (Gr.refl _) 1 _ rfl
    have y2 := hc0 w0 (Gr.refl _) 2 _ rfl
    have y3 := hc0 w0 (Gr.refl _) 3 _ rfl
    have y4 := hc0 w0 (Gr.refl _) 4 _ rfl
    have y5 := hc0 w0 (Gr.refl _) 5 _ rfl
    have HW0 := Lib.hid hw0
    have HC := Lib.hid hc0
    have hl0 := hl.below g0
    have hk8 := hok.1
    have HAT := Lib.hid hat
    have HCO := Lib.hid hco
    have HOK := Lib.hid hok
    have HMAY := Lib.hid hmay
    rw [hat, hco]
    clear hw0 hb0 hc0 hlines hat hco hfive hok hmay
    go_enter Try.func10, Try.ntmps10
    go_wp2_with fail
    rw [← HW0.out]
    have hcells : (#[.int .u8 (m.kind : Int), .int .u64 (m.epoch : Int), .int .u64 (m.current : Int), .int .i64 (at9 : Int), .int .i64 (co9 : Int), .slice a m.ls.length cap] : Array Value) = msgCells m (.slice a m.ls.length cap) := by unfold msgCells; rw [HAT.out, HCO.out]
    rw [hcells]
    refine (may_any _ m _ hl0 HOK.out hlen).mono ?_
    rintro e w1 ⟨rfl, g1⟩
    rw [HMAY.out, ← hcells]
    clear hcells
    have z0 := HC.out w1 g1 0 _ rfl
    have z1 := HC.out w1 g1 1 _ rfl
    have z2 := HC.out w1 g1 2 _ rfl
    have z3 := HC.out w1 g1 3 _ rfl
    have z4 := HC.out w1 g1 4 _ rfl
    have z5 := HC.out w1 g1 5 _ rfl
    clear y0 y1 y2 y3 y4 y5
    go_wp2_with fail
    refine (byte_any _ [] m.kind _ (Sl.nil _ _ _) (by simp) hk8).mono ?_
    rintro e w2 ⟨v2, rfl, o2, g2⟩
    have g02 := Gr.trans g1 g2
    have q1 := HC.out w2 g02 1 _ rfl
    have q2 := HC.out w2 g02 2 _ rfl
    have q3 := HC.out w2 g02 3 _ rfl
    have q4 := HC.out w2 g02 4 _ rfl
    have q5 := HC.out w2 g02 5 _ rfl
    have s2 : OwnE w.heap.size w2 v2 ([] ++ be 1 m.kind) := ⟨_, Nat.le_trans g0.size g1.size, o2⟩
    obtain ⟨a2', n2', rfl⟩ := o2.shape
    clear z0 z1 z2 z3 z4 z5 g1 g2 o2
    rw [List.nil_append] at s2
    go_wp2
    obtain ⟨w3, hw3⟩ : ∃ w3, w3 = w2.alloc (.cells #[.int .u64 (m.epoch : Int), .int .u64 (m.current : Int), .int .u64 (at9 : Int), .int .u64 (co9 : Int), .int .u64 (m.ls.length : Int)] 22) := ⟨_, rfl⟩
    rw [← hw3]
    have g3 : Gr w2 w3 := by rw [hw3]; exact (Gr.refl w2).alloc _
    have hb3 : w3.heap[w2.heap.size]? = some (.cells #[.int .u64 (m.epoch : Int), .int .u64 (m.current : Int), .int .u64 (at9 : Int), .int .u64 (co9 : Int), .int .u64 (m.ls.length : Int)] 22 (0, 0)) := by rw [hw3]; exact heap_alloc_new w2 _
    have hz3 : w2.heap.size < w3.heap.size := by rw [hw3]; simp
    have hc3 : ∀ W, Gr w3 W → ∀ j (hj : j < (five m).length), W.cell? ⟨w2.heap.size, j, none⟩ = some (.int .u64 (((five m)[j] : Nat) : Int)) ∧ (five m)[j] < 2 ^ 64 := fun W hg j hj => by
      rw [hg.cell (p := ⟨w2.heap.size, j, none⟩) hz3, cell_of_row w3 _ j _ 22 (0, 0) hb3]
      have h5 := F5.out
      have hj5 : j < 5 := by rw [h5] at hj; exact hj
      rcases (by omega : j = 0 ∨ j = 1 ∨ j = 2 ∨ j = 3 ∨ j = 4) with rfl | rfl | rfl | rfl | rfl <;> simp [h5] <;> omega
    have C3 := Lib.hid hc3
    have g03 := Gr.trans g02 g3
    have s3 := s2.below g3
    clear hw3 hb3 hc3 q1 q2 q3 q4 q5 s2 g02 g3
    generalize w2.heap.size = gf at *
    have HS3 := Lib.hid s3
    go_loopw [4, 6, 31] (fun s4 s6 i wr => ∃ k : Nat, k ≤ 5 ∧ i = .int .i64 k ∧ OwnE w.heap.size wr s4 (be 1 m.kind ++ ((five m).take k).flatMap (be 8)) ∧ Gr w3 wr) (fun _ _ i _ => 5 - (intOf i).toNat)
    case atStart => exact ⟨0, by decide, rfl, by simpa using HS3.out, Gr.refl _⟩
    case round =>
      clear s3 HS3
      obtain ⟨k, hk, rfl, hs, br⟩ := hrel
      obtain ⟨wo, rfl⟩ : ∃ wo : World, wo = wr := ⟨_, rfl⟩
      by_cases hlt : k < 5
      · have hj : k < (five m).length := by rw [F5.out]; exact hlt
        obtain ⟨c, hx64⟩ := C3.out wo br k hj
        obtain ⟨x, hx⟩ : ∃ x, x = (five m)[k] := ⟨_, rfl⟩
        rw [← hx] at c hx64
        have HX := Lib.hid hx
        have hlen5 := five_length m k
        have i1 : (0 : Int) ≤ (k : Int) := by omega
        have i2 : (k : Int) < 5 := by omega
        clear hx
        go_wp2_with fail
        refine (uint_any _ _ x _ hs.sl (by rw [List.length_append, be_length]; omega) hx64).mono ?_
        rintro e w5 ⟨v5, rfl, o5, g5⟩
        have s5 : OwnE w.heap.size w5 v5 _ := ⟨_, (Gr.trans (Gr.trans g0 g03) br).size, o5⟩
        rw [List.append_assoc] at s5
        have e5 : ((five m).take k).flatMap (be 8) ++ be 8 x = ((five m).take (k + 1)).flatMap (be 8) := by
          rw [List.take_add_one, List.getElem?_eq_getElem hj, HX.out, List.flatMap_append]; simp only [Option.toList_some, List.flatMap_cons, List.flatMap_nil, List.append_nil]
        rw [e5] at s5
        have S5 := Lib.hid s5
        clear e5 s5 o5
        go_wp2
        go_roundw
        case rel => exact ⟨k + 1, by omega, by go_num, S5.out, Gr.trans br g5⟩
        case measure => simp [intOf]; omega
      · obtain rfl : k = 5 := by omega
        have e5 : (five m).take 5 = five m := List.take_of_length_le (by rw [F5.out]; simp)
        rw [e5] at hs
        have g5 := Gr.trans g03 br
        have y5 := HC.out wo g5 5 _ rfl
        have hl5 := hl0.below g5
        have HL5 := Lib.hid hl5
        have HS := Lib.hid hs
        clear hl5 e5 hs C3 F5
        go_wp2
        go_loopw [4, 8, 42] (fun s4 s8 i wr => ∃ k : Nat, k ≤ m.ls.length ∧ i = .int .i64 k ∧ OwnE w.heap.size wr s4 (headB m ++ (m.ls.take k).flatMap lineB) ∧ Gr wo wr) (fun _ _ i _ => m.ls.length - (intOf i).toNat)
        case atStart => exact ⟨0, Nat.zero_le _, rfl, by simpa [headB] using HS.out, Gr.refl _⟩
        case round =>
          clear y5
          obtain ⟨k, hk, rfl, hs, br2⟩ := hrel
          obtain ⟨wq, rfl⟩ : ∃ wq : World, wq = wr := ⟨_, rfl⟩
          by_cases hlt : k < m.ls.length
          · obtain ⟨B, o, ba, bc, rfl, hB, c0, c1, hsb, he⟩ := HL5.out.row k hlt
            have d0 := (br2.cell (p := ⟨B, o + k * 2, none⟩) hB).trans c0
            have d1 := (br2.cell (p := ⟨B, o + k * 2 + 1, none⟩) hB).trans c1
            have hsb2 := hsb.below br2
            have hlv := lineV_facts (HL.out _ (List.getElem_mem hlt))
            have hpre : (headB m ++ (m.ls.take k).flatMap lineB).length ≤ 2000000 := by
              have h1 := flat_le (ls := m.ls.take k) (fun x hx => HL.out x (List.mem_of_mem_take hx))
              have h2 := five_length m 5
              have h3 : (five m).take 5 = five m := List.take_of_length_le (by simp [five])
              rw [h3] at h2
              rw [List.length_append, headB, List.length_append, be_length]
              simp only [List.length_take] at h1
              have h4 : min k m.ls.length ≤ 256 := by omega
              omega
            obtain ⟨x, hx⟩ : ∃ x, x = m.ls[k] := ⟨_, rfl⟩
            rw [← hx] at d0 d1 hsb2 he hlv
            have enext : (headB m ++ (m.ls.take k).flatMap lineB) ++ (be 8 x.e ++ (be 4 x.b.length ++ x.b)) = headB m ++ (m.ls.take (k + 1)).flatMap lineB := by
              rw [List.take_add_one, List.getElem?_eq_getElem hlt, ← hx, List.flatMap_append, List.append_assoc]; simp only [Option.toList_some, List.flatMap_cons, List.flatMap_nil, List.append_nil, lineB]
            have EN := Lib.hid enext
            generalize (headB m ++ (m.ls.take k).flatMap lineB) = pre at *
            have i1 : (0 : Int) ≤ (k : Int) := by omega
            have i2 : (k : Int) < (m.ls.length : Int) := by omega
            have hx64 := he
            clear hx enext c0 c1 hsb
            obtain ⟨w6, hw6⟩ : ∃ w6, w6 = wq.alloc (.cells #[.int .u64 (x.e : Int), .slice ba x.b.length bc] 37) := ⟨_, rfl⟩
            have g6 : Gr wq w6 := by rw [hw6]; exact (Gr.refl wq).alloc _
            have hb6 : w6.heap[wq.heap.size]? = some (.cells #[.int .u64 (x.e : Int), .slice ba x.b.length bc] 37 (0, 0)) := by rw [hw6]; exact heap_alloc_new wq _
            have hz6 : wq.heap.size < w6.heap.size := by rw [hw6]; simp
            have f0 : w6.cell? ⟨wq.heap.size, 0, none⟩ = some (.int .u64 (x.e : Int)) := by rw [cell_of_row w6 _ 0 _ 37 (0, 0) hb6]; rfl
            have f1 : w6.cell? ⟨wq.heap.size, 1, none⟩ = some (.slice ba x.b.length bc) := by rw [cell_of_row w6 _ 1 _ 37 (0, 0) hb6]; rfl
            have hs6 := hs.below g6
            have hsb6 := hsb2.below g6
            have HW6 := Lib.hid hw6
            clear hw6 hb6 hs hsb2
            go_wp2_with fail
            rw [← HW6.out]
            apply wp_region_draw_grow (.eq _ :: .eq _ :: .eq _ :: .ok (fun u W => OwnE w.heap.size W u (pre ++ be 8 x.e)) :: .eq _ :: .eq _ :: .ok (fun u W => OwnE w.heap.size W u (pre ++ (be 8 x.e ++ (be 4 x.b.length ++ x.b)))) :: .ok (fun u W => OwnE w.heap.size W u (pre ++ (be 8 x.e ++ (be 4 x.b.length ++ x.b)))) :: []) (by kernel_rfl) (by kernel_rfl) ⟨(fun _ _ _ hg h => OwnE.below h hg), (fun _ _ _ hg h => OwnE.below h hg), (fun _ _ _ hg h => OwnE.below h hg), trivial⟩
            apply wpG_eq
            · intro W hW hs
              have hW := Gr.trans ((Gr.refl w6).drew) hW
              have q0 := (hW.cell (p := ⟨wq.heap.size, 0, none⟩) hz6).trans f0
              have q1 := (hW.cell (p := ⟨wq.heap.size, 1, none⟩) hz6).trans f1
              unfold opG
              go_simp
              first | exact resG_eq_mk _ _ _ | rfl
            simp only [Act.put, List.setIfInBounds_toArray, List.set_cons_zero, List.set_cons_succ]
            apply wpG_eq
            · intro W hW hs
              have hW := Gr.trans ((Gr.refl w6).drew) hW
              have q0 := (hW.cell (p := ⟨wq.heap.size, 0, none⟩) hz6).trans f0
              have q1 := (hW.cell (p := ⟨wq.heap.size, 1, none⟩) hz6).trans f1
              unfold opG
              go_simp
              first | exact resG_eq_mk _ _ _ | rfl
            simp only [Act.put, List.setIfInBounds_toArray, List.set_cons_zero, List.set_cons_succ]
            apply wpG_eq
            · intro W hW hs
              have hW := Gr.trans ((Gr.refl w6).drew) hW
              have q0 := (hW.cell (p := ⟨wq.heap.size, 0, none⟩) hz6).trans f0
              have q1 := (hW.cell (p := ⟨wq.heap.size, 1, none⟩) hz6).trans f1
              unfold opG
              go_simp
              first | exact resG_eq_mk _ _ _ | rfl
            simp only [Act.put, List.setIfInBounds_toArray, List.set_cons_zero, List.set_cons_succ]
            apply wpG_ok
            · intro W hW hs
              have hW := Gr.trans ((Gr.refl w6).drew) hW
              unfold opG
              go_simp
              refine resG_call ((uint_any _ pre x.e _ (hs6.below hW).sl (by omega) hx64).mono ?_)
              rintro e W2 ⟨v, rfl, ho, hg⟩
              exact ⟨v, rfl, hg, _, Nat.le_trans (Gr.trans (Gr.trans (Gr.trans g0 g03) br) (Gr.trans br2 g6)).size hW.size, ho⟩
            intro v7
            simp only [Act.put, List.setIfInBounds_toArray, List.set_cons_zero, List.set_cons_succ]
            apply wpG_eq
            · intro W hW hs
              have hW := Gr.trans ((Gr.refl w6).drew) hW
              have q0 := (hW.cell (p := ⟨wq.heap.size, 0, none⟩) hz6).trans f0
              have q1 := (hW.cell (p := ⟨wq.heap.size, 1, none⟩) hz6).trans f1
              unfold opG
              go_simp
              first | exact resG_eq_mk _ _ _ | rfl
            simp only [Act.put, List.setIfInBounds_toArray, List.set_cons_zero, List.set_cons_succ]
            apply wpG_eq
            · intro W hW hs
              have hW := Gr.trans ((Gr.refl w6).drew) hW
              have q0 := (hW.cell (p := ⟨wq.heap.size, 0, none⟩) hz6).trans f0
              have q1 := (hW.cell (p := ⟨wq.heap.size, 1, none⟩) hz6).trans f1
              unfold opG
              go_simp
              first | exact resG_eq_mk _ _ _ | rfl
            simp only [Act.put, List.setIfInBounds_toArray, List.set_cons_zero, List.set_cons_succ]
            apply wpG_ok
            · intro W hW hs
              have s7 := OwnE.sl (hs _ (.head _) rfl)
              have hW := Gr.trans ((Gr.refl w6).drew) hW
              unfold opG
              go_simp
              refine resG_call ((text_any _ _ (pre ++ be 8 x.e) x.b _ s7 (hsb6.below hW) (by rw [List.length_append, be_length]; omega) (by omega)).mono ?_)
              rintro e W2 ⟨v, rfl, ho, hg⟩
              exact ⟨v, rfl, hg, _, Nat.le_trans (Gr.trans (Gr.trans (Gr.trans g0 g03) br) (Gr.trans br2 g6)).size hW.size, by simpa only [List.append_assoc] using ho⟩
            intro v8
            simp only [Act.put, List.setIfInBounds_toArray, List.set_cons_zero, List.set_cons_succ]
            apply wpG_ok
            · intro W hW hs
              have s8 := hs _ (.head _) rfl
              unfold opG
              go_simp
              exact resG_mk (Gr.refl _) s8
            intro v9
            simp only [Act.put, List.setIfInBounds_toArray, List.set_cons_zero, List.set_cons_succ]
            apply wpG_nil
            intro W9 hW9 hsAll
            obtain hs9 := hsAll _ (.head _)
            rw [EN.out] at hs9
            have HS9 := Lib.hid hs9
            clear hs9 hsAll
            go_wp2
            go_roundw
            case rel => exact ⟨k + 1, by omega, by go_num, HS9.out, Gr.trans br2 (Gr.trans g6 (Gr.trans ((Gr.refl w6).drew) hW9))⟩
            case measure => simp [intOf]; omega
          · obtain rfl : k = m.ls.length := by omega
            rw [List.take_length] at hs
            have hfin := RR.out _ wq (Gr.trans (Gr.trans (Gr.trans g0 g03) br) br2) hs
            have HF := Lib.hid hfin
            clear hfin hs
            go_wp2
            refine bodyPost_ret (v := .tuple #[_, .int .i64 0]) ?_ rfl HF.out
            simp [results, Try.f10, go_sem]
end Go.Proofs.Ytclicammiopjlaa
