/-
  Package entry: what puts: flags, sessions, stamps, operations, nodes, effects, items.
-/
import Derived.Test.YtgilijkmmcpfjaaZE
import Derived.Test.YtgilijkmmcpfjaaZF
import Derived.Test.YtgilijkmmcpfjaaZC
import Derived.Test.YtgilijkmmcpfjaaZStrBytes
import Derived.WalkLawsBesides
import Derived.WalkSpells
import Derived.Outline
import Derived.Deep.DeepCutAuto
set_option linter.unusedVariables false
set_option maxRecDepth 100000
namespace Go.Proofs.Ytgilijkmmcpfjaa
open Go.RowKit
theorem wrap_byte (s : Int) : IntKind.u8.wrap s = ((byteOf s : Nat) : Int) := by rw [byteOf_cast]; simp [IntKind.wrap, IntKind.bits, IntKind.signed]
theorem wrap_nat64 (n : Nat) (h : n < 2 ^ 64) : IntKind.u64.wrap ((n : Nat) : Int) = ((n : Nat) : Int) := by simp [IntKind.wrap, IntKind.bits, IntKind.signed]; omega
theorem wbyte (v : Value) (l : List UInt8) (x : Nat) (w : World) (hs : Sl w v (bytes l)) (hl : l.length ≤ 1000000000) (hx : x < 256) : Calls Try.prog 20 #[v, .int .u8 (x : Int)] w (RetSl w (l ++ be 1 x)) := (byte_any v l x w hs hl hx).mono fun _ _ h => h.ret
theorem wuint (v : Value) (l : List UInt8) (x : Nat) (w : World) (hs : Sl w v (bytes l)) (hl : l.length ≤ 1000000000) (hx : x < 2 ^ 64) : Calls Try.prog 21 #[v, .int .u64 (x : Int)] w (RetSl w (l ++ be 8 x)) := (uint_any v l x w hs hl hx).mono fun _ _ h => h.ret
theorem wint (v : Value) (l : List UInt8) (z : Int) (w : World) (hs : Sl w v (bytes l)) (hl : l.length ≤ 1000000000) : Calls Try.prog 54 #[v, .int .i64 z] w (RetSl w (l ++ be 8 (u64 z))) := (int_any v l z w hs hl).mono fun _ _ h => h.ret
theorem wtext (v s : Value) (l t : List UInt8) (w : World) (hs : Sl w v (bytes l)) (ht : Sl w s (bytes t)) (hl : l.length ≤ 1000000000) (htl : t.length ≤ 1000000000) : Calls Try.prog 93 #[v, s] w (RetSl w (l ++ textB t)) :=
  (text_any v s l t w hs ht hl htl).mono fun _ _ h => by have := h.ret; unfold textB; rwa [← List.append_assoc]
theorem flag_any (v : Value) (l : List UInt8) (b : Bool) (w : World) (hs : Sl w v (bytes l)) (hl : l.length ≤ 1000000000) : Calls Try.prog 92 #[v, .bool b] w (RetSl w (l ++ flagB b)) := by
  cases b with
  | true =>
    go_enter Try.func92, Try.ntmps92
    go_wp2_with fail
    refine (wbyte _ l 1 _ hs hl (by decide)).mono ?_
    rintro e w1 ⟨v1, rfl, s1, g1⟩
    go_wp2
    go_ret
    exact ⟨_, rfl, s1, g1⟩
  | false =>
    go_enter Try.func92, Try.ntmps92
    go_wp2_with fail
    refine (wbyte _ l 0 _ hs hl (by decide)).mono ?_
    rintro e w1 ⟨v1, rfl, s1, g1⟩
    go_wp2
    go_ret
    exact ⟨_, rfl, s1, g1⟩
theorem putSess_any (v : Value) (l : List UInt8) (s : Int) (n : Nat) (w : World) (hs : Sl w v (bytes l)) (hl : l.length ≤ 900000000) (hn : n < 2 ^ 32) :
    Calls Try.prog 108 #[v, .agg #[.int .i64 s, .int .u32 (n : Int)]] w (RetSl w (l ++ sessB s n)) := by
  obtain ⟨w1, hw1⟩ : ∃ w1, w1 = w.alloc (.cells #[.int .i64 s, .int .u32 (n : Int)] 39) := ⟨_, rfl⟩
  have g1 : Gr w w1 := by rw [hw1]; exact (Gr.refl w).alloc _
  have k1 : CellsAt w1 w.heap.size [.int .i64 s, .int .u32 (n : Int)] 39 := by rw [hw1]; exact CellsAt.new _ _ _
  have T : Hid (∀ W, Gr w1 W → W.cell? ⟨w.heap.size, 0, none⟩ = some (.int .i64 s) ∧ W.cell? ⟨w.heap.size, 1, none⟩ = some (.int .u32 (n : Int))) := Lib.hid fun W hW => ⟨(k1.gr hW).cell 0, (k1.gr hW).cell 1⟩
  have S1 := Lib.hid (hs.below g1)
  have HW := Lib.hid hw1
  have HB := Lib.hid (wrap_byte s)
  have hb := byteOf_lt s
  have hn64 : n < 2 ^ 64 := by omega
  have G1 := Lib.hid g1
  have GD : Hid (Gr w1 w1.drew) := Lib.hid ((Gr.refl w1).drew)
  have hl9 : (l ++ be 1 (byteOf s)).length ≤ 1000000000 := by rw [List.length_append, be_length]; omega
  have hl8 : l.length ≤ 1000000000 := by omega
  obtain ⟨a, c, rfl⟩ := hs.oneCells
  clear hw1 g1 k1 hs
  go_enter Try.func108, Try.ntmps108
  go_wp2_with fail
  rw [← HW.out]
  apply wp_region_draw_grow (.eq _ :: .eq _ :: .eq _ :: .eq _ :: .ok (fun v W => Sl W v (bytes (l ++ be 1 (byteOf s)))) :: .eq _ :: .eq _ :: .eq _ :: .ok (fun v W => Sl W v (bytes (l ++ (be 1 (byteOf s) ++ be 8 n)))) :: .ok (fun v W => Sl W v (bytes (l ++ (be 1 (byteOf s) ++ be 8 n)))) :: []) (by kernel_rfl) (by kernel_rfl) ⟨mono_sl _, mono_sl _, mono_sl _, trivial⟩
  iterate 3
   apply wpG_eq
   · intro W hW hs
     obtain ⟨c0, c1⟩ := T.out W (GD.out.trans hW)
     unfold opG
     go_simp
     first | exact resG_eq_mk _ _ _ | rfl
   simp only [Act.put, pt1, pt2, pt3]
  apply wpG_eq
  · intro W hW hs
    obtain ⟨c0, c1⟩ := T.out W (GD.out.trans hW)
    have hB := HB.out
    unfold opG
    go_simp
    first | exact resG_eq_mk _ _ _ | rfl
  simp only [Act.put, pt1, pt2, pt3]
  apply wpG_ok
  · intro W hW hs
    obtain ⟨c0, c1⟩ := T.out W (GD.out.trans hW)
    unfold opG
    go_simp
    refine resG_call ((wbyte _ l (byteOf s) _ (S1.out.below (GD.out.trans hW)) hl8 hb).mono ?_)
    rintro e W2 ⟨v2, rfl, s2, g2⟩
    exact ⟨_, rfl, g2, by simpa only [List.append_assoc] using s2⟩
  intro v4
  simp only [Act.put, pt1, pt2, pt3]
  iterate 2
   apply wpG_eq
   · intro W hW hs
     obtain ⟨c0, c1⟩ := T.out W (GD.out.trans hW)
     unfold opG
     go_simp
     first | exact resG_eq_mk _ _ _ | rfl
   simp only [Act.put, pt1, pt2, pt3]
  apply wpG_eq
  · intro W hW hs
    obtain ⟨c0, c1⟩ := T.out W (GD.out.trans hW)
    have hB := wrap_nat64 n hn64
    unfold opG
    go_simp
    first | exact resG_eq_mk _ _ _ | rfl
  simp only [Act.put, pt1, pt2, pt3]
  apply wpG_ok
  · intro W hW hs
    obtain s1 := hs _ (.head _) (by rfl)
    obtain ⟨c0, c1⟩ := T.out W (GD.out.trans hW)
    unfold opG
    go_simp
    refine resG_call ((wuint _ _ n _ s1 hl9 hn64).mono ?_)
    rintro e W2 ⟨v2, rfl, s2, g2⟩
    exact ⟨_, rfl, g2, by simpa only [List.append_assoc] using s2⟩
  intro v8
  simp only [Act.put, pt1, pt2, pt3]
  apply wpG_ok
  · intro W hW hs
    obtain s1 := hs _ (.head _) (by rfl)
    obtain ⟨c0, c1⟩ := T.out W (GD.out.trans hW)
    unfold opG
    go_simp
    exact resG_mk (Gr.refl _) s1
  intro v9
  simp only [Act.put, pt1, pt2, pt3]
  apply wpG_nil
  intro W9 hW9 hsAll
  obtain s9 := hsAll _ (.head _)
  clear hsAll
  go_wp2
  go_ret
  exact ⟨_, rfl, by unfold sessB; exact s9, G1.out.trans (GD.out.trans hW9)⟩
theorem Sl.numsAt {w : World} {v : Value} {xs : List Nat} (h : Sl w v (Ytgilijkmmcpfjaa.nums xs)) : ∃ a cap, v = .slice a xs.length cap ∧ ∀ k (hk : k < xs.length), ∃ b off, a = some ⟨b, off, none⟩ ∧ ∀ W, Gr w W → W.cell? ⟨b, off + k, none⟩ = some (.int .u64 (xs[k] : Int)) := by
  obtain ⟨a, cap, rfl, hcap, hc⟩ := h
  rw [nums_length] at hcap ⊢
  refine ⟨a, cap, rfl, fun k hk => ?_⟩
  rcases hc with hc | ⟨b, off, rfl, hb, hc⟩
  · have := congrArg List.length hc
    rw [nums_length] at this
    simp only [List.length_nil] at this
    omega
  · refine ⟨b, off, rfl, fun W hW => ?_⟩
    rw [hW.cell (p := ⟨b, off + k, none⟩) hb, hc k (by rw [nums_length]; exact hk)]
    simp [Ytgilijkmmcpfjaa.nums, num64]
set_option maxHeartbeats 400000 in
theorem listN_any (v vl : Value) (l : List UInt8) (xs : List Nat) (w : World) (hs : Sl w v (bytes l)) (hx : Sl w vl (nums xs)) (hk : ∀ k ∈ xs, k < 2 ^ 64) (hl : l.length + 8 + xs.length * 8 ≤ 900000000) :
    Calls Try.prog 91 #[v, vl, .func (.func 21) #[] #[]] w (RetSl w (l ++ stampB xs)) := by
  obtain ⟨a, cap, rfl, hc⟩ := hx.numsAt
  have HC := Lib.hid hc
  have HK := Lib.hid hk
  have hw := wrap_nat64 xs.length (by omega)
  have hl8 : l.length ≤ 1000000000 := by omega
  have hn8 : xs.length < 2 ^ 64 := by omega
  clear hc hk hx
  go_enter Try.func91, Try.ntmps91
  go_wp2_with fail
  refine (wuint _ l xs.length _ hs hl8 hn8).mono ?_
  rintro e w1 ⟨v1, rfl, s1, g1⟩
  go_wp2_with fail
  go_loopw [0, 8, 16] (fun u x i wr => ∃ k : Nat, k ≤ xs.length ∧ i = .int .i64 k ∧ Sl wr u (bytes (l ++ be 8 xs.length ++ (xs.take k).flatMap (be 8))) ∧ Gr w wr) (fun _ _ i _ => xs.length - (intOf i).toNat)
  case atStart => exact ⟨0, Nat.zero_le _, rfl, by simpa using s1, g1⟩
  case round =>
    clear s1 g1
    obtain ⟨k, hk, rfl, hs2, hg⟩ := hrel
    by_cases hlt : k < xs.length
    · obtain ⟨b, off, rfl, hcell⟩ := HC.out k hlt
      have hx := HK.out _ (List.getElem_mem hlt)
      replace hcell := hcell wr hg
      have e1 : l ++ be 8 xs.length ++ (xs.take k).flatMap (be 8) ++ be 8 xs[k] = l ++ be 8 xs.length ++ (xs.take (k + 1)).flatMap (be 8) := by
        rw [List.take_add_one, List.getElem?_eq_getElem hlt, List.flatMap_append]; simp
      have E1 := Lib.hid e1
      have hl9 : (l ++ be 8 xs.length ++ (xs.take k).flatMap (be 8)).length ≤ 1000000000 := by
        rw [List.length_append, List.length_append, be_length, flatBe_length, List.length_take]; omega
      clear e1
      obtain ⟨x, hxx⟩ : ∃ x, x = xs[k] := ⟨_, rfl⟩
      rw [← hxx] at hcell hx E1
      clear hxx
      go_wp2_with fail
      refine (wuint _ _ x _ hs2 hl9 hx).mono ?_
      rintro e w2 ⟨v2, rfl, s2, g2⟩
      rw [E1.out] at s2
      have S2 := Lib.hid s2
      clear s2
      go_wp2
      go_roundw
      case rel => exact ⟨k + 1, by omega, by go_num, S2.out, hg.trans g2⟩
      case measure => simp [intOf]; omega
    · obtain rfl : k = xs.length := by omega
      rw [List.take_of_length_le (Nat.le_refl _)] at hs2
      have S2 := Lib.hid hs2
      clear hs2
      go_wp2
      go_ret
      exact ⟨_, rfl, by unfold stampB; rw [← List.append_assoc]; exact S2.out, hg⟩
theorem putStamp_any (v vl : Value) (l : List UInt8) (xs : List Nat) (w : World) (hs : Sl w v (bytes l)) (hx : Sl w vl (nums xs)) (hk : ∀ k ∈ xs, k < 2 ^ 64) (hl : l.length + 8 + xs.length * 8 ≤ 900000000) :
    Calls Try.prog 53 #[v, vl] w (RetSl w (l ++ stampB xs)) := by
  go_enter Try.func53, Try.ntmps53
  go_wp2_with fail
  refine (listN_any _ _ l xs _ hs hx hk hl).mono ?_
  rintro e w1 ⟨v1, rfl, s1, g1⟩
  go_wp2
  go_ret
  exact ⟨_, rfl, s1, g1⟩
/-! ### Operations -/
end Go.Proofs.Ytgilijkmmcpfjaa
