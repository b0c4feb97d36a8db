/-
  Package entry: what puts: flags, sessions, stamps, operations, nodes, effects, items.
-/
import Derived.Test.YtiemgmbjhllmbaaYE
import Derived.Test.YtiemgmbjhllmbaaYF
import Derived.Test.YtiemgmbjhllmbaaYC
import Derived.Test.YtiemgmbjhllmbaaYStrBytes
import Derived.WalkLawsBesides
import Derived.WalkSpells
import Derived.Outline
import Derived.Deep.DeepCutAuto
set_option linter.unusedVariables false
set_option maxRecDepth 100000
namespace Go.Proofs.Ytiemgmbjhllmbaa
open Go.RowKit
theorem wrap_byte (s : Int) : IntKind.u8.wrap s = ((byteOf s : Nat) : Int) := by rw [byteOf_cast]; simp [IntKind.wrap, IntKind.bits, IntKind.signed]
theorem wrap_nat64 (n : Nat) (h : n < 2 ^ 64) : IntKind.u64.wrap ((n : Nat) : Int) = ((n : Nat) : Int) := by simp [IntKind.wrap, IntKind.bits, IntKind.signed]; omega
theorem wbyte (v : Value) (l : List UInt8) (x : Nat) (w : World) (hs : Sl w v (bytes l)) (hl : l.length ≤ 1000000000) (hx : x < 256) : Calls Try.prog 40 #[v, .int .u8 (x : Int)] w (RetSl w (l ++ be 1 x)) := (byte_any v l x w hs hl hx).mono fun _ _ h => h.ret
theorem wuint (v : Value) (l : List UInt8) (x : Nat) (w : World) (hs : Sl w v (bytes l)) (hl : l.length ≤ 1000000000) (hx : x < 2 ^ 64) : Calls Try.prog 18 #[v, .int .u64 (x : Int)] w (RetSl w (l ++ be 8 x)) := (uint_any v l x w hs hl hx).mono fun _ _ h => h.ret
theorem wint (v : Value) (l : List UInt8) (z : Int) (w : World) (hs : Sl w v (bytes l)) (hl : l.length ≤ 1000000000) : Calls Try.prog 45 #[v, .int .i64 z] w (RetSl w (l ++ be 8 (u64 z))) := (int_any v l z w hs hl).mono fun _ _ h => h.ret
theorem wtext (v s : Value) (l t : List UInt8) (w : World) (hs : Sl w v (bytes l)) (ht : Sl w s (bytes t)) (hl : l.length ≤ 1000000000) (htl : t.length ≤ 1000000000) : Calls Try.prog 67 #[v, s] w (RetSl w (l ++ textB t)) :=
  (text_any v s l t w hs ht hl htl).mono fun _ _ h => by have := h.ret; unfold textB; rwa [← List.append_assoc]
theorem flag_any (v : Value) (l : List UInt8) (b : Bool) (w : World) (hs : Sl w v (bytes l)) (hl : l.length ≤ 1000000000) : Calls Try.prog 68 #[v, .bool b] w (RetSl w (l ++ flagB b)) := by
  cases b with
  | true =>
    go_enter Try.func68, Try.ntmps68
    go_wp2_with fail
    refine (wbyte _ l 1 _ hs hl (by decide)).mono ?_
    rintro e w1 ⟨v1, rfl, s1, g1⟩
    go_wp2
    go_ret
    exact ⟨_, rfl, s1, g1⟩
  | false =>
    go_enter Try.func68, Try.ntmps68
    go_wp2_with fail
    refine (wbyte _ l 0 _ hs hl (by decide)).mono ?_
    rintro e w1 ⟨v1, rfl, s1, g1⟩
    go_wp2
    go_ret
    exact ⟨_, rfl, s1, g1⟩
theorem putSess_any (v : Value) (l : List UInt8) (s : Int) (n : Nat) (w : World) (hs : Sl w v (bytes l)) (hl : l.length ≤ 900000000) (hn : n < 2 ^ 32) :
    Calls Try.prog 22 #[v, .agg #[.int .i64 s, .int .u32 (n : Int)]] w (RetSl w (l ++ sessB s n)) := by
  obtain ⟨w1, hw1⟩ : ∃ w1, w1 = w.alloc (.cells #[.int .i64 s, .int .u32 (n : Int)] 25) := ⟨_, rfl⟩
  have g1 : Gr w w1 := by rw [hw1]; exact (Gr.refl w).alloc _
  have k1 : CellsAt w1 w.heap.size [.int .i64 s, .int .u32 (n : Int)] 25 := by rw [hw1]; exact CellsAt.new _ _ _
  have T : Hid (∀ W, Gr w1 W → W.cell? ⟨w.heap.size, 0, none⟩ = some (.int .i64 s) ∧ W.cell? ⟨w.heap.size, 1, none⟩ = some (.int .u32 (n : Int))) := Lib.hid fun W hW => ⟨(k1.gr hW).cell 0, (k1.gr hW).cell 1⟩
  have S1 := Lib.hid (hs.below g1)
  have HW := Lib.hid hw1
  have HB := Lib.hid (wrap_byte s)
  have hb := byteOf_lt s
  have hn64 : n < 2 ^ 64 := by omega
  have G1 := Lib.hid g1
  have GD : Hid (Gr w1 w1.drew) := Lib.hid ((Gr.refl w1).drew)
  have hl9 : (l ++ be 1 (byteOf s)).length ≤ 1000000000 := by rw [List.length_append, be_length]; omega
  have hl8 : l.length ≤ 1000000000 := by omega
  obtain ⟨a, c, rfl⟩ := hs.oneCells
  clear hw1 g1 k1 hs
  go_enter Try.func22, Try.ntmps22
  go_wp2_with fail
  rw [← HW.out]
  apply wp_region_draw_grow (.eq _ :: .eq _ :: .eq _ :: .eq _ :: .ok (fun v W => Sl W v (bytes (l ++ be 1 (byteOf s)))) :: .eq _ :: .eq _ :: .eq _ :: .ok (fun v W => Sl W v (bytes (l ++ (be 1 (byteOf s) ++ be 8 n)))) :: .ok (fun v W => Sl W v (bytes (l ++ (be 1 (byteOf s) ++ be 8 n)))) :: []) (by kernel_rfl) (by kernel_rfl) ⟨mono_sl _, mono_sl _, mono_sl _, trivial⟩
  iterate 3
   apply wpG_eq
   · intro W hW hs
     obtain ⟨c0, c1⟩ := T.out W (GD.out.trans hW)
     unfold opG
     go_simp
     first | exact resG_eq_mk _ _ _ | rfl
   simp only [Act.put, pt1, pt2, pt3]
  apply wpG_eq
  · intro W hW hs
    obtain ⟨c0, c1⟩ := T.out W (GD.out.trans hW)
    have hB := HB.out
    unfold opG
    go_simp
    first | exact resG_eq_mk _ _ _ | rfl
  simp only [Act.put, pt1, pt2, pt3]
  apply wpG_ok
  · intro W hW hs
    obtain ⟨c0, c1⟩ := T.out W (GD.out.trans hW)
    unfold opG
    go_simp
    refine resG_call ((wbyte _ l (byteOf s) _ (S1.out.below (GD.out.trans hW)) hl8 hb).mono ?_)
    rintro e W2 ⟨v2, rfl, s2, g2⟩
    exact ⟨_, rfl, g2, by simpa only [List.append_assoc] using s2⟩
  intro v4
  simp only [Act.put, pt1, pt2, pt3]
  iterate 2
   apply wpG_eq
   · intro W hW hs
     obtain ⟨c0, c1⟩ := T.out W (GD.out.trans hW)
     unfold opG
     go_simp
     first | exact resG_eq_mk _ _ _ | rfl
   simp only [Act.put, pt1, pt2, pt3]
  apply wpG_eq
  · intro W hW hs
    obtain ⟨c0, c1⟩ := T.out W (GD.out.trans hW)
    have hB := wrap_nat64 n hn64
    unfold opG
    go_simp
    first | exact resG_eq_mk _ _ _ | rfl
  simp only [Act.put, pt1, pt2, pt3]
  apply wpG_ok
  · intro W hW hs
    obtain s1 := hs _ (.head _) (by rfl)
    obtain ⟨c0, c1⟩ := T.out W (GD.out.trans hW)
    unfold opG
    go_simp
    refine resG_call ((wuint _ _ n _ s1 hl9 hn64).mono ?_)
    rintro e W2 ⟨v2, rfl, s2, g2⟩
    exact ⟨_, rfl, g2, by simpa only [List.append_assoc] using s2⟩
  intro v8
  simp only [Act.put, pt1, pt2, pt3]
  apply wpG_ok
  · intro W hW hs
    obtain s1 := hs _ (.head _) (by rfl)
    obtain ⟨c0, c1⟩ := T.out W (GD.out.trans hW)
    unfold opG
    go_simp
    exact resG_mk (Gr.refl _) s1
  intro v9
  simp only [Act.put, pt1, pt2, pt3]
  apply wpG_nil
  intro W9 hW9 hsAll
  obtain s9 := hsAll _ (.head _)
  clear hsAll
  go_wp2
  go_ret
  exact ⟨_, rfl, by unfold sessB; exact s9, G1.out.trans (GD.out.trans hW9)⟩
theorem Sl.numsAt {w : World} {v : Value} {xs : List Nat} (h : Sl w v (Ytiemgmbjhllmbaa.nums xs)) : ∃ a cap, v = .slice a xs.length cap ∧ ∀ k (hk : k < xs.length), ∃ b off, a = some ⟨b, off, none⟩ ∧ ∀ W, Gr w W → W.cell? ⟨b, off + k, none⟩ = some (.int .u64 (xs[k] : Int)) := by
  obtain ⟨a, cap, rfl, hcap, hc⟩ := h
  rw [nums_length] at hcap ⊢
  refine ⟨a, cap, rfl, fun k hk => ?_⟩
  rcases hc with hc | ⟨b, off, rfl, hb, hc⟩
  · have := congrArg List.length hc
    rw [nums_length] at this
    simp only [List.length_nil] at this
    omega
  · refine ⟨b, off, rfl, fun W hW => ?_⟩
    rw [hW.cell (p := ⟨b, off + k, none⟩) hb, hc k (by rw [nums_length]; exact hk)]
    simp [Ytiemgmbjhllmbaa.nums, num64]
set_option maxHeartbeats 400000 in
theorem listN_any (v vl : Value) (l : List UInt8) (xs : List Nat) (w : World) (hs : Sl w v (bytes l)) (hx : Sl w vl (nums xs)) (hk : ∀ k ∈ xs, k < 2 ^ 64) (hl : l.length + 8 + xs.length * 8 ≤ 900000000) :
    Calls Try.prog 85 #[v, vl, .func (.func 18) #[] #[]] w (RetSl w (l ++ stampB xs)) := by
  obtain ⟨a, cap, rfl, hc⟩ := hx.numsAt
  have HC := Lib.hid hc
  have HK := Lib.hid hk
  have hw := wrap_nat64 xs.length (by omega)
  have hl8 : l.length ≤ 1000000000 := by omega
  have hn8 : xs.length < 2 ^ 64 := by omega
  clear hc hk hx
  go_enter Try.func85, Try.ntmps85
  go_wp2_with fail
  refine (wuint _ l xs.length _ hs hl8 hn8).mono ?_
  rintro e w1 ⟨v1, rfl, s1, g1⟩
  go_wp2_with fail
  go_loopw [0, 8, 16] (fun u x i wr => ∃ k : Nat, k ≤ xs.length ∧ i = .int .i64 k ∧ Sl wr u (bytes (l ++ be 8 xs.length ++ (xs.take k).flatMap (be 8))) ∧ Gr w wr) (fun _ _ i _ => xs.length - (intOf i).toNat)
  case atStart => exact ⟨0, Nat.zero_le _, rfl, by simpa using s1, g1⟩
  case round =>
    clear s1 g1
    obtain ⟨k, hk, rfl, hs2, hg⟩ := hrel
    by_cases hlt : k < xs.length
    · obtain ⟨b, off, rfl, hcell⟩ := HC.out k hlt
      have hx := HK.out _ (List.getElem_mem hlt)
      replace hcell := hcell wr hg
      have e1 : l ++ be 8 xs.length ++ (xs.take k).flatMap (be 8) ++ be 8 xs[k] = l ++ be 8 xs.length ++ (xs.take (k + 1)).flatMap (be 8) := by
        rw [List.take_add_one, List.getElem?_eq_getElem hlt, List.flatMap_append]; simp
      have E1 := Lib.hid e1
      have hl9 : (l ++ be 8 xs.length ++ (xs.take k).flatMap (be 8)).length ≤ 1000000000 := by
        rw [List.length_append, List.length_append, be_length, flatBe_length, List.length_take]; omega
      clear e1
      obtain ⟨x, hxx⟩ : ∃ x, x = xs[k] := ⟨_, rfl⟩
      rw [← hxx] at hcell hx E1
      clear hxx
      go_wp2_with fail
      refine (wuint _ _ x _ hs2 hl9 hx).mono ?_
      rintro e w2 ⟨v2, rfl, s2, g2⟩
      rw [E1.out] at s2
      have S2 := Lib.hid s2
      clear s2
      go_wp2
      go_roundw
      case rel => exact ⟨k + 1, by omega, by go_num, S2.out, hg.trans g2⟩
      case measure => simp [intOf]; omega
    · obtain rfl : k = xs.length := by omega
      rw [List.take_of_length_le (Nat.le_refl _)] at hs2
      have S2 := Lib.hid hs2
      clear hs2
      go_wp2
      go_ret
      exact ⟨_, rfl, by unfold stampB; rw [← List.append_assoc]; exact S2.out, hg⟩
theorem putStamp_any (v vl : Value) (l : List UInt8) (xs : List Nat) (w : World) (hs : Sl w v (bytes l)) (hx : Sl w vl (nums xs)) (hk : ∀ k ∈ xs, k < 2 ^ 64) (hl : l.length + 8 + xs.length * 8 ≤ 900000000) :
    Calls Try.prog 53 #[v, vl] w (RetSl w (l ++ stampB xs)) := by
  go_enter Try.func53, Try.ntmps53
  go_wp2_with fail
  refine (listN_any _ _ l xs _ hs hx hk hl).mono ?_
  rintro e w1 ⟨v1, rfl, s1, g1⟩
  go_wp2
  go_ret
  exact ⟨_, rfl, s1, g1⟩
/-! ### Operations -/
set_option maxHeartbeats 1000000 in
/-- A row of operations, each of which can be put. -/
theorem listO_any (w0 : World) (pv : Value) (ps : List OpD) (R : Nat → Nat → Value) (D Q : Nat → Value) (h2 : RowsP Any w0 pv ps.length 7 R)
    (h3 : ∀ i (hi : i < ps.length), OpP Any w0 ps[i] (D i) (Q i)) (h4 : ∀ i (hi : i < ps.length) j u, (opCells ps[i].h (D i) (Q i))[j]? = some u → R i j = u)
    (hput : ∀ (i : Nat) (hi : i < ps.length) (w : World) (v : Value) (l : List UInt8), Gr w0 w → Sl w v (bytes l) → l.length + (opB ps[i]).length ≤ 900000000 →
      Calls Try.prog 28 #[v, .agg (opCells ps[i].h (D i) (Q i)).toArray] w (RetSl w (l ++ opB ps[i])))
    (w : World) (v : Value) (l : List UInt8) (hg0 : Gr w0 w) (hs : Sl w v (bytes l)) (hl : l.length + 8 + (opsB ps).length ≤ 900000000) :
    Calls Try.prog 69 #[v, pv, .func (.func 28) #[] #[]] w (RetSl w (l ++ (be 8 ps.length ++ opsB ps))) := by
  have hp : ∀ k (hk : k < ps.length), ∃ B o c, pv = .slice (some ⟨B, o, none⟩) ps.length c ∧ B < w0.heap.size ∧ OpP Any w0 ps[k] (D k) (Q k) ∧ ∀ j u, j < 7 → (opCells ps[k].h (D k) (Q k))[j]? = some u → w0.cell? ⟨B, o + k * 7 + j, none⟩ = some u := fun k hk => by
    obtain ⟨⟨a, cap, rfl, hcap, hr⟩, _⟩ := h2
    obtain ⟨B, o, rfl, hB, hc⟩ := hr.resolve_left (by omega)
    exact ⟨B, o, cap, rfl, hB, h3 k hk, fun j u hj hu => by rw [hc k hk j hj, h4 k hk j u hu]⟩
  obtain ⟨a, cap, rfl⟩ := h2.shape
  have HP := Lib.hid hp
  have HPUT := Lib.hid hput
  clear h2 h3 h4
  have hge := opsB_ge ps
  have hw := wrap_nat64 ps.length (by omega)
  have hl8 : l.length ≤ 1000000000 := by omega
  have hn8 : ps.length < 2 ^ 64 := by omega
  have H0 := Lib.hid hg0
  clear hp hput hg0
  go_enter Try.func69, Try.ntmps69
  go_wp2_with fail
  refine (wuint _ l ps.length _ hs hl8 hn8).mono ?_
  rintro e w1 ⟨v1, rfl, s1, g1⟩
  go_wp2_with fail
  go_loopw [0, 8, 16] (fun u x i wr => ∃ k : Nat, k ≤ ps.length ∧ i = .int .i64 k ∧ Sl wr u (bytes (l ++ be 8 ps.length ++ opsB (ps.take k))) ∧ Gr w wr) (fun _ _ i _ => ps.length - (intOf i).toNat)
  case atStart => exact ⟨0, Nat.zero_le _, rfl, by simpa [opsB_nil] using s1, g1⟩
  case round =>
    clear s1 g1
    obtain ⟨k, hk, rfl, hs2, hg⟩ := hrel
    obtain ⟨wo, rfl⟩ : ∃ wo : World, wo = wr := ⟨_, rfl⟩
    by_cases hlt : k < ps.length
    · obtain ⟨B, o, c, e0, hB, hop, hcell⟩ := HP.out k hlt
      obtain ⟨dv, hdv⟩ : ∃ dv, dv = D k := ⟨_, rfl⟩
      obtain ⟨qv, hqv⟩ : ∃ qv, qv = Q k := ⟨_, rfl⟩
      rw [← hdv, ← hqv] at hop hcell
      injection e0 with e1 _ e3
      subst e1 e3
      have hgg := H0.out.trans hg
      have sh1 := hop.parts.1.1.oneCells
      have sh2 := hop.parts.2.shape
      have cell : ∀ j u, j < 7 → (opCells ps[k].h dv qv)[j]? = some u → wo.cell? ⟨B, o + k * 7 + j, none⟩ = some u := fun j u hj hu => (hgg.cell (p := ⟨B, o + k * 7 + j, none⟩) hB).trans (hcell j u hj hu)
      have e1 : l ++ be 8 ps.length ++ opsB (ps.take k) ++ opB ps[k] = l ++ be 8 ps.length ++ opsB (ps.take (k + 1)) := by
        rw [List.take_add_one, List.getElem?_eq_getElem hlt, opsB_append]; simp [opsB_cons, opsB_nil]
      have e2 : (opsB (ps.take (k + 1))).length ≤ (opsB ps).length := by
        have := congrArg List.length (opsB_append (ps.take (k + 1)) (ps.drop (k + 1)))
        rw [List.take_append_drop, List.length_append] at this
        omega
      have hl9 : (l ++ be 8 ps.length ++ opsB (ps.take k)).length + (opB ps[k]).length ≤ 900000000 := by
        have := congrArg List.length e1
        simp only [List.length_append, be_length] at this ⊢
        omega
      have PUT := fun W hW v' hv => HPUT.out k hlt W v' (l ++ be 8 ps.length ++ opsB (ps.take k)) (hgg.trans hW) hv hl9
      rw [← hdv, ← hqv] at PUT
      have E1 := Lib.hid e1
      clear hdv hqv
      obtain ⟨x, hx⟩ : ∃ x, x = ps[k] := ⟨_, rfl⟩
      rw [← hx] at cell PUT E1 sh1 sh2
      clear e1 e2 hl9 hop hcell hx
      obtain ⟨⟨ki, pa, da, ve, sq, ep⟩, qs⟩ := x
      have c0 := cell 0 _ (by decide) rfl
      have c1 := cell 1 _ (by decide) rfl
      have c2 := cell 2 _ (by decide) rfl
      have c3 := cell 3 _ (by decide) rfl
      have c4 := cell 4 _ (by decide) rfl
      have c5 := cell 5 _ (by decide) rfl
      have c6 := cell 6 _ (by decide) rfl
      obtain ⟨ad, cd, rfl⟩ := sh1
      obtain ⟨aq, cq, rfl⟩ := sh2
      simp only [OpD.h, Nat.add_zero] at c0 c1 c2 c3 c4 c5 c6
      have i1 : (0 : Int) ≤ (k : Int) := by omega
      have i2 : (k : Int) < (ps.length : Int) := by omega
      have PU := Lib.hid PUT
      clear cell PUT
      go_wp2_with fail
      refine (PU.out _ ((Gr.refl wo).alloc _) _ (hs2.below ((Gr.refl wo).alloc _))).mono ?_
      rintro e w2 ⟨v2, rfl, s2, g2⟩
      rw [E1.out] at s2
      have S2 := Lib.hid s2
      have G2 := Lib.hid (hg.trans (((Gr.refl wo).alloc _).trans g2))
      clear s2 g2
      go_wp2
      go_roundw
      case rel => exact ⟨k + 1, by omega, by go_num, S2.out, G2.out⟩
      case measure => simp [intOf]; omega
    · obtain rfl : k = ps.length := by omega
      rw [List.take_of_length_le (Nat.le_refl _)] at hs2
      have S2 := Lib.hid hs2
      clear hs2
      go_wp2
      go_ret
      exact ⟨_, rfl, by rw [← List.append_assoc]; exact S2.out, hg⟩
set_option maxHeartbeats 2000000 in
theorem putOp_any (w0 : World) (o : OpD) (dv pv : Value) (h : OpP Any w0 o dv pv) : OpOk o → ∀ (w : World) (v : Value) (l : List UInt8), Gr w0 w → Sl w v (bytes l) → l.length + (opB o).length ≤ 900000000 →
    Calls Try.prog 28 #[v, .agg (opCells o.h dv pv).toArray] w (RetSl w (l ++ opB o)) := by
  induction h with
  | mk h ps dv pv R D Q h1 h2 h3 h4 ih =>
    intro hok w v l hg0 hs hl
    rw [OpOk_mk] at hok
    have hpo := OpsOk.mem hok.2
    have LIST := fun W hW v' l' hv hl' => listO_any w0 pv ps R D Q h2 h3 h4 (fun i hi w v l hg hs hl => ih i hi (hpo _ (List.getElem_mem hi)) w v l hg hs hl) W v' l' hW hv hl'
    rw [opB_mk] at hl ⊢
    simp only [List.length_append, headB_length, be_length] at hl
    obtain ⟨ad, cd, rfl⟩ := h1.1.oneCells
    obtain ⟨ap, cp, rfl⟩ := h2.shape
    obtain ⟨ki, pa, da, ve, sq, ep⟩ := h
    have hk : ki < 256 := hok.1.kind
    dsimp only at h1 hl
    have SD := Lib.hid (h1.1.below hg0)
    have HL := Lib.hid LIST
    have H0 := Lib.hid hg0
    clear LIST ih h1 h2 h3 h4 hpo hok hg0
    show Calls Try.prog 28 #[v, .agg #[.int .u8 (ki : Int), .string ⟨pa.toArray⟩, .slice ad (bytes da).length cd, .int .i64 ve, .bool sq, .bool ep, .slice ap ps.length cp]] w (RetSl w (l ++ (headB ⟨ki, pa, da, ve, sq, ep⟩ ++ be 8 ps.length ++ opsB ps)))
    obtain ⟨w1, hw1⟩ : ∃ w1, w1 = w.alloc (.cells #[.int .u8 (ki : Int), .string ⟨pa.toArray⟩, .slice ad (bytes da).length cd, .int .i64 ve, .bool sq, .bool ep, .slice ap ps.length cp] 37) := ⟨_, rfl⟩
    have g1 : Gr w w1 := by rw [hw1]; exact (Gr.refl w).alloc _
    have k1 : CellsAt w1 w.heap.size [.int .u8 (ki : Int), .string ⟨pa.toArray⟩, .slice ad (bytes da).length cd, .int .i64 ve, .bool sq, .bool ep, .slice ap ps.length cp] 37 := by rw [hw1]; exact CellsAt.new _ _ _
    have T : Hid (∀ W, Gr w1 W → W.cell? ⟨w.heap.size, 0, none⟩ = some (.int .u8 (ki : Int)) ∧ W.cell? ⟨w.heap.size, 1, none⟩ = some (.string ⟨pa.toArray⟩) ∧ W.cell? ⟨w.heap.size, 2, none⟩ = some (.slice ad (bytes da).length cd) ∧ W.cell? ⟨w.heap.size, 3, none⟩ = some (.int .i64 ve) ∧
        W.cell? ⟨w.heap.size, 4, none⟩ = some (.bool sq) ∧ W.cell? ⟨w.heap.size, 5, none⟩ = some (.bool ep) ∧ W.cell? ⟨w.heap.size, 6, none⟩ = some (.slice ap ps.length cp)) :=
      Lib.hid fun W hW => ⟨(k1.gr hW).cell 0, (k1.gr hW).cell 1, (k1.gr hW).cell 2, (k1.gr hW).cell 3, (k1.gr hW).cell 4, (k1.gr hW).cell 5, (k1.gr hW).cell 6⟩
    have S1 := Lib.hid (hs.below g1)
    have SD1 := Lib.hid (SD.out.below g1)
    have HW := Lib.hid hw1
    have G1 := Lib.hid g1
    have GD : Hid (Gr w1 w1.drew) := Lib.hid ((Gr.refl w1).drew)
    have L0 : l.length ≤ 1000000000 := by omega
    have L1 : (l ++ be 1 ki).length ≤ 1000000000 := by simp only [List.length_append, be_length]; omega
    have L2 : (l ++ (be 1 ki ++ textB pa)).length ≤ 1000000000 := by simp only [List.length_append, be_length, textB_length]; omega
    have L3 : (l ++ (be 1 ki ++ (textB pa ++ textB da))).length ≤ 1000000000 := by simp only [List.length_append, be_length, textB_length]; omega
    have L4 : (l ++ (be 1 ki ++ (textB pa ++ (textB da ++ be 8 (u64 ve))))).length ≤ 1000000000 := by simp only [List.length_append, be_length, textB_length]; omega
    have L5 : (l ++ (be 1 ki ++ (textB pa ++ (textB da ++ (be 8 (u64 ve) ++ flagB sq))))).length ≤ 1000000000 := by simp only [List.length_append, be_length, textB_length, flagB_length]; omega
    have LP : pa.length ≤ 1000000000 := by omega
    have LD : da.length ≤ 1000000000 := by omega
    have L6 : (l ++ (be 1 ki ++ (textB pa ++ (textB da ++ (be 8 (u64 ve) ++ (flagB sq ++ flagB ep)))))).length + 8 + (opsB ps).length ≤ 900000000 := by simp only [List.length_append, be_length, textB_length, flagB_length]; omega
    have hfin : headB ⟨ki, pa, da, ve, sq, ep⟩ ++ be 8 ps.length ++ opsB ps = be 1 ki ++ (textB pa ++ (textB da ++ (be 8 (u64 ve) ++ (flagB sq ++ (flagB ep ++ (be 8 ps.length ++ opsB ps)))))) := by simp [headB]
    rw [hfin]
    obtain ⟨a, c, rfl⟩ := hs.oneCells
    clear hw1 g1 k1 hs SD hfin
    go_enter Try.func28, Try.ntmps28
    go_wp2_with fail
    rw [← HW.out]
    apply wp_region_draw_grow (.eq _ :: .eq _ :: .eq _ :: .ok (fun v W => Sl W v (bytes (l ++ be 1 ki))) :: .eq _ :: .eq _ :: .ok (fun v W => Sl W v (bytes pa)) :: .ok (fun v W => Sl W v (bytes (l ++ (be 1 ki ++ textB pa)))) :: .eq _ :: .eq _ :: .ok (fun v W => Sl W v (bytes (l ++ (be 1 ki ++ (textB pa ++ textB da))))) :: .ok (fun v W => Sl W v (bytes (l ++ (be 1 ki ++ (textB pa ++ textB da))))) :: []) (by kernel_rfl) (by kernel_rfl) ⟨mono_sl _, mono_sl _, mono_sl _, mono_sl _, mono_sl _, trivial⟩
    iterate 3
     apply wpG_eq
     · intro W hW hs
       obtain ⟨c0, c1, c2, c3, c4, c5, c6⟩ := T.out W (GD.out.trans hW)
       unfold opG
       go_simp
       first | exact resG_eq_mk _ _ _ | rfl
     simp only [Act.put, pt1, pt2, pt3]
    apply wpG_ok
    · intro W hW hs
      obtain ⟨c0, c1, c2, c3, c4, c5, c6⟩ := T.out W (GD.out.trans hW)
      unfold opG
      go_simp
      refine resG_call ((wbyte _ l ki _ (S1.out.below (GD.out.trans hW)) L0 hk).mono ?_)
      rintro e W2 ⟨v2, rfl, s2, g2⟩
      exact ⟨_, rfl, g2, by simpa only [List.append_assoc] using s2⟩
    intro v3
    simp only [Act.put, pt1, pt2, pt3]
    iterate 2
     apply wpG_eq
     · intro W hW hs
       obtain ⟨c0, c1, c2, c3, c4, c5, c6⟩ := T.out W (GD.out.trans hW)
       unfold opG
       go_simp
       first | exact resG_eq_mk _ _ _ | rfl
     simp only [Act.put, pt1, pt2, pt3]
    apply wpG_ok
    · intro W hW hs
      obtain ⟨c0, c1, c2, c3, c4, c5, c6⟩ := T.out W (GD.out.trans hW)
      obtain ⟨vb, wb, hrb, sb, gb⟩ := run_bytes_sl (P := Try.prog) W 9 22 5 pa Try.underlying9 Try.underlying22 Try.underlying5
      unfold opG
      go_simp
      exact resG_mk gb sb
    intro v6
    simp only [Act.put, pt1, pt2, pt3]
    apply wpG_ok
    · intro W hW hs
      obtain s1 := hs _ (.tail _ (.head _)) (by rfl)
      obtain sp := hs _ (.head _) (by rfl)
      obtain ⟨c0, c1, c2, c3, c4, c5, c6⟩ := T.out W (GD.out.trans hW)
      unfold opG
      go_simp
      refine resG_call ((wtext _ _ _ pa _ s1 sp L1 LP).mono ?_)
      rintro e W2 ⟨v2, rfl, s2, g2⟩
      exact ⟨_, rfl, g2, by simpa only [List.append_assoc] using s2⟩
    intro v7
    simp only [Act.put, pt1, pt2, pt3]
    iterate 2
     apply wpG_eq
     · intro W hW hs
       obtain ⟨c0, c1, c2, c3, c4, c5, c6⟩ := T.out W (GD.out.trans hW)
       unfold opG
       go_simp
       first | exact resG_eq_mk _ _ _ | rfl
     simp only [Act.put, pt1, pt2, pt3]
    apply wpG_ok
    · intro W hW hs
      obtain s1 := hs _ (.head _) (by rfl)
      obtain ⟨c0, c1, c2, c3, c4, c5, c6⟩ := T.out W (GD.out.trans hW)
      unfold opG
      go_simp
      refine resG_call ((wtext _ _ _ da _ s1 (SD1.out.below (GD.out.trans hW)) L2 LD).mono ?_)
      rintro e W2 ⟨v2, rfl, s2, g2⟩
      exact ⟨_, rfl, g2, by simpa only [List.append_assoc] using s2⟩
    intro v10
    simp only [Act.put, pt1, pt2, pt3]
    apply wpG_ok
    · intro W hW hs
      obtain s1 := hs _ (.head _) (by rfl)
      obtain ⟨c0, c1, c2, c3, c4, c5, c6⟩ := T.out W (GD.out.trans hW)
      unfold opG
      go_simp
      exact resG_mk (Gr.refl _) s1
    intro v11
    simp only [Act.put, pt1, pt2]
    apply wpG_nil
    intro W9 hW9 hsAll
    obtain s9 := hsAll _ (.head _)
    clear hsAll
    have GA : Hid (Gr w1 W9) := Lib.hid (GD.out.trans hW9)
    have GB : Hid (Gr w1 W9.drew) := Lib.hid (GA.out.trans ((Gr.refl W9).drew))
    have SA := Lib.hid s9
    clear hW9 s9 S1
    go_wp2_with fail
    apply wp_region_draw_grow (.eq _ :: .eq _ :: .eq _ :: .ok (fun v W => Sl W v (bytes (l ++ (be 1 ki ++ (textB pa ++ (textB da ++ be 8 (u64 ve))))))) :: .eq _ :: .eq _ :: .ok (fun v W => Sl W v (bytes (l ++ (be 1 ki ++ (textB pa ++ (textB da ++ (be 8 (u64 ve) ++ flagB sq))))))) :: .eq _ :: .eq _ :: .ok (fun v W => Sl W v (bytes (l ++ (be 1 ki ++ (textB pa ++ (textB da ++ (be 8 (u64 ve) ++ (flagB sq ++ flagB ep)))))))) :: .ok (fun v W => Sl W v (bytes (l ++ (be 1 ki ++ (textB pa ++ (textB da ++ (be 8 (u64 ve) ++ (flagB sq ++ flagB ep)))))))) :: []) (by kernel_rfl) (by kernel_rfl) ⟨mono_sl _, mono_sl _, mono_sl _, mono_sl _, trivial⟩
    iterate 3
     apply wpG_eq
     · intro W hW hs
       obtain ⟨c0, c1, c2, c3, c4, c5, c6⟩ := T.out W (GB.out.trans hW)
       unfold opG
       go_simp
       first | exact resG_eq_mk _ _ _ | rfl
     simp only [Act.put, pt1, pt2, pt3]
    apply wpG_ok
    · intro W hW hs
      obtain ⟨c0, c1, c2, c3, c4, c5, c6⟩ := T.out W (GB.out.trans hW)
      unfold opG
      go_simp
      refine resG_call ((wint _ _ ve _ (SA.out.below (((Gr.refl W9).drew).trans hW)) L3).mono ?_)
      rintro e W2 ⟨v2, rfl, s2, g2⟩
      exact ⟨_, rfl, g2, by simpa only [List.append_assoc] using s2⟩
    intro v3
    simp only [Act.put, pt1, pt2, pt3]
    iterate 2
     apply wpG_eq
     · intro W hW hs
       obtain ⟨c0, c1, c2, c3, c4, c5, c6⟩ := T.out W (GB.out.trans hW)
       unfold opG
       go_simp
       first | exact resG_eq_mk _ _ _ | rfl
     simp only [Act.put, pt1, pt2, pt3]
    apply wpG_ok
    · intro W hW hs
      obtain s1 := hs _ (.head _) (by rfl)
      obtain ⟨c0, c1, c2, c3, c4, c5, c6⟩ := T.out W (GB.out.trans hW)
      unfold opG
      go_simp
      refine resG_call ((flag_any _ _ sq _ s1 L4).mono ?_)
      rintro e W2 ⟨v2, rfl, s2, g2⟩
      exact ⟨_, rfl, g2, by simpa only [List.append_assoc] using s2⟩
    intro v6
    simp only [Act.put, pt1, pt2, pt3]
    iterate 2
     apply wpG_eq
     · intro W hW hs
       obtain ⟨c0, c1, c2, c3, c4, c5, c6⟩ := T.out W (GB.out.trans hW)
       unfold opG
       go_simp
       first | exact resG_eq_mk _ _ _ | rfl
     simp only [Act.put, pt1, pt2, pt3]
    apply wpG_ok
    · intro W hW hs
      obtain s1 := hs _ (.head _) (by rfl)
      obtain ⟨c0, c1, c2, c3, c4, c5, c6⟩ := T.out W (GB.out.trans hW)
      unfold opG
      go_simp
      refine resG_call ((flag_any _ _ ep _ s1 L5).mono ?_)
      rintro e W2 ⟨v2, rfl, s2, g2⟩
      exact ⟨_, rfl, g2, by simpa only [List.append_assoc] using s2⟩
    intro v9
    simp only [Act.put, pt1, pt2, pt3]
    apply wpG_ok
    · intro W hW hs
      obtain s1 := hs _ (.head _) (by rfl)
      obtain ⟨c0, c1, c2, c3, c4, c5, c6⟩ := T.out W (GB.out.trans hW)
      unfold opG
      go_simp
      exact resG_mk (Gr.refl _) s1
    intro v10
    simp only [Act.put, pt1, pt2]
    apply wpG_nil
    intro W8 hW9 hsAll
    obtain s9 := hsAll _ (.head _)
    clear hsAll
    have GC := Lib.hid (GB.out.trans hW9)
    have SB := Lib.hid s9
    have c6 := (T.out _ GC.out).2.2.2.2.2.2
    clear hW9 s9 SA
    go_wp2_with fail
    refine (HL.out _ (H0.out.trans (G1.out.trans GC.out)) _ _ SB.out L6).mono ?_
    rintro e w2 ⟨v2, rfl, s2, g2⟩
    have G2 := Lib.hid (G1.out.trans (GC.out.trans g2))
    have S3 : Hid (Sl w2 v2 (bytes (l ++ (be 1 ki ++ (textB pa ++ (textB da ++ (be 8 (u64 ve) ++ (flagB sq ++ (flagB ep ++ (be 8 ps.length ++ opsB ps)))))))))) := Lib.hid (by simpa only [List.append_assoc] using s2)
    clear s2 g2
    go_wp2
    go_ret
    exact ⟨_, rfl, S3.out, G2.out⟩
end Go.Proofs.Ytiemgmbjhllmbaa
