/-
  Of the document: what puts sessions, stamps, operations behind bytes.
-/
import Derived.Test.YtgilijkmmcpfjaaZRApp
import Derived.Test.YtgilijkmmcpfjaaZEnPut
set_option linter.unusedVariables false
set_option linter.unusedSimpArgs false
set_option maxRecDepth 100000
namespace Go.Proofs.Ytgilijkmmcpfjaa
open Go.RowKit
theorem run_bytes_new {P : Program} (w : World) (src dst e : TypeId) (l : List UInt8) (hs : P.underlying src = some .string) (hd : P.underlying dst = some (.slice e)) (he : P.underlying e = some (.int .u8)) :
    ∃ v w', (convert src dst (.string ⟨l.toArray⟩)).run P w = .ok v w' ∧ Sl w' v (bytes l) ∧ Below w.heap.size w w' ∧ ∀ k, v.ownBlock = some k → k = w.heap.size ∧ w.heap.size < w'.heap.size := by
  refine ⟨_, _, Lib.run_convert_string_bytes (P := P) w src dst e ⟨l.toArray⟩ hs hd he, ?_, ?_, ?_⟩
  · have hsz : (⟨l.toArray⟩ : ByteArray).size = l.length := rfl
    refine ⟨some ⟨w.heap.size, 0, none⟩, grownCap w (⟨l.toArray⟩ : ByteArray).size 0 e, by rw [bytes_length, hsz], by rw [bytes_length, ← hsz]; exact grownCap_ge _ _ _ _, .inr ⟨w.heap.size, 0, rfl, ?_, fun k hk => ?_⟩⟩
    · rw [Lib.bytesWorld_size]; omega
    · rw [bytes_length] at hk
      rw [Nat.zero_add, Lib.bytesWorld_cell w e ⟨l.toArray⟩ k hk]
      simp [bytes, byte, List.getD, List.getElem?_eq_getElem hk]
  · exact ⟨rfl, rfl, rfl, by rw [Lib.bytesWorld_size]; omega, fun k hk => Lib.bytesWorld_at_old w e _ k hk⟩
  · intro k hk
    have : some w.heap.size = some k := hk
    injection this with this
    exact ⟨this.symm, by rw [Lib.bytesWorld_size]; omega⟩
theorem SlU.new {v0 : Value} {l : List UInt8} {w : World} {U : Nat → Prop} {W W' : World} {v : Value} (h : Sl W' v (bytes l)) (hk : ∀ k, v.ownBlock = some k → k = W.heap.size ∧ W.heap.size < W'.heap.size) (hv : ∀ k, v0.ownBlock = some k → k < w.heap.size) (hw : w.heap.size ≤ W.heap.size) (hU : InU w U W) : SlU v0 l v U W' :=
  ⟨h, fun k e => by
    obtain ⟨rfl, h2⟩ := hk k e
    refine ⟨h2, fun e2 => ?_, fun e2 => ?_⟩
    · have := hv _ e2; omega
    · have := (hU _ e2).2; omega⟩
theorem SlU.byte {v0 : Value} {w : World} {U : Nat → Prop} {W : World} (x : Nat) (hx : x < 256) (hv : ∀ k, v0.ownBlock = some k → k < w.heap.size) (hw : w.heap.size ≤ W.heap.size) (hU : InU w U W) : SlU v0 (be 1 x) (.slice (some ⟨W.heap.size, 0, none⟩) 1 1) U (W.alloc (.cells #[.int .u8 (x : Int)] 5)) :=
  SlU.new (sl_byte W x hx) (fun k e => by
    have : some W.heap.size = some k := e
    injection this with this
    exact ⟨this.symm, by simp⟩) hv hw hU
theorem Sl.numsAt' {w : World} {v : Value} {xs : List Nat} (h : Sl w v (Ytgilijkmmcpfjaa.nums xs)) : ∃ a cap, v = .slice a xs.length cap ∧ xs.length ≤ cap ∧ True := by
  obtain ⟨a, cap, e, hc, _⟩ := h
  rw [nums_length] at e hc
  exact ⟨a, cap, e, hc, trivial⟩
theorem Sl.numAt {w : World} {a : Option Addr} {n cap : Nat} {xs : List Nat} (h : Sl w (.slice a n cap) (Ytgilijkmmcpfjaa.nums xs)) (k : Nat) (hk : k < xs.length) : ∃ b off, a = some ⟨b, off, none⟩ ∧ w.cell? ⟨b, off + k, none⟩ = some (.int .u64 (xs[k] : Int)) := by
  obtain ⟨a', cap', e, hc, h⟩ := h
  injection e with e1 e2 e3
  subst e1
  rcases h with h | ⟨b, off, rfl, _, hcell⟩
  · have h0 : (Ytgilijkmmcpfjaa.nums xs).length = 0 := by rw [h]; rfl
    rw [nums_length] at h0; omega
  · refine ⟨b, off, rfl, ?_⟩
    have := hcell k (by rw [nums_length]; exact hk)
    rw [this]
    simp [Ytgilijkmmcpfjaa.nums, num64]
/-- Slices that lie below B stay. -/
theorem SlP.at {B : Nat} {w W : World} {v : Value} {xs : List Value} (h : SlP (fun k => k < B) w v xs) (k : Keep (fun k => k < B) w W) : Sl W v xs := (h.keep k).1
theorem keep_rho {B : Nat} {v0 : Value} {w W : World} (h : Ch (rhoOf v0) w W) (hv : ∀ k, v0.ownBlock = some k → B ≤ k) : Keep (fun k => k < B) w W := Keep.of_ch h (fun b h1 h2 => by have := hv b h2; omega)
theorem rho_ne {v0 : Value} {b B : Nat} (hb : B ≤ b) (hv : ∀ k, v0.ownBlock = some k → k < B) : ¬ rhoOf v0 b := fun e => by have := hv b e; omega
theorem CellsAt.chR {w W : World} {v0 : Value} {b B : Nat} {cs : List Value} {t : TypeId} (h : CellsAt w b cs t) (g : Ch (rhoOf v0) w W) (hb : B ≤ b) (hv : ∀ k, v0.ownBlock = some k → k < B) : CellsAt W b cs t := (g.block _ h.lt (rho_ne hb hv)).trans h
set_option maxHeartbeats 1000000 in
theorem dsess_any (w : World) (B : Nat) (v : Value) (l : List UInt8) (s : Int) (n : Nat) (hn : n < 2 ^ 32) (ho : Own w B 5 v (bytes l)) (hB : B ≤ w.heap.size) (hl : l.length ≤ 800000000) :
    Calls Try.prog 62 #[v, .agg #[.int .i64 s, .int .u32 (n : Int)]] w (RetApp w B v (l ++ sessB s n)) := by
  have EE : Hid (l ++ sessB s n = l ++ be 1 (byteOf s) ++ be 8 n) := Lib.hid (by unfold sessB; rw [List.append_assoc])
  obtain ⟨w1, hbox⟩ : ∃ w1, w1 = w.alloc (.cells #[.int .i64 s, .int .u32 (n : Int)] 39) := ⟨_, rfl⟩
  have g1 : Gr w w1 := by rw [hbox]; exact (Gr.refl w).alloc _
  have k1 : CellsAt w1 w.heap.size [.int .i64 s, .int .u32 (n : Int)] 39 := by rw [hbox]; exact CellsAt.new _ _ _
  have HV : Hid (∀ k, v.ownBlock = some k → k < w.heap.size) := Lib.hid fun k hk => (World.ownsRow.lt ho k hk).2
  have HV0 : Hid (∀ k, v.ownBlock = some k → k < w1.drew.heap.size) := Lib.hid fun k hk => Nat.lt_of_lt_of_le (HV.out k hk) g1.size
  have HV1 : Hid (∀ k, v.ownBlock = some k → B ≤ k) := Lib.hid (ho.ownBlock_ge)
  have KB : Hid (∀ W, Ch (rhoOf v) w1.drew W → CellsAt W w.heap.size [.int .i64 s, .int .u32 (n : Int)] 39) := Lib.hid fun W hW => (k1.gr (Gr.refl w1).drew).chR hW (Nat.le_refl _) HV.out
  have HO := Lib.hid (ho.gr g1)
  have HBx : Hid (B ≤ w1.heap.size) := Lib.hid (Nat.le_trans hB g1.size)
  have HW := Lib.hid hbox
  have G1 := Lib.hid g1
  have w8 : IntKind.u8.wrap s = ((byteOf s : Nat) : Int) := by rw [byteOf_cast]; simp [IntKind.wrap, IntKind.bits, IntKind.signed]
  have wn := wrap_nat64 n (by omega)
  have h64 : n < 2 ^ 64 := by omega
  clear hbox g1 k1 ho hB
  go_enter Try.func62, Try.ntmps62
  go_wp2_with fail
  rw [← HW.out]
  apply wp_region_draw_turnU (rhoOf v) (StU B v (fun k => ([l, l ++ be 1 (byteOf s), l ++ be 1 (byteOf s) ++ be 8 n, l ++ be 1 (byteOf s) ++ be 8 n] : List (List UInt8)).getD k [])) (.eq _ :: .eq _ :: .eq _ :: .eq _ :: .ok (SlU v (be 1 (byteOf s))) :: .use TU :: .eq _ :: .eq _ :: .eq _ :: .use TU :: .use TU :: []) (by kernel_rfl) (by kernel_rfl) (by kernel_rfl) ⟨SlU.mono _ _, TU.mono _, TU.mono _, TU.mono _, trivial⟩ StU.gr ⟨(HO.out.gr (Gr.refl _).drew), fun k hk => .inl hk⟩
  iterate 4
   apply wpU_eq
   · intro U W hW hU hs
     have KX := KB.out W hW
     have c0 := KX.cell 0
     have c1 := KX.cell 1
     clear KX
     unfold opT
     go_simp
     first | exact resT_eq_mk _ _ _ | exact ⟨Gr.refl _, rfl⟩
   simp only [Act.put, pt1, pt2, pt3]
  apply wpU_ok
  · intro U W hW hU hs
    have KX := KB.out W hW
    have c0 := KX.cell 0
    have c1 := KX.cell 1
    clear KX
    unfold opT
    go_simp
    exact resT_mk ((Gr.refl _).alloc _) (SlU.byte (byteOf s) (byteOf_lt s) HV0.out hW.size hU)
  intro v4
  simp only [Act.put, pt1, pt2, pt3]
  apply wpU_use
  · intro U W hW hU hS hs
    have KX := KB.out W hW
    have c0 := KX.cell 0
    have c1 := KX.cell 1
    clear KX
    have hu : Own W B 5 v (bytes (l)) := hS.1
    have hBW : B ≤ W.heap.size := Nat.le_trans HBx.out hW.size
    have hlen : (l).length ≤ 900000000 := (by (try simp only [List.length_append, be_length, textB_length, flagB_length, sessB_length, stampB_length, headB_length]); omega)
    obtain ⟨s8, _⟩ := hs _ (.head _) (by rfl)
    obtain ⟨vr, wr9, hr, ha⟩ := run_append_c W B v _ (l) (be 1 (byteOf s)) hu s8 (by have h1 := hlen; have h2 : (be 1 (byteOf s)).length ≤ 900000000 := (by (try simp only [List.length_append, be_length, textB_length, flagB_length, sessB_length, stampB_length, headB_length]); omega); omega) hBW
    obtain ⟨c1, c2⟩ := StU.user hS (v' := vr) (W' := wr9) (by first | exact ha | simpa only [List.append_assoc] using ha)
    exact opT_append hr rfl _ _ rfl rfl rfl ⟨c1, c2, trivial⟩
  intro u1
  simp only [Act.put, pt1, pt2, pt3]
  iterate 3
   apply wpU_eq
   · intro U W hW hU hs
     have KX := KB.out W hW
     have c0 := KX.cell 0
     have c1 := KX.cell 1
     clear KX
     unfold opT
     go_simp
     first | exact resT_eq_mk _ _ _ | exact ⟨Gr.refl _, rfl⟩
   simp only [Act.put, pt1, pt2, pt3]
  apply wpU_use
  · intro U W hW hU hS hs
    have KX := KB.out W hW
    have c0 := KX.cell 0
    have c1 := KX.cell 1
    clear KX
    have hu : Own W B 5 u1 (bytes (l ++ be 1 (byteOf s))) := hS.1
    have hBW : B ≤ W.heap.size := Nat.le_trans HBx.out hW.size
    have hlen : (l ++ be 1 (byteOf s)).length ≤ 900000000 := (by (try simp only [List.length_append, be_length, textB_length, flagB_length, sessB_length, stampB_length, headB_length]); omega)
    refine opT_hide fun VV hVV => ?_
    have HVV := Lib.hid hVV
    have HS := Lib.hid hS
    clear hVV hS
    unfold opT
    go_simp
    refine resT_call ((dnum_any W B u1 (l ++ be 1 (byteOf s)) n h64 hu hBW (by have := hlen; omega)).mono ?_)
    rintro e W2 ⟨v2, rfl, ha⟩
    obtain ⟨c1, c2⟩ := StU.user HS.out (v' := v2) (W' := W2) (by first | exact ha | simpa only [List.append_assoc] using ha)
    exact ⟨_, rfl, c1, HVV.out _ _ ⟨c2, trivial⟩⟩
  intro u2
  simp only [Act.put, pt1, pt2, pt3]
  apply wpU_use
  · intro U W hW hU hS hs
    have KX := KB.out W hW
    have c0 := KX.cell 0
    have c1 := KX.cell 1
    clear KX
    have hu : Own W B 5 u2 (bytes (l ++ be 1 (byteOf s) ++ be 8 n)) := hS.1
    have hBW : B ≤ W.heap.size := Nat.le_trans HBx.out hW.size
    have hlen : (l ++ be 1 (byteOf s) ++ be 8 n).length ≤ 900000000 := (by (try simp only [List.length_append, be_length, textB_length, flagB_length, sessB_length, stampB_length, headB_length]); omega)
    have ha := App.refl hu
    obtain ⟨c1, c2⟩ := StU.user hS (v' := u2) (W' := W) ha
    refine opT_hide fun VV hVV => ?_
    have HVV := Lib.hid (hVV _ _ ⟨c2, trivial⟩)
    clear hVV c2
    unfold opT
    go_simp
    exact ⟨c1, HVV.out⟩
  intro u3
  simp only [Act.put, pt1, pt2, pt3]
  apply wpU_nil
  intro U W9 hW9 hU9 hS9 hs9
  have hA : App w1 B v (l ++ be 1 (byteOf s) ++ be 8 n) u3 W9 := App.grL ((Gr.refl _).drew) (StU.fin hS9 hW9 hU9)
  have KP : Keep (fun k => k < B) w1 W9 := hA.keep HV1.out
  have AA := Lib.hid (App.grL G1.out hA)
  clear hS9 hW9 hU9 hs9 hA KP
  go_wp2
  go_ret
  exact ⟨_, rfl, by rw [EE.out]; exact AA.out⟩
set_option maxHeartbeats 1000000 in
theorem dstamp_any (w : World) (B : Nat) (v vl : Value) (l : List UInt8) (xs : List Nat) (hx : SlP (fun k => k < B) w vl (nums xs)) (hk : ∀ k ∈ xs, k < 2 ^ 64) (ho : Own w B 5 v (bytes l)) (hB : B ≤ w.heap.size) (hl : l.length + 8 + xs.length * 8 ≤ 900000000) :
    Calls Try.prog 59 #[v, vl] w (RetApp w B v (l ++ stampB xs)) := by
  have EE : Hid (l ++ stampB xs = l ++ be 8 xs.length ++ (xs.take xs.length).flatMap (be 8)) := Lib.hid (by unfold stampB; rw [List.take_length, List.append_assoc])
  obtain ⟨a, cap, hv, hcap, _⟩ := Sl.numsAt' hx.1
  subst hv
  have XN := Lib.hid fun W (hW : Keep (fun k => k < B) w W) => (hx.keep hW).1
  have HV1 : Hid (∀ k, v.ownBlock = some k → B ≤ k) := Lib.hid (ho.ownBlock_ge)
  have HB := Lib.hid hB
  have HK := Lib.hid hk
  have wn := wrap_nat64 xs.length (by omega)
  have C := Lib.hid (dnum_any w B v l xs.length (by omega) ho hB (by omega))
  clear ho hB hx
  go_enter Try.func59, Try.ntmps59
  go_wp2_with fail
  refine C.out.mono ?_
  rintro e w1 ⟨v1, rfl, ha⟩
  have HA := Lib.hid ha
  clear ha
  go_wp2_with fail
  go_loopw [0, 5] (fun u i wr => ∃ k : Nat, k ≤ xs.length ∧ i = .int .i64 k ∧ App w B v (l ++ be 8 xs.length ++ (xs.take k).flatMap (be 8)) u wr) (fun _ i _ => xs.length - (intOf i).toNat)
  case atStart => exact ⟨0, Nat.zero_le _, rfl, by simpa using HA.out⟩
  case round =>
    obtain ⟨k, hk, rfl, hap⟩ := hrel
    by_cases hlt : k < xs.length
    · obtain ⟨Bx, off, rfl, hcell⟩ := Sl.numAt (XN.out wr (hap.keep HV1.out)) k hlt
      have e1 : l ++ be 8 xs.length ++ (xs.take k).flatMap (be 8) ++ be 8 xs[k] = l ++ be 8 xs.length ++ (xs.take (k + 1)).flatMap (be 8) := by
        rw [List.take_add_one, List.getElem?_eq_getElem hlt, List.flatMap_append, List.append_assoc]; simp
      have D := dnum_any wr B _ (l ++ be 8 xs.length ++ (xs.take k).flatMap (be 8)) xs[k] (HK.out _ (List.getElem_mem hlt)) hap.own (Nat.le_trans HB.out hap.grown.size) (by
        rw [List.length_append, List.length_append, be_length, flatBe_length, List.length_take]; omega)
      rw [e1] at D
      have DD := Lib.hid D
      have HAP := Lib.hid hap
      clear D e1 hap
      have i1 : (0 : Int) ≤ (k : Int) := by omega
      have i2 : (k : Int) < (xs.length : Int) := by omega
      go_wp2_with fail
      refine DD.out.mono ?_
      rintro e w2 ⟨v2, rfl, ha⟩
      have HA2 := Lib.hid (HAP.out.trans ha)
      clear ha
      go_wp2
      go_roundw
      case rel => exact ⟨k + 1, by omega, by go_num, HA2.out⟩
      case measure => simp [intOf]; omega
    · obtain rfl : k = xs.length := by omega
      rw [← EE.out] at hap
      have HAP := Lib.hid hap
      clear hap
      go_wp2
      go_ret
      exact ⟨_, rfl, HAP.out⟩
end Go.Proofs.Ytgilijkmmcpfjaa
