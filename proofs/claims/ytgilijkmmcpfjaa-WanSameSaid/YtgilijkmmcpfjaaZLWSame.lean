/-
  WanSame: bytes that are a message are those that it is put as; it may be told; what is got is new memory; what is handed in stays. Every input (the law looks at up to 5,000 bytes); no conditions.
-/
import Derived.Test.YtgilijkmmcpfjaaZW3
import Derived.Test.YtgilijkmmcpfjaaZWMayX
import Derived.Test.YtgilijkmmcpfjaaZB
set_option linter.unusedVariables false
set_option linter.unusedSimpArgs false
set_option maxRecDepth 100000
namespace Go.Proofs.Ytgilijkmmcpfjaa
open Go.RowKit
theorem wrap_inc (c : UInt8) : (((c + 1).toNat : Nat) : Int) = ((c.toNat : Int) + 1) % 256 := by
  simp [UInt8.toNat_add]
theorem bytes_nil' {l : List UInt8} : bytes l = [] ↔ l = [] := by unfold Go.Proofs.Ytgilijkmmcpfjaa.bytes; simp
theorem wpList_buildW {P : Program} {ops : Array Oper} {rest : List Oper} {o : Oper} {a : Act} {w : World} {Q : Exit → Act → World → Prop} (hw : Region.wanted o (yielded ops a.tmps) = true) (t : TypeId) (parts : Array (Nat × Operand)) (ho : o.op = .build t parts)
    (d : Option Tmp) (hd : o.dst = d) (cells : Array Value) (hf : P.built t (parts.map fun (i, x) => (i, a.eval x)).toList = some cells)
    (h : wpList P ops Q rest (a.put d (.agg cells)) w) : wpList P ops Q (o :: rest) a w := by
  subst hd
  exact BigFrame.wpList_want hw fun _ hK => wp_build t parts ho (by rw [hf]; rfl) (by rw [hf]; exact hK _ _ h)
set_option maxHeartbeats 8000000 in
theorem same_walk (w : World) (vb : Value) (l : List UInt8) (hl : Sl w vb (bytes l)) (hlen : l.length ≤ maxLen) :
    Calls Try.prog 5 #[vb] w fun e w' => e = .returned (.bool true) ∧ Below w.heap.size w w' := by
  obtain ⟨ab, cb, rfl⟩ := hl.oneCells
  rw [bytes_length] at hl ⊢
  have hmx : l.length ≤ 9223372036854775807 := Nat.le_trans hlen (by decide)
  by_cases h6 : 5000 < l.length
  · have hi : (5000 : Int) < (l.length : Int) := by omega
    clear hlen
    go_enter Try.func5, Try.ntmps5
    go_wp2
    go_ret
    exact ⟨rfl, Below.refl _ _⟩
  have hi : (l.length : Int) ≤ 5000 := by omega
  have HL5 : Hid (l.length ≤ 5000) := Lib.hid (by omega)
  obtain ⟨v1, w1, hr1, ho1, hg1⟩ := run_append_u8 (w.alloc (.cells #[] 5)) w.heap.size (.slice (some ⟨w.heap.size, 0, none⟩) 0 0) (.slice ab l.length cb) [] l (Own.nil_lit _ _ (Nat.le_refl _)) (hl.below ((Below.refl _ _).alloc (Nat.le_refl _) _)) (by simp; omega) (by simp)
  rw [List.nil_append] at ho1
  have b1 : Below w.heap.size w w1 := ((Below.refl _ _).alloc (Nat.le_refl _) _).grown hg1 (by simp) (fun k hk => by simp [Value.ownBlock] at hk; omega)
  obtain ⟨a1, c1, rfl⟩ := ho1.shape
  rw [bytes_length] at ho1 hr1
  have HR1 := Lib.hid hr1
  have SL := Lib.hid fun W (hW : Gr w W) => hl.below hW
  obtain ⟨hsh, hok, hln⟩ := getW_all l
  obtain ⟨x, hx⟩ : ∃ x, x = (getW l).1 := ⟨_, rfl⟩
  obtain ⟨ne, hne⟩ : ∃ ne, ne = (getW l).2 := ⟨_, rfl⟩
  have RG : Hid (∀ W e W', RetGetW W l e W' → ∃ q, e = .returned (.tuple #[.agg (wC x q).toArray, .int .i64 ne]) ∧ wP (From W.heap.size) W' x q ∧ Gr W W') := Lib.hid fun W e W' h => by rw [hx, hne]; exact retGetW3 h
  have BAD : Hid (ne ≠ 0 → x = zeroW ∧ ne = 2) := Lib.hid fun h => by rw [hne] at h; rw [hx, hne, getW_bad h]; exact ⟨rfl, rfl⟩
  have GOOD : Hid (ne = 0 → mayW x = true ∧ wanB x = l ∧ putW x = (l, 0)) := Lib.hid fun h => by
    rw [hne] at h
    obtain ⟨g1, g2, g3⟩ := getW_good h
    rw [hx]
    refine ⟨(mayW_iff _).2 g2, g3, ?_⟩
    rw [putW_may g2, g3]
  have PUT : Hid (∀ W q, wP Any W x q → Calls Try.prog 10 #[.agg (wC x q).toArray] W (RetPutW W x)) := Lib.hid fun W q h => by rw [hx] at h ⊢; exact putW_any W _ _ _ _ h hok hln
  have MAY : Hid (∀ W q, wP Any W x q → Calls Try.prog 16 #[.agg (wC x q).toArray] W (RetBool W (mayW x))) := Lib.hid fun W q h => by rw [hx] at h ⊢; exact dmayW_any W _ _ _ _ h hsh
  clear hx hne hsh hl hlen h6 hr1 hg1 hok hln
  have S1 := Lib.hid ho1.sl
  have O1 := Lib.hid ho1
  have B1 := Lib.hid b1
  clear ho1 b1
  go_enter Try.func5, Try.ntmps5
  go_wp2_with (at_builtin; refine wpList_run_append HR1.out rfl _ _ rfl rfl rfl ?_; clear HR1)
  refine (getW_any w1 _ l S1.out (by have := HL5.out; omega)).mono ?_
  intro en w2 hr2
  obtain ⟨q2, rfl, p2, g2⟩ := RG.out _ _ _ hr2
  have P2 := Lib.hid p2
  obtain ⟨E, hE⟩ : ∃ E, E = wC x q2 := ⟨_, rfl⟩
  have EN : Hid (E.length = 7) := Lib.hid (by rw [hE]; rfl)
  have E1 : Hid (oneAll E) := Lib.hid (by rw [hE]; exact p2.one)
  have HE := Lib.hid hE
  have G2 := Lib.hid g2
  have HZ2 : Hid (w1.heap.size ≤ w2.heap.size) := Lib.hid g2.size
  rw [← hE]
  clear hr2 p2 g2 hE
  go_wp2_with (first | (refine wpList_storeE wanTy _ _ rfl rfl rfl rfl (CellsAt.new _ _ _) EN.out rfl E1.out ?_) | fail)
  intro w3 k3 ch3
  have g3 : Gr w2 w3 := Below.trans ((Gr.refl w2).alloc _) (ch3.below ((Gr.refl w2).alloc _).size (fun k hk => by have : k = w2.heap.size := hk; omega))
  have K3 := Lib.hid k3
  have P3 := Lib.hid (P2.out.gr g3)
  have G13 := Lib.hid (G2.out.trans g3)
  have G3 := Lib.hid (B1.out.trans (Below.mono G13.out B1.out.size))
  clear k3 ch3 g3 P2 G2
  by_cases hz : ne = 0
  · subst hz
    obtain ⟨hm, ht, hp⟩ := GOOD.out rfl
    have HM := Lib.hid hm
    have HP := Lib.hid hp
    obtain ⟨gm, hgm⟩ : ∃ gm, gm = w2.heap.size := ⟨_, rfl⟩
    have HG : Hid (w1.heap.size ≤ gm) := Lib.hid (by rw [hgm]; exact HZ2.out)
    have O3 := Lib.hid (O1.out.gr G13.out)
    have OL := Lib.hid (fun j hj => (O1.out.lt j hj).2)
    rw [← hgm] at K3 ⊢
    clear hm ht hp hgm O1 G13
    go_wp2_with fail
    go_loopw [6] (fun i wr => ∃ k : Nat, k ≤ l.length ∧ i = .int .i64 k ∧ ∃ l' : List UInt8, l'.length = l.length ∧ Own wr w.heap.size 5 (.slice a1 l'.length c1) (bytes l') ∧ Hid (CellsAt wr gm E 26) ∧ Hid (wP (From w1.heap.size) wr x q2) ∧ Below w.heap.size w wr) (fun i _ => l.length - (intOf i).toNat)
    case atStart => exact ⟨0, Nat.zero_le _, rfl, l, rfl, O3.out, K3, P3, G3.out⟩
    case round =>
      clear O3 K3 P3 G3
      obtain ⟨k, hk, rfl, l', hl', ho, KE, PE, bw⟩ := hrel
      obtain ⟨wo, rfl⟩ : ∃ wo : World, wo = wr := ⟨_, rfl⟩
      by_cases hlt : k < l.length
      · have hne : bytes l' ≠ [] := fun e => by rw [bytes_nil'] at e; rw [e] at hl'; simp at hl'; omega
        obtain ⟨g, cap, hv, hg0, hg1, _⟩ := ho.form hne
        injection hv with e1 e2 e3
        subst e1
        have hk' : k < l'.length := by omega
        have hgw1 : g < w1.heap.size := OL.out g rfl
        have ck := ho.cellByte k l'[k] (List.getElem?_eq_getElem hk')
        have fk := ho.frozenByte k
        have i1 : (0 : Int) ≤ (k : Int) := by omega
        have i2 : (k : Int) < (l.length : Int) := by omega
        have ho' := ho.storeByte k (l'[k] + 1)
        have hlen' : (l'.set k (l'[k] + 1)).length = l'.length := by simp
        have hgr := grownBy_setCell wo g k (.int .u8 ((l'[k] + 1).toNat : Int))
        have hm' := KE.out.other hgr (fun e => by injection e with e; have := HG.out; omega)
        have hl'' := PE.out.keep (Keep.of_grown hgr (fun h => by have h1 : w1.heap.size ≤ g := h; omega))
        have bw' := bw.trans (grownBy_below (B := w.heap.size) hgr bw.size (fun j hj => by cases hj; exact hg0))
        have ho2 : Own (wo.setCell ⟨g, k, none⟩ (.int .u8 ((l'[k] + 1).toNat : Int))) w.heap.size 5 (.slice (some ⟨g, 0, none⟩) (l'.set k (l'[k] + 1)).length c1) (bytes (l'.set k (l'[k] + 1))) := by rw [hlen']; exact ho'
        clear ho'
        have ho' := ho2
        clear ho2
        rw [wrap_inc] at ho' hm' hl'' bw'
        have HO := Lib.hid ho'
        have HMm := Lib.hid hm'
        have HLL := Lib.hid hl''
        have HBW := Lib.hid bw'
        clear ho' hm' hl'' bw' hgr ho KE PE bw
        generalize l'[k] = c at *
        rw [hl'] at *
        go_wp2_with fail
        go_roundw
        case rel => exact ⟨k + 1, by omega, by go_num, _, by rw [hlen'], HO.out, HMm, HLL, HBW.out⟩
        case measure => simp [intOf]; omega
      · obtain rfl : k = l.length := by omega
        have PU := PUT.out wo q2 (PE.out.mono (fun _ _ => trivial))
        have PU2 : Calls Try.prog 10 #[.agg E.toArray] wo (fun e w' => ∃ v, e = .returned (.tuple #[v, .int .i64 0]) ∧ Sl w' v (bytes l) ∧ Gr wo w') := by
          rw [HE.out]
          refine PU.mono ?_
          rintro e w' ⟨v, he, hs, hg⟩
          rw [HP.out] at he hs
          exact ⟨v, he, hs, hg⟩
        have PH := Lib.hid PU2
        have BW := Lib.hid bw
        clear PU PU2 ho bw hl'
        go_wp2_with (first | (refine wpList_loadE wanTy _ rfl rfl rfl KE.out EN.out ?_) | fail)
        refine (PH.out).mono ?_
        rintro en w5 ⟨v5, rfl, s5, g5⟩
        have K5 := Lib.hid (KE.out.gr g5)
        have P5 := Lib.hid (PE.out.gr g5)
        have B5 := Lib.hid (BW.out.trans (Below.mono g5 BW.out.size))
        have r1 := run_string_sl (P := Try.prog) 28 5 9 Try.underlying28 Try.underlying5 Try.underlying9 s5
        have r2 := run_string_sl (P := Try.prog) 28 5 9 Try.underlying28 Try.underlying5 Try.underlying9 (SL.out w5 B5.out)
        obtain ⟨a5, c5, hv5⟩ := s5.oneCells
        rw [bytes_length] at hv5
        subst hv5
        have MY := MAY.out w5 q2 (P5.out.mono (fun _ _ => trivial))
        rw [← HE.out] at MY
        have MH := Lib.hid MY
        clear s5 g5 KE PE PH BW MY
        go_wp2_with (first | (refine wpList_loadW wanTy _ rfl rfl rfl K5.out EN.out ?_) | fail)
        refine (MH.out).mono ?_
        rintro en w6 ⟨rfl, g6⟩
        rw [HM.out]
        have B6 := Lib.hid (B5.out.trans (Below.mono g6 B5.out.size))
        clear g6
        go_wp2_with fail
        refine (tells_any w6).mono ?_
        rintro en w7 ⟨rfl, g7⟩
        have B7 := Lib.hid (B6.out.trans (Below.mono g7 B6.out.size))
        clear g7
        go_wp2
        go_ret
        exact ⟨rfl, B7.out⟩
  · obtain ⟨hxz, rfl⟩ := BAD.out hz
    have SAME : Calls Try.prog 15 #[.agg E.toArray, .agg zeroWL.toArray] w3 (fun e w' => e = .returned (.bool true) ∧ Gr w3 w') := by
      rw [HE.out]
      subst hxz
      exact (wan_says w3 _ zeroW _ _ _ _ _ _ (P3.out.mono (fun _ _ => trivial)) (wP.zero Any _) zeroW_short zeroW_short).mono fun e w' ⟨z, he, hz, hg⟩ => ⟨by rw [he, hz.2 rfl], hg⟩
    have SM := Lib.hid SAME
    clear SAME hxz hz
    go_wp2_with (first | (refine wpList_loadW wanTy _ rfl rfl rfl K3.out EN.out ?_) | (refine wpList_buildW rfl 26 _ rfl (some 26) rfl _ built_wan0 ?_) | fail)
    refine (SM.out).mono ?_
    rintro en w4 ⟨rfl, g4⟩
    have B4 := Lib.hid (G3.out.trans (Below.mono g4 G3.out.size))
    clear g4
    go_wp2_with fail
    refine (tells_any w4).mono ?_
    rintro en w5 ⟨rfl, g5⟩
    have B5 := Lib.hid (B4.out.trans (Below.mono g5 B4.out.size))
    clear g5
    go_wp2
    go_ret
    exact ⟨rfl, B5.out⟩
open Go.ChangeShapes Go.WideShapes Go.ChangeAt Go.RowKit
open Go.ChangeMaps (open_string shut_string)
theorem own_wanSame : ownKnob Try.prog.godebug = none := by kernel_rfl
theorem laidOut_wanSame : laidOutB Try.prog = true := by kernel_rfl
set_option maxRecDepth 100000 in
theorem lifted_wanSame (os : Os) (started : os.Started) (H : Type) (enc : TypeId × Value → H) :
    ReturnsInHanded {} Try.checked os 5 .any (Rows.wanSameSpec.pre6 enc Try.prog Try.f5 Rows.wanSameRow.domain false) (Rows.wanSameSpec.post enc Try.prog Try.f5 false true false false) := by
  refine returnsInHanded_of_change (C := Try.checked) own_wanSame started (by kernel_rfl) Try.func5
    (ChangeSpec.witness6 (enc := enc) (C := Try.checked) false ⟨#[], #[.slice none 0 0], []⟩ 8 (by kernel_rfl) (by kernel_rfl) (by kernel_rfl) (by kernel_rfl)) ?_
  intro W base args ds gs before hval0 hW hcnd _
  have hval : ∀ (j : Nat) t v, Try.f5.params[j]? = some t → args[j]? = some v → Value.okWide Try.prog W .any base t v := hval0
  have hW' := hW
  obtain ⟨p, q, hA0, hV, rfl, hfz, hnd⟩ := hW
  have hA : DataW.TrodAll enc Try.prog W 0 (fun _ => true) true Try.f5.params.toList args.toList ds p := hA0
  rw [Try.params5] at hA hval
  obtain ⟨v0, vs0, d0, ds0, p0, q0, hargs, rfl, rfl, k0, r0⟩ := trodAll_cons hA
  obtain ⟨rfl, rfl, rfl⟩ := trodAll_nil r0
  obtain rfl : args = #[v0] := by cases args; simp_all
  obtain ⟨rfl, rfl⟩ := trodVars_none hV
  have lt0 : ∀ x ∈ p0, x.block < W.heap.size := by obtain ⟨m, hm⟩ := k0; exact DataW.trod_lt m _ _ _ hm
  obtain ⟨l0, s0, w0⟩ := open_bytes Try.underlying28 Try.underlying5 (by kernel_rfl) (hval 0 28 v0 rfl rfl) k0
  clear hA0 hval0
  refine (same_walk W v0 l0 s0 w0).mono fun e W' ⟨he, bel⟩ => ?_
  subst he
  exact ⟨_, rfl, _, _, _, [], _, [], hW', trodAll_mk1 (shut_bool Try.underlying4 _), (trodAll_cons_mk (Below.trod laidOut_wanSame (by kernel_rfl) (of_decide_eq_true (by kernel_rfl)) k0 bel lt0) trodAll_mk0), rfl, bel.frame _, fun h => by cases h⟩
theorem over_wanSame : Rows.wanSameRow.holds Try.pinned (OpenSpec.ofChange Rows.wanSameSpec) :=
  OpenClaim.holds_of_wide 5 Try.f5 rfl rfl rfl rfl rfl rfl rfl ⟨rfl, rfl, rfl, rfl, rfl⟩ rfl rfl rfl rfl rfl (by kernel_rfl) Try.func5 (by kernel_rfl)
    (of_decide_eq_true (by kernel_rfl)) (by unfold Func.isWrapper; first | (rw [if_pos (by decide +kernel)]; kernel_rfl) | (rw [if_neg (by decide +kernel)]; exact ⟨rfl, rfl⟩))
    (fun os started H enc _ => lifted_wanSame os started H enc)
theorem wanSame_proved : Rows.WanSameSaid := over_wanSame
#print axioms wanSame_proved
end Go.Proofs.Ytgilijkmmcpfjaa
