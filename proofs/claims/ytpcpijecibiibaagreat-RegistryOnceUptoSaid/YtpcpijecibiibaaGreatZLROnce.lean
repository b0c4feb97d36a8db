/-
  RegistryOnce: an epoch of a region is one site's; what is handed in stays. Where what is handed in is of bulk at most 1048576 together.
-/
import Derived.Test.YtpcpijecibiibaaGreatZRgOnce
import Derived.Test.YtpcpijecibiibaaGreatZMaps
import Derived.JoinedCond
set_option linter.unusedVariables false
set_option linter.unusedSimpArgs false
set_option maxRecDepth 100000
namespace Go.Proofs.YtpcpijecibiibaaGreat
open Go.RowKit
open Go.Maps (Keyed keyOf_int_mk int_keyed)
theorem info_o64 : (Tryz.prog.info? 39).map (fun i => (i.zero, i.size, i.bytes)) = some (some (.int .u64 0), 1, 8) := by kernel_rfl
theorem info_oint : (Tryz.prog.info? 3).map (fun i => (i.zero, i.size, i.bytes)) = some (some (.int .i64 0), 1, 8) := by kernel_rfl
theorem make_o4 (w : World) : ∃ w', (Instr.makeSlice 26 (.int .i64 4) (.int .i64 4)).run Tryz.prog w = .ok (.slice (some ⟨w.heap.size, 0, none⟩) 4 4) w' ∧ Arr w' w.heap.size 4 39 (fun _ => .int .u64 0) ∧ Below w.heap.size w w' := by
  obtain ⟨i0, hi0, hz0, hz1, hz2⟩ := info_parts info_o64
  exact run_make_arr w 26 39 i0 _ 8 Tryz.underlying26 hi0 hz0 hz1 hz2 rfl 4 (by decide) (by decide)
theorem make_i4 (w : World) : ∃ w', (Instr.makeSlice 27 (.int .i64 4) (.int .i64 4)).run Tryz.prog w = .ok (.slice (some ⟨w.heap.size, 0, none⟩) 4 4) w' ∧ Arr w' w.heap.size 4 3 (fun _ => .int .i64 0) ∧ Below w.heap.size w w' := by
  obtain ⟨i0, hi0, hz0, hz1, hz2⟩ := info_parts info_oint
  exact run_make_arr w 27 3 i0 _ 8 Tryz.underlying27 hi0 hz0 hz1 hz2 rfl 4 (by decide) (by decide)
theorem KI : Keyed Tryz.prog 3 := int_keyed Tryz.underlying3
theorem keyI (n : Int) (hn : -1 ≤ n ∧ n ≤ 2) : keyOf Tryz.prog 3 (.int .i64 n) = some (.int .i64 n) := by
  refine keyOf_int_mk Tryz.underlying3 ?_
  simp [Lit.wf, IntKind.min, IntKind.max, IntKind.bits, IntKind.signed]; omega
section
variable {w w' : World} {ops : Array Oper} {rest : List Oper} {o : Oper} {a : Act} {Q : Exit → Act → World → Prop}
theorem wpList_run_insert {t : TypeId} {b : Nat} {key val : Value} (hr : (Instr.mapUpdate t (.map (some b)) key val).run Tryz.prog w = .ok () w') (hg : o.guard = none) (m x v : Operand) (hop : o.op = Op.insert t m x v)
    (hm : a.eval m = .map (some b)) (hx : a.eval x = key) (hv : a.eval v = val) (hK : wpList Tryz.prog ops Q rest (a.put o.dst undef) w') : wpList Tryz.prog ops Q (o :: rest) a w := by
  refine wpList_plain hg fun K' hK' => ?_
  unfold Oper.wp
  simp [execOp, hop, hm, hx, hv, hr, Result.andThen]
  exact hK' _ _ hK
end
/-- What the law has seen of a queue: a, and the first m of q. -/
def Seen (f : Lit → Lit) (a : Int) (q : List Int) (m : Nat) : Prop := ∀ z : Int, f (.int .i64 z) = .bool (decide (z = a ∨ z ∈ q.take m))
theorem Seen.step {f f' : Lit → Lit} {a : Int} {q : List Int} {m : Nat} (h : Seen f a q m) (hm : m < q.length) (h1 : f' (.int .i64 q[m]) = .bool true) (h2 : ∀ l, l ≠ .int .i64 q[m] → f' l = f l) : Seen f' a q (m + 1) := fun z => by
  by_cases e : z = q[m]
  · subst e
    rw [h1]
    have : q[m] ∈ q.take (m + 1) := by rw [List.take_succ_eq_append_getElem hm]; exact List.mem_append.2 (.inr (.head _))
    rw [decide_eq_true (.inr this)]
  · rw [h2 _ (fun k => e (by injection k)), h z]
    congr 1
    refine decide_eq_decide.2 ⟨fun k => k.imp id fun k => ?_, fun k => k.imp id fun k => ?_⟩
    · rw [List.take_succ_eq_append_getElem hm]; exact List.mem_append.2 (.inl k)
    · rw [List.take_succ_eq_append_getElem hm] at k
      rcases List.mem_append.1 k with k | k
      · exact k
      · exact absurd (List.mem_singleton.1 k) e
theorem Seen.no {f : Lit → Lit} {a : Int} {q : List Int} {m : Nat} (h : Seen f a q m) (hm : m < q.length) (hn : q.Nodup) (ha : a ∉ q) : f (.int .i64 q[m]) = .bool false := by
  rw [h, decide_eq_false]
  rintro (k | k)
  · exact ha (k ▸ List.getElem_mem hm)
  · obtain ⟨j, hj, e⟩ := List.getElem_of_mem k
    rw [List.length_take] at hj
    rw [List.getElem_take] at e
    have := (List.getElem_inj hn).1 e
    omega
set_option maxHeartbeats 20000000 in
theorem once_walk (w : World) (v0 : Value) (xs : List EntD) (hp : EntsP Any w v0 xs) (okx : ∀ x ∈ xs, EntOk x ∧ EntBig x) :
    Calls Tryz.prog 3 #[v0] w fun e w' => e = .returned (.bool true) ∧ Below w.heap.size w w' := by
  have ROW : Hid (∀ k (hk : k < xs.length), ∃ B o c E, v0 = .slice (some ⟨B, o, none⟩) xs.length c ∧ B < w.heap.size ∧ E.length = 23 ∧ CellsFrom w B (o + k * 23) E ∧ IsEnt w E.toArray xs[k] ∧ E[0]? = some (.int .u8 (xs[k].kind : Int)) ∧ E[20]? = some (.int .i64 xs[k].region)) := Lib.hid fun k hk => hp.row okx k hk
  have GREAT := Lib.hid (great_any w v0 xs hp)
  obtain ⟨a0, c0, hv0⟩ := hp.shape
  obtain ⟨n, hn⟩ : ∃ n, n = xs.length := ⟨_, rfl⟩
  have HN := Lib.hid hn
  rw [← hn] at hv0
  have OKX := Lib.hid okx
  clear hp okx hn
  subst hv0
  go_enter Tryz.func3, Tryz.ntmps3
  go_wp2_with fail
  refine GREAT.out.mono ?_
  rintro en w1 ⟨z, rfl, hz, hw⟩
  have e := hw.symm
  subst e
  clear hw
  cases z with
  | true =>
    go_wp2
    go_ret
    exact ⟨rfl, Gr.refl _⟩
  | false =>
  have SM := Lib.hid (hz rfl)
  clear hz GREAT
  go_wp2_with fail
  refine (new_own w 3 4).mono ?_
  rintro en w1 ⟨gv, P0, rfl, hR, g1⟩
  obtain ⟨w2, m2, aL, b2⟩ := make_o4 w1
  obtain ⟨w3, m3, aW, b3⟩ := make_i4 w2
  go_wp2_with fail
  clear m2 m3
  refine (new_n w3 3).mono ?_
  rintro en w4 ⟨f0, rfl, o0, b4⟩
  go_wp2_with fail
  refine (new_n w4 3).mono ?_
  rintro en w5 ⟨f1, rfl, o1, b5⟩
  go_wp2_with fail
  refine (new_n w5 3).mono ?_
  rintro en w6 ⟨f2, rfl, o2, b6⟩
  go_wp2_with fail
  refine (new_n w6 3).mono ?_
  rintro en w7 ⟨f3, rfl, o3, b7⟩
  obtain ⟨x0, y0, h0⟩ := o0.shape
  obtain ⟨x1, y1, h1⟩ := o1.shape
  obtain ⟨x2, y2, h2⟩ := o2.shape
  obtain ⟨x3, y3, h3⟩ := o3.shape
  replace h0 : f0 = .slice x0 3 y0 := h0
  replace h1 : f1 = .slice x1 3 y1 := h1
  replace h2 : f2 = .slice x2 3 y2 := h2
  replace h3 : f3 = .slice x3 3 y3 := h3
  subst h0 h1 h2 h3
  obtain ⟨bl, hbl⟩ : ∃ b, b = w1.heap.size := ⟨_, rfl⟩
  obtain ⟨bw, hbw⟩ : ∃ b, b = w2.heap.size := ⟨_, rfl⟩
  obtain ⟨bf, hbf⟩ : ∃ b, b = w7.heap.size := ⟨_, rfl⟩
  rw [← hbl] at aL ⊢
  rw [← hbw] at aW ⊢
  obtain ⟨fv0, hfv0⟩ : ∃ fv0 : Nat → Value, fv0 = fun j => if j = 0 then .slice x0 3 y0 else if j = 1 then .slice x1 3 y1 else if j = 2 then .slice x2 3 y2 else .slice x3 3 y3 := ⟨_, rfl⟩
  have b37 : Gr w3 w7 := Gr.trans (Gr.trans (Gr.trans b4 b5) b6) b7
  have FS : Hid (∀ W, Gr w7 W → ∀ j, j < 4 → Sl W (fv0 j) (nums [0, 0, 0]) ∧ ∀ k, (fv0 j).ownBlock = some k → w3.heap.size ≤ k ∧ k < w7.heap.size) := Lib.hid fun W gW j hj => by
    have s4 := b4.size
    have s5 := b5.size
    have s6 := b6.size
    have s7 := b7.size
    have : j = 0 ∨ j = 1 ∨ j = 2 ∨ j = 3 := by omega
    rw [hfv0]
    rcases this with rfl | rfl | rfl | rfl
    · exact ⟨o0.sl.below (Gr.trans (Gr.trans (Gr.trans b5 b6) b7) gW), fun k hk => by have := o0.lt k hk; omega⟩
    · exact ⟨o1.sl.below (Gr.trans (Gr.trans b6 b7) gW), fun k hk => by have := o1.lt k hk; omega⟩
    · exact ⟨o2.sl.below (Gr.trans b7 gW), fun k hk => by have := o2.lt k hk; omega⟩
    · exact ⟨o3.sl.below gW, fun k hk => by have := o3.lt k hk; omega⟩
  obtain ⟨w8, hw8⟩ : ∃ w8, w8 = w7.alloc (.cells #[.slice x0 3 y0, .slice x1 3 y1, .slice x2 3 y2, .slice x3 3 y3] 26) := ⟨_, rfl⟩
  have g78 : Gr w7 w8 := by rw [hw8]; exact (Gr.refl w7).alloc _
  have KF : Hid (Arr w8 bf 4 26 fv0) := Lib.hid ⟨_, by rw [hw8, hbf]; exact heap_alloc_new w7 _, rfl, fun i hi => by
    have : i = 0 ∨ i = 1 ∨ i = 2 ∨ i = 3 := by omega
    rw [hfv0]
    rcases this with rfl | rfl | rfl | rfl <;> rfl⟩
  have n1 := aL.lt
  have n2 := aW.lt
  have n3 := b37.size
  have n4 := KF.out.lt
  have n0 := g1.size
  have b2s := b2.size
  have AL := Lib.hid (((aL.below b3).below b37).below g78)
  have AW := Lib.hid ((aW.below b37).below g78)
  have R := Lib.hid ((((hR.gr b2).gr b3).gr b37).gr g78)
  have G : Hid (Gr w w8) := Lib.hid (Gr.trans (Gr.trans (Gr.trans (Gr.trans g1 b2) b3) b37) g78)
  have PLT : Hid (∀ k, P0 k → k < bl) := Lib.hid (by rw [hbl]; exact hR.lt)
  have NS : Hid (w.heap.size ≤ bl ∧ bl < bw ∧ bw < w3.heap.size ∧ w3.heap.size ≤ bf) := Lib.hid ⟨by omega, by omega, n2, by omega⟩
  replace FS : Hid (∀ j, j < 4 → Sl w8 (fv0 j) (nums [0, 0, 0]) ∧ ∀ k, (fv0 j).ownBlock = some k → w3.heap.size ≤ k ∧ k < bf) := Lib.hid fun j hj => by rw [hbf]; exact FS.out w8 g78 j hj
  have HBF := Lib.hid hbf
  have HW8 := Lib.hid hw8
  clear hw8 hbf hbl hbw hfv0 o0 o1 o2 o3 b4 b5 b6 b7 b37 g78 aL aW b2 b3 n1 n2 n3 n4 n0 b2s hR g1
  go_wp2_with fail
  rw [← HBF.out, ← HW8.out]
  clear HBF HW8
  go_loopw [7] (fun i wr => ∃ k : Nat, k ≤ 4 ∧ i = .int .i64 k ∧ Arr wr bw 4 3 (fun j => .int .i64 (if j < k then -1 else 0)) ∧ Ch (fun j => j = bw) w8 wr) (fun i _ => 4 - (intOf i).toNat)
  case atStart => exact ⟨0, Nat.zero_le _, rfl, AW.out.congr (fun i _ => by rw [if_neg (Nat.not_lt_zero _)]), Ch.of_gr (Gr.refl _)⟩
  case round =>
    clear AW
    obtain ⟨k, hk, rfl, hw, hc⟩ := hrel
    obtain ⟨wo, rfl⟩ : ∃ wo : World, wo = wr := ⟨_, rfl⟩
    have AW := Lib.hid hw
    have C := Lib.hid hc
    clear hw hc
    by_cases hlt : k < 4
    · have y0 := AW.out.cell k hlt
      have z0 := AW.out.frozen k
      have i1 : (0 : Int) ≤ (k : Int) := by omega
      have i2 : (k : Int) < 4 := by omega
      have HLT := Lib.hid hlt
      have AN : Hid (Arr (wo.setCell ⟨bw, k, none⟩ (.int .i64 (-1))) bw 4 3 (fun j => .int .i64 (if j < k + 1 then -1 else 0))) := Lib.hid ((AW.out.set k (.int .i64 (-1)) hlt).congr fun i hi => by
        by_cases e : i = k
        · rw [if_pos e, if_pos (by omega)]
        · rw [if_neg e]
          by_cases h : i < k
          · rw [if_pos h, if_pos (by omega)]
          · rw [if_neg h, if_neg (by omega)])
      have CN : Hid (Ch (fun j => j = bw) w8 (wo.setCell ⟨bw, k, none⟩ (.int .i64 (-1)))) := Lib.hid (C.out.trans (ch_setCell' _ _ _ _))
      have kw : wrap64 ((k : Int) + 1) = (k : Int) + 1 := by unfold wrap64; omega
      clear hk hlt AW C
      go_wp2
      go_roundw
      case rel => exact ⟨k + 1, by have := HLT.out; omega, by first | go_num | (rw [kw]; rfl), AN.out, CN.out⟩
      case measure =>
        have h8 := HLT.out
        have h9 : 4 - (k + 1) < 4 - k := by omega
        (try rw [kw])
        clear kw
        simp [intOf]; omega
    · as_aux_lemma =>
      obtain rfl : k = 4 := by omega
      have i2 : ¬ ((4 : Nat) : Int) < 4 := by decide
      have A : Hid (Arrs w wo P0 bl bw bf (fun j => atG (newG 3 4) (j : Int)) fv0) := Lib.hid (by
        obtain ⟨s1, s2, s3, s4⟩ := NS.out
        refine ⟨(AL.out.ch C.out (by show bl ≠ bw; omega)).congr fun i hi => by rw [new_at i hi]; rfl, AW.out.congr fun i hi => by rw [new_at i hi, if_pos hi]; rfl, KF.out.ch C.out (by show bf ≠ bw; omega), ⟨s1, fun e => by have := PLT.out _ e; omega⟩, ⟨by omega, fun e => by have := PLT.out _ e; omega⟩, ⟨by omega, fun e => by have := PLT.out _ e; omega⟩, by omega, by omega, by omega, fun j hj => ?_, fun j hj k hk => ?_⟩
        · rw [new_at j hj]
          exact (FS.out j hj).1.ch C.out fun k hk (e : k = bw) => by have := (FS.out j hj).2 k hk; omega
        · have h9 := (FS.out j hj).2 k hk
          have h8 := (KF.out.ch C.out (by show bf ≠ bw; omega)).lt
          exact ⟨fun e => by have := PLT.out _ e; omega, by omega, by omega, by omega, by omega⟩)
      replace R : Hid (RegN w wo gv P0 (newG 3 4)) := Lib.hid (R.out.keep C.out fun k hk (e : k = bw) => by have := PLT.out k hk; have := NS.out; omega)
      replace G : Hid (Gr w wo) := Lib.hid (Below.trans G.out (C.out.below G.out.size fun k (hk : k = bw) => by have := NS.out; omega))
      clear hk hlt AL AW KF FS PLT NS C
      go_wp2_with fail
      clear i2
      go_loopw [8] (fun i wr => ∃ (k : Nat) (P : Nat → Prop) (fv : Nat → Value) (r : RegD), k ≤ n ∧ i = .int .i64 k ∧ Reg34 r ∧ (∀ j : Nat, j < 4 → (atG r (j : Int)).epoch ≤ k) ∧ RegN w wr gv P r ∧ Arrs w wr P bl bw bf (fun j => atG r (j : Int)) fv ∧ Gr w wr) (fun i _ => n - (intOf i).toNat)
      case atStart => exact ⟨0, P0, fv0, newG 3 4, Nat.zero_le _, rfl, Reg34.new, fun j hj => by rw [new_at j hj]; exact Nat.le_refl _, R.out, A.out, G.out⟩
      case round =>
        clear R A G
        obtain ⟨k, P, fv, r, hk, rfl, hr, he, hR, hA, hG⟩ := hrel
        obtain ⟨wo, rfl⟩ : ∃ wo : World, wo = wr := ⟨_, rfl⟩
        have R := Lib.hid hR
        have G := Lib.hid hG
        have A := Lib.hid hA
        have R34 := Lib.hid hr
        have EP := Lib.hid he
        clear hR hG hA hr he
        by_cases hlt : k < n
        · as_aux_lemma =>
          have hk2 : k < xs.length := by rw [← HN.out]; exact hlt
          obtain ⟨B, o, c, E, hv, hBw, hE, hcf, hent, h0, h20⟩ := ROW.out k hk2
          injection hv with e1 e2 e3
          subst e1
          have EN := Lib.hid hE
          have CR : Hid (∀ W, Gr w W → CellsFrom W B (o + k * 23) E) := Lib.hid fun W hW => hcf.gr hW hBw
          have HB : Hid (∀ W, Gr w W → Calls Tryz.prog 13 #[.agg E.toArray] W (RetSl W (putV xs[k]).1)) := Lib.hid hent
          obtain ⟨kd, hkd⟩ : ∃ kd, kd = xs[k].kind := ⟨_, rfl⟩
          rw [← hkd] at h0
          have Y0 : Hid (∀ W, Gr w W → W.cell? ⟨B, o + k * 23, none⟩ = some (.int .u8 (kd : Int))) := Lib.hid fun W hW => CR.out W hW 0 _ h0
          have K100 : Hid (k < 100) := Lib.hid (by have := SM.out.1; omega)
          have okk := OKX.out xs[k] (List.getElem_mem hk2)
          have ST : Hid (∀ j : Nat, j < 4 → OnceP kd (atG r (j : Int)) (atG (applyG r (putV xs[k]).1) (j : Int))) := Lib.hid fun j hj => by
            rw [hkd]
            exact once_step R34.out okk.1 okk.2 (by omega) (by omega) (by have := EP.out j hj; have := K100.out; omega)
          have RN : Hid (Reg34 (applyG r (putV xs[k]).1)) := Lib.hid (R34.out.app okk.1 okk.2)
          obtain ⟨L, hL⟩ : ∃ L, L = (putV xs[k]).1 := ⟨_, rfl⟩
          have LL : Hid (L.length ≤ 1000000000) := Lib.hid (by rw [hL]; exact put_len _)
          rw [← hL] at HB ST RN
          have i1 : (0 : Int) ≤ (k : Int) := by omega
          have i2 : (k : Int) < (n : Int) := by omega
          have HLT := Lib.hid hlt
          clear hL e2 e3 hE hcf hent h0 h20 hk hlt okk hkd hk2 ROW OKX SM HN
          go_wp2_with (first | (refine wpList_loadAt entTy _ rfl rfl rfl (CR.out _ G.out) EN.out ?_) | fail)
          refine (HB.out _ G.out).mono ?_
          rintro en wB ⟨v, rfl, sB, gB⟩
          obtain ⟨aB, cB, hvB⟩ := sB.oneCells
          rw [bytes_length] at hvB
          subst hvB
          have SB := Lib.hid sB
          replace R := Lib.hid (R.out.gr gB)
          replace A := Lib.hid (A.out.gr gB)
          replace G : Hid (Gr w _) := Lib.hid (G.out.trans gB)
          clear gB sB
          go_wp2_with fail
          refine (apply_own w _ _ _ _ R.out _ _ SB.out LL.out G.out.size).mono ?_
          rintro en wC ⟨rfl, ⟨P2, hR, _, hPn⟩, hc⟩
          replace G : Hid (Gr w _) := Lib.hid (R.out.after G.out hc)
          replace A := Lib.hid (A.out.applied hPn hc)
          replace R := Lib.hid hR
          obtain ⟨r', hr'⟩ : ∃ r', r' = applyG r L := ⟨_, rfl⟩
          rw [← hr'] at R ST RN
          clear hR hPn hc SB LL hr' HB CR R34
          go_wp2_with fail
          go_loopw [9] (fun i wr => ∃ (m : Nat) (fv : Nat → Value), m ≤ 4 ∧ i = .int .i64 m ∧ RegN w wr gv P2 r' ∧ Arrs w wr P2 bl bw bf (mixT m r r') fv ∧ Gr w wr) (fun i _ => 4 - (intOf i).toNat)
          case atStart => exact ⟨0, fv, Nat.zero_le _, rfl, R.out, A.out.congr (fun j hj => by unfold mixT; rw [if_neg (Nat.not_lt_zero _)]), G.out⟩
          case round =>
            clear R A G
            obtain ⟨m, fv, hm, rfl, hR, hA, hG⟩ := hrel
            obtain ⟨wi, rfl⟩ : ∃ wi : World, wi = wr := ⟨_, rfl⟩
            have R := Lib.hid hR
            have G := Lib.hid hG
            have A := Lib.hid hA
            clear hR hG hA
            by_cases hlt : m < 4
            · as_aux_lemma =>
              have i3 : (0 : Int) ≤ (m : Int) := by omega
              have i4 : (m : Int) < 4 := by omega
              have M4 := Lib.hid hlt
              clear hm hlt
              have TK : Hid (TokOk 3 (atG r' (m : Int))) := Lib.hid (RN.out.tok (by omega) i4)
              have SZ : Hid ((atG r' (m : Int)).queue.length ≤ 100 ∧ (atG r' (m : Int)).frontier.length ≤ 1000000) := Lib.hid ⟨by have := TK.out.queue_le (by decide) (by decide); omega, by have := TK.out.front; omega⟩
              have ON : Hid (OnceP kd (atG r (m : Int)) (atG r' (m : Int))) := Lib.hid (ST.out m M4.out)
              have EM : Hid ((atG r (m : Int)).epoch ≤ 100) := Lib.hid (by have := EP.out m M4.out; have := K100.out; omega)
              go_wp2_with fail
              refine (holder_any _ _ _ _ R.out.v (m : Int)).mono ?_
              rintro en wD ⟨rfl, gX⟩
              replace R := Lib.hid (R.out.gr gX)
              replace A := Lib.hid (A.out.gr gX)
              replace G : Hid (Gr w _) := Lib.hid (G.out.trans gX)
              clear gX
              go_wp2_with fail
              refine (frontier_any _ _ _ _ R.out.v (m : Int) SZ.out.2).mono ?_
              rintro en wE ⟨vf, rfl, of, gX⟩
              have OF : Hid (Own wE wD.heap.size 39 vf (nums (atG r' (m : Int)).frontier)) := Lib.hid of
              have AB : Hid (bl < wD.heap.size ∧ bw < wD.heap.size ∧ bf < wD.heap.size ∧ ∀ k, P2 k → k < wD.heap.size) := Lib.hid ⟨A.out.lt.1, A.out.lt.2.1, A.out.lt.2.2, R.out.lt⟩
              obtain ⟨af, cf, hsh⟩ := of.shape
              clear of
              replace R := Lib.hid (R.out.gr gX)
              replace A := Lib.hid (A.out.gr gX)
              replace G : Hid (Gr w _) := Lib.hid (G.out.trans gX)
              clear gX
              obtain ⟨nf, hnf⟩ : ∃ nf, nf = (nums (atG r' (m : Int)).frontier).length := ⟨_, rfl⟩
              rw [← hnf] at hsh
              subst hsh
              clear hnf
              have HT : Hid (∃ t', t' = atG r' (m : Int)) := Lib.hid ⟨_, rfl⟩
              obtain ⟨t', ht'⟩ := HT.out
              clear HT
              have TE := Lib.hid ht'
              rw [← ht'] at TK SZ ON OF ⊢
              clear ht'
              obtain ⟨e2, h2, f2, q2⟩ := t'
              obtain ⟨t, ht⟩ : ∃ t, t = atG r (m : Int) := ⟨_, rfl⟩
              have mx : mixT m r r' m = t := by unfold mixT; rw [if_neg (Nat.lt_irrefl _), ht]
              have YL : Hid (∀ W, Gr wE W → W.cell? ⟨bl, m, none⟩ = some (.int .u64 (t.epoch : Int))) := Lib.hid fun W g => by have h := (A.out.gr g).kl.cell m M4.out; rw [mx] at h; exact h
              have YW : Hid (∀ W, Gr wE W → W.cell? ⟨bw, m, none⟩ = some (.int .i64 t.holder)) := Lib.hid fun W g => by have h := (A.out.gr g).kw.cell m M4.out; rw [mx] at h; exact h
              obtain ⟨fm, hfm⟩ : ∃ fm, fm = fv m := ⟨_, rfl⟩
              have YF : Hid (∀ W, Gr wE W → W.cell? ⟨bf, m, none⟩ = some fm) := Lib.hid fun W g => by rw [hfm]; exact (A.out.gr g).kf.cell m M4.out
              have SF : Hid (Sl wE fm (nums t.frontier)) := Lib.hid (by have h := A.out.fs m M4.out; rw [mx] at h; rw [hfm]; exact h)
              rw [← ht] at ON EM
              clear ht mx hfm
              obtain ⟨e1, h1, f1, q1⟩ := t
              have FL : Hid (f1.length ≤ 1000000 ∧ f2.length ≤ 1000000 ∧ leqV f1 f2 = true) := Lib.hid (by
                have h := ON.out.front
                have h3 : f2.length ≤ 1000000 := SZ.out.2
                refine ⟨?_, h3, h⟩
                by_cases e : f1.length = f2.length
                · omega
                · have h4 : leqV f1 f2 = true := h
                  rw [leqV_ne f1 f2 e] at h4; cases h4)
              obtain ⟨fa, fc, hfm⟩ := SF.out.oneCells
              obtain ⟨fn, hfn⟩ : ∃ fn, fn = (nums f1).length := ⟨_, rfl⟩
              rw [← hfn] at hfm
              subst hfm
              clear hfn
              have c5 : (2 < h2) = False := by have h := TK.out.holder.2; simp only [eq_iff_iff, iff_false]; replace h : h2 < 3 := h; omega
              have c2 : IntKind.u64.wrap ((e1 : Int) + 1) = (e1 : Int) + 1 := by have h : e1 ≤ 100 := EM.out; simp [IntKind.wrap, IntKind.bits, IntKind.signed]; omega
              have LO : Hid (e1 ≤ e2 ∧ e2 ≤ e1 + 1) := Lib.hid ⟨ON.out.lo, ON.out.hi⟩
              have c1 : ((e2 : Int) < (e1 : Int)) = False := by have := LO.out; simp only [eq_iff_iff, iff_false]; omega
              have c3 : ((e1 : Int) + 1 < (e2 : Int)) = False := by have := LO.out; simp only [eq_iff_iff, iff_false]; omega
              have HM : Hid (-1 ≤ h2 ∧ h2 ≤ 2) := Lib.hid (by have h := TK.out.holder; replace h : -1 ≤ h2 ∧ h2 < 3 := h; omega)
              by_cases hn2 : h2 < 0
              · have he : e2 = e1 := ON.out.neg hn2
                subst he
                have NQ : Hid (q2.length = 0) := Lib.hid (by have h : q2 = [] := TK.out.free hn2; rw [h]; rfl)
                have d0 : decide (0 ≤ h2) = false := by simp; omega
                have d1 : (0 ≤ h2) = False := by simp only [eq_iff_iff, iff_false]; omega
                clear hn2 c1
                have yl := YL.out wE (Gr.refl _)
                have yw := YW.out wE (Gr.refl _)
                have yf := YF.out wE (Gr.refl _)
                go_wp2_with fail
                refine (leq_any _ _ _ f1 f2 SF.out OF.out.sl FL.out.1 FL.out.2.1).mono ?_
                rintro en wG ⟨rfl, gX⟩
                rw [FL.out.2.2]
                clear yl yw yf
                have yl := YL.out wG gX
                have yw := YW.out wG gX
                have yf := YF.out wG gX
                have VB : Hid (Sl wG (.slice af nf cf) (nums f2) ∧ ∀ j, (Value.slice af nf cf).ownBlock = some j → ¬ P2 j ∧ j < wG.heap.size ∧ j ≠ bl ∧ j ≠ bw ∧ j ≠ bf) := Lib.hid ⟨OF.out.sl.below gX, fun j hj => by
                  have h := OF.out.lt j hj
                  obtain ⟨a1, a2, a3, a4⟩ := AB.out
                  have := gX.size
                  exact ⟨fun e => by have := a4 j e; omega, by omega, by omega, by omega, by omega⟩⟩
                replace R := Lib.hid (R.out.gr gX)
                replace A := Lib.hid (A.out.gr gX)
                replace G : Hid (Gr w _) := Lib.hid (G.out.trans gX)
                clear gX
                have zl := A.out.kl.frozen m
                have zw := A.out.kw.frozen m
                have zf := A.out.kf.frozen m
                have n1 := A.out.n1
                have n2 := A.out.n2
                have n3 := A.out.n3
                have n4 := n1.symm
                have n5 := n2.symm
                have n6 := n3.symm
                clear YL YW YF SF OF AB ON LO EM FL
                go_wp2_with fail
                obtain ⟨wS, hwS⟩ : ∃ wS, wS = ((wG.setCell ⟨bl, m, none⟩ (.int .u64 (e2 : Int))).setCell ⟨bf, m, none⟩ (.slice af nf cf)).setCell ⟨bw, m, none⟩ (.int .i64 h2) := ⟨_, rfl⟩
                rw [← hwS]
                have S3 := A.out.set3 m M4.out ⟨e2, h2, f2, q2⟩ (.slice af nf cf) VB.out.1 VB.out.2
                replace S3 : Arrs w wS P2 bl bw bf (upd (mixT m r r') m ⟨e2, h2, f2, q2⟩) (upd fv m (.slice af nf cf)) ∧ Ch (fun j => j = bl ∨ j = bf ∨ j = bw) wG wS := by rw [hwS]; exact S3
                replace R := Lib.hid (R.out.keep S3.2 (fun k hk e => by
                  rcases e with rfl | rfl | rfl
                  · exact A.out.pl.2 hk
                  · exact A.out.pf.2 hk
                  · exact A.out.pw.2 hk))
                replace G : Hid (Gr w _) := Lib.hid (Below.trans G.out (S3.2.below G.out.size (fun k hk => by
                  rcases hk with rfl | rfl | rfl
                  · exact A.out.pl.1
                  · exact A.out.pf.1
                  · exact A.out.pw.1)))
                replace A : Hid (Arrs w wS P2 bl bw bf (mixT (m + 1) r r') (upd fv m (.slice af nf cf))) := Lib.hid (S3.1.congr fun j _ => by rw [TE.out]; exact mixT_upd m r r' j)
                clear S3 hwS VB yl yw yf zl zw zf n1 n2 n3 n4 n5 n6 c2 c3 c5
                refine (queue_any _ _ _ _ R.out.v (m : Int) (by rw [← TE.out]; exact SZ.out.1)).mono ?_
                rintro en wH ⟨vq, rfl, oq, gX⟩
                rw [← TE.out] at oq
                replace oq : Own wH wS.heap.size 3 vq (ints q2) := oq
                obtain ⟨aq, cq, hsh⟩ := oq.shape
                rw [ints_length] at hsh
                have OQ := Lib.hid oq.sl
                obtain ⟨nq, hnq⟩ : ∃ nq, nq = q2.length := ⟨_, rfl⟩
                rw [← hnq] at hsh
                subst hsh
                have NQL : Hid (nq = q2.length ∧ nq ≤ 100) := Lib.hid ⟨hnq, by have h : q2.length ≤ 100 := SZ.out.1; omega⟩
                clear oq hnq
                replace R := Lib.hid (R.out.gr gX)
                replace A := Lib.hid (A.out.gr gX)
                replace G : Hid (Gr w _) := Lib.hid (G.out.trans gX)
                clear gX
                have hmm := run_makeMap' 49 wH
                have mp := MapIs.made wH 3 4 (.bool false)
                have gM : Gr wH (wH.alloc (.map #[] 0)) := (Gr.refl wH).alloc _
                obtain ⟨wN, f0, hup, mp7, hfk, hfo, g7⟩ := run_update (wH.alloc (.map #[] 0)) (d := .bool true) KI Tryz.underlying49 mp (by unfold maxLen; omega) (keyI h2 HM.out) (plainElem_bool Tryz.underlying4 true)
                have gN : Gr wH wN := Below.trans gM (grownBy_below g7 gM.size (by intro k hk; injection hk with hk; omega))
                have S0 : Hid (Seen f0 h2 q2 0) := Lib.hid fun z => by
                  by_cases e : z = h2
                  · subst e
                    rw [hfk, decide_eq_true (.inl rfl)]
                  · rw [hfo _ (fun k => e (by injection k)), decide_eq_false (fun k => k.elim e (fun k => by simp at k))]
                have MP := Lib.hid mp7
                have HMM := Lib.hid hmm
                have HUP := Lib.hid hup
                obtain ⟨mb, hmb⟩ : ∃ mb, mb = wH.heap.size := ⟨_, rfl⟩
                have HMB := Lib.hid hmb
                have CELL : Hid (∀ p, p < nq → ∃ bq oq, ∃ z : Int, aq = some ⟨bq, oq, none⟩ ∧ (∀ W, Ch (fun j => j = mb) wN W → W.cell? ⟨bq, oq + p, none⟩ = some (.int .i64 z)) ∧ (0 ≤ z ∧ z ≤ 2) ∧ (∀ f, Seen f h2 q2 p → f (.int .i64 z) = .bool false) ∧ (∀ f f', Seen f h2 q2 p → f' (.int .i64 z) = .bool true → (∀ l, l ≠ .int .i64 z → f' l = f l) → Seen f' h2 q2 (p + 1))) := Lib.hid fun p hp => by
                  have hpq : p < q2.length := by have := NQL.out.1; omega
                  obtain ⟨a', c', e, _, h⟩ := OQ.out
                  injection e with e _ _
                  rcases h with h | ⟨b, o, h, hb, hc⟩
                  · exfalso
                    have h9 : (ints q2).length = 0 := by rw [h]; rfl
                    rw [ints_length] at h9; omega
                  have l1 : p < (ints q2).length := by rw [ints_length]; exact hpq
                  have hz : 0 ≤ q2[p] ∧ q2[p] < 3 := TK.out.queue _ (List.getElem_mem hpq)
                  refine ⟨b, o, q2[p], e.trans h, fun W c => ?_, ⟨hz.1, by omega⟩, fun f hf => hf.no hpq TK.out.nodup TK.out.notin, fun f f' hf h1 h2 => hf.step hpq h1 h2⟩
                  have h1 : wN.cell? ⟨b, o + p, none⟩ = some (.int .i64 q2[p]) := (gN.cell (p := ⟨b, o + p, none⟩) hb).trans (by rw [hc p l1]; simp [ints])
                  exact (c.cell (p := ⟨b, o + p, none⟩) (Nat.lt_of_lt_of_le hb gN.size) (by rw [hmb]; show b ≠ wH.heap.size; omega)).trans h1
                have R9 : Hid (RegN w wN gv P2 r' ∧ ∀ k, P2 k → k ≠ mb) := Lib.hid ⟨R.out.gr gN, fun k hk e => by have := R.out.lt k hk; omega⟩
                have A9 : Hid (Arrs w wN P2 bl bw bf (mixT (m + 1) r r') (upd fv m (.slice af nf cf)) ∧ bl ≠ mb ∧ bw ≠ mb ∧ bf ≠ mb ∧ ∀ j, j < 4 → ∀ k, (upd fv m (.slice af nf cf) j).ownBlock = some k → k ≠ mb) := Lib.hid (by
                  have h := A.out.newBlock (B := mb) (by omega) R.out.lt
                  exact ⟨A.out.gr gN, h.2.2.1, h.2.2.2.1, h.2.2.2.2.1, h.2.2.2.2.2⟩)
                have G9 : Hid (Gr w wN ∧ w.heap.size ≤ mb) := Lib.hid ⟨G.out.trans gN, by rw [hmb]; exact G.out.size⟩
                clear mp7 mp hmm hup hfk hfo g7 gN gM hmb R A G OQ
                have hmm := HMM.out
                have hup := HUP.out
                go_wp2_with fail
                rw [← HMB.out]
                rw [← HMB.out] at MP
                clear hmm hup HMM HUP HMB
                go_loopw [16] (fun i wr => ∃ (p : Nat) (f : Lit → Lit), p ≤ nq ∧ i = .int .i64 p ∧ MapIs wr 3 4 mb (p + 1) (.bool false) f ∧ Seen f h2 q2 p ∧ Ch (fun j => j = mb) wN wr) (fun i _ => nq - (intOf i).toNat)
                case atStart => exact ⟨0, f0, Nat.zero_le _, rfl, MP.out, S0.out, Ch.of_gr (Gr.refl _)⟩
                case round =>
                  clear MP S0
                  obtain ⟨p, f, hp, rfl, hM, hS, hC⟩ := hrel
                  obtain ⟨wx, rfl⟩ : ∃ wx : World, wx = wr := ⟨_, rfl⟩
                  by_cases hlt : p < nq
                  · obtain ⟨bq, oq, z, rfl, hcell, hz, hno, hstep⟩ := CELL.out p hlt
                    have yq := hcell wx hC
                    obtain ⟨c, hfc, hlk⟩ := run_lookup_bool wx KI Tryz.underlying49 Tryz.underlying4 rfl hM (keyI z ⟨by omega, by omega⟩)
                    have hc0 : c = false := by
                      rw [hno f hS] at hfc
                      injection hfc with h
                      exact h.symm
                    subst hc0
                    have LK := Lib.hid hlk
                    obtain ⟨wy, f', hup, mp', hfk, hfo, g7⟩ := run_update wx (d := .bool true) KI Tryz.underlying49 hM (by have := NQL.out.2; unfold maxLen; omega) (keyI z ⟨by omega, by omega⟩) (plainElem_bool Tryz.underlying4 true)
                    have HU := Lib.hid hup
                    have NW : Hid (MapIs wy 3 4 mb (p + 1 + 1) (.bool false) f' ∧ Seen f' h2 q2 (p + 1) ∧ Ch (fun j => j = mb) wN wy) := Lib.hid ⟨mp', hstep f f' hS hfk hfo, hC.trans (Ch.of_grownBy g7 (fun k hk => by cases hk; rfl))⟩
                    have z1 : (z < 0) = False := by simp only [eq_iff_iff, iff_false]; omega
                    have z2 : (2 < z) = False := by simp only [eq_iff_iff, iff_false]; omega
                    have i5 : (0 : Int) ≤ (p : Int) := by omega
                    have i6 : (p : Int) < (nq : Int) := by omega
                    have HLT := Lib.hid hlt
                    have kw : wrap64 ((p : Int) + 1) = (p : Int) + 1 := by have h1 := NQL.out.2; have h3 := HLT.out; unfold wrap64; omega
                    clear hlk hup hfk hfo mp' g7 hM hS hC hno hstep hcell hfc hz hp hlt
                    go_wp2_with (first | (refine wpList_run_lookup LK.out rfl _ _ rfl rfl rfl ?_; clear LK) | (refine wpList_run_update HU.out rfl _ _ _ rfl rfl rfl rfl ?_; clear HU) | fail)
                    go_roundw
                    case rel => exact ⟨p + 1, f', by have := HLT.out; omega, by first | go_num | (rw [kw]; rfl), NW.out.1, NW.out.2.1, NW.out.2.2⟩
                    case measure =>
                      have h8 := HLT.out
                      have h9 : nq - (p + 1) < nq - p := by omega
                      (try rw [kw])
                      clear kw
                      simp [intOf]; omega
                  · have i6 : ¬ (p : Int) < (nq : Int) := by omega
                    have q0 : (0 < nq) = False := by have := NQ.out; have := NQL.out.1; simp only [eq_iff_iff, iff_false]; omega
                    have R : Hid (RegN w wx gv P2 r') := Lib.hid (R9.out.1.keep hC R9.out.2)
                    have A : Hid (Arrs w wx P2 bl bw bf (mixT (m + 1) r r') (upd fv m (.slice af nf cf))) := Lib.hid (A9.out.1.keep hC A9.out.2.1 A9.out.2.2.1 A9.out.2.2.2.1 A9.out.2.2.2.2)
                    have G : Hid (Gr w wx) := Lib.hid (Below.trans G9.out.1 (hC.below G9.out.1.size (fun k hk => by have : k = mb := hk; have := G9.out.2; omega)))
                    have kw : wrap64 ((m : Int) + 1) = (m : Int) + 1 := by have := M4.out; unfold wrap64; omega
                    clear R9 A9 G9 hM hS hC CELL NQL hp hlt
                    go_wp2
                    go_roundw
                    case rel => exact ⟨m + 1, _, by have := M4.out; omega, by first | go_num | (rw [kw]; rfl), R.out, A.out, G.out⟩
                    case measure =>
                      have h8 := M4.out
                      have h9 : 4 - (m + 1) < 4 - m := by omega
                      (try rw [kw])
                      clear kw
                      simp [intOf]; omega
              · by_cases hee : e2 = e1
                · have hh : h2 = h1 := ON.out.same (by show 0 ≤ h2; omega) hee
                  subst hh hee
                  have d0 : decide (0 ≤ h2) = true := by simp; omega
                  have d1 : (0 ≤ h2) = True := by simp only [eq_iff_iff, iff_true]; omega
                  have d2 : (h2 < 0) = False := by simp only [eq_iff_iff, iff_false]; omega
                  clear hn2 c1
                  have yl := YL.out wE (Gr.refl _)
                  have yw := YW.out wE (Gr.refl _)
                  have yf := YF.out wE (Gr.refl _)
                  go_wp2_with fail
                  refine (leq_any _ _ _ f1 f2 SF.out OF.out.sl FL.out.1 FL.out.2.1).mono ?_
                  rintro en wG ⟨rfl, gX⟩
                  rw [FL.out.2.2]
                  clear yl yw yf
                  have yl := YL.out wG gX
                  have yw := YW.out wG gX
                  have yf := YF.out wG gX
                  have VB : Hid (Sl wG (.slice af nf cf) (nums f2) ∧ ∀ j, (Value.slice af nf cf).ownBlock = some j → ¬ P2 j ∧ j < wG.heap.size ∧ j ≠ bl ∧ j ≠ bw ∧ j ≠ bf) := Lib.hid ⟨OF.out.sl.below gX, fun j hj => by
                    have h := OF.out.lt j hj
                    obtain ⟨a1, a2, a3, a4⟩ := AB.out
                    have := gX.size
                    exact ⟨fun e => by have := a4 j e; omega, by omega, by omega, by omega, by omega⟩⟩
                  replace R := Lib.hid (R.out.gr gX)
                  replace A := Lib.hid (A.out.gr gX)
                  replace G : Hid (Gr w _) := Lib.hid (G.out.trans gX)
                  clear gX
                  have zl := A.out.kl.frozen m
                  have zw := A.out.kw.frozen m
                  have zf := A.out.kf.frozen m
                  have n1 := A.out.n1
                  have n2 := A.out.n2
                  have n3 := A.out.n3
                  have n4 := n1.symm
                  have n5 := n2.symm
                  have n6 := n3.symm
                  clear YL YW YF SF OF AB ON LO EM FL
                  go_wp2_with fail
                  obtain ⟨wS, hwS⟩ : ∃ wS, wS = ((wG.setCell ⟨bl, m, none⟩ (.int .u64 (e2 : Int))).setCell ⟨bf, m, none⟩ (.slice af nf cf)).setCell ⟨bw, m, none⟩ (.int .i64 h2) := ⟨_, rfl⟩
                  rw [← hwS]
                  have S3 := A.out.set3 m M4.out ⟨e2, h2, f2, q2⟩ (.slice af nf cf) VB.out.1 VB.out.2
                  replace S3 : Arrs w wS P2 bl bw bf (upd (mixT m r r') m ⟨e2, h2, f2, q2⟩) (upd fv m (.slice af nf cf)) ∧ Ch (fun j => j = bl ∨ j = bf ∨ j = bw) wG wS := by rw [hwS]; exact S3
                  replace R := Lib.hid (R.out.keep S3.2 (fun k hk e => by
                    rcases e with rfl | rfl | rfl
                    · exact A.out.pl.2 hk
                    · exact A.out.pf.2 hk
                    · exact A.out.pw.2 hk))
                  replace G : Hid (Gr w _) := Lib.hid (Below.trans G.out (S3.2.below G.out.size (fun k hk => by
                    rcases hk with rfl | rfl | rfl
                    · exact A.out.pl.1
                    · exact A.out.pf.1
                    · exact A.out.pw.1)))
                  replace A : Hid (Arrs w wS P2 bl bw bf (mixT (m + 1) r r') (upd fv m (.slice af nf cf))) := Lib.hid (S3.1.congr fun j _ => by rw [TE.out]; exact mixT_upd m r r' j)
                  clear S3 hwS VB yl yw yf zl zw zf n1 n2 n3 n4 n5 n6 c2 c3 c5 d1 d2
                  refine (queue_any _ _ _ _ R.out.v (m : Int) (by rw [← TE.out]; exact SZ.out.1)).mono ?_
                  rintro en wH ⟨vq, rfl, oq, gX⟩
                  rw [← TE.out] at oq
                  replace oq : Own wH wS.heap.size 3 vq (ints q2) := oq
                  obtain ⟨aq, cq, hsh⟩ := oq.shape
                  rw [ints_length] at hsh
                  have OQ := Lib.hid oq.sl
                  obtain ⟨nq, hnq⟩ : ∃ nq, nq = q2.length := ⟨_, rfl⟩
                  rw [← hnq] at hsh
                  subst hsh
                  have NQL : Hid (nq = q2.length ∧ nq ≤ 100) := Lib.hid ⟨hnq, by have h : q2.length ≤ 100 := SZ.out.1; omega⟩
                  clear oq hnq
                  replace R := Lib.hid (R.out.gr gX)
                  replace A := Lib.hid (A.out.gr gX)
                  replace G : Hid (Gr w _) := Lib.hid (G.out.trans gX)
                  clear gX
                  have hmm := run_makeMap' 49 wH
                  have mp := MapIs.made wH 3 4 (.bool false)
                  have gM : Gr wH (wH.alloc (.map #[] 0)) := (Gr.refl wH).alloc _
                  obtain ⟨wN, f0, hup, mp7, hfk, hfo, g7⟩ := run_update (wH.alloc (.map #[] 0)) (d := .bool true) KI Tryz.underlying49 mp (by unfold maxLen; omega) (keyI h2 HM.out) (plainElem_bool Tryz.underlying4 true)
                  have gN : Gr wH wN := Below.trans gM (grownBy_below g7 gM.size (by intro k hk; injection hk with hk; omega))
                  have S0 : Hid (Seen f0 h2 q2 0) := Lib.hid fun z => by
                    by_cases e : z = h2
                    · subst e
                      rw [hfk, decide_eq_true (.inl rfl)]
                    · rw [hfo _ (fun k => e (by injection k)), decide_eq_false (fun k => k.elim e (fun k => by simp at k))]
                  have MP := Lib.hid mp7
                  have HMM := Lib.hid hmm
                  have HUP := Lib.hid hup
                  obtain ⟨mb, hmb⟩ : ∃ mb, mb = wH.heap.size := ⟨_, rfl⟩
                  have HMB := Lib.hid hmb
                  have CELL : Hid (∀ p, p < nq → ∃ bq oq, ∃ z : Int, aq = some ⟨bq, oq, none⟩ ∧ (∀ W, Ch (fun j => j = mb) wN W → W.cell? ⟨bq, oq + p, none⟩ = some (.int .i64 z)) ∧ (0 ≤ z ∧ z ≤ 2) ∧ (∀ f, Seen f h2 q2 p → f (.int .i64 z) = .bool false) ∧ (∀ f f', Seen f h2 q2 p → f' (.int .i64 z) = .bool true → (∀ l, l ≠ .int .i64 z → f' l = f l) → Seen f' h2 q2 (p + 1))) := Lib.hid fun p hp => by
                    have hpq : p < q2.length := by have := NQL.out.1; omega
                    obtain ⟨a', c', e, _, h⟩ := OQ.out
                    injection e with e _ _
                    rcases h with h | ⟨b, o, h, hb, hc⟩
                    · exfalso
                      have h9 : (ints q2).length = 0 := by rw [h]; rfl
                      rw [ints_length] at h9; omega
                    have l1 : p < (ints q2).length := by rw [ints_length]; exact hpq
                    have hz : 0 ≤ q2[p] ∧ q2[p] < 3 := TK.out.queue _ (List.getElem_mem hpq)
                    refine ⟨b, o, q2[p], e.trans h, fun W c => ?_, ⟨hz.1, by omega⟩, fun f hf => hf.no hpq TK.out.nodup TK.out.notin, fun f f' hf h1 h2 => hf.step hpq h1 h2⟩
                    have h1 : wN.cell? ⟨b, o + p, none⟩ = some (.int .i64 q2[p]) := (gN.cell (p := ⟨b, o + p, none⟩) hb).trans (by rw [hc p l1]; simp [ints])
                    exact (c.cell (p := ⟨b, o + p, none⟩) (Nat.lt_of_lt_of_le hb gN.size) (by rw [hmb]; show b ≠ wH.heap.size; omega)).trans h1
                  have R9 : Hid (RegN w wN gv P2 r' ∧ ∀ k, P2 k → k ≠ mb) := Lib.hid ⟨R.out.gr gN, fun k hk e => by have := R.out.lt k hk; omega⟩
                  have A9 : Hid (Arrs w wN P2 bl bw bf (mixT (m + 1) r r') (upd fv m (.slice af nf cf)) ∧ bl ≠ mb ∧ bw ≠ mb ∧ bf ≠ mb ∧ ∀ j, j < 4 → ∀ k, (upd fv m (.slice af nf cf) j).ownBlock = some k → k ≠ mb) := Lib.hid (by
                    have h := A.out.newBlock (B := mb) (by omega) R.out.lt
                    exact ⟨A.out.gr gN, h.2.2.1, h.2.2.2.1, h.2.2.2.2.1, h.2.2.2.2.2⟩)
                  have G9 : Hid (Gr w wN ∧ w.heap.size ≤ mb) := Lib.hid ⟨G.out.trans gN, by rw [hmb]; exact G.out.size⟩
                  clear mp7 mp hmm hup hfk hfo g7 gN gM hmb R A G OQ
                  have hmm := HMM.out
                  have hup := HUP.out
                  go_wp2_with fail
                  rw [← HMB.out]
                  rw [← HMB.out] at MP
                  clear hmm hup HMM HUP HMB
                  go_loopw [16] (fun i wr => ∃ (p : Nat) (f : Lit → Lit), p ≤ nq ∧ i = .int .i64 p ∧ MapIs wr 3 4 mb (p + 1) (.bool false) f ∧ Seen f h2 q2 p ∧ Ch (fun j => j = mb) wN wr) (fun i _ => nq - (intOf i).toNat)
                  case atStart => exact ⟨0, f0, Nat.zero_le _, rfl, MP.out, S0.out, Ch.of_gr (Gr.refl _)⟩
                  case round =>
                    clear MP S0
                    obtain ⟨p, f, hp, rfl, hM, hS, hC⟩ := hrel
                    obtain ⟨wx, rfl⟩ : ∃ wx : World, wx = wr := ⟨_, rfl⟩
                    by_cases hlt : p < nq
                    · obtain ⟨bq, oq, z, rfl, hcell, hz, hno, hstep⟩ := CELL.out p hlt
                      have yq := hcell wx hC
                      obtain ⟨c, hfc, hlk⟩ := run_lookup_bool wx KI Tryz.underlying49 Tryz.underlying4 rfl hM (keyI z ⟨by omega, by omega⟩)
                      have hc0 : c = false := by
                        rw [hno f hS] at hfc
                        injection hfc with h
                        exact h.symm
                      subst hc0
                      have LK := Lib.hid hlk
                      obtain ⟨wy, f', hup, mp', hfk, hfo, g7⟩ := run_update wx (d := .bool true) KI Tryz.underlying49 hM (by have := NQL.out.2; unfold maxLen; omega) (keyI z ⟨by omega, by omega⟩) (plainElem_bool Tryz.underlying4 true)
                      have HU := Lib.hid hup
                      have NW : Hid (MapIs wy 3 4 mb (p + 1 + 1) (.bool false) f' ∧ Seen f' h2 q2 (p + 1) ∧ Ch (fun j => j = mb) wN wy) := Lib.hid ⟨mp', hstep f f' hS hfk hfo, hC.trans (Ch.of_grownBy g7 (fun k hk => by cases hk; rfl))⟩
                      have z1 : (z < 0) = False := by simp only [eq_iff_iff, iff_false]; omega
                      have z2 : (2 < z) = False := by simp only [eq_iff_iff, iff_false]; omega
                      have i5 : (0 : Int) ≤ (p : Int) := by omega
                      have i6 : (p : Int) < (nq : Int) := by omega
                      have HLT := Lib.hid hlt
                      have kw : wrap64 ((p : Int) + 1) = (p : Int) + 1 := by have h1 := NQL.out.2; have h3 := HLT.out; unfold wrap64; omega
                      clear hlk hup hfk hfo mp' g7 hM hS hC hno hstep hcell hfc hz hp hlt
                      go_wp2_with (first | (refine wpList_run_lookup LK.out rfl _ _ rfl rfl rfl ?_; clear LK) | (refine wpList_run_update HU.out rfl _ _ _ rfl rfl rfl rfl ?_; clear HU) | fail)
                      go_roundw
                      case rel => exact ⟨p + 1, f', by have := HLT.out; omega, by first | go_num | (rw [kw]; rfl), NW.out.1, NW.out.2.1, NW.out.2.2⟩
                      case measure =>
                        have h8 := HLT.out
                        have h9 : nq - (p + 1) < nq - p := by omega
                        (try rw [kw])
                        clear kw
                        simp [intOf]; omega
                    · have i6 : ¬ (p : Int) < (nq : Int) := by omega
                      have R : Hid (RegN w wx gv P2 r') := Lib.hid (R9.out.1.keep hC R9.out.2)
                      have A : Hid (Arrs w wx P2 bl bw bf (mixT (m + 1) r r') (upd fv m (.slice af nf cf))) := Lib.hid (A9.out.1.keep hC A9.out.2.1 A9.out.2.2.1 A9.out.2.2.2.1 A9.out.2.2.2.2)
                      have G : Hid (Gr w wx) := Lib.hid (Below.trans G9.out.1 (hC.below G9.out.1.size (fun k hk => by have : k = mb := hk; have := G9.out.2; omega)))
                      have kw : wrap64 ((m : Int) + 1) = (m : Int) + 1 := by have := M4.out; unfold wrap64; omega
                      clear R9 A9 G9 hM hS hC CELL NQL hp hlt
                      go_wp2
                      go_roundw
                      case rel => exact ⟨m + 1, _, by have := M4.out; omega, by first | go_num | (rw [kw]; rfl), R.out, A.out, G.out⟩
                      case measure =>
                        have h8 := M4.out
                        have h9 : 4 - (m + 1) < 4 - m := by omega
                        (try rw [kw])
                        clear kw
                        simp [intOf]; omega
                · have g1 : ((e1 : Int) < (e2 : Int)) = True := by have := LO.out; simp only [eq_iff_iff, iff_true]; omega
                  have g2 : ((e2 : Int) == (e1 : Int)) = false := by simp; omega
                  have g3 : ¬ (e2 : Int) = (e1 : Int) := by omega
                  have d0 : decide (0 ≤ h2) = true := by simp; omega
                  have d1 : (0 ≤ h2) = True := by simp only [eq_iff_iff, iff_true]; omega
                  clear hee hn2
                  by_cases hw : h1 < 0
                  · have d2 : (0 ≤ h1) = False := by simp only [eq_iff_iff, iff_false]; omega
                    have d3 : (h1 < 0) = True := by simp only [eq_iff_iff, iff_true]; omega
                    clear hw
                    have yl := YL.out wE (Gr.refl _)
                    have yw := YW.out wE (Gr.refl _)
                    have yf := YF.out wE (Gr.refl _)
                    go_wp2_with fail
                    refine (leq_any _ _ _ f1 f2 SF.out OF.out.sl FL.out.1 FL.out.2.1).mono ?_
                    rintro en wG ⟨rfl, gX⟩
                    rw [FL.out.2.2]
                    clear yl yw yf
                    have yl := YL.out wG gX
                    have yw := YW.out wG gX
                    have yf := YF.out wG gX
                    have VB : Hid (Sl wG (.slice af nf cf) (nums f2) ∧ ∀ j, (Value.slice af nf cf).ownBlock = some j → ¬ P2 j ∧ j < wG.heap.size ∧ j ≠ bl ∧ j ≠ bw ∧ j ≠ bf) := Lib.hid ⟨OF.out.sl.below gX, fun j hj => by
                      have h := OF.out.lt j hj
                      obtain ⟨a1, a2, a3, a4⟩ := AB.out
                      have := gX.size
                      exact ⟨fun e => by have := a4 j e; omega, by omega, by omega, by omega, by omega⟩⟩
                    replace R := Lib.hid (R.out.gr gX)
                    replace A := Lib.hid (A.out.gr gX)
                    replace G : Hid (Gr w _) := Lib.hid (G.out.trans gX)
                    clear gX
                    have zl := A.out.kl.frozen m
                    have zw := A.out.kw.frozen m
                    have zf := A.out.kf.frozen m
                    have n1 := A.out.n1
                    have n2 := A.out.n2
                    have n3 := A.out.n3
                    have n4 := n1.symm
                    have n5 := n2.symm
                    have n6 := n3.symm
                    clear YL YW YF SF OF AB ON LO EM FL
                    go_wp2_with fail
                    obtain ⟨wS, hwS⟩ : ∃ wS, wS = ((wG.setCell ⟨bl, m, none⟩ (.int .u64 (e2 : Int))).setCell ⟨bf, m, none⟩ (.slice af nf cf)).setCell ⟨bw, m, none⟩ (.int .i64 h2) := ⟨_, rfl⟩
                    rw [← hwS]
                    have S3 := A.out.set3 m M4.out ⟨e2, h2, f2, q2⟩ (.slice af nf cf) VB.out.1 VB.out.2
                    replace S3 : Arrs w wS P2 bl bw bf (upd (mixT m r r') m ⟨e2, h2, f2, q2⟩) (upd fv m (.slice af nf cf)) ∧ Ch (fun j => j = bl ∨ j = bf ∨ j = bw) wG wS := by rw [hwS]; exact S3
                    replace R := Lib.hid (R.out.keep S3.2 (fun k hk e => by
                      rcases e with rfl | rfl | rfl
                      · exact A.out.pl.2 hk
                      · exact A.out.pf.2 hk
                      · exact A.out.pw.2 hk))
                    replace G : Hid (Gr w _) := Lib.hid (Below.trans G.out (S3.2.below G.out.size (fun k hk => by
                      rcases hk with rfl | rfl | rfl
                      · exact A.out.pl.1
                      · exact A.out.pf.1
                      · exact A.out.pw.1)))
                    replace A : Hid (Arrs w wS P2 bl bw bf (mixT (m + 1) r r') (upd fv m (.slice af nf cf))) := Lib.hid (S3.1.congr fun j _ => by rw [TE.out]; exact mixT_upd m r r' j)
                    clear S3 hwS VB yl yw yf zl zw zf n1 n2 n3 n4 n5 n6 c1 c2 c3 c5 g1 g2 g3 d1 d2 d3
                    refine (queue_any _ _ _ _ R.out.v (m : Int) (by rw [← TE.out]; exact SZ.out.1)).mono ?_
                    rintro en wH ⟨vq, rfl, oq, gX⟩
                    rw [← TE.out] at oq
                    replace oq : Own wH wS.heap.size 3 vq (ints q2) := oq
                    obtain ⟨aq, cq, hsh⟩ := oq.shape
                    rw [ints_length] at hsh
                    have OQ := Lib.hid oq.sl
                    obtain ⟨nq, hnq⟩ : ∃ nq, nq = q2.length := ⟨_, rfl⟩
                    rw [← hnq] at hsh
                    subst hsh
                    have NQL : Hid (nq = q2.length ∧ nq ≤ 100) := Lib.hid ⟨hnq, by have h : q2.length ≤ 100 := SZ.out.1; omega⟩
                    clear oq hnq
                    replace R := Lib.hid (R.out.gr gX)
                    replace A := Lib.hid (A.out.gr gX)
                    replace G : Hid (Gr w _) := Lib.hid (G.out.trans gX)
                    clear gX
                    have hmm := run_makeMap' 49 wH
                    have mp := MapIs.made wH 3 4 (.bool false)
                    have gM : Gr wH (wH.alloc (.map #[] 0)) := (Gr.refl wH).alloc _
                    obtain ⟨wN, f0, hup, mp7, hfk, hfo, g7⟩ := run_update (wH.alloc (.map #[] 0)) (d := .bool true) KI Tryz.underlying49 mp (by unfold maxLen; omega) (keyI h2 HM.out) (plainElem_bool Tryz.underlying4 true)
                    have gN : Gr wH wN := Below.trans gM (grownBy_below g7 gM.size (by intro k hk; injection hk with hk; omega))
                    have S0 : Hid (Seen f0 h2 q2 0) := Lib.hid fun z => by
                      by_cases e : z = h2
                      · subst e
                        rw [hfk, decide_eq_true (.inl rfl)]
                      · rw [hfo _ (fun k => e (by injection k)), decide_eq_false (fun k => k.elim e (fun k => by simp at k))]
                    have MP := Lib.hid mp7
                    have HMM := Lib.hid hmm
                    have HUP := Lib.hid hup
                    obtain ⟨mb, hmb⟩ : ∃ mb, mb = wH.heap.size := ⟨_, rfl⟩
                    have HMB := Lib.hid hmb
                    have CELL : Hid (∀ p, p < nq → ∃ bq oq, ∃ z : Int, aq = some ⟨bq, oq, none⟩ ∧ (∀ W, Ch (fun j => j = mb) wN W → W.cell? ⟨bq, oq + p, none⟩ = some (.int .i64 z)) ∧ (0 ≤ z ∧ z ≤ 2) ∧ (∀ f, Seen f h2 q2 p → f (.int .i64 z) = .bool false) ∧ (∀ f f', Seen f h2 q2 p → f' (.int .i64 z) = .bool true → (∀ l, l ≠ .int .i64 z → f' l = f l) → Seen f' h2 q2 (p + 1))) := Lib.hid fun p hp => by
                      have hpq : p < q2.length := by have := NQL.out.1; omega
                      obtain ⟨a', c', e, _, h⟩ := OQ.out
                      injection e with e _ _
                      rcases h with h | ⟨b, o, h, hb, hc⟩
                      · exfalso
                        have h9 : (ints q2).length = 0 := by rw [h]; rfl
                        rw [ints_length] at h9; omega
                      have l1 : p < (ints q2).length := by rw [ints_length]; exact hpq
                      have hz : 0 ≤ q2[p] ∧ q2[p] < 3 := TK.out.queue _ (List.getElem_mem hpq)
                      refine ⟨b, o, q2[p], e.trans h, fun W c => ?_, ⟨hz.1, by omega⟩, fun f hf => hf.no hpq TK.out.nodup TK.out.notin, fun f f' hf h1 h2 => hf.step hpq h1 h2⟩
                      have h1 : wN.cell? ⟨b, o + p, none⟩ = some (.int .i64 q2[p]) := (gN.cell (p := ⟨b, o + p, none⟩) hb).trans (by rw [hc p l1]; simp [ints])
                      exact (c.cell (p := ⟨b, o + p, none⟩) (Nat.lt_of_lt_of_le hb gN.size) (by rw [hmb]; show b ≠ wH.heap.size; omega)).trans h1
                    have R9 : Hid (RegN w wN gv P2 r' ∧ ∀ k, P2 k → k ≠ mb) := Lib.hid ⟨R.out.gr gN, fun k hk e => by have := R.out.lt k hk; omega⟩
                    have A9 : Hid (Arrs w wN P2 bl bw bf (mixT (m + 1) r r') (upd fv m (.slice af nf cf)) ∧ bl ≠ mb ∧ bw ≠ mb ∧ bf ≠ mb ∧ ∀ j, j < 4 → ∀ k, (upd fv m (.slice af nf cf) j).ownBlock = some k → k ≠ mb) := Lib.hid (by
                      have h := A.out.newBlock (B := mb) (by omega) R.out.lt
                      exact ⟨A.out.gr gN, h.2.2.1, h.2.2.2.1, h.2.2.2.2.1, h.2.2.2.2.2⟩)
                    have G9 : Hid (Gr w wN ∧ w.heap.size ≤ mb) := Lib.hid ⟨G.out.trans gN, by rw [hmb]; exact G.out.size⟩
                    clear mp7 mp hmm hup hfk hfo g7 gN gM hmb R A G OQ
                    have hmm := HMM.out
                    have hup := HUP.out
                    go_wp2_with fail
                    rw [← HMB.out]
                    rw [← HMB.out] at MP
                    clear hmm hup HMM HUP HMB
                    go_loopw [16] (fun i wr => ∃ (p : Nat) (f : Lit → Lit), p ≤ nq ∧ i = .int .i64 p ∧ MapIs wr 3 4 mb (p + 1) (.bool false) f ∧ Seen f h2 q2 p ∧ Ch (fun j => j = mb) wN wr) (fun i _ => nq - (intOf i).toNat)
                    case atStart => exact ⟨0, f0, Nat.zero_le _, rfl, MP.out, S0.out, Ch.of_gr (Gr.refl _)⟩
                    case round =>
                      clear MP S0
                      obtain ⟨p, f, hp, rfl, hM, hS, hC⟩ := hrel
                      obtain ⟨wx, rfl⟩ : ∃ wx : World, wx = wr := ⟨_, rfl⟩
                      by_cases hlt : p < nq
                      · obtain ⟨bq, oq, z, rfl, hcell, hz, hno, hstep⟩ := CELL.out p hlt
                        have yq := hcell wx hC
                        obtain ⟨c, hfc, hlk⟩ := run_lookup_bool wx KI Tryz.underlying49 Tryz.underlying4 rfl hM (keyI z ⟨by omega, by omega⟩)
                        have hc0 : c = false := by
                          rw [hno f hS] at hfc
                          injection hfc with h
                          exact h.symm
                        subst hc0
                        have LK := Lib.hid hlk
                        obtain ⟨wy, f', hup, mp', hfk, hfo, g7⟩ := run_update wx (d := .bool true) KI Tryz.underlying49 hM (by have := NQL.out.2; unfold maxLen; omega) (keyI z ⟨by omega, by omega⟩) (plainElem_bool Tryz.underlying4 true)
                        have HU := Lib.hid hup
                        have NW : Hid (MapIs wy 3 4 mb (p + 1 + 1) (.bool false) f' ∧ Seen f' h2 q2 (p + 1) ∧ Ch (fun j => j = mb) wN wy) := Lib.hid ⟨mp', hstep f f' hS hfk hfo, hC.trans (Ch.of_grownBy g7 (fun k hk => by cases hk; rfl))⟩
                        have z1 : (z < 0) = False := by simp only [eq_iff_iff, iff_false]; omega
                        have z2 : (2 < z) = False := by simp only [eq_iff_iff, iff_false]; omega
                        have i5 : (0 : Int) ≤ (p : Int) := by omega
                        have i6 : (p : Int) < (nq : Int) := by omega
                        have HLT := Lib.hid hlt
                        have kw : wrap64 ((p : Int) + 1) = (p : Int) + 1 := by have h1 := NQL.out.2; have h3 := HLT.out; unfold wrap64; omega
                        clear hlk hup hfk hfo mp' g7 hM hS hC hno hstep hcell hfc hz hp hlt
                        go_wp2_with (first | (refine wpList_run_lookup LK.out rfl _ _ rfl rfl rfl ?_; clear LK) | (refine wpList_run_update HU.out rfl _ _ _ rfl rfl rfl rfl ?_; clear HU) | fail)
                        go_roundw
                        case rel => exact ⟨p + 1, f', by have := HLT.out; omega, by first | go_num | (rw [kw]; rfl), NW.out.1, NW.out.2.1, NW.out.2.2⟩
                        case measure =>
                          have h8 := HLT.out
                          have h9 : nq - (p + 1) < nq - p := by omega
                          (try rw [kw])
                          clear kw
                          simp [intOf]; omega
                      · have i6 : ¬ (p : Int) < (nq : Int) := by omega
                        have R : Hid (RegN w wx gv P2 r') := Lib.hid (R9.out.1.keep hC R9.out.2)
                        have A : Hid (Arrs w wx P2 bl bw bf (mixT (m + 1) r r') (upd fv m (.slice af nf cf))) := Lib.hid (A9.out.1.keep hC A9.out.2.1 A9.out.2.2.1 A9.out.2.2.2.1 A9.out.2.2.2.2)
                        have G : Hid (Gr w wx) := Lib.hid (Below.trans G9.out.1 (hC.below G9.out.1.size (fun k hk => by have : k = mb := hk; have := G9.out.2; omega)))
                        have kw : wrap64 ((m : Int) + 1) = (m : Int) + 1 := by have := M4.out; unfold wrap64; omega
                        clear R9 A9 G9 hM hS hC CELL NQL hp hlt
                        go_wp2
                        go_roundw
                        case rel => exact ⟨m + 1, _, by have := M4.out; omega, by first | go_num | (rw [kw]; rfl), R.out, A.out, G.out⟩
                        case measure =>
                          have h8 := M4.out
                          have h9 : 4 - (m + 1) < 4 - m := by omega
                          (try rw [kw])
                          clear kw
                          simp [intOf]; omega
                  · have d2 : (0 ≤ h1) = True := by simp only [eq_iff_iff, iff_true]; omega
                    have d3 : (h1 < 0) = False := by simp only [eq_iff_iff, iff_false]; omega
                    have hkd : kd = 9 := ON.out.back (by have := g1; have := LO.out; show e1 < e2; omega) (by show 0 ≤ h1; omega)
                    subst hkd
                    clear hw
                    have yl := YL.out wE (Gr.refl _)
                    have yw := YW.out wE (Gr.refl _)
                    have yf := YF.out wE (Gr.refl _)
                    go_wp2_with fail
                    refine (leq_any _ _ _ f1 f2 SF.out OF.out.sl FL.out.1 FL.out.2.1).mono ?_
                    rintro en wG ⟨rfl, gX⟩
                    rw [FL.out.2.2]
                    clear yl yw yf
                    have yl := YL.out wG gX
                    have yw := YW.out wG gX
                    have yf := YF.out wG gX
                    have VB : Hid (Sl wG (.slice af nf cf) (nums f2) ∧ ∀ j, (Value.slice af nf cf).ownBlock = some j → ¬ P2 j ∧ j < wG.heap.size ∧ j ≠ bl ∧ j ≠ bw ∧ j ≠ bf) := Lib.hid ⟨OF.out.sl.below gX, fun j hj => by
                      have h := OF.out.lt j hj
                      obtain ⟨a1, a2, a3, a4⟩ := AB.out
                      have := gX.size
                      exact ⟨fun e => by have := a4 j e; omega, by omega, by omega, by omega, by omega⟩⟩
                    replace R := Lib.hid (R.out.gr gX)
                    replace A := Lib.hid (A.out.gr gX)
                    replace G : Hid (Gr w _) := Lib.hid (G.out.trans gX)
                    clear gX
                    have zl := A.out.kl.frozen m
                    have zw := A.out.kw.frozen m
                    have zf := A.out.kf.frozen m
                    have n1 := A.out.n1
                    have n2 := A.out.n2
                    have n3 := A.out.n3
                    have n4 := n1.symm
                    have n5 := n2.symm
                    have n6 := n3.symm
                    have y0 := Y0.out wG G.out
                    clear YL YW YF SF OF AB ON LO EM FL
                    go_wp2_with fail
                    obtain ⟨wS, hwS⟩ : ∃ wS, wS = ((wG.setCell ⟨bl, m, none⟩ (.int .u64 (e2 : Int))).setCell ⟨bf, m, none⟩ (.slice af nf cf)).setCell ⟨bw, m, none⟩ (.int .i64 h2) := ⟨_, rfl⟩
                    rw [← hwS]
                    have S3 := A.out.set3 m M4.out ⟨e2, h2, f2, q2⟩ (.slice af nf cf) VB.out.1 VB.out.2
                    replace S3 : Arrs w wS P2 bl bw bf (upd (mixT m r r') m ⟨e2, h2, f2, q2⟩) (upd fv m (.slice af nf cf)) ∧ Ch (fun j => j = bl ∨ j = bf ∨ j = bw) wG wS := by rw [hwS]; exact S3
                    replace R := Lib.hid (R.out.keep S3.2 (fun k hk e => by
                      rcases e with rfl | rfl | rfl
                      · exact A.out.pl.2 hk
                      · exact A.out.pf.2 hk
                      · exact A.out.pw.2 hk))
                    replace G : Hid (Gr w _) := Lib.hid (Below.trans G.out (S3.2.below G.out.size (fun k hk => by
                      rcases hk with rfl | rfl | rfl
                      · exact A.out.pl.1
                      · exact A.out.pf.1
                      · exact A.out.pw.1)))
                    replace A : Hid (Arrs w wS P2 bl bw bf (mixT (m + 1) r r') (upd fv m (.slice af nf cf))) := Lib.hid (S3.1.congr fun j _ => by rw [TE.out]; exact mixT_upd m r r' j)
                    clear S3 hwS VB yl yw yf zl zw zf n1 n2 n3 n4 n5 n6 c1 c2 c3 c5 g1 g2 g3 d1 d2 d3 y0
                    refine (queue_any _ _ _ _ R.out.v (m : Int) (by rw [← TE.out]; exact SZ.out.1)).mono ?_
                    rintro en wH ⟨vq, rfl, oq, gX⟩
                    rw [← TE.out] at oq
                    replace oq : Own wH wS.heap.size 3 vq (ints q2) := oq
                    obtain ⟨aq, cq, hsh⟩ := oq.shape
                    rw [ints_length] at hsh
                    have OQ := Lib.hid oq.sl
                    obtain ⟨nq, hnq⟩ : ∃ nq, nq = q2.length := ⟨_, rfl⟩
                    rw [← hnq] at hsh
                    subst hsh
                    have NQL : Hid (nq = q2.length ∧ nq ≤ 100) := Lib.hid ⟨hnq, by have h : q2.length ≤ 100 := SZ.out.1; omega⟩
                    clear oq hnq
                    replace R := Lib.hid (R.out.gr gX)
                    replace A := Lib.hid (A.out.gr gX)
                    replace G : Hid (Gr w _) := Lib.hid (G.out.trans gX)
                    clear gX
                    have hmm := run_makeMap' 49 wH
                    have mp := MapIs.made wH 3 4 (.bool false)
                    have gM : Gr wH (wH.alloc (.map #[] 0)) := (Gr.refl wH).alloc _
                    obtain ⟨wN, f0, hup, mp7, hfk, hfo, g7⟩ := run_update (wH.alloc (.map #[] 0)) (d := .bool true) KI Tryz.underlying49 mp (by unfold maxLen; omega) (keyI h2 HM.out) (plainElem_bool Tryz.underlying4 true)
                    have gN : Gr wH wN := Below.trans gM (grownBy_below g7 gM.size (by intro k hk; injection hk with hk; omega))
                    have S0 : Hid (Seen f0 h2 q2 0) := Lib.hid fun z => by
                      by_cases e : z = h2
                      · subst e
                        rw [hfk, decide_eq_true (.inl rfl)]
                      · rw [hfo _ (fun k => e (by injection k)), decide_eq_false (fun k => k.elim e (fun k => by simp at k))]
                    have MP := Lib.hid mp7
                    have HMM := Lib.hid hmm
                    have HUP := Lib.hid hup
                    obtain ⟨mb, hmb⟩ : ∃ mb, mb = wH.heap.size := ⟨_, rfl⟩
                    have HMB := Lib.hid hmb
                    have CELL : Hid (∀ p, p < nq → ∃ bq oq, ∃ z : Int, aq = some ⟨bq, oq, none⟩ ∧ (∀ W, Ch (fun j => j = mb) wN W → W.cell? ⟨bq, oq + p, none⟩ = some (.int .i64 z)) ∧ (0 ≤ z ∧ z ≤ 2) ∧ (∀ f, Seen f h2 q2 p → f (.int .i64 z) = .bool false) ∧ (∀ f f', Seen f h2 q2 p → f' (.int .i64 z) = .bool true → (∀ l, l ≠ .int .i64 z → f' l = f l) → Seen f' h2 q2 (p + 1))) := Lib.hid fun p hp => by
                      have hpq : p < q2.length := by have := NQL.out.1; omega
                      obtain ⟨a', c', e, _, h⟩ := OQ.out
                      injection e with e _ _
                      rcases h with h | ⟨b, o, h, hb, hc⟩
                      · exfalso
                        have h9 : (ints q2).length = 0 := by rw [h]; rfl
                        rw [ints_length] at h9; omega
                      have l1 : p < (ints q2).length := by rw [ints_length]; exact hpq
                      have hz : 0 ≤ q2[p] ∧ q2[p] < 3 := TK.out.queue _ (List.getElem_mem hpq)
                      refine ⟨b, o, q2[p], e.trans h, fun W c => ?_, ⟨hz.1, by omega⟩, fun f hf => hf.no hpq TK.out.nodup TK.out.notin, fun f f' hf h1 h2 => hf.step hpq h1 h2⟩
                      have h1 : wN.cell? ⟨b, o + p, none⟩ = some (.int .i64 q2[p]) := (gN.cell (p := ⟨b, o + p, none⟩) hb).trans (by rw [hc p l1]; simp [ints])
                      exact (c.cell (p := ⟨b, o + p, none⟩) (Nat.lt_of_lt_of_le hb gN.size) (by rw [hmb]; show b ≠ wH.heap.size; omega)).trans h1
                    have R9 : Hid (RegN w wN gv P2 r' ∧ ∀ k, P2 k → k ≠ mb) := Lib.hid ⟨R.out.gr gN, fun k hk e => by have := R.out.lt k hk; omega⟩
                    have A9 : Hid (Arrs w wN P2 bl bw bf (mixT (m + 1) r r') (upd fv m (.slice af nf cf)) ∧ bl ≠ mb ∧ bw ≠ mb ∧ bf ≠ mb ∧ ∀ j, j < 4 → ∀ k, (upd fv m (.slice af nf cf) j).ownBlock = some k → k ≠ mb) := Lib.hid (by
                      have h := A.out.newBlock (B := mb) (by omega) R.out.lt
                      exact ⟨A.out.gr gN, h.2.2.1, h.2.2.2.1, h.2.2.2.2.1, h.2.2.2.2.2⟩)
                    have G9 : Hid (Gr w wN ∧ w.heap.size ≤ mb) := Lib.hid ⟨G.out.trans gN, by rw [hmb]; exact G.out.size⟩
                    clear mp7 mp hmm hup hfk hfo g7 gN gM hmb R A G OQ
                    have hmm := HMM.out
                    have hup := HUP.out
                    go_wp2_with fail
                    rw [← HMB.out]
                    rw [← HMB.out] at MP
                    clear hmm hup HMM HUP HMB
                    go_loopw [16] (fun i wr => ∃ (p : Nat) (f : Lit → Lit), p ≤ nq ∧ i = .int .i64 p ∧ MapIs wr 3 4 mb (p + 1) (.bool false) f ∧ Seen f h2 q2 p ∧ Ch (fun j => j = mb) wN wr) (fun i _ => nq - (intOf i).toNat)
                    case atStart => exact ⟨0, f0, Nat.zero_le _, rfl, MP.out, S0.out, Ch.of_gr (Gr.refl _)⟩
                    case round =>
                      clear MP S0
                      obtain ⟨p, f, hp, rfl, hM, hS, hC⟩ := hrel
                      obtain ⟨wx, rfl⟩ : ∃ wx : World, wx = wr := ⟨_, rfl⟩
                      by_cases hlt : p < nq
                      · obtain ⟨bq, oq, z, rfl, hcell, hz, hno, hstep⟩ := CELL.out p hlt
                        have yq := hcell wx hC
                        obtain ⟨c, hfc, hlk⟩ := run_lookup_bool wx KI Tryz.underlying49 Tryz.underlying4 rfl hM (keyI z ⟨by omega, by omega⟩)
                        have hc0 : c = false := by
                          rw [hno f hS] at hfc
                          injection hfc with h
                          exact h.symm
                        subst hc0
                        have LK := Lib.hid hlk
                        obtain ⟨wy, f', hup, mp', hfk, hfo, g7⟩ := run_update wx (d := .bool true) KI Tryz.underlying49 hM (by have := NQL.out.2; unfold maxLen; omega) (keyI z ⟨by omega, by omega⟩) (plainElem_bool Tryz.underlying4 true)
                        have HU := Lib.hid hup
                        have NW : Hid (MapIs wy 3 4 mb (p + 1 + 1) (.bool false) f' ∧ Seen f' h2 q2 (p + 1) ∧ Ch (fun j => j = mb) wN wy) := Lib.hid ⟨mp', hstep f f' hS hfk hfo, hC.trans (Ch.of_grownBy g7 (fun k hk => by cases hk; rfl))⟩
                        have z1 : (z < 0) = False := by simp only [eq_iff_iff, iff_false]; omega
                        have z2 : (2 < z) = False := by simp only [eq_iff_iff, iff_false]; omega
                        have i5 : (0 : Int) ≤ (p : Int) := by omega
                        have i6 : (p : Int) < (nq : Int) := by omega
                        have HLT := Lib.hid hlt
                        have kw : wrap64 ((p : Int) + 1) = (p : Int) + 1 := by have h1 := NQL.out.2; have h3 := HLT.out; unfold wrap64; omega
                        clear hlk hup hfk hfo mp' g7 hM hS hC hno hstep hcell hfc hz hp hlt
                        go_wp2_with (first | (refine wpList_run_lookup LK.out rfl _ _ rfl rfl rfl ?_; clear LK) | (refine wpList_run_update HU.out rfl _ _ _ rfl rfl rfl rfl ?_; clear HU) | fail)
                        go_roundw
                        case rel => exact ⟨p + 1, f', by have := HLT.out; omega, by first | go_num | (rw [kw]; rfl), NW.out.1, NW.out.2.1, NW.out.2.2⟩
                        case measure =>
                          have h8 := HLT.out
                          have h9 : nq - (p + 1) < nq - p := by omega
                          (try rw [kw])
                          clear kw
                          simp [intOf]; omega
                      · have i6 : ¬ (p : Int) < (nq : Int) := by omega
                        have R : Hid (RegN w wx gv P2 r') := Lib.hid (R9.out.1.keep hC R9.out.2)
                        have A : Hid (Arrs w wx P2 bl bw bf (mixT (m + 1) r r') (upd fv m (.slice af nf cf))) := Lib.hid (A9.out.1.keep hC A9.out.2.1 A9.out.2.2.1 A9.out.2.2.2.1 A9.out.2.2.2.2)
                        have G : Hid (Gr w wx) := Lib.hid (Below.trans G9.out.1 (hC.below G9.out.1.size (fun k hk => by have : k = mb := hk; have := G9.out.2; omega)))
                        have kw : wrap64 ((m : Int) + 1) = (m : Int) + 1 := by have := M4.out; unfold wrap64; omega
                        clear R9 A9 G9 hM hS hC CELL NQL hp hlt
                        go_wp2
                        go_roundw
                        case rel => exact ⟨m + 1, _, by have := M4.out; omega, by first | go_num | (rw [kw]; rfl), R.out, A.out, G.out⟩
                        case measure =>
                          have h8 := M4.out
                          have h9 : 4 - (m + 1) < 4 - m := by omega
                          (try rw [kw])
                          clear kw
                          simp [intOf]; omega
            · obtain rfl : m = 4 := by omega
              have i3 : ¬ ((4 : Nat) : Int) < 4 := by decide
              have kw : wrap64 ((k : Int) + 1) = (k : Int) + 1 := by have := K100.out; unfold wrap64; omega
              have AF : Hid (Arrs w wi P2 bl bw bf (fun j => atG r' (j : Int)) fv) := Lib.hid (A.out.congr fun j hj => by unfold mixT; rw [if_pos hj])
              have EF : Hid (∀ j : Nat, j < 4 → (atG r' (j : Int)).epoch ≤ k + 1) := Lib.hid fun j hj => by have := (ST.out j hj).hi; have := EP.out j hj; omega
              clear hm hlt A ST EP K100
              go_wp2
              go_roundw
              case rel => exact ⟨k + 1, P2, fv, r', by have := HLT.out; omega, by first | go_num | (rw [kw]; rfl), RN.out, EF.out, R.out, AF.out, G.out⟩
              case measure =>
                have h8 := HLT.out
                have h9 : n - (k + 1) < n - k := by omega
                (try rw [kw])
                clear kw
                simp [intOf]; omega
        · as_aux_lemma =>
          have i2 : ¬ (k : Int) < (n : Int) := by omega
          clear hk hlt R A R34 EP ROW OKX SM HN
          go_wp2_with fail
          refine (goes_any _).mono ?_
          rintro en wZ ⟨rfl, gZ⟩
          have GZ := Lib.hid (G.out.trans gZ)
          clear gZ
          go_wp2
          go_ret
          exact ⟨rfl, GZ.out⟩
open Go.ChangeShapes Go.WideShapes Go.ChangeAt Go.RowKit
open Go.ChangeMaps (open_string shut_string)
theorem own_registryOnce : ownKnob Tryz.prog.godebug = none := by kernel_rfl
theorem laidOut_registryOnce : laidOutB Tryz.prog = true := by kernel_rfl
set_option maxRecDepth 100000 in
theorem lifted_registryOnce (os : Os) (started : os.Started) (H : Type) (enc : TypeId × Value → H) (F : Stop.Interp) :
    ReturnsInHanded {} Tryz.checked os 3 .any ((Rows.OpenSpec.upto Rows.registryOnceSpec).pre6 enc Tryz.prog Tryz.f3 Rows.registryOnceUptoRow.domain false) (((Rows.OpenSpec.upto Rows.registryOnceSpec).at F).post enc Tryz.prog Tryz.f3 false true false false) := by
  refine returnsInHanded_of_cond (C := Tryz.checked) (s := Rows.OpenSpec.upto Rows.registryOnceSpec) (k := Rows.uptoSmall) rfl own_registryOnce started (by kernel_rfl) Tryz.func3
    (OpenSpec.witness (enc := enc) (C := Tryz.checked) (s := Rows.OpenSpec.upto Rows.registryOnceSpec) (k := Rows.uptoSmall) rfl false ⟨#[], #[.slice none 0 0], []⟩ 8 (by kernel_rfl) (by kernel_rfl) (by kernel_rfl)
      (x := ([.nil], [], [])) (by kernel_rfl) rfl (by kernel_rfl)) ?_
  intro W base args ds gs before hval0 hW _ hk0 _
  have hk1 : Rows.uptoBulkAll (ds ++ gs) ≤ 1048576 := of_decide_eq_true hk0
  clear hk0
  have hval : ∀ (j : Nat) t v, Tryz.f3.params[j]? = some t → args[j]? = some v → Value.okWide Tryz.prog W .any base t v := hval0
  have hW' := hW
  obtain ⟨p, q, hA0, hV, rfl, hfz, hnd⟩ := hW
  have hA : DataW.TrodAll enc Tryz.prog W 0 (fun _ => true) true Tryz.f3.params.toList args.toList ds p := hA0
  rw [Tryz.params3] at hA hval
  obtain ⟨v0, vs0, d0, ds0, p0, q0, hargs, rfl, rfl, k0, r0⟩ := trodAll_cons hA
  obtain ⟨rfl, rfl, rfl⟩ := trodAll_nil r0
  obtain rfl : args = #[v0] := by cases args; simp_all
  obtain ⟨rfl, rfl⟩ := trodVars_none hV
  have lt0 : ∀ x ∈ p0, x.block < W.heap.size := by obtain ⟨m, hm⟩ := k0; exact DataW.trod_lt m _ _ _ hm
  obtain ⟨xs0, p0', ok0, _⟩ := open_ents (hval 0 22 v0 rfl rfl) k0
  clear hA0 hval0
  have hk : Rows.uptoBulk d0 ≤ 1048576 := by simpa [Rows.uptoBulkAll, Nat.add_assoc] using hk1
  clear hk1
  refine (once_walk W v0 xs0 p0' (fun x hx => ⟨(ok0 x hx).1, (ok0 x hx).2.big (by omega)⟩)).mono fun e W' ⟨he, bel⟩ => ?_
  subst he
  exact ⟨_, rfl, _, _, _, [], _, [], hW', trodAll_mk1 (shut_bool Tryz.underlying4 _), (trodAll_cons_mk (Below.trod laidOut_registryOnce (by kernel_rfl) (of_decide_eq_true (by kernel_rfl)) k0 bel lt0) trodAll_mk0), rfl, bel.frame _, fun h => by cases h⟩
theorem registryOnce_proved : Rows.RegistryOnceUptoSaid :=
  OpenClaim.holds_of_cond 3 Tryz.f3 rfl rfl rfl rfl rfl rfl rfl ⟨rfl, rfl, rfl, rfl, rfl⟩ rfl rfl rfl rfl rfl (by kernel_rfl) Tryz.func3 (by kernel_rfl)
    (of_decide_eq_true (by kernel_rfl)) (by unfold Func.isWrapper; first | (rw [if_pos (by decide +kernel)]; kernel_rfl) | (rw [if_neg (by decide +kernel)]; exact ⟨rfl, rfl⟩))
    (fun os started H enc _ F => lifted_registryOnce os started H enc F)
#print axioms registryOnce_proved
end Go.Proofs.YtpcpijecibiibaaGreat
