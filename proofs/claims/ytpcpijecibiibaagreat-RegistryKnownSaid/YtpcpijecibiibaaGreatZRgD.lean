/-
  Package registry: Apply where the entry is of use.
  Package registry: New.
-/
import Derived.Test.YtpcpijecibiibaaGreatZRgC
import Derived.Test.YtpcpijecibiibaaGreatZLateTail
import Derived.Test.YtpcpijecibiibaaGreatZG
section
set_option linter.unusedVariables false
set_option linter.unusedSimpArgs false
set_option maxRecDepth 100000
namespace Go.Proofs.YtpcpijecibiibaaGreat
open Go.RowKit
theorem move_pure {P : Program} {o : Oper} {t : Operand} (ho : o.op = .move t) :
    (∀ (ρ : Operand → Value) (W : World) (nx : Next) (W' : World), (execOp ρ o).run P W = .ok nx W' → ∀ W2, (execOp ρ o).run P W2 = .ok nx W2) ∧
    (∀ (ρ : Operand → Value) (W : World) (nx : Next) (W' : World), (execOp ρ o).run P W = .ok nx W' → ∃ v, nx = .value v) := by
  have key : ∀ (ρ : Operand → Value) (W : World), (execOp ρ o).run P W = .ok (.value (ρ t)) W := by
    intro ρ W
    unfold execOp
    simp only [ho]
    rfl
  refine ⟨fun ρ W nx W' h W2 => ?_, fun ρ W nx W' h => ?_⟩
  · rw [key] at h ⊢
    injection h with h1 h2
    rw [h1]
  · rw [key] at h
    injection h with h1 h2
    exact ⟨_, h1.symm⟩
/-- Apply was called: the registry is r'. -/
def Applied (w : World) (P : Nat → Prop) (g : Nat) (r' : RegD) (e : Ending) (w' : World) : Prop :=
  e = .returned (.tuple #[]) ∧ (∃ P', RegIs w' P' g r' ∧ (∀ k, P k → P' k) ∧ (∀ k, P' k → P k ∨ w.heap.size ≤ k)) ∧ Ch (fun k => P k ∧ k ≠ g) w w'
theorem applied_of {w W : World} {P P' : Nat → Prop} {g h i n c : Nat} {r : RegD} {cur' : List Value} {fv' qv' : Nat → Value} {t : Tok} (hP : P g) (K : CellsAt w g [.int .i64 r.sites, .slice (some ⟨h, 0, none⟩) r.l.length c] 66) (hh : P h) (hg : h ≠ g)
    (T : TabP W P' g h (r.l.set i t) cur' fv' qv') (h1 : ∀ k, P k → P' k) (h2 : ∀ k, P' k → P k ∨ w.heap.size ≤ k) (h3 : ∀ k, P' k → k < W.heap.size) (C : Ch (fun k => P k ∧ k ≠ g) w W) :
    Applied w P g { r with l := r.l.set i t } (.returned (.tuple #[])) W :=
  ⟨rfl, ⟨P', ⟨h1 g hP, h3, some ⟨h, 0, none⟩, c, by
    have k := K.block (C.block g K.lt (fun e => e.2 rfl))
    show CellsAt W g [.int .i64 r.sites, .slice (some ⟨h, 0, none⟩) (r.l.set i t).length c] 66
    rw [List.length_set]; exact k, .inr ⟨h, cur', fv', qv', rfl, h1 h hh, hg, T⟩⟩, h1, h2⟩, C⟩
def afterT (o : Option Tok) (t : Tok) : Tok := match o with | some t' => nextT t' | none => t
def SApp (B : Nat) (P : Nat → Prop) (g h : Nat) (ts ts' : List Tok) (cur : List Value) (fv qv : Nat → Value) : Nat → World → Prop
  | 0, W => TabP W P g h ts cur fv qv
  | _ + 1, W => ∃ P' cur' fv' qv', TabP W P' g h ts' cur' fv' qv' ∧ (∀ k, P k → P' k) ∧ (∀ k, P' k → P k ∨ B ≤ k) ∧ (∀ k, P' k → k < W.heap.size)
theorem SApp.gr {B : Nat} {P : Nat → Prop} {g h : Nat} {ts ts' : List Tok} {cur : List Value} {fv qv : Nat → Value} : ∀ k W W', Gr W W' → SApp B P g h ts ts' cur fv qv k W → SApp B P g h ts ts' cur fv qv k W'
  | 0, _, _, hg, T => TabP.keep (ρ := fun _ => False) T (Ch.of_gr hg) (fun h => h) (fun _ _ _ _ h => h) (fun _ h => h)
  | _ + 1, _, _, hg, ⟨P', cur', fv', qv', T, a, b, c⟩ => ⟨P', cur', fv', qv', TabP.keep (ρ := fun _ => False) T (Ch.of_gr hg) (fun h => h) (fun _ _ _ _ h => h) (fun _ h => h), a, b, fun k hk => Nat.lt_of_lt_of_le (c k hk) hg.size⟩
theorem sl_head {w : World} {b n c : Nat} {x : Int} {xs : List Int} (h : Sl w (.slice (some ⟨b, 0, none⟩) (n + 1) c) (ints (x :: xs))) : w.cell? ⟨b, 0, none⟩ = some (.int .i64 x) := by
  obtain ⟨a', c', he, hc, hx⟩ := h
  injection he with e1 e2 e3
  subst e1 e3
  rcases hx with hx | ⟨b', o', e, hb, hcell⟩
  · cases hx
  · injection e with e
    injection e with e4 e5
    subst e4 e5
    exact hcell 0 (by rw [ints_length]; simp)
theorem doT_queue {x : EntD} {t t' : Tok} (h : doT x t = some t') : t'.queue.length ≤ t.queue.length + 1 := by
  unfold doT wantT backT at h
  split at h
  · split at h
    · cases h
    · injection h with h; subst h; simp
  · split at h
    · split at h
      · cases h
      · injection h with h; subst h; simp
    · cases h
theorem nextT_pos {t : Tok} (h1 : t.holder < 0) (h2 : 0 < t.queue.length) : nextT t = ⟨(t.epoch + 1) % 2 ^ 64, t.queue.headD 0, t.frontier, t.queue.tail⟩ := by unfold nextT; rw [if_pos ⟨h1, h2⟩]
theorem nextT_neg {t : Tok} (h : ¬ t.holder < 0 ∨ ¬ 0 < t.queue.length) : nextT t = t := by unfold nextT; rw [if_neg (fun k => h.elim (fun h => h k.1) (fun h => h k.2))]
def rhoP (P : Nat → Prop) (g : Nat) : Nat → Prop := fun k => P k ∧ k ≠ g
theorem wrap_u64 (n : Nat) : IntKind.wrap .u64 ((n : Int) + 1) = (((n + 1) % 2 ^ 64 : Nat) : Int) := by
  simp [IntKind.wrap, IntKind.bits, IntKind.signed]
set_option maxHeartbeats 8000000 in
theorem apply_want (w : World) (P : Nat → Prop) (g : Nat) (r : RegD) (h : RegIs w P g r) (ok : RegOk r) (v : Value) (l : List UInt8) (hs : Sl w v (bytes l)) (hl : l.length ≤ 1000000000)
    (hne : (getV l).2 = 0) (hk : (getV l).1.kind = 8) (hi : inG r (getV l).1.region = true) (hs1 : 0 ≤ (getV l).1.site) (hs2 : (getV l).1.site < r.sites) : Calls Tryz.prog 12 #[.pointer (some ⟨g, 0, none⟩), v] w (Applied w P g (applyG r l)) := by
  obtain ⟨a, cap, rfl⟩ := hs.oneCells
  rw [bytes_length] at hs ⊢
  have GET := Lib.hid (get_any w _ l hs hl)
  obtain ⟨x, hx⟩ : ∃ x, x = (getV l).1 := ⟨_, rfl⟩
  have APP : Hid (applyG r l = applyX r x) := Lib.hid (by unfold applyG; rw [if_pos hne, hx])
  have RG : Hid (∀ W e W', RetGet W l e W' → ∃ q, e = .returned (.tuple #[.agg (entCells x q).toArray, .int .i64 0]) ∧ EntP (From W.heap.size) W' x q ∧ Gr W W') := Lib.hid fun W e W' h => by rw [← hne, hx]; exact h
  have XOK : Hid (EntOk x) := Lib.hid (by rw [hx]; exact (getV_all l).2.2.1)
  rw [← hx] at hk hi hs1 hs2
  obtain ⟨hil0, hat0, hi0, hi1⟩ := atG_at hi
  obtain ⟨i, hri, hil, hat, hii⟩ : ∃ i : Nat, x.region = (i : Int) ∧ ∃ hil : i < r.l.length, atG r x.region = r.l[i] ∧ x.region.toNat = i := ⟨x.region.toNat, by omega, hil0, hat0, rfl⟩
  obtain ⟨hP, hw, aa, cc, KG, hor⟩ := h
  obtain ⟨h, cur, fv, qv, rfl, hh, hg, T⟩ : ∃ h cur fv qv, aa = some ⟨h, 0, none⟩ ∧ P h ∧ h ≠ g ∧ TabP w P g h r.l cur fv qv := by
    rcases hor with e | e
    · rw [e] at hil; exact absurd hil (Nat.not_lt_zero _)
    · exact e
  clear hor
  obtain ⟨t0, ht0⟩ : ∃ t, t = r.l[i] := ⟨_, rfl⟩
  have tok : TokOk r.sites t0 := ht0 ▸ ok.toks r.l[i] (List.getElem_mem hil)
  have SET : r.l.set i t0 = r.l := by rw [ht0, List.set_getElem_self]
  rw [← ht0] at hat
  obtain ⟨o, ho⟩ : ∃ o, o = doT x t0 := ⟨_, rfl⟩
  have APX : Hid (applyX r x = { r with l := r.l.set i (afterT o t0) }) := Lib.hid (by
    unfold applyX
    rw [if_pos ⟨hi, hs1, hs2⟩, hat, ← ho, hii]
    cases o with
    | some t => rfl
    | none => show r = { r with l := r.l.set i t0 }; rw [SET])
  have FIN : Hid (∀ W P' cur' fv' qv' t', TabP W P' g h (r.l.set i t') cur' fv' qv' → (∀ k, P k → P' k) → (∀ k, P' k → P k ∨ w.heap.size ≤ k) → (∀ k, P' k → k < W.heap.size) → Ch (rhoP P g) w W → t' = afterT o t0 → Applied w P g (applyG r l) (.returned (.tuple #[])) W) := Lib.hid fun W P' cur' fv' qv' t' a1 a2 a3 a4 a5 a6 => by
    rw [APP.out, APX.out, ← a6]
    exact applied_of (n := 0) hP KG hh hg a1 a2 a3 a4 a5
  have CALL : Hid (∀ W q, Ch (rhoP P g) w W → EntP (From w.heap.size) W x q → TabP W P g h r.l cur fv qv → Calls Tryz.prog 26 #[.pointer (some ⟨h, i * 4, none⟩), .agg (entCells x q).toArray] W (TokDid W P g h r.l i t0 o)) := Lib.hid fun W q hW hp hT => by
    rw [ho]
    unfold doT
    rw [hk, ht0]
    exact want_any W P g h r.l cur fv qv hT (fun k hk => Nat.lt_of_lt_of_le (hw k hk) hW.size) hh hP hg i hil x q (hp.mono fun _ _ => trivial) (Nat.le_trans ((ht0 ▸ tok : TokOk r.sites r.l[i]).queue_le ok.sites.2 ok.sites.1) (by decide))
  have ATS : Hid (∀ W, Gr w W → Calls Tryz.prog 28 #[.pointer (some ⟨g, 0, none⟩), .int .i64 (i : Int)] W fun e w' => e = .returned (.tuple #[.pointer (some ⟨h, i * 4, none⟩), .bool true]) ∧ w' = W) := Lib.hid fun W hW => at_in W g h r.sites r.l.length cc (KG.gr hW) i hil
  have SGH0 : Hid (∀ W, Ch (rhoP P g) w W → W.cell? ⟨g, 0, none⟩ = some (.int .i64 r.sites)) := Lib.hid fun W hW => (KG.block (hW.block g KG.lt (fun e => e.2 rfl))).cell 0
  have HW0 := Lib.hid hw
  have T0 := Lib.hid T
  have HIL := Lib.hid hil
  have HHG := Lib.hid (And.intro hh (And.intro hg hP))
  have HSI := Lib.hid (And.intro hs1 hs2)
  have HO := Lib.hid (And.intro ho tok)
  have HRN := Lib.hid ok.sites
  have HKR := Lib.hid (And.intro hk hri)
  clear SET ho tok ht0 hk hri hii hil hat hil0 hat0 hi hi0 hi1 hs hl hx hne hs1 hs2 hP hw KG T hh hg ok
  go_enter Tryz.func12, Tryz.ntmps12
  go_wp2_with fail
  refine GET.out.mono ?_
  intro en w1 hr1
  obtain ⟨q, rfl, p1, g1⟩ := RG.out _ _ _ hr1
  obtain ⟨E, hE⟩ : ∃ E, E = entCells x q := ⟨_, rfl⟩
  have EN : Hid (E.length = 23) := Lib.hid (by rw [hE]; rfl)
  have E1 : Hid (oneAll E) := Lib.hid (by rw [hE]; exact p1.one)
  have CE : Hid (∀ W b, CellsAt W b E 44 → W.cell? ⟨b, 0, none⟩ = some (.int .u8 8) ∧ W.cell? ⟨b, 19, none⟩ = some (.int .i64 x.site) ∧ W.cell? ⟨b, 20, none⟩ = some (.int .i64 (i : Int))) := Lib.hid fun W b hk => by rw [hE] at hk; exact ⟨(hk.cell 0).trans (by show some (Value.int .u8 (x.kind : Int)) = _; rw [HKR.out.1]; rfl), hk.cell 19, (hk.cell 20).trans (by show some (Value.int .i64 x.region) = _; rw [HKR.out.2])⟩
  have HE := Lib.hid hE
  have P1 := Lib.hid p1
  rw [← hE]
  clear hr1 hE p1
  go_wp2_with (first | (refine wpList_storeE entTy _ _ rfl rfl rfl rfl (CellsAt.new _ _ _) EN.out rfl E1.out ?_) | fail)
  intro w2 k2 ch2
  have g2 : Gr w1 w2 := Below.trans ((Gr.refl w1).alloc _) (ch2.below ((Gr.refl w1).alloc _).size (fun k hk => by have : k = w1.heap.size := hk; omega))
  obtain ⟨b4, hb4⟩ : ∃ b, b = w1.heap.size := ⟨_, rfl⟩
  rw [← hb4] at k2 ⊢
  obtain ⟨w3, w4, w5, m0, r1, r2, g5, look⟩ := does_map w2
  have K5 := Lib.hid (k2.gr g5)
  have G5 := Lib.hid (g1.trans (g2.trans g5))
  have G25 := Lib.hid (g2.trans g5)
  have B4 : Hid (w.heap.size ≤ b4) := Lib.hid (by rw [hb4]; exact g1.size)
  obtain ⟨c0, _, c20⟩ := CE.out w5 b4 K5.out
  have GW1 := Lib.hid g1
  have lk : (Instr.lookup 74 (.map (some w2.heap.size)) (.int .u8 8) true).run Tryz.prog w5 = .ok (.tuple #[.func (.func 26) #[] #[], .bool true]) w5 := look w5 (Gr.refl _) 8 (by decide)
  clear k2 ch2 g1 g2 g5 look hb4
  go_wp2_with fail
  refine (ATS.out w5 G5.out).mono ?_
  rintro en w6 ⟨rfl, rfl⟩
  have CK : Hid (∀ W, Ch (rhoP P g) w6 W → W.cell? ⟨b4, 19, none⟩ = some (.int .i64 x.site)) := Lib.hid fun W hW => (CE.out W b4 (K5.out.block (hW.block b4 K5.out.lt (fun e => by have := HW0.out b4 e.1; have := B4.out; omega)))).2.1
  have KE : Hid (∀ W, Ch (rhoP P g) w6 W → CellsAt W b4 E 44) := Lib.hid fun W hW => K5.out.block (hW.block b4 K5.out.lt (fun e => by have := HW0.out b4 e.1; have := B4.out; omega))
  have SGH : Hid (∀ W, Ch (rhoP P g) w6 W → W.cell? ⟨g, 0, none⟩ = some (.int .i64 r.sites)) := Lib.hid fun W hW => SGH0.out W ((Ch.of_gr G5.out).trans hW)
  have GD := Lib.hid ((Gr.refl w6).drew)
  have CW : Hid (∀ W, Ch (rhoP P g) w6.drew W → SApp w.heap.size P g h r.l (r.l.set i (o.getD t0)) cur fv qv 0 W → Calls Tryz.prog 26 #[.pointer (some ⟨h, i * 4, none⟩), .agg E.toArray] W fun e W' => ∃ v, e = .returned v ∧ usedR (rhoP P g) (SApp w.heap.size P g h r.l (r.l.set i (o.getD t0)) cur fv qv) 0 W W' ∧ v = .bool o.isSome) := Lib.hid fun W hW hT => by
    rw [HE.out]
    refine (CALL.out W q ((Ch.of_gr (G5.out.trans GD.out)).trans hW) ((P1.out.gr (G25.out.trans GD.out)).keep (Keep.of_ch hW (fun k hk e => by have h1 : w.heap.size ≤ k := hk; have := HW0.out k e.1; omega))) hT).mono ?_
    rintro e W' ⟨rfl, ⟨P', cur', fv', qv', T', a1, a2, a3⟩, hc⟩
    exact ⟨_, rfl, ⟨hc, ⟨P', cur', fv', qv', T', a1, fun k hk => (a2 k hk).imp id (fun hk => Nat.le_trans (Nat.le_trans (G5.out.trans GD.out).size hW.size) hk), a3⟩⟩, rfl⟩
  obtain ⟨z, hz⟩ : ∃ z, z = o.isSome := ⟨_, rfl⟩
  rw [← hz] at CW
  have HZ := Lib.hid hz
  obtain ⟨hsi, hsi2⟩ := HSI.out
  have HQ3 : Hid ((x.site < 0) = False) := Lib.hid (by simp; omega)
  have HQ4 : Hid ((r.sites ≤ x.site) = False) := Lib.hid (by simp; omega)
  have S0 : Hid (SApp w.heap.size P g h r.l (r.l.set i (o.getD t0)) cur fv qv 0 w6.drew) := Lib.hid (SApp.gr 0 _ _ (G5.out.trans GD.out) T0.out)
  clear hz c0 c20 lk m0 r1 r2 ATS GET RG hsi hsi2
  go_wp2_with fail
  apply wp_region_draw_turn (rhoP P g) (SApp w.heap.size P g h r.l (r.l.set i (o.getD t0)) cur fv qv) (.eq _ :: .eq _ :: .eq _ :: .eq _ :: .eq _ :: .eq _ :: .eq _ :: .eq _ :: .eq _ :: .eq _ :: .eq _ :: .eq _ :: .eq _ :: .eq _ :: .eq _ :: .eq _ :: .eq _ :: .eq _ :: .eq _ :: .eq _ :: .eq _ :: .eq _ :: .eq _ :: .eq _ :: .eq _ :: .eq _ :: .eq _ :: .eq _ :: .useEq (.bool z) :: .eq _ :: .eq _ :: []) (by kernel_rfl) (by kernel_rfl) (by kernel_rfl) trivial SApp.gr S0.out
  iterate 27
   apply wpT_eq
   · intro W hW hs
     have y19 := CK.out W ((Ch.of_gr GD.out).trans hW)
     have ys := SGH.out W ((Ch.of_gr GD.out).trans hW)
     have e3 := HQ3.out
     have e4 := HQ4.out
     unfold opT
     go_simp
     first | exact resT_eq_mk _ _ _ | exact ⟨Gr.refl _, rfl⟩
   simp only [Act.put, pt1, pt2, pt3]
  apply wpT_eq
  · intro W hW hs
    exact opT_loadW entTy _ rfl (by first | kernel_rfl | go_simp) rfl (KE.out W ((Ch.of_gr GD.out).trans hW)) EN.out ⟨Gr.refl _, rfl⟩
  simp only [Act.put, pt1, pt2, pt3]
  apply wpT_useEq
  · intro W hW hS hs
    unfold opT
    go_simp
    exact ⟨Gr.refl _, CW.out W hW hS⟩
  simp only [Act.put, pt1, pt2, pt3]
  iterate 2
   apply wpT_eq
   · intro W hW hs
     have y19 := CK.out W ((Ch.of_gr GD.out).trans hW)
     have ys := SGH.out W ((Ch.of_gr GD.out).trans hW)
     have e3 := HQ3.out
     have e4 := HQ4.out
     unfold opT
     go_simp
     first | exact resT_eq_mk _ _ _ | exact ⟨Gr.refl _, rfl⟩
   simp only [Act.put, pt1, pt2, pt3]
  apply wpT_nil
  intro W9 hW9 hS9 hsAll
  clear hsAll
  have C9 := Lib.hid ((Ch.of_gr (G5.out.trans GD.out)).trans hW9)
  have S9 := Lib.hid hS9
  clear hW9 hS9
  cases z with
  | false =>
    go_wp2
    refine bodyPost_ret (results_none rfl _ _ _) rfl ?_
    obtain ⟨P', cur', fv', qv', T', a1, a2, a3⟩ := S9.out
    refine FIN.out W9 P' cur' fv' qv' _ T' a1 a2 a3 C9.out ?_
    have hz := HZ.out
    cases o with
    | none => rfl
    | some t => cases hz
  | true =>
    obtain ⟨P', cur', fv', qv', T', a1, a2, a3⟩ := S9.out
    obtain ⟨t', hot⟩ : ∃ t', o = some t' := by
      have hz := HZ.out
      cases o with
      | none => cases hz
      | some t => exact ⟨t, rfl⟩
    have hil' : i < (r.l.set i (o.getD t0)).length := by rw [List.length_set]; exact HIL.out
    have ti : (r.l.set i (o.getD t0))[i] = t' := by rw [List.getElem_set_self, hot]; rfl
    have tk := T'.tok i hil'
    rw [ti] at tk
    have hql : t'.queue.length ≤ 99 := by
      have h1 := doT_queue (HO.out.1.symm.trans hot)
      have h2 := HO.out.2.queue_le HRN.out.2 HRN.out.1
      omega
    obtain ⟨aq, cq, hsh⟩ := tk.qs.shape
    rw [ints_length] at hsh
    have y0 : W9.cell? ⟨h, i * 4, none⟩ = some (.int .u64 (t'.epoch : Int)) := by rw [T'.hh.cell]; exact tk.c0
    have y1 : W9.cell? ⟨h, i * 4 + 1, none⟩ = some (.int .i64 t'.holder) := by rw [T'.hh.cell]; exact tk.c1
    have y3 : W9.cell? ⟨h, i * 4 + 3, none⟩ = some (.slice aq t'.queue.length cq) := by rw [T'.hh.cell, ← hsh]; exact tk.c3
    have STAY : Hid (nextT t' = t' → Applied w P g (applyG r l) (.returned (.tuple #[])) W9) := Lib.hid fun hn => FIN.out W9 P' cur' fv' qv' _ T' a1 a2 a3 C9.out (by rw [hot]; exact hn.symm)
    have NEXT : Hid (0 < t'.queue.length → t'.holder < 0 → ∀ W' vq, Ch (fun k => k = h) W9 W' → Own W' 0 3 vq (ints t'.queue.tail) → CellsAt W' h (((cur'.set (i * 4) (.int .u64 (((t'.epoch + 1) % 2 ^ 64 : Nat) : Int))).set (i * 4 + 1) (.int .i64 (t'.queue.headD 0))).set (i * 4 + 3) vq) 68 → (∀ k, vq.ownBlock = some k → W9.heap.size ≤ k) → Applied w P g (applyG r l) (.returned (.tuple #[])) W') := Lib.hid fun h2 h1 W' vq c1 c2 c3 c4 => by
      obtain ⟨⟨P2, cur2, fv2, qv2, T2, b1, b2, b3⟩, _⟩ := next_did T' a3 (a1 h HHG.out.1) (a1 g HHG.out.2.2) HHG.out.2.1 i hil' t' ti.symm _ _ _ vq c1 c2 c3 c4
      rw [List.set_set] at T2
      exact FIN.out W' P2 cur2 fv2 qv2 _ T2 (fun k hk => b1 k (a1 k hk)) (fun k hk => (b2 k hk).elim (fun hk => a2 k hk) (fun hk => .inr (Nat.le_trans C9.out.size hk))) b3 (C9.out.trans (ch_mono c1 fun k hk => by
        have e : k = h := hk
        exact e ▸ ⟨HHG.out.1, HHG.out.2.1⟩)) (by rw [hot]; exact (nextT_pos h1 h2).symm)
    have TH := Lib.hid T'.hh
    have QO : Hid (Own W9 0 3 (.slice aq t'.queue.length cq) (ints t'.queue)) := Lib.hid (by rw [← hsh]; exact tk.qs)
    have QS : Hid (Sl W9 (.slice aq t'.queue.length cq) (ints t'.queue)) := Lib.hid (by rw [← hsh]; exact tk.qs.sl)
    have QB : Hid (∀ k, (Value.slice aq t'.queue.length cq).ownBlock = some k → k ≠ h) := Lib.hid fun k hk => (tk.qb k (by rw [hsh]; exact hk)).2.2
    have CSZ : Hid (i * 4 + 4 ≤ cur'.length) := Lib.hid (by have := T'.sz; omega)
    have HQL := Lib.hid hql
    clear T' a1 a2 a3 hot hil' ti tk hsh hql CW S9 HZ S0
    by_cases hc : t'.holder < 0
    rotate_left
    · have HN := Lib.hid (nextT_neg (.inl hc))
      have e1 : (t'.holder < 0) = False := by simp; omega
      clear hc
      go_wp2
      refine bodyPost_end (results_none rfl _ _ _) rfl ?_
      exact STAY.out HN.out
    · by_cases hq : 0 < t'.queue.length
      rotate_left
      · have HN := Lib.hid (nextT_neg (.inr hq))
        obtain ⟨nq, hnq⟩ : ∃ n, n = t'.queue.length := ⟨_, rfl⟩
        rw [← hnq] at y3 hq
        have hz : nq = 0 := by omega
        subst hz
        have e1 : (t'.holder < 0) = True := by simp; omega
        clear hc hq hnq
        go_wp2
        refine bodyPost_end (results_none rfl _ _ _) rfl ?_
        exact STAY.out HN.out
      · have NEXT2 := Lib.hid (NEXT.out hq hc)
        obtain ⟨y, ys, hqq⟩ : ∃ y ys, t'.queue = y :: ys := by
          cases hq2 : t'.queue with
          | nil => rw [hq2] at hq; exact absurd hq (Nat.lt_irrefl 0)
          | cons y ys => exact ⟨y, ys, rfl⟩
        have e1 : (t'.holder < 0) = True := by simp; omega
        clear NEXT STAY hc hq
        rw [hqq] at NEXT2 QO QS QB HQL y3
        obtain ⟨bq, cq2, hform, _, hbl, hcap⟩ := QO.out.form (by simp [ints])
        injection hform with f1 f2 f3
        subst f1 f3
        clear f2
        rw [ints_length] at hcap
        simp only [List.length_cons] at hcap y3 QS HQL
        obtain ⟨n, hn⟩ : ∃ n, n = ys.length := ⟨_, rfl⟩
        rw [← hn] at y3 QS hcap HQL
        have NB : bq ≠ h := QB.out bq rfl
        have HYS : Hid (ys.length ≤ 100) := Lib.hid (by have := HQL.out; omega)
        have SLT : Hid (Sl W9 (.slice (if cq = 1 then some ⟨bq, 0, none⟩ else some ⟨bq, 1, none⟩) n (cq - 1)) (ints ys)) := Lib.hid (by
          split
          · rename_i hc1
            have h0 : n = 0 := by omega
            have h1 : ys = [] := List.eq_nil_of_length_eq_zero (by omega)
            subst h0 h1
            exact ⟨_, _, rfl, Nat.zero_le _, .inl rfl⟩
          · exact sl_tail QS.out)
        have HE5 : Hid ((1 ≤ (n : Int) + 1) = True) := Lib.hid (by simp; omega)
        have yb : W9.cell? ⟨bq, 0, none⟩ = some (.int .i64 y) := sl_head QS.out
        have z0 := TH.out.frozen (i * 4)
        clear hqq hn
        go_wp2_with fail
        rw [wrap_u64]
        obtain ⟨ep, hep⟩ : ∃ n, n = (t'.epoch + 1) % 2 ^ 64 := ⟨_, rfl⟩
        rw [← hep] at NEXT2 ⊢
        obtain ⟨w10, hw10⟩ : ∃ W, W = W9.setCell ⟨h, i * 4, none⟩ (.int .u64 (ep : Int)) := ⟨_, rfl⟩
        rw [← hw10]
        have c10 : Ch (fun k => k = h) W9 w10 := by rw [hw10]; exact ch_setCell' _ _ _ _
        have k10 : CellsAt w10 h (cur'.set (i * 4) (.int .u64 (ep : Int))) 68 := by rw [hw10]; exact TH.out.set _ _
        have y3' : w10.cell? ⟨h, i * 4 + 3, none⟩ = some (.slice (some ⟨bq, 0, none⟩) (n + 1) cq) := by
          rw [k10.cell, List.getElem?_set_ne (by omega), ← TH.out.cell]; exact y3
        have yb' : w10.cell? ⟨bq, 0, none⟩ = some (.int .i64 y) := (c10.cell (p := ⟨bq, 0, none⟩) hbl NB).trans yb
        have CF : Hid (∀ W, Gr w10 W → W.cell? ⟨h, i * 4 + 3, none⟩ = some (.slice (some ⟨bq, 0, none⟩) (n + 1) cq) ∧ W.cell? ⟨bq, 0, none⟩ = some (.int .i64 y)) := Lib.hid fun W hW => ⟨(hW.cell (p := ⟨h, i * 4 + 3, none⟩) k10.lt).trans y3', (hW.cell (p := ⟨bq, 0, none⟩) (Nat.lt_of_lt_of_le hbl c10.size)).trans yb'⟩
        have CL : Hid (∀ W, Gr w10 W → Calls Tryz.prog 29 #[.slice (if cq = 1 then some ⟨bq, 0, none⟩ else some ⟨bq, 1, none⟩) n (cq - 1)] W fun e w' => ∃ v', e = .returned v' ∧ Own w' W.heap.size 3 v' (ints ys) ∧ Gr W w') := Lib.hid fun W hW => clone_ints _ _ _ ((SLT.out.ch c10 (fun k hk => by
          have e : k = bq := by
            split at hk <;> (injection hk with hk; exact hk.symm)
          rw [e]; exact NB)).below hW) HYS.out
        have C10 := Lib.hid c10
        have K10 := Lib.hid k10
        have GD2 := Lib.hid ((Gr.refl w10).drew)
        clear c10 k10 y0 y1 y3 yb y3' yb' hw10 hep z0 e1 hbl
        apply wp_region_draw_late 16 1 (.eq _ :: .eq (.pointer (some ⟨h, i * 4, none⟩)) :: .eq _ :: .eq _ :: .eq _ :: .eq _ :: .eq _ :: .eq _ :: .eq _ :: .eq _ :: .eq _ :: .eq _ :: .eq _ :: .ok (fun v W => Own W w10.heap.size 3 v (ints ys)) :: .eq _ :: .eq _ :: []) rfl rfl rfl (by kernel_rfl) (by kernel_rfl) ⟨mono_own _ _ _, trivial⟩ (move_pure rfl).1 (move_pure rfl).2
        simp only [List.take_succ_cons, List.take_zero, List.drop_succ_cons, List.drop_zero]
        iterate 13
         apply wpG_eq
         · intro W hW hs
           obtain ⟨y3, yb⟩ := CF.out W (GD2.out.trans hW)
           have e5 := HE5.out
           unfold opG
           go_simp
           first | exact resG_eq_mk _ _ _ | rfl
         simp only [Act.put, pt1, pt2, pt3]
        apply wpG_ok
        · intro W hW hs
          unfold opG
          go_simp
          refine resG_call ((CL.out W (GD2.out.trans hW)).mono ?_)
          rintro e W2 ⟨v2, rfl, ho, hb⟩
          exact ⟨v2, rfl, hb, World.ownsRow.mono ho (GD2.out.trans hW).size⟩
        intro vq
        simp only [Act.put, pt1, pt2, pt3]
        iterate 2
         apply wpG_eq
         · intro W hW hs
           obtain ⟨y3, yb⟩ := CF.out W (GD2.out.trans hW)
           have e5 := HE5.out
           unfold opG
           go_simp
           first | exact resG_eq_mk _ _ _ | rfl
         simp only [Act.put, pt1, pt2, pt3]
        apply wpG_nil
        intro W11 hW11 hsAll
        generalize (if cq = 1 then some (⟨bq, 0, none⟩ : Addr) else some ⟨bq, 1, none⟩) = sp
        have ho := hsAll _ (List.mem_cons_self ..)
        have G11 := Lib.hid (GD2.out.trans hW11)
        have k11 := K10.out.gr G11.out
        obtain ⟨yv, y1⟩ : ∃ z, W11.cell? ⟨h, i * 4 + 1, none⟩ = some z := ⟨_, (k11.cell (i * 4 + 1)).trans (List.getElem?_eq_getElem (by have := CSZ.out; simp; omega))⟩
        obtain ⟨yw, y3⟩ : ∃ z, W11.cell? ⟨h, i * 4 + 3, none⟩ = some z := ⟨_, (k11.cell (i * 4 + 3)).trans (List.getElem?_eq_getElem (by have := CSZ.out; simp; omega))⟩
        have z1 := k11.frozen (i * 4 + 1)
        have z3 := k11.frozen (i * 4 + 3)
        obtain ⟨av, cv, hsv⟩ := ho.shape
        rw [ints_length] at hsv
        have HV := Lib.hid hsv
        have HO2 := Lib.hid ho
        have K11 := Lib.hid k11
        obtain ⟨nv, hnv⟩ : ∃ n, n = ys.length := ⟨_, rfl⟩
        rw [← hnv] at hsv
        have HNV := Lib.hid hnv
        subst hsv
        clear hsAll hW11 ho k11 hnv hcap
        apply Exists.intro
        apply And.intro
        · go_simp
          rfl
        go_wp2
        refine bodyPost_end (results_none rfl _ _ _) rfl ?_
        have c2 : Ch (fun k => k = h) W11 (W11.setCell ⟨h, i * 4 + 1, none⟩ (.int .i64 y)) := ch_setCell' _ _ _ _
        have c3 : Ch (fun k => k = h) (W11.setCell ⟨h, i * 4 + 1, none⟩ (.int .i64 y)) ((W11.setCell ⟨h, i * 4 + 1, none⟩ (.int .i64 y)).setCell ⟨h, i * 4 + 3, none⟩ (.slice av nv cv)) := ch_setCell' _ _ _ _
        refine NEXT2.out _ _ ((C10.out.trans (Ch.of_gr G11.out)).trans (c2.trans c3)) ?_ ((K11.out.set (i * 4 + 1) (.int .i64 y)).set (i * 4 + 3) (.slice av nv cv)) (fun k hk => Nat.le_trans C10.out.size (HO2.out.lt k hk).1)
        exact Own.ch (World.ownsRow.mono HO2.out (Nat.zero_le _)) (c2.trans c3) (fun k hk e => by have := (HO2.out.lt k hk).1; have := K10.out.lt; omega)
set_option maxHeartbeats 8000000 in
theorem apply_back (w : World) (P : Nat → Prop) (g : Nat) (r : RegD) (h : RegIs w P g r) (ok : RegOk r) (v : Value) (l : List UInt8) (hs : Sl w v (bytes l)) (hl : l.length ≤ 1000000000)
    (hne : (getV l).2 = 0) (hk : (getV l).1.kind = 9) (hi : inG r (getV l).1.region = true) (hs1 : 0 ≤ (getV l).1.site) (hs2 : (getV l).1.site < r.sites) : Calls Tryz.prog 12 #[.pointer (some ⟨g, 0, none⟩), v] w (Applied w P g (applyG r l)) := by
  obtain ⟨a, cap, rfl⟩ := hs.oneCells
  rw [bytes_length] at hs ⊢
  have GET := Lib.hid (get_any w _ l hs hl)
  obtain ⟨x, hx⟩ : ∃ x, x = (getV l).1 := ⟨_, rfl⟩
  have APP : Hid (applyG r l = applyX r x) := Lib.hid (by unfold applyG; rw [if_pos hne, hx])
  have RG : Hid (∀ W e W', RetGet W l e W' → ∃ q, e = .returned (.tuple #[.agg (entCells x q).toArray, .int .i64 0]) ∧ EntP (From W.heap.size) W' x q ∧ Gr W W') := Lib.hid fun W e W' h => by rw [← hne, hx]; exact h
  have XOK : Hid (EntOk x) := Lib.hid (by rw [hx]; exact (getV_all l).2.2.1)
  rw [← hx] at hk hi hs1 hs2
  obtain ⟨hil0, hat0, hi0, hi1⟩ := atG_at hi
  obtain ⟨i, hri, hil, hat, hii⟩ : ∃ i : Nat, x.region = (i : Int) ∧ ∃ hil : i < r.l.length, atG r x.region = r.l[i] ∧ x.region.toNat = i := ⟨x.region.toNat, by omega, hil0, hat0, rfl⟩
  obtain ⟨hP, hw, aa, cc, KG, hor⟩ := h
  obtain ⟨h, cur, fv, qv, rfl, hh, hg, T⟩ : ∃ h cur fv qv, aa = some ⟨h, 0, none⟩ ∧ P h ∧ h ≠ g ∧ TabP w P g h r.l cur fv qv := by
    rcases hor with e | e
    · rw [e] at hil; exact absurd hil (Nat.not_lt_zero _)
    · exact e
  clear hor
  obtain ⟨t0, ht0⟩ : ∃ t, t = r.l[i] := ⟨_, rfl⟩
  have tok : TokOk r.sites t0 := ht0 ▸ ok.toks r.l[i] (List.getElem_mem hil)
  have SET : r.l.set i t0 = r.l := by rw [ht0, List.set_getElem_self]
  rw [← ht0] at hat
  obtain ⟨o, ho⟩ : ∃ o, o = doT x t0 := ⟨_, rfl⟩
  have APX : Hid (applyX r x = { r with l := r.l.set i (afterT o t0) }) := Lib.hid (by
    unfold applyX
    rw [if_pos ⟨hi, hs1, hs2⟩, hat, ← ho, hii]
    cases o with
    | some t => rfl
    | none => show r = { r with l := r.l.set i t0 }; rw [SET])
  have FIN : Hid (∀ W P' cur' fv' qv' t', TabP W P' g h (r.l.set i t') cur' fv' qv' → (∀ k, P k → P' k) → (∀ k, P' k → P k ∨ w.heap.size ≤ k) → (∀ k, P' k → k < W.heap.size) → Ch (rhoP P g) w W → t' = afterT o t0 → Applied w P g (applyG r l) (.returned (.tuple #[])) W) := Lib.hid fun W P' cur' fv' qv' t' a1 a2 a3 a4 a5 a6 => by
    rw [APP.out, APX.out, ← a6]
    exact applied_of (n := 0) hP KG hh hg a1 a2 a3 a4 a5
  have CALL : Hid (∀ W q, Ch (rhoP P g) w W → EntP (From w.heap.size) W x q → TabP W P g h r.l cur fv qv → Calls Tryz.prog 27 #[.pointer (some ⟨h, i * 4, none⟩), .agg (entCells x q).toArray] W (TokDid W P g h r.l i t0 o)) := Lib.hid fun W q hW hp hT => by
    rw [ho]
    unfold doT
    rw [hk, ht0]
    exact back_any W P g h r.l cur fv qv hT (fun k hk => Nat.lt_of_lt_of_le (hw k hk) hW.size) hh hP hg i hil x q (hp.mono fun k (hk : w.heap.size ≤ k) e => by have := hw h hh; omega) (by have h1 := (ht0 ▸ tok : TokOk r.sites r.l[i]).front; have := ok.sites; omega)
  have ATS : Hid (∀ W, Gr w W → Calls Tryz.prog 28 #[.pointer (some ⟨g, 0, none⟩), .int .i64 (i : Int)] W fun e w' => e = .returned (.tuple #[.pointer (some ⟨h, i * 4, none⟩), .bool true]) ∧ w' = W) := Lib.hid fun W hW => at_in W g h r.sites r.l.length cc (KG.gr hW) i hil
  have SGH0 : Hid (∀ W, Ch (rhoP P g) w W → W.cell? ⟨g, 0, none⟩ = some (.int .i64 r.sites)) := Lib.hid fun W hW => (KG.block (hW.block g KG.lt (fun e => e.2 rfl))).cell 0
  have HW0 := Lib.hid hw
  have T0 := Lib.hid T
  have HIL := Lib.hid hil
  have HHG := Lib.hid (And.intro hh (And.intro hg hP))
  have HSI := Lib.hid (And.intro hs1 hs2)
  have HO := Lib.hid (And.intro ho tok)
  have HRN := Lib.hid ok.sites
  have HKR := Lib.hid (And.intro hk hri)
  clear SET ho tok ht0 hk hri hii hil hat hil0 hat0 hi hi0 hi1 hs hl hx hne hs1 hs2 hP hw KG T hh hg ok
  go_enter Tryz.func12, Tryz.ntmps12
  go_wp2_with fail
  refine GET.out.mono ?_
  intro en w1 hr1
  obtain ⟨q, rfl, p1, g1⟩ := RG.out _ _ _ hr1
  obtain ⟨E, hE⟩ : ∃ E, E = entCells x q := ⟨_, rfl⟩
  have EN : Hid (E.length = 23) := Lib.hid (by rw [hE]; rfl)
  have E1 : Hid (oneAll E) := Lib.hid (by rw [hE]; exact p1.one)
  have CE : Hid (∀ W b, CellsAt W b E 44 → W.cell? ⟨b, 0, none⟩ = some (.int .u8 9) ∧ W.cell? ⟨b, 19, none⟩ = some (.int .i64 x.site) ∧ W.cell? ⟨b, 20, none⟩ = some (.int .i64 (i : Int))) := Lib.hid fun W b hk => by rw [hE] at hk; exact ⟨(hk.cell 0).trans (by show some (Value.int .u8 (x.kind : Int)) = _; rw [HKR.out.1]; rfl), hk.cell 19, (hk.cell 20).trans (by show some (Value.int .i64 x.region) = _; rw [HKR.out.2])⟩
  have HE := Lib.hid hE
  have P1 := Lib.hid p1
  rw [← hE]
  clear hr1 hE p1
  go_wp2_with (first | (refine wpList_storeE entTy _ _ rfl rfl rfl rfl (CellsAt.new _ _ _) EN.out rfl E1.out ?_) | fail)
  intro w2 k2 ch2
  have g2 : Gr w1 w2 := Below.trans ((Gr.refl w1).alloc _) (ch2.below ((Gr.refl w1).alloc _).size (fun k hk => by have : k = w1.heap.size := hk; omega))
  obtain ⟨b4, hb4⟩ : ∃ b, b = w1.heap.size := ⟨_, rfl⟩
  rw [← hb4] at k2 ⊢
  obtain ⟨w3, w4, w5, m0, r1, r2, g5, look⟩ := does_map w2
  have K5 := Lib.hid (k2.gr g5)
  have G5 := Lib.hid (g1.trans (g2.trans g5))
  have G25 := Lib.hid (g2.trans g5)
  have B4 : Hid (w.heap.size ≤ b4) := Lib.hid (by rw [hb4]; exact g1.size)
  obtain ⟨c0, _, c20⟩ := CE.out w5 b4 K5.out
  have GW1 := Lib.hid g1
  have lk : (Instr.lookup 74 (.map (some w2.heap.size)) (.int .u8 9) true).run Tryz.prog w5 = .ok (.tuple #[.func (.func 27) #[] #[], .bool true]) w5 := look w5 (Gr.refl _) 9 (by decide)
  clear k2 ch2 g1 g2 g5 look hb4
  go_wp2_with fail
  refine (ATS.out w5 G5.out).mono ?_
  rintro en w6 ⟨rfl, rfl⟩
  have CK : Hid (∀ W, Ch (rhoP P g) w6 W → W.cell? ⟨b4, 19, none⟩ = some (.int .i64 x.site)) := Lib.hid fun W hW => (CE.out W b4 (K5.out.block (hW.block b4 K5.out.lt (fun e => by have := HW0.out b4 e.1; have := B4.out; omega)))).2.1
  have KE : Hid (∀ W, Ch (rhoP P g) w6 W → CellsAt W b4 E 44) := Lib.hid fun W hW => K5.out.block (hW.block b4 K5.out.lt (fun e => by have := HW0.out b4 e.1; have := B4.out; omega))
  have SGH : Hid (∀ W, Ch (rhoP P g) w6 W → W.cell? ⟨g, 0, none⟩ = some (.int .i64 r.sites)) := Lib.hid fun W hW => SGH0.out W ((Ch.of_gr G5.out).trans hW)
  have GD := Lib.hid ((Gr.refl w6).drew)
  have CW : Hid (∀ W, Ch (rhoP P g) w6.drew W → SApp w.heap.size P g h r.l (r.l.set i (o.getD t0)) cur fv qv 0 W → Calls Tryz.prog 27 #[.pointer (some ⟨h, i * 4, none⟩), .agg E.toArray] W fun e W' => ∃ v, e = .returned v ∧ usedR (rhoP P g) (SApp w.heap.size P g h r.l (r.l.set i (o.getD t0)) cur fv qv) 0 W W' ∧ v = .bool o.isSome) := Lib.hid fun W hW hT => by
    rw [HE.out]
    refine (CALL.out W q ((Ch.of_gr (G5.out.trans GD.out)).trans hW) ((P1.out.gr (G25.out.trans GD.out)).keep (Keep.of_ch hW (fun k hk e => by have h1 : w.heap.size ≤ k := hk; have := HW0.out k e.1; omega))) hT).mono ?_
    rintro e W' ⟨rfl, ⟨P', cur', fv', qv', T', a1, a2, a3⟩, hc⟩
    exact ⟨_, rfl, ⟨hc, ⟨P', cur', fv', qv', T', a1, fun k hk => (a2 k hk).imp id (fun hk => Nat.le_trans (Nat.le_trans (G5.out.trans GD.out).size hW.size) hk), a3⟩⟩, rfl⟩
  obtain ⟨z, hz⟩ : ∃ z, z = o.isSome := ⟨_, rfl⟩
  rw [← hz] at CW
  have HZ := Lib.hid hz
  obtain ⟨hsi, hsi2⟩ := HSI.out
  have HQ3 : Hid ((x.site < 0) = False) := Lib.hid (by simp; omega)
  have HQ4 : Hid ((r.sites ≤ x.site) = False) := Lib.hid (by simp; omega)
  have S0 : Hid (SApp w.heap.size P g h r.l (r.l.set i (o.getD t0)) cur fv qv 0 w6.drew) := Lib.hid (SApp.gr 0 _ _ (G5.out.trans GD.out) T0.out)
  clear hz c0 c20 lk m0 r1 r2 ATS GET RG hsi hsi2
  go_wp2_with fail
  apply wp_region_draw_turn (rhoP P g) (SApp w.heap.size P g h r.l (r.l.set i (o.getD t0)) cur fv qv) (.eq _ :: .eq _ :: .eq _ :: .eq _ :: .eq _ :: .eq _ :: .eq _ :: .eq _ :: .eq _ :: .eq _ :: .eq _ :: .eq _ :: .eq _ :: .eq _ :: .eq _ :: .eq _ :: .eq _ :: .eq _ :: .eq _ :: .eq _ :: .eq _ :: .eq _ :: .eq _ :: .eq _ :: .eq _ :: .eq _ :: .eq _ :: .eq _ :: .useEq (.bool z) :: .eq _ :: .eq _ :: []) (by kernel_rfl) (by kernel_rfl) (by kernel_rfl) trivial SApp.gr S0.out
  iterate 27
   apply wpT_eq
   · intro W hW hs
     have y19 := CK.out W ((Ch.of_gr GD.out).trans hW)
     have ys := SGH.out W ((Ch.of_gr GD.out).trans hW)
     have e3 := HQ3.out
     have e4 := HQ4.out
     unfold opT
     go_simp
     first | exact resT_eq_mk _ _ _ | exact ⟨Gr.refl _, rfl⟩
   simp only [Act.put, pt1, pt2, pt3]
  apply wpT_eq
  · intro W hW hs
    exact opT_loadW entTy _ rfl (by first | kernel_rfl | go_simp) rfl (KE.out W ((Ch.of_gr GD.out).trans hW)) EN.out ⟨Gr.refl _, rfl⟩
  simp only [Act.put, pt1, pt2, pt3]
  apply wpT_useEq
  · intro W hW hS hs
    unfold opT
    go_simp
    exact ⟨Gr.refl _, CW.out W hW hS⟩
  simp only [Act.put, pt1, pt2, pt3]
  iterate 2
   apply wpT_eq
   · intro W hW hs
     have y19 := CK.out W ((Ch.of_gr GD.out).trans hW)
     have ys := SGH.out W ((Ch.of_gr GD.out).trans hW)
     have e3 := HQ3.out
     have e4 := HQ4.out
     unfold opT
     go_simp
     first | exact resT_eq_mk _ _ _ | exact ⟨Gr.refl _, rfl⟩
   simp only [Act.put, pt1, pt2, pt3]
  apply wpT_nil
  intro W9 hW9 hS9 hsAll
  clear hsAll
  have C9 := Lib.hid ((Ch.of_gr (G5.out.trans GD.out)).trans hW9)
  have S9 := Lib.hid hS9
  clear hW9 hS9
  cases z with
  | false =>
    go_wp2
    refine bodyPost_ret (results_none rfl _ _ _) rfl ?_
    obtain ⟨P', cur', fv', qv', T', a1, a2, a3⟩ := S9.out
    refine FIN.out W9 P' cur' fv' qv' _ T' a1 a2 a3 C9.out ?_
    have hz := HZ.out
    cases o with
    | none => rfl
    | some t => cases hz
  | true =>
    obtain ⟨P', cur', fv', qv', T', a1, a2, a3⟩ := S9.out
    obtain ⟨t', hot⟩ : ∃ t', o = some t' := by
      have hz := HZ.out
      cases o with
      | none => cases hz
      | some t => exact ⟨t, rfl⟩
    have hil' : i < (r.l.set i (o.getD t0)).length := by rw [List.length_set]; exact HIL.out
    have ti : (r.l.set i (o.getD t0))[i] = t' := by rw [List.getElem_set_self, hot]; rfl
    have tk := T'.tok i hil'
    rw [ti] at tk
    have hql : t'.queue.length ≤ 99 := by
      have h1 := doT_queue (HO.out.1.symm.trans hot)
      have h2 := HO.out.2.queue_le HRN.out.2 HRN.out.1
      omega
    obtain ⟨aq, cq, hsh⟩ := tk.qs.shape
    rw [ints_length] at hsh
    have y0 : W9.cell? ⟨h, i * 4, none⟩ = some (.int .u64 (t'.epoch : Int)) := by rw [T'.hh.cell]; exact tk.c0
    have y1 : W9.cell? ⟨h, i * 4 + 1, none⟩ = some (.int .i64 t'.holder) := by rw [T'.hh.cell]; exact tk.c1
    have y3 : W9.cell? ⟨h, i * 4 + 3, none⟩ = some (.slice aq t'.queue.length cq) := by rw [T'.hh.cell, ← hsh]; exact tk.c3
    have STAY : Hid (nextT t' = t' → Applied w P g (applyG r l) (.returned (.tuple #[])) W9) := Lib.hid fun hn => FIN.out W9 P' cur' fv' qv' _ T' a1 a2 a3 C9.out (by rw [hot]; exact hn.symm)
    have NEXT : Hid (0 < t'.queue.length → t'.holder < 0 → ∀ W' vq, Ch (fun k => k = h) W9 W' → Own W' 0 3 vq (ints t'.queue.tail) → CellsAt W' h (((cur'.set (i * 4) (.int .u64 (((t'.epoch + 1) % 2 ^ 64 : Nat) : Int))).set (i * 4 + 1) (.int .i64 (t'.queue.headD 0))).set (i * 4 + 3) vq) 68 → (∀ k, vq.ownBlock = some k → W9.heap.size ≤ k) → Applied w P g (applyG r l) (.returned (.tuple #[])) W') := Lib.hid fun h2 h1 W' vq c1 c2 c3 c4 => by
      obtain ⟨⟨P2, cur2, fv2, qv2, T2, b1, b2, b3⟩, _⟩ := next_did T' a3 (a1 h HHG.out.1) (a1 g HHG.out.2.2) HHG.out.2.1 i hil' t' ti.symm _ _ _ vq c1 c2 c3 c4
      rw [List.set_set] at T2
      exact FIN.out W' P2 cur2 fv2 qv2 _ T2 (fun k hk => b1 k (a1 k hk)) (fun k hk => (b2 k hk).elim (fun hk => a2 k hk) (fun hk => .inr (Nat.le_trans C9.out.size hk))) b3 (C9.out.trans (ch_mono c1 fun k hk => by
        have e : k = h := hk
        exact e ▸ ⟨HHG.out.1, HHG.out.2.1⟩)) (by rw [hot]; exact (nextT_pos h1 h2).symm)
    have TH := Lib.hid T'.hh
    have QO : Hid (Own W9 0 3 (.slice aq t'.queue.length cq) (ints t'.queue)) := Lib.hid (by rw [← hsh]; exact tk.qs)
    have QS : Hid (Sl W9 (.slice aq t'.queue.length cq) (ints t'.queue)) := Lib.hid (by rw [← hsh]; exact tk.qs.sl)
    have QB : Hid (∀ k, (Value.slice aq t'.queue.length cq).ownBlock = some k → k ≠ h) := Lib.hid fun k hk => (tk.qb k (by rw [hsh]; exact hk)).2.2
    have CSZ : Hid (i * 4 + 4 ≤ cur'.length) := Lib.hid (by have := T'.sz; omega)
    have HQL := Lib.hid hql
    clear T' a1 a2 a3 hot hil' ti tk hsh hql CW S9 HZ S0
    by_cases hc : t'.holder < 0
    rotate_left
    · have HN := Lib.hid (nextT_neg (.inl hc))
      have e1 : (t'.holder < 0) = False := by simp; omega
      clear hc
      go_wp2
      refine bodyPost_end (results_none rfl _ _ _) rfl ?_
      exact STAY.out HN.out
    · by_cases hq : 0 < t'.queue.length
      rotate_left
      · have HN := Lib.hid (nextT_neg (.inr hq))
        obtain ⟨nq, hnq⟩ : ∃ n, n = t'.queue.length := ⟨_, rfl⟩
        rw [← hnq] at y3 hq
        have hz : nq = 0 := by omega
        subst hz
        have e1 : (t'.holder < 0) = True := by simp; omega
        clear hc hq hnq
        go_wp2
        refine bodyPost_end (results_none rfl _ _ _) rfl ?_
        exact STAY.out HN.out
      · have NEXT2 := Lib.hid (NEXT.out hq hc)
        obtain ⟨y, ys, hqq⟩ : ∃ y ys, t'.queue = y :: ys := by
          cases hq2 : t'.queue with
          | nil => rw [hq2] at hq; exact absurd hq (Nat.lt_irrefl 0)
          | cons y ys => exact ⟨y, ys, rfl⟩
        have e1 : (t'.holder < 0) = True := by simp; omega
        clear NEXT STAY hc hq
        rw [hqq] at NEXT2 QO QS QB HQL y3
        obtain ⟨bq, cq2, hform, _, hbl, hcap⟩ := QO.out.form (by simp [ints])
        injection hform with f1 f2 f3
        subst f1 f3
        clear f2
        rw [ints_length] at hcap
        simp only [List.length_cons] at hcap y3 QS HQL
        obtain ⟨n, hn⟩ : ∃ n, n = ys.length := ⟨_, rfl⟩
        rw [← hn] at y3 QS hcap HQL
        have NB : bq ≠ h := QB.out bq rfl
        have HYS : Hid (ys.length ≤ 100) := Lib.hid (by have := HQL.out; omega)
        have SLT : Hid (Sl W9 (.slice (if cq = 1 then some ⟨bq, 0, none⟩ else some ⟨bq, 1, none⟩) n (cq - 1)) (ints ys)) := Lib.hid (by
          split
          · rename_i hc1
            have h0 : n = 0 := by omega
            have h1 : ys = [] := List.eq_nil_of_length_eq_zero (by omega)
            subst h0 h1
            exact ⟨_, _, rfl, Nat.zero_le _, .inl rfl⟩
          · exact sl_tail QS.out)
        have HE5 : Hid ((1 ≤ (n : Int) + 1) = True) := Lib.hid (by simp; omega)
        have yb : W9.cell? ⟨bq, 0, none⟩ = some (.int .i64 y) := sl_head QS.out
        have z0 := TH.out.frozen (i * 4)
        clear hqq hn
        go_wp2_with fail
        rw [wrap_u64]
        obtain ⟨ep, hep⟩ : ∃ n, n = (t'.epoch + 1) % 2 ^ 64 := ⟨_, rfl⟩
        rw [← hep] at NEXT2 ⊢
        obtain ⟨w10, hw10⟩ : ∃ W, W = W9.setCell ⟨h, i * 4, none⟩ (.int .u64 (ep : Int)) := ⟨_, rfl⟩
        rw [← hw10]
        have c10 : Ch (fun k => k = h) W9 w10 := by rw [hw10]; exact ch_setCell' _ _ _ _
        have k10 : CellsAt w10 h (cur'.set (i * 4) (.int .u64 (ep : Int))) 68 := by rw [hw10]; exact TH.out.set _ _
        have y3' : w10.cell? ⟨h, i * 4 + 3, none⟩ = some (.slice (some ⟨bq, 0, none⟩) (n + 1) cq) := by
          rw [k10.cell, List.getElem?_set_ne (by omega), ← TH.out.cell]; exact y3
        have yb' : w10.cell? ⟨bq, 0, none⟩ = some (.int .i64 y) := (c10.cell (p := ⟨bq, 0, none⟩) hbl NB).trans yb
        have CF : Hid (∀ W, Gr w10 W → W.cell? ⟨h, i * 4 + 3, none⟩ = some (.slice (some ⟨bq, 0, none⟩) (n + 1) cq) ∧ W.cell? ⟨bq, 0, none⟩ = some (.int .i64 y)) := Lib.hid fun W hW => ⟨(hW.cell (p := ⟨h, i * 4 + 3, none⟩) k10.lt).trans y3', (hW.cell (p := ⟨bq, 0, none⟩) (Nat.lt_of_lt_of_le hbl c10.size)).trans yb'⟩
        have CL : Hid (∀ W, Gr w10 W → Calls Tryz.prog 29 #[.slice (if cq = 1 then some ⟨bq, 0, none⟩ else some ⟨bq, 1, none⟩) n (cq - 1)] W fun e w' => ∃ v', e = .returned v' ∧ Own w' W.heap.size 3 v' (ints ys) ∧ Gr W w') := Lib.hid fun W hW => clone_ints _ _ _ ((SLT.out.ch c10 (fun k hk => by
          have e : k = bq := by
            split at hk <;> (injection hk with hk; exact hk.symm)
          rw [e]; exact NB)).below hW) HYS.out
        have C10 := Lib.hid c10
        have K10 := Lib.hid k10
        have GD2 := Lib.hid ((Gr.refl w10).drew)
        clear c10 k10 y0 y1 y3 yb y3' yb' hw10 hep z0 e1 hbl
        apply wp_region_draw_late 16 1 (.eq _ :: .eq (.pointer (some ⟨h, i * 4, none⟩)) :: .eq _ :: .eq _ :: .eq _ :: .eq _ :: .eq _ :: .eq _ :: .eq _ :: .eq _ :: .eq _ :: .eq _ :: .eq _ :: .ok (fun v W => Own W w10.heap.size 3 v (ints ys)) :: .eq _ :: .eq _ :: []) rfl rfl rfl (by kernel_rfl) (by kernel_rfl) ⟨mono_own _ _ _, trivial⟩ (move_pure rfl).1 (move_pure rfl).2
        simp only [List.take_succ_cons, List.take_zero, List.drop_succ_cons, List.drop_zero]
        iterate 13
         apply wpG_eq
         · intro W hW hs
           obtain ⟨y3, yb⟩ := CF.out W (GD2.out.trans hW)
           have e5 := HE5.out
           unfold opG
           go_simp
           first | exact resG_eq_mk _ _ _ | rfl
         simp only [Act.put, pt1, pt2, pt3]
        apply wpG_ok
        · intro W hW hs
          unfold opG
          go_simp
          refine resG_call ((CL.out W (GD2.out.trans hW)).mono ?_)
          rintro e W2 ⟨v2, rfl, ho, hb⟩
          exact ⟨v2, rfl, hb, World.ownsRow.mono ho (GD2.out.trans hW).size⟩
        intro vq
        simp only [Act.put, pt1, pt2, pt3]
        iterate 2
         apply wpG_eq
         · intro W hW hs
           obtain ⟨y3, yb⟩ := CF.out W (GD2.out.trans hW)
           have e5 := HE5.out
           unfold opG
           go_simp
           first | exact resG_eq_mk _ _ _ | rfl
         simp only [Act.put, pt1, pt2, pt3]
        apply wpG_nil
        intro W11 hW11 hsAll
        generalize (if cq = 1 then some (⟨bq, 0, none⟩ : Addr) else some ⟨bq, 1, none⟩) = sp
        have ho := hsAll _ (List.mem_cons_self ..)
        have G11 := Lib.hid (GD2.out.trans hW11)
        have k11 := K10.out.gr G11.out
        obtain ⟨yv, y1⟩ : ∃ z, W11.cell? ⟨h, i * 4 + 1, none⟩ = some z := ⟨_, (k11.cell (i * 4 + 1)).trans (List.getElem?_eq_getElem (by have := CSZ.out; simp; omega))⟩
        obtain ⟨yw, y3⟩ : ∃ z, W11.cell? ⟨h, i * 4 + 3, none⟩ = some z := ⟨_, (k11.cell (i * 4 + 3)).trans (List.getElem?_eq_getElem (by have := CSZ.out; simp; omega))⟩
        have z1 := k11.frozen (i * 4 + 1)
        have z3 := k11.frozen (i * 4 + 3)
        obtain ⟨av, cv, hsv⟩ := ho.shape
        rw [ints_length] at hsv
        have HV := Lib.hid hsv
        have HO2 := Lib.hid ho
        have K11 := Lib.hid k11
        obtain ⟨nv, hnv⟩ : ∃ n, n = ys.length := ⟨_, rfl⟩
        rw [← hnv] at hsv
        have HNV := Lib.hid hnv
        subst hsv
        clear hsAll hW11 ho k11 hnv hcap
        apply Exists.intro
        apply And.intro
        · go_simp
          rfl
        go_wp2
        refine bodyPost_end (results_none rfl _ _ _) rfl ?_
        have c2 : Ch (fun k => k = h) W11 (W11.setCell ⟨h, i * 4 + 1, none⟩ (.int .i64 y)) := ch_setCell' _ _ _ _
        have c3 : Ch (fun k => k = h) (W11.setCell ⟨h, i * 4 + 1, none⟩ (.int .i64 y)) ((W11.setCell ⟨h, i * 4 + 1, none⟩ (.int .i64 y)).setCell ⟨h, i * 4 + 3, none⟩ (.slice av nv cv)) := ch_setCell' _ _ _ _
        refine NEXT2.out _ _ ((C10.out.trans (Ch.of_gr G11.out)).trans (c2.trans c3)) ?_ ((K11.out.set (i * 4 + 1) (.int .i64 y)).set (i * 4 + 3) (.slice av nv cv)) (fun k hk => Nat.le_trans C10.out.size (HO2.out.lt k hk).1)
        exact Own.ch (World.ownsRow.mono HO2.out (Nat.zero_le _)) (c2.trans c3) (fun k hk e => by have := (HO2.out.lt k hk).1; have := K10.out.lt; omega)
theorem apply_any (w : World) (P : Nat → Prop) (gv : Value) (r : RegD) (h : RegV w P gv r) (ok : RegOk r) (v : Value) (l : List UInt8) (hs : Sl w v (bytes l)) (hl : l.length ≤ 1000000000) :
    Calls Tryz.prog 12 #[gv, v] w fun e w' => e = .returned (.tuple #[]) ∧ ((gv = .pointer none ∧ applyG r l = ⟨0, []⟩ ∧ Gr w w') ∨ ∃ g, gv = .pointer (some ⟨g, 0, none⟩) ∧ Applied w P g (applyG r l) e w') := by
  have NO : applyG r l = r → (Calls Tryz.prog 12 #[gv, v] w fun e w' => e = .returned (.tuple #[]) ∧ Gr w w') → Calls Tryz.prog 12 #[gv, v] w fun e w' => e = .returned (.tuple #[]) ∧ ((gv = .pointer none ∧ applyG r l = ⟨0, []⟩ ∧ Gr w w') ∨ ∃ g, gv = .pointer (some ⟨g, 0, none⟩) ∧ Applied w P g (applyG r l) e w') := fun hn hc => hc.mono fun e w' hh => by
    obtain ⟨rfl, hg⟩ := hh
    refine ⟨rfl, ?_⟩
    rcases h with ⟨h1, h2⟩ | ⟨g, e, hR⟩
    · exact .inl ⟨h1, hn.trans h2, hg⟩
    · refine .inr ⟨g, e, rfl, ⟨P, by rw [hn]; exact hR.gr hg, fun k hk => hk, fun k hk => .inl hk⟩, Ch.of_gr hg⟩
  by_cases c1 : (getV l).2 = 0
  rotate_left
  · exact NO (by unfold applyG; rw [if_neg c1]) (apply_no1 w P gv r h v l hs hl c1)
  have ax : applyG r l = applyX r (getV l).1 := by unfold applyG; rw [if_pos c1]
  by_cases c2 : isD (getV l).1.kind = true
  rotate_left
  · have c2 : isD (getV l).1.kind = false := by simpa using c2
    refine NO ?_ (apply_no2 w P gv r h v l hs hl ⟨c1, c2⟩)
    rw [ax]
    unfold applyX
    unfold isD at c2
    simp only [Bool.or_eq_false_iff, beq_eq_false_iff_ne] at c2
    split
    · have : ∀ t, doT (getV l).1 t = none := fun t => by unfold doT; rw [if_neg c2.1, if_neg c2.2]
      rw [this]
    · rfl
  by_cases c3 : inG r (getV l).1.region = true
  rotate_left
  · have c3' : inG r (getV l).1.region = false := by simpa using c3
    exact NO (by rw [ax]; unfold applyX; rw [if_neg (fun k => c3 k.1)]) (apply_no3 w P gv r h v l hs hl ⟨c1, c2, c3'⟩)
  by_cases c4 : 0 ≤ (getV l).1.site
  rotate_left
  · exact NO (by rw [ax]; unfold applyX; rw [if_neg (fun k => c4 k.2.1)]) (apply_no4 w P gv r h v l hs hl ⟨c1, c2, c3, by omega⟩)
  by_cases c5 : (getV l).1.site < r.sites
  rotate_left
  · exact NO (by rw [ax]; unfold applyX; rw [if_neg (fun k => c5 k.2.2)]) (apply_no5 w P gv r h v l hs hl ⟨c1, c2, c3, c4, by omega⟩)
  have hg : ∃ g, gv = .pointer (some ⟨g, 0, none⟩) ∧ RegIs w P g r := by
    rcases h with ⟨h1, h2⟩ | h
    · rw [h2] at c3
      unfold inG at c3
      simp at c3; omega
    · exact h
  obtain ⟨g, rfl, hR⟩ := hg
  have hk : (getV l).1.kind = 8 ∨ (getV l).1.kind = 9 := by
    unfold isD at c2
    simpa using c2
  rcases hk with hk | hk
  · exact (apply_want w P g r hR ok v l hs hl c1 hk c3 c4 c5).mono fun e w' hh => ⟨hh.1, .inr ⟨g, rfl, hh⟩⟩
  · exact (apply_back w P g r hR ok v l hs hl c1 hk c3 c4 c5).mono fun e w' hh => ⟨hh.1, .inr ⟨g, rfl, hh⟩⟩
end Go.Proofs.YtpcpijecibiibaaGreat
end
section
set_option linter.unusedVariables false
set_option linter.unusedSimpArgs false
set_option maxRecDepth 100000
namespace Go.Proofs.YtpcpijecibiibaaGreat
open Go.RowKit
def tokRow (fv : Value) : List Value := [.int .u64 0, .int .i64 (Int.negSucc 0), fv, .slice none 0 0]
def FvOk (w : World) (B g : Nat) (v : Value) (s : Nat) (fv : Value) : Prop := Sl w fv (nums (List.replicate s 0)) ∧ fv.oneCell' = true ∧ ∀ j, fv.ownBlock = some j → B ≤ j ∧ j < w.heap.size ∧ j ≠ g ∧ v.ownBlock ≠ some j
/-- A table under way: k tokens as they are at the start. -/
def TabN (w : World) (B g : Nat) (v : Value) (s k : Nat) : Prop := ∃ rs, OwnR w B 68 4 v rs ∧ rs.length = k ∧ (∀ j, v.ownBlock = some j → j ≠ g) ∧ ∀ i (h : i < k), ∃ fv, rs[i]? = some (tokRow fv) ∧ FvOk w B g v s fv
theorem FvOk.ch {ρ : Nat → Prop} {w w' : World} {B g s : Nat} {v fv : Value} (h : FvOk w B g v s fv) (c : Ch ρ w w') (hn : ∀ j, fv.ownBlock = some j → ¬ ρ j) : FvOk w' B g v s fv :=
  ⟨h.1.ch c hn, h.2.1, fun j hj => by obtain ⟨h1, h2, h3⟩ := h.2.2 j hj; exact ⟨h1, Nat.lt_of_lt_of_le h2 c.size, h3⟩⟩
theorem TabN.nil (w : World) (B g s : Nat) : TabN w B g (.slice none 0 0) s 0 := ⟨[], OwnR.nil _ _ _ _, rfl, fun j hj => (by cases hj), fun i hi => absurd hi (Nat.not_lt_zero _)⟩
theorem TabN.shape {w : World} {B g s k : Nat} {v : Value} (h : TabN w B g v s k) : ∃ a cap, v = .slice a k cap := by
  obtain ⟨rs, h1, h2, _⟩ := h; rw [← h2]; exact h1.shape
theorem TabN.lt {w : World} {B g s k : Nat} {v : Value} (h : TabN w B g v s k) : ∀ j, v.ownBlock = some j → B ≤ j ∧ j < w.heap.size := by
  obtain ⟨rs, h1, _⟩ := h; exact h1.lt
theorem TabN.gr {w w' : World} {B g s k : Nat} {v : Value} (h : TabN w B g v s k) (c : Gr w w') : TabN w' B g v s k := by
  obtain ⟨rs, h1, h2, h3, h4⟩ := h
  refine ⟨rs, h1.block fun j hj => c.block j (h1.lt j hj).2, h2, h3, fun i hi => ?_⟩
  obtain ⟨fv, q1, q2⟩ := h4 i hi
  exact ⟨fv, q1, q2.ch (Ch.of_gr (ρ := fun _ => False) c) (fun _ _ h => h)⟩
theorem TabN.chg {w w' : World} {B g s k : Nat} {v : Value} (h : TabN w B g v s k) (c : Ch (fun j => j = g) w w') : TabN w' B g v s k := by
  obtain ⟨rs, h1, h2, h3, h4⟩ := h
  refine ⟨rs, h1.block fun j hj => c.block j (h1.lt j hj).2 (h3 j hj), h2, h3, fun i hi => ?_⟩
  obtain ⟨fv, q1, q2⟩ := h4 i hi
  exact ⟨fv, q1, q2.ch c (fun j hj => (q2.2.2 j hj).2.2.1)⟩
theorem info_tok : (Tryz.prog.info? 68).map (fun i => (i.zero, i.size, i.bytes)) = some (some (.agg #[.int .u64 0, .int .i64 0, .slice none 0 0, .slice none 0 0]), 4, 64) := by kernel_rfl
theorem run_append_tok (w : World) (B g : Nat) (v : Value) (s k b : Nat) (fv : Value) (h : TabN w B g v s k) (hx : FvOk w B g v s fv) (hb : CellsAt w b (tokRow fv) 68) (hl : k ≤ 1000) (hB : B ≤ w.heap.size) (hg : g < w.heap.size) :
    ∃ v' w', (Builtin.append_ #[64, 64] 64 #[v, .slice (some ⟨b, 0, none⟩) 1 1]).run Tryz.prog w = .ok v' w' ∧ TabN w' B g v' s (k + 1) ∧ w.grownBy w' v.ownBlock := by
  obtain ⟨i0, hi0, hz0, hz1, hz2⟩ := info_parts info_tok
  obtain ⟨rs, h1, h2, h3, h4⟩ := h
  obtain ⟨v', w', hr, p1, p2, p3, _⟩ := run_append_rows (P := Tryz.prog) w B 64 64 68 i0 _ 4 64 Tryz.underlying64 hi0 hz0 hz1 hz2 (by rfl) v (.slice (some ⟨b, 0, none⟩) 1 1) rs [tokRow fv] h1 _
    (row_one w b _ _ hb 4 rfl)
    (by
      intro i hi
      obtain rfl : i = 0 := by simp at hi; omega
      refine ⟨rfl, fun j hj => ?_⟩
      simp only [List.getElem_cons_zero, List.getD_eq_getElem?_getD]
      rw [List.getElem?_eq_getElem (by simpa using hj)]; rfl)
    (by
      intro r hr u hu
      obtain rfl : r = tokRow fv := by simpa using hr
      have hone := hx.2.1
      simp only [tokRow, List.mem_cons, List.not_mem_nil, or_false] at hu
      rcases hu with rfl | rfl | rfl | rfl <;> first | rfl | exact hone)
    (by unfold maxLen; simp; omega) (by simp; omega) hB
  have up : ∀ fv, FvOk w B g v s fv → FvOk w' B g v' s fv := fun fv h => by
    have c : Ch (fun j => v.ownBlock = some j) w w' := Ch.of_grownBy p2 (fun k hk => hk)
    have h5 := h.ch c (fun j hj => (h.2.2 j hj).2.2.2)
    refine ⟨h5.1, h5.2.1, fun j hj => ⟨(h5.2.2 j hj).1, (h5.2.2 j hj).2.1, (h5.2.2 j hj).2.2.1, fun e => ?_⟩⟩
    rcases p3 with e2 | ⟨i, e2, hi⟩
    · exact (h.2.2 j hj).2.2.2 (e2 ▸ e)
    · have h6 := (h.2.2 j hj).2.1
      rw [e2] at e
      injection e with e
      omega
  refine ⟨v', w', hr, ⟨_, p1, by simp [h2], fun j hj => ?_, fun i hi => ?_⟩, p2⟩
  · rcases p3 with e2 | ⟨i, e2, hi⟩
    · exact h3 j (e2 ▸ hj)
    · rw [e2] at hj
      injection hj with hj
      omega
  · by_cases hlt : i < k
    · obtain ⟨fv, q1, q2⟩ := h4 i hlt
      exact ⟨fv, by rw [List.getElem?_append_left (by omega), q1], up _ q2⟩
    · obtain rfl : i = k := by omega
      exact ⟨fv, by rw [List.getElem?_append_right (by omega), h2]; simp, up _ hx⟩
def rhoN (g : Nat) (v : Value) : Nat → Prop := fun k => k = g ∨ v.ownBlock = some k
def stNew (B g : Nat) (s k : Nat) (tv : Value) : List Value → (Nat → Prop) → World → Prop
  | [], _, W => TabN W B g tv s k ∧ CellsAt W g [.int .i64 (s : Int), tv] 66
  | [v], _, W => v = tv ∧ TabN W B g tv s k ∧ CellsAt W g [.int .i64 (s : Int), tv] 66
  | [_, v'], _, W => TabN W B g v' s (k + 1) ∧ CellsAt W g [.int .i64 (s : Int), tv] 66
  | _, _, W => ∃ v', TabN W B g v' s (k + 1) ∧ CellsAt W g [.int .i64 (s : Int), v'] 66
theorem stNew_gr (B g : Nat) (s k : Nat) (tv : Value) : ∀ us U W W', Gr W W' → stNew B g s k tv us U W → stNew B g s k tv us U W'
  | [], _, _, _, c, hh => ⟨hh.1.gr c, hh.2.gr c⟩
  | [_], _, _, _, c, hh => ⟨hh.1, hh.2.1.gr c, hh.2.2.gr c⟩
  | [_, _], _, _, _, c, hh => ⟨hh.1.gr c, hh.2.gr c⟩
  | _ :: _ :: _ :: _, _, _, _, c, ⟨v, h1, h2⟩ => ⟨v, h1.gr c, h2.gr c⟩
def AgU (ρ : Nat → Prop) (B s : Nat) : Su := fun v U W => ∃ fv, v = .agg (tokRow fv).toArray ∧ SlN ρ B (List.replicate s 0) fv U W
theorem AgU.mono (ρ : Nat → Prop) (B s : Nat) : MonoU ρ (AgU ρ B s) :=
  ⟨fun v U W W' g ⟨fv, e, h⟩ => ⟨fv, e, (SlN.mono ρ B _).1 _ _ _ _ g h⟩, fun v U W W' hU g ⟨fv, e, h⟩ => ⟨fv, e, (SlN.mono ρ B _).2 _ _ _ _ hU g h⟩⟩
def RowU (ρ : Nat → Prop) (B s : Nat) : Su := fun v U W => ∃ b fv, v = .slice (some ⟨b, 0, none⟩) 1 1 ∧ CellsAt W b (tokRow fv) 68 ∧ ¬ ρ b ∧ ¬ U b ∧ SlN ρ B (List.replicate s 0) fv U W
theorem RowU.mono (ρ : Nat → Prop) (B s : Nat) : MonoU ρ (RowU ρ B s) :=
  ⟨fun v U W W' g ⟨b, fv, e, k, h1, h2, h⟩ => ⟨b, fv, e, k.gr g, h1, h2, (SlN.mono ρ B _).1 _ _ _ _ g h⟩, fun v U W W' hU g ⟨b, fv, e, k, h1, h2, h⟩ => ⟨b, fv, e, k.block (g.block b k.lt (fun e => e.elim h1 h2)), h1, fun e => e.elim h2 (fun e => by have := k.lt; omega), (SlN.mono ρ B _).2 _ _ _ _ hU g h⟩⟩
/-- The registry that a table makes. -/
theorem TabN.reg {w : World} {B g s k : Nat} {v : Value} (T : TabN w B g v s k) (K : CellsAt w g [.int .i64 (s : Int), v] 66) (hB : B ≤ g) : RegIs w (fun j => B ≤ j ∧ j < w.heap.size) g ⟨(s : Int), List.replicate k (tok0 s)⟩ := by
  obtain ⟨rs, h1, h2, h3, h4⟩ := T
  obtain ⟨a, c, hv⟩ := h1.shape
  refine ⟨⟨hB, K.lt⟩, fun j hj => hj.2, a, c, by rw [hv, h2] at K; simpa using K, ?_⟩
  by_cases hk : k = 0
  · left; rw [hk]; rfl
  right
  rcases h1.2 with ⟨_, e⟩ | ⟨h, cap, cur, e, hb, hh, _, _, hsz, htk⟩
  · rw [e] at h2; exact absurd h2.symm hk
  rw [e] at hv
  injection hv with e1 e2 e3
  have KH : CellsAt w h cur.toList 68 := hh
  have hlt := KH.lt
  have hhg : h ≠ g := h3 h (by rw [e]; rfl)
  refine ⟨h, cur.toList, fun i => ((rs.getD i []).getD 2 (.slice none 0 0)), fun _ => .slice none 0 0, e1.symm, ⟨hb, hlt⟩, hhg, KH, by simp [← h2]; omega, fun i hi => ?_, fun i j k _ _ _ h _ => (by cases h), fun i j k _ _ h _ => (by cases h)⟩
  simp only [List.length_replicate] at hi
  obtain ⟨fv, q1, q2⟩ := h4 i hi
  have hri : i < rs.length := by omega
  have q3 : rs[i] = tokRow fv := by rw [List.getElem?_eq_getElem hri] at q1; exact Option.some.inj q1
  have cell : ∀ m (hm : m < 4), cur.toList[i * 4 + m]? = (tokRow fv)[m]? := fun m hm => by
    have hml : m < rs[i].length := by rw [q3]; exact hm
    have h5 := flatten_get h1.1 i hri m hml
    rw [← htk, List.getElem?_take, if_pos (by omega)] at h5
    rw [h5, ← List.getElem?_eq_getElem hml, q3]
  have hgd : rs.getD i [] = tokRow fv := by rw [List.getD_eq_getElem?_getD, q1]; rfl
  have hfv : (rs.getD i []).getD 2 (.slice none 0 0) = fv := by rw [hgd]; rfl
  simp only [List.getElem_replicate, hfv]
  exact ⟨cell 0 (by decide), cell 1 (by decide), cell 2 (by decide), cell 3 (by decide), q2.1, Own.nil0 _ _ _, fun j hj => ⟨⟨(q2.2.2 j hj).1, (q2.2.2 j hj).2.1⟩, (q2.2.2 j hj).2.2.1, fun e2 => (q2.2.2 j hj).2.2.2 (by rw [e, e2]; rfl)⟩, fun j hj => (by cases hj)⟩
theorem newV_nat (n : Nat) (h : n ≤ 3) : newV (n : Int) = List.replicate n 0 := by unfold newV; rw [if_pos ⟨by omega, by omega⟩]; rfl
theorem rnew_out (w : World) (s r : Int) (h : s < 0 ∨ 3 < s ∨ r < 0 ∨ 4 < r) : Calls Tryz.prog 10 #[.int .i64 s, .int .i64 r] w fun e w' => ∃ g P, e = .returned (.pointer (some ⟨g, 0, none⟩)) ∧ RegIs w' P g ⟨0, []⟩ ∧ (∀ k, P k → w.heap.size ≤ k) ∧ Gr w w' := by
  have FIN : Hid (∀ (cs : Array Value), ∃ g P, Ending.returned (.pointer (some ⟨w.heap.size + 1, 0, none⟩)) = .returned (.pointer (some ⟨g, 0, none⟩)) ∧ RegIs ((w.alloc (.cells cs 66)).alloc (.cells #[.int .i64 0, .slice none 0 0] 66)) P g ⟨0, []⟩ ∧ (∀ k, P k → w.heap.size ≤ k) ∧ Gr w ((w.alloc (.cells cs 66)).alloc (.cells #[.int .i64 0, .slice none 0 0] 66))) := Lib.hid fun cs => by
    have k := CellsAt.new (w.alloc (.cells cs 66)) [.int .i64 0, .slice none 0 0] 66
    have e : (w.alloc (.cells cs 66)).heap.size = w.heap.size + 1 := by simp
    rw [e] at k
    exact ⟨_, _, rfl, TabN.reg (s := 0) (k := 0) (TabN.nil _ w.heap.size _ 0) k (Nat.le_succ _), fun k hk => hk.1, ((Gr.refl w).alloc _).alloc _⟩
  by_cases h1 : s < 0
  · have e1 : (s < 0) = True := by simp <;> omega
    clear h h1
    go_enter Tryz.func10, Tryz.ntmps10
    go_wp2
    go_ret
    simpa using FIN.out _
  by_cases h2 : 3 < s
  · have e1 : (s < 0) = False := by simp <;> omega
    have e2 : (3 < s) = True := by simp <;> omega
    clear h h1 h2
    go_enter Tryz.func10, Tryz.ntmps10
    go_wp2
    go_ret
    simpa using FIN.out _
  by_cases h3 : r < 0
  · have e1 : (s < 0) = False := by simp <;> omega
    have e2 : (3 < s) = False := by simp <;> omega
    have e3 : (r < 0) = True := by simp <;> omega
    clear h h1 h2 h3
    go_enter Tryz.func10, Tryz.ntmps10
    go_wp2
    go_ret
    simpa using FIN.out _
  · have e1 : (s < 0) = False := by simp <;> omega
    have e2 : (3 < s) = False := by simp <;> omega
    have e3 : (r < 0) = False := by simp <;> omega
    have e4 : (4 < r) = True := by simp <;> omega
    clear h h1 h2 h3
    go_enter Tryz.func10, Tryz.ntmps10
    go_wp2
    go_ret
    simpa using FIN.out _
set_option maxHeartbeats 4000000 in
theorem rnew_in (w : World) (s r : Nat) (hs : s ≤ 3) (hr : r ≤ 4) : Calls Tryz.prog 10 #[.int .i64 (s : Int), .int .i64 (r : Int)] w fun e w' => ∃ g P, e = .returned (.pointer (some ⟨g, 0, none⟩)) ∧ RegIs w' P g ⟨(s : Int), List.replicate r (tok0 s)⟩ ∧ (∀ k, P k → w.heap.size ≤ k) ∧ Gr w w' := by
  have e1 : ((s : Int) < 0) = False := by simp <;> omega
  have e2 : (3 < (s : Int)) = False := by simp <;> omega
  have e3 : ((r : Int) < 0) = False := by simp <;> omega
  have e4 : (4 < (r : Int)) = False := by simp <;> omega
  have HSR := Lib.hid (And.intro hs hr)
  have k0 := CellsAt.new w [.int .i64 (s : Int), .slice none 0 0] 66
  have G0 := Lib.hid ((Gr.refl w).alloc (.cells #[.int .i64 (s : Int), .slice none 0 0] 66))
  obtain ⟨w0, hw0⟩ : ∃ w0, w0 = w.alloc (.cells #[.int .i64 (s : Int), .slice none 0 0] 66) := ⟨_, rfl⟩
  have K0 : Hid (CellsAt w0 w.heap.size [.int .i64 (s : Int), .slice none 0 0] 66) := Lib.hid (by rw [hw0]; exact k0)
  rw [← hw0] at G0
  clear k0
  go_enter Tryz.func10, Tryz.ntmps10
  go_wp2_with fail
  rw [← hw0]
  clear hw0 e1 e2 e3 e4 hs hr
  go_loopw [26] (fun i wr => ∃ (k : Nat) (ta : Option Addr) (tc : Nat), k ≤ r ∧ i = .int .i64 k ∧ TabN wr w.heap.size w.heap.size (.slice ta k tc) s k ∧ CellsAt wr w.heap.size [.int .i64 (s : Int), .slice ta k tc] 66 ∧ Gr w wr) (fun i _ => r - (intOf i).toNat)
  case atStart => exact ⟨0, none, 0, Nat.zero_le _, rfl, TabN.nil _ _ _ _, K0.out, G0.out⟩
  case round =>
    clear K0 G0
    obtain ⟨k, ta, tc, hk, rfl, T, K, G⟩ := hrel
    obtain ⟨wo, rfl⟩ : ∃ wo : World, wo = wr := ⟨_, rfl⟩
    have HT := Lib.hid T
    have HK := Lib.hid K
    have HG := Lib.hid G
    clear T K G
    by_cases hlt : k < r
    · have HLT := Lib.hid hlt
      have i2 : ((k : Int) < (r : Int)) = True := by simp <;> omega
      have HGL : Hid (w.heap.size < wo.heap.size) := Lib.hid HK.out.lt
      have LT : Hid (∀ j, (rhoN w.heap.size (.slice ta k tc)) j → j < wo.heap.size) := Lib.hid fun j hj => by
        rcases hj with rfl | hj
        · exact HK.out.lt
        · exact (HT.out.lt j hj).2
      have NE : Hid (∀ j, (Value.slice ta k tc).ownBlock = some j → j ≠ w.heap.size) := Lib.hid (by obtain ⟨_, _, _, h3, _⟩ := HT.out; exact h3)
      clear hk hlt
      go_wp2_with fail
      apply wp_region_draw_turnU (rhoN w.heap.size (.slice ta k tc)) (stNew w.heap.size w.heap.size s k (.slice ta k tc)) (.eq _ :: .eq _ :: .eq _ :: .eq _ :: .use TU :: .eq _ :: .ok (SlN (rhoN w.heap.size (.slice ta k tc)) w.heap.size (List.replicate s 0)) :: .ok (AgU (rhoN w.heap.size (.slice ta k tc)) w.heap.size s) :: .ok (RowU (rhoN w.heap.size (.slice ta k tc)) w.heap.size s) :: .use TU :: .eq _ :: .eq _ :: .use TU :: []) (by kernel_rfl) (by kernel_rfl) (by kernel_rfl) ⟨TU.mono _, SlN.mono _ _ _, AgU.mono _ _ _, RowU.mono _ _ _, TU.mono _, TU.mono _, trivial⟩ (stNew_gr w.heap.size w.heap.size s k (.slice ta k tc)) ⟨HT.out.gr (Gr.refl _).drew, HK.out.gr (Gr.refl _).drew⟩
      iterate 4
       apply wpU_eq
       · intro U W hW hU hs
         unfold opT
         go_simp
         first | exact resT_eq_mk _ _ _ | exact ⟨Gr.refl _, rfl⟩
       simp only [Act.put, pt1, pt2, pt3]
      apply wpU_use
      · intro U W hW hU hS hs
        obtain ⟨h1, h2⟩ : TabN W w.heap.size w.heap.size (.slice ta k tc) s k ∧ CellsAt W w.heap.size [.int .i64 (s : Int), .slice ta k tc] 66 := hS
        have y1 := h2.cell 1
        have S1 : Hid (stNew w.heap.size w.heap.size s k (.slice ta k tc) [.slice ta k tc] (newU U W W) W) := Lib.hid ⟨rfl, h1, h2⟩
        refine opT_hide fun VV hVV => ?_
        have HV := Lib.hid (hVV (.slice ta k tc) W ⟨S1.out, trivial⟩)
        clear hVV h1 h2 S1
        unfold opT
        go_simp
        exact ⟨Ch.of_gr (Gr.refl W), HV.out⟩
      intro v4
      simp only [Act.put, pt1, pt2, pt3]
      apply wpU_eq
      · intro U W hW hU hs
        unfold opT
        go_simp
        first | exact resT_eq_mk _ _ _ | exact ⟨Gr.refl _, rfl⟩
      simp only [Act.put, pt1, pt2, pt3]
      apply wpU_ok
      · intro U W hW hU hs
        have hz : wo.heap.size ≤ W.heap.size := hW.size
        have NV : Hid (Calls Tryz.prog 11 #[.int .i64 (s : Int)] W (RetNums W (List.replicate s 0))) := Lib.hid (by rw [← newV_nat s HSR.out.1]; exact new_n W s)
        unfold opT
        go_simp
        refine resT_call (NV.out.mono ?_)
        rintro e W2 ⟨v2, rfl, ho, hb⟩
        exact ⟨v2, rfl, hb, ho.sl, (by obtain ⟨_, _, e, _⟩ := ho.sl; rw [e]; rfl), fun j hj => ⟨by have := (ho.lt j hj).1; have := HGL.out; omega, (ho.lt j hj).2, fun e => by have := LT.out j e; have := (ho.lt j hj).1; omega, fun e => by have := (hU j e).2; have := (ho.lt j hj).1; omega⟩⟩
      intro v6
      simp only [Act.put, pt1, pt2, pt3]
      apply wpU_ok
      · intro U W hW hU hs
        have ho := hs _ (.head _) (by rfl)
        have HO := Lib.hid ho
        obtain ⟨a6, n6, c6, rfl⟩ : ∃ a n c, v6 = .slice a n c := by obtain ⟨⟨a, c, e, _⟩, _⟩ := ho; exact ⟨a, _, c, e⟩
        clear ho hs
        unfold opT
        go_simp
        exact resT_mk (Gr.refl _) ⟨_, rfl, HO.out⟩
      intro v7
      simp only [Act.put, pt1, pt2, pt3]
      apply wpU_ok
      · intro U W hW hU hs
        obtain ⟨fv, rfl, ho⟩ := hs _ (.head _) (by rfl)
        have BX : Hid (RowU (rhoN w.heap.size (.slice ta k tc)) w.heap.size s (.slice (some ⟨W.heap.size, 0, none⟩) 1 1) U (W.alloc (.cells (tokRow fv).toArray 68))) := Lib.hid ⟨W.heap.size, fv, rfl, CellsAt.new _ _ _, fun e => by have h1 := LT.out _ e; have h2 := hW.size; have h3 : wo.heap.size ≤ W.heap.size := h2; omega, fun e => by have h1 := (hU _ e).2; omega, (SlN.mono _ _ _).1 _ _ _ _ ((Gr.refl W).alloc _) ho⟩
        obtain ⟨a6, n6, c6, rfl⟩ : ∃ a n c, fv = .slice a n c := by obtain ⟨⟨a, c, e, _⟩, _⟩ := ho; exact ⟨a, _, c, e⟩
        clear ho hs
        unfold tokRow at *
        unfold opT
        go_simp
        exact resT_mk ((Gr.refl W).alloc _) BX.out
      intro v8
      simp only [Act.put, pt1, pt2, pt3]
      apply wpU_use
      · intro U W hW hU hS hs
        obtain ⟨b, fv, rfl, kb, nb1, nb2, sl, one, bl⟩ := hs _ (.head _) (by rfl)
        obtain ⟨rfl, h1, h2⟩ : v4 = .slice ta k tc ∧ TabN W w.heap.size w.heap.size (.slice ta k tc) s k ∧ CellsAt W w.heap.size [.int .i64 (s : Int), .slice ta k tc] 66 := hS
        have hz : wo.heap.size ≤ W.heap.size := hW.size
        obtain ⟨v', W10, hrun, ho, hg10⟩ := run_append_tok W w.heap.size w.heap.size (.slice ta k tc) s k b fv h1 ⟨sl, one, fun j hj => ⟨(bl j hj).1, (bl j hj).2.1, fun e => (bl j hj).2.2.1 (.inl e), fun e => (bl j hj).2.2.1 (.inr e)⟩⟩ kb (by have := HLT.out; have := HSR.out.2; omega) (by have := HGL.out; omega) (by have := HGL.out; omega)
        have K10 : CellsAt W10 w.heap.size [.int .i64 (s : Int), .slice ta k tc] 66 := h2.block ((TokP.grown hg10).block w.heap.size h2.lt (fun e => NE.out w.heap.size e rfl))
        exact opT_append hrun rfl _ _ rfl rfl rfl ⟨ch_mono (TokP.grown hg10) (fun k hk => .inl (.inr hk)), ⟨⟨ho, K10⟩, trivial⟩⟩
      intro v9
      simp only [Act.put, pt1, pt2, pt3]
      iterate 2
       apply wpU_eq
       · intro U W hW hU hs
         unfold opT
         go_simp
         first | exact resT_eq_mk _ _ _ | exact ⟨Gr.refl _, rfl⟩
       simp only [Act.put, pt1, pt2, pt3]
      apply wpU_use
      · intro U W hW hU hS hs
        obtain ⟨ho, h2⟩ : TabN W w.heap.size w.heap.size v9 s (k + 1) ∧ CellsAt W w.heap.size [.int .i64 (s : Int), .slice ta k tc] 66 := hS
        obtain ⟨av, cv, rfl⟩ := ho.shape
        have y1 := h2.cell 1
        have f1 := h2.frozen 1
        have KS : CellsAt (W.setCell ⟨w.heap.size, 1, none⟩ (.slice av (k + 1) cv)) w.heap.size [.int .i64 (s : Int), .slice av (k + 1) cv] 66 := h2.set 1 (.slice av (k + 1) cv)
        have c3 := ch_setCell' W w.heap.size 1 (.slice av (k + 1) cv)
        have CH := Lib.hid (ch_mono (σ := fun k2 => (rhoN w.heap.size (.slice ta k tc)) k2 ∨ U k2) c3 (fun k hk => .inl (.inl hk)))
        have SS : Hid (stNew w.heap.size w.heap.size s k (.slice ta k tc) [v4, .slice av (k + 1) cv, undef] (newU U W (W.setCell ⟨w.heap.size, 1, none⟩ (.slice av (k + 1) cv))) (W.setCell ⟨w.heap.size, 1, none⟩ (.slice av (k + 1) cv))) := Lib.hid ⟨_, ho.chg c3, KS⟩
        refine opT_hide fun VV hVV => ?_
        have HV := Lib.hid (hVV undef _ ⟨SS.out, trivial⟩)
        clear hVV ho h2 SS KS c3
        unfold opT
        go_simp
        exact ⟨CH.out, HV.out⟩
      intro v12
      simp only [Act.put, pt1, pt2, pt3]
      apply wpU_nil
      intro U W8 hW8 hU8 hS8 hs8
      obtain ⟨v', T8, K8⟩ : ∃ v', TabN W8 w.heap.size w.heap.size v' s (k + 1) ∧ CellsAt W8 w.heap.size [.int .i64 (s : Int), v'] 66 := hS8
      obtain ⟨av, cv, rfl⟩ := T8.shape
      have g8 : Gr w W8 := Below.trans HG.out ((Ch.drewL hW8).below HG.out.size (fun j hj => by
        rcases hj with rfl | hj
        · exact Nat.le_refl _
        · exact (HT.out.lt j hj).1))
      have HT8 := Lib.hid T8
      have HK8 := Lib.hid K8
      have HG8 := Lib.hid g8
      clear hW8 hU8 hs8 T8 K8 g8 HT HK HG i2 HGL LT NE
      have kb1 : (k : Int) + 1 ≤ 9223372036854775807 := by have := HLT.out; have := HSR.out.2; omega
      have kw : wrap64 ((k : Int) + 1) = (k : Int) + 1 := by unfold wrap64; omega
      go_wp2
      go_roundw
      case rel => exact ⟨k + 1, av, cv, by have := HLT.out; omega, by go_num, HT8.out, HK8.out, HG8.out⟩
      case measure => have := HLT.out; simp [intOf]; omega
    · obtain rfl : k = r := by omega
      go_wp2
      go_ret
      exact ⟨_, _, rfl, HT.out.reg HK.out (Nat.le_refl _), fun j hj => hj.1, HG.out⟩
theorem rnew_any (w : World) (s r : Int) : Calls Tryz.prog 10 #[.int .i64 s, .int .i64 r] w fun e w' => ∃ g P, e = .returned (.pointer (some ⟨g, 0, none⟩)) ∧ RegIs w' P g (newG s r) ∧ (∀ k, P k → w.heap.size ≤ k) ∧ Gr w w' := by
  by_cases h : 0 ≤ s ∧ s ≤ 3 ∧ 0 ≤ r ∧ r ≤ 4
  · obtain ⟨a, rfl⟩ := Int.eq_ofNat_of_zero_le h.1
    obtain ⟨b, rfl⟩ := Int.eq_ofNat_of_zero_le h.2.2.1
    have e : newG (a : Int) (b : Int) = ⟨(a : Int), List.replicate b (tok0 a)⟩ := by unfold newG; rw [if_pos h]; rfl
    rw [e]
    exact rnew_in w a b (by omega) (by omega)
  · have e : newG s r = ⟨0, []⟩ := by unfold newG; rw [if_neg h]
    rw [e]
    exact rnew_out w s r (by omega)
end Go.Proofs.YtpcpijecibiibaaGreat
end
