/-
  Package registry: which entries do something.
  Package registry: Apply where nothing is done; what a token is next.
-/
import Derived.Test.YtpcpijecibiibaaGreatZRgB
import Derived.Test.YtpcpijecibiibaaGreatZEnKinds
import Derived.Test.YtpcpijecibiibaaGreatZEnPutX
section
set_option linter.unusedVariables false
set_option linter.unusedSimpArgs false
set_option maxRecDepth 100000
namespace Go.Proofs.YtpcpijecibiibaaGreat
open Go.RowKit
def RF (v : Value) : Option (DataW Unit × List MemPlace) :=
  match v with
  | .func (.func f) a b => if a.size = 0 ∧ b.size = 0 then some (.lit (.int .i64 (f : Int)), []) else none
  | _ => none
theorem RF_mk (f : FuncId) : RF (.func (.func f) #[] #[]) = some (.lit (.int .i64 (f : Int)), []) := rfl
theorem RF_inv {v : Value} {f : FuncId} {ps : List MemPlace} (h : RF v = some (.lit (.int .i64 (f : Int)), ps)) : v = .func (.func f) #[] #[] := by
  unfold RF at h
  split at h
  · rename_i f' a b
    split at h
    · rename_i hab
      injection h with h
      injection h with h _
      injection h with h
      injection h with _ h
      have e : f' = f := Int.ofNat.inj h
      subst e
      rw [Array.size_eq_zero_iff.1 hab.1, Array.size_eq_zero_iff.1 hab.2]
    · cases h
  · cases h
def doF (n : Nat) : Value := if n = 8 then .func (.func 26) #[] #[] else if n = 9 then .func (.func 27) #[] #[] else .nilFunc
def isD (n : Nat) : Bool := n == 8 || n == 9
theorem does_map (w : World) : ∃ w0 w1 w2, (Instr.makeMap 74 none).run Tryz.prog w = .ok (.map (some w.heap.size)) w0 ∧
    (Instr.mapUpdate 74 (.map (some w.heap.size)) (.int .u8 8) (.func (.func 26) #[] #[])).run Tryz.prog w0 = .ok () w1 ∧ (Instr.mapUpdate 74 (.map (some w.heap.size)) (.int .u8 9) (.func (.func 27) #[] #[])).run Tryz.prog w1 = .ok () w2 ∧ Gr w w2 ∧
    ∀ W, Gr w2 W → ∀ n : Nat, n < 256 → (Instr.lookup 74 (.map (some w.heap.size)) (.int .u8 (n : Int)) true).run Tryz.prog W = .ok (.tuple #[doF n, .bool (isD n)]) W := by
  have m0 := run_makeMap' 74 w
  have o0 := MapO.made w 5 RF
  have g0 : Gr w (w.alloc (.map #[] 0)) := (Gr.refl w).alloc _
  generalize w.alloc (.map #[] 0) = w0 at *
  obtain ⟨w1, f1, r1, o1, a1, b1, g1⟩ := MapO.update w0 (d := .lit (.int .i64 ((26 : Nat) : Int))) (ps := []) K5 Tryz.underlying74 o0 (by decide) (show keyOf Tryz.prog 5 (.int .u8 8) = some (.int .u8 8) from key5 8 (by decide)) (RF_mk 26)
  obtain ⟨w2, f2, r2, o2, a2, b2, g2⟩ := MapO.update w1 (d := .lit (.int .i64 ((27 : Nat) : Int))) (ps := []) K5 Tryz.underlying74 o1 (by decide) (show keyOf Tryz.prog 5 (.int .u8 9) = some (.int .u8 9) from key5 9 (by decide)) (RF_mk 27)
  have gg : w0.grownBy w2 (some w.heap.size) := grownBy_trans g1 g2
  have G2 : Gr w w2 := Below.trans g0 (grownBy_below gg g0.size (by intro k hk; injection hk with hk; omega))
  have ne : ∀ n k : Nat, n ≠ k → Lit.int .u8 (n : Int) ≠ .int .u8 (k : Int) := fun n k hk e => hk (by injection e with _ e; exact_mod_cast e)
  refine ⟨w0, w1, w2, m0, r1, r2, G2, fun W hW n hn => ?_⟩
  obtain ⟨e1, e2⟩ := MapO.look W K5 Tryz.underlying74 (z := .nilFunc) (by rfl) (o2.below hW) (key5 n hn)
  by_cases h8 : n = 8
  · subst h8
    obtain ⟨v, ps, hr, hrun⟩ := e2 _ ((b2 _ (ne 8 9 (by decide))).trans a1)
    rw [hrun, RF_inv hr]; rfl
  · by_cases h9 : n = 9
    · subst h9
      obtain ⟨v, ps, hr, hrun⟩ := e2 _ a2
      rw [hrun, RF_inv hr]; rfl
    · rw [e1 (by rw [b2 _ (ne n 9 h9), b1 _ (ne n 8 h8)])]
      unfold doF isD
      rw [if_neg h8, if_neg h9]
      have h3 : (n == 8) = false := by simp [h8]
      have h4 : (n == 9) = false := by simp [h9]
      rw [h3, h4]; rfl
end Go.Proofs.YtpcpijecibiibaaGreat
end
section
set_option linter.unusedVariables false
set_option linter.unusedSimpArgs false
set_option maxRecDepth 100000
namespace Go.Proofs.YtpcpijecibiibaaGreat
open Go.RowKit
theorem opT_loadW {P : Program} {W : World} {o : Oper} {a : Act} {ops : Array Oper} {R : World → World → Prop} {V : Sp} {ty : TypeId} {n : Nat} (rt : RowTy P ty n) (x : Operand) (ho : o.op = .load ty x) (hw : Region.wanted o (yielded ops a.tmps) = true) {g : Nat} {cs : List Value} {t : TypeId} (hx : a.eval x = .pointer (some ⟨g, 0, none⟩)) (hg : CellsAt W g cs t) (hn : cs.length = n) (h : R W W ∧ V (.agg cs.toArray) W) : opT P R ops o a W V := by
  unfold opT
  rw [if_pos hw, exec_load rt x ho hx hg hn]
  exact h
/-- A token became another one. -/
def TabDid (w : World) (P : Nat → Prop) (g h : Nat) (ts : List Tok) (i : Nat) (t' : Tok) (w' : World) : Prop :=
  (∃ P' cur' fv' qv', TabP w' P' g h (ts.set i t') cur' fv' qv' ∧ (∀ k, P k → P' k) ∧ (∀ k, P' k → P k ∨ w.heap.size ≤ k) ∧ (∀ k, P' k → k < w'.heap.size)) ∧ Ch (fun k => P k ∧ k ≠ g) w w'
theorem next_did {w W' : World} {P : Nat → Prop} {g h : Nat} {ts : List Tok} {cur : List Value} {fv qv : Nat → Value} (T : TabP w P g h ts cur fv qv) (hw : ∀ k, P k → k < w.heap.size) (hh : P h) (hP : P g) (hg : h ≠ g) (i : Nat) (hi : i < ts.length) (t : Tok) (ht : t = ts[i]) (ep : Nat) (a : Int) (rest : List Int) (vq : Value)
    (c10 : Ch (fun k => k = h) w W') (ho : Own W' 0 3 vq (ints rest)) (KS : CellsAt W' h (((cur.set (i * 4) (.int .u64 (ep : Int))).set (i * 4 + 1) (.int .i64 a)).set (i * 4 + 3) vq) 68) (hv : ∀ k, vq.ownBlock = some k → w.heap.size ≤ k) :
    TabDid w P g h ts i ⟨ep, a, t.frontier, rest⟩ W' := by
  subst ht
  have tk := T.tok i hi
  have sz := T.sz
  have hgl := hw g hP
  have hhl := hw h hh
  have c11 : Ch (fun k => k = h ∨ (qv i).ownBlock = some k) w W' := ch_mono c10 fun k hk => .inl hk
  have hvl : ∀ k, vq.ownBlock = some k → k < W'.heap.size := fun k hk => (World.ownsRow.lt ho k hk).2
  have hset : ∀ j, j ≠ i * 4 → j ≠ i * 4 + 1 → j ≠ i * 4 + 3 → (((cur.set (i * 4) (.int .u64 (ep : Int))).set (i * 4 + 1) (.int .i64 a)).set (i * 4 + 3) vq)[j]? = cur[j]? := fun j h1 h2 h3 => by
    rw [List.getElem?_set_ne (fun e => h3 e.symm), List.getElem?_set_ne (fun e => h2 e.symm), List.getElem?_set_ne (fun e => h1 e.symm)]
  have tok' : TokP W' (fun k => P k ∨ (w.heap.size ≤ k ∧ k < W'.heap.size)) g h (((cur.set (i * 4) (.int .u64 (ep : Int))).set (i * 4 + 1) (.int .i64 a)).set (i * 4 + 3) vq) i ⟨ep, a, ts[i].frontier, rest⟩ (fv i) vq :=
    ⟨by rw [List.getElem?_set_ne (by omega), List.getElem?_set_ne (by omega), List.getElem?_set_self (by omega)], by rw [List.getElem?_set_ne (by omega), List.getElem?_set_self (by simp; omega)], by rw [hset _ (by omega) (by omega) (by omega)]; exact tk.c2, by rw [List.getElem?_set_self (by simp; omega)],
      tk.fs.ch c10 (fun k hk hr => (tk.fb k hk).2.2 hr), ho, fun k hk => ⟨.inl (tk.fb k hk).1, (tk.fb k hk).2⟩, fun k hk => ⟨.inr ⟨hv k hk, hvl k hk⟩, by have := hv k hk; exact ⟨by omega, by omega⟩⟩⟩
  refine ⟨⟨fun k => P k ∨ (w.heap.size ≤ k ∧ k < W'.heap.size), _, _, _, T.upd i hi ⟨ep, a, ts[i].frontier, rest⟩ (fv i) vq c11 (fun k hk => .inl hk) hw KS (by simp) (fun j hj => hset j (by omega) (by omega) (by omega)) (fun k hk => hk) tok' (fun k hk => .inl hk) (fun k hk => .inr (hv k hk)) (fun k hk => ?_), fun k hk => .inl hk, fun k hk => hk.imp id (fun h => h.1), fun k hk => ?_⟩, ch_mono c10 fun k hk => ?_⟩
  · intro h2
    have := hw k (tk.fb k h2).1
    have := hv k hk
    omega
  · rcases hk with hk | hk
    · have := hw k hk; have := c10.size; omega
    · exact hk.2
  · have : k = h := hk
    subst this
    exact ⟨hh, hg⟩
theorem sl_tail {w : World} {b n c : Nat} {x : Int} {xs : List Int} (h : Sl w (.slice (some ⟨b, 0, none⟩) (n + 1) c) (ints (x :: xs))) : Sl w (.slice (some ⟨b, 1, none⟩) n (c - 1)) (ints xs) := by
  obtain ⟨a', c', he, hc, hx⟩ := h
  rw [ints_length] at he hc
  injection he with e1 e2 e3
  subst e1 e3
  have hn : n = xs.length := by simpa using e2
  refine ⟨_, _, by rw [ints_length, hn], by rw [ints_length]; simp at hc; omega, ?_⟩
  rcases hx with hx | ⟨b', o', e, hb, hcell⟩
  · cases hx
  · injection e with e
    injection e with e4 e5
    subst e4 e5
    refine .inr ⟨b, 1, rfl, hb, fun k hk => ?_⟩
    rw [ints_length] at hk
    have := hcell (k + 1) (by rw [ints_length]; simpa using hk)
    rw [show 1 + k = 0 + (k + 1) by omega, this]
    rfl
set_option maxHeartbeats 8000000 in
theorem apply_no1 (w : World) (P : Nat → Prop) (gv : Value) (r : RegD) (h : RegV w P gv r) (v : Value) (l : List UInt8) (hs : Sl w v (bytes l)) (hl : l.length ≤ 1000000000)
    (hno : (getV l).2 ≠ 0) : Calls Tryz.prog 12 #[gv, v] w fun e w' => e = .returned (.tuple #[]) ∧ Gr w w' := by
  obtain ⟨a, cap, rfl⟩ := hs.oneCells
  rw [bytes_length] at hs ⊢
  have GET := Lib.hid (get_any w _ l hs hl)
  obtain ⟨x, hx⟩ : ∃ x, x = (getV l).1 := ⟨_, rfl⟩
  obtain ⟨ne, hne⟩ : ∃ ne, ne = (getV l).2 := ⟨_, rfl⟩
  have RG : Hid (∀ W e W', RetGet W l e W' → ∃ q, e = .returned (.tuple #[.agg (entCells x q).toArray, .int .i64 ne]) ∧ EntP (From W.heap.size) W' x q ∧ Gr W W') := Lib.hid fun W e W' h => by rw [hx, hne]; exact h
  have XOK : Hid (EntOk x) := Lib.hid (by rw [hx]; exact (getV_all l).2.2.1)
  have ATS : Hid (∀ W, Gr w W → Calls Tryz.prog 28 #[gv, .int .i64 x.region] W (RetAt W r x.region)) := Lib.hid fun W hW => at_any W P gv r (by
    rcases h with h | ⟨g, e, h⟩
    · exact .inl h
    · exact .inr ⟨g, e, h.gr hW⟩) x.region
  have SIT : Hid (inG r x.region = true → ∃ g, gv = .pointer (some ⟨g, 0, none⟩) ∧ ∀ W, Gr w W → W.cell? ⟨g, 0, none⟩ = some (.int .i64 r.sites)) := Lib.hid fun hi => by
    rcases h with ⟨h1, h2⟩ | ⟨g, e, h⟩
    · rw [h2] at hi
      unfold inG at hi
      simp at hi; omega
    · obtain ⟨_, _, a, c, K, _⟩ := h
      exact ⟨g, e, fun W hW => (K.gr hW).cell 0⟩
  have HNO : Hid (ne ≠ 0) := Lib.hid (by (try rw [hx]); rw [hne]; exact hno)
  clear hno h hs hx hne
  go_enter Tryz.func12, Tryz.ntmps12
  go_wp2_with fail
  refine GET.out.mono ?_
  intro en w1 hr1
  obtain ⟨q, rfl, p1, g1⟩ := RG.out _ _ _ hr1
  obtain ⟨E, hE⟩ : ∃ E, E = entCells x q := ⟨_, rfl⟩
  have EN : Hid (E.length = 23) := Lib.hid (by rw [hE]; rfl)
  have E1 : Hid (oneAll E) := Lib.hid (by rw [hE]; exact p1.one)
  have CE : Hid (∀ W b, CellsAt W b E 44 → W.cell? ⟨b, 0, none⟩ = some (.int .u8 (x.kind : Int)) ∧ W.cell? ⟨b, 19, none⟩ = some (.int .i64 x.site) ∧ W.cell? ⟨b, 20, none⟩ = some (.int .i64 x.region)) := Lib.hid fun W b hk => by rw [hE] at hk; exact ⟨hk.cell 0, hk.cell 19, hk.cell 20⟩
  have HE := Lib.hid hE
  have P1 := Lib.hid p1
  rw [← hE]
  clear hr1 hE p1
  go_wp2_with (first | (refine wpList_storeE entTy _ _ rfl rfl rfl rfl (CellsAt.new _ _ _) EN.out rfl E1.out ?_) | fail)
  intro w2 k2 ch2
  have g2 : Gr w1 w2 := Below.trans ((Gr.refl w1).alloc _) (ch2.below ((Gr.refl w1).alloc _).size (fun k hk => by have : k = w1.heap.size := hk; omega))
  obtain ⟨b4, hb4⟩ : ∃ b, b = w1.heap.size := ⟨_, rfl⟩
  rw [← hb4] at k2 ⊢
  obtain ⟨w3, w4, w5, m0, r1, r2, g5, look⟩ := does_map w2
  have K5 := Lib.hid (k2.gr g5)
  have G5 := Lib.hid (g1.trans (g2.trans g5))
  have G25 := Lib.hid (g2.trans g5)
  have B4 : Hid (w.heap.size ≤ b4) := Lib.hid (by rw [hb4]; exact g1.size)
  obtain ⟨c0, _, c20⟩ := CE.out w5 b4 K5.out
  have lk := look w5 (Gr.refl _) x.kind XOK.out.kind
  clear k2 ch2 g1 g2 g5 look hb4
  go_wp2_with fail
  refine (ATS.out w5 G5.out).mono ?_
  rintro en w6 ⟨b, o, rfl, _, g6⟩
  have G6 := Lib.hid (G5.out.trans g6)
  have K6 := Lib.hid (K5.out.gr g6)
  have CK : Hid (∀ W, Gr w6 W → W.cell? ⟨b4, 19, none⟩ = some (.int .i64 x.site)) := Lib.hid fun W hW => (CE.out W b4 (K6.out.gr hW)).2.1
  have GD := Lib.hid ((Gr.refl w6).drew)
  obtain ⟨z, hz⟩ : ∃ z, z = inG r x.region := ⟨_, rfl⟩
  obtain ⟨d, hd⟩ : ∃ d, d = isD x.kind := ⟨_, rfl⟩
  have hno := HNO.out
  (try rw [← hz] at hno)
  rw [← hz] at SIT ⊢
  (try rw [← hd] at hno)
  rw [← hd] at lk ⊢
  clear hd hz c0 c20 lk m0 r1 r2 g6 ATS HNO GET RG
  have hq : (ne == 0) = false := by simp [hno]
  have hq1 : (ne != 0) = true := by simp [hno]
  go_wp2_with fail
  apply wp_region_draw_grow (.eq _ :: .eq _ :: .eq _ :: .eq _ :: .eq _ :: .eq _ :: .eq _ :: .eq _ :: .eq _ :: .eq _ :: .eq _ :: .eq _ :: .eq _ :: .eq _ :: .eq _ :: .eq _ :: .eq _ :: .eq _ :: .eq _ :: .eq _ :: .eq _ :: .eq _ :: .eq _ :: .eq _ :: .eq _ :: .eq _ :: .eq _ :: .eq _ :: .eq _ :: .eq _ :: .eq _ :: []) (by kernel_rfl) (by kernel_rfl) trivial
  iterate 31
   apply wpG_eq
   · intro W hW hs
     unfold opG
     go_simp
     first | exact resG_eq_mk _ _ _ | rfl
   simp only [Act.put, pt1, pt2, pt3]
  apply wpG_nil
  intro W9 hW9 hsAll
  clear hsAll
  have G9 := Lib.hid (G6.out.trans (GD.out.trans hW9))
  clear hW9
  go_wp2
  refine bodyPost_ret (results_none rfl _ _ _) rfl ?_
  exact ⟨rfl, G9.out⟩
set_option maxHeartbeats 8000000 in
theorem apply_no2 (w : World) (P : Nat → Prop) (gv : Value) (r : RegD) (h : RegV w P gv r) (v : Value) (l : List UInt8) (hs : Sl w v (bytes l)) (hl : l.length ≤ 1000000000)
    (hno : (getV l).2 = 0 ∧ isD (getV l).1.kind = false) : Calls Tryz.prog 12 #[gv, v] w fun e w' => e = .returned (.tuple #[]) ∧ Gr w w' := by
  obtain ⟨a, cap, rfl⟩ := hs.oneCells
  rw [bytes_length] at hs ⊢
  have GET := Lib.hid (get_any w _ l hs hl)
  obtain ⟨x, hx⟩ : ∃ x, x = (getV l).1 := ⟨_, rfl⟩
  obtain ⟨ne, hne⟩ : ∃ ne, ne = (getV l).2 := ⟨_, rfl⟩
  have RG : Hid (∀ W e W', RetGet W l e W' → ∃ q, e = .returned (.tuple #[.agg (entCells x q).toArray, .int .i64 ne]) ∧ EntP (From W.heap.size) W' x q ∧ Gr W W') := Lib.hid fun W e W' h => by rw [hx, hne]; exact h
  have XOK : Hid (EntOk x) := Lib.hid (by rw [hx]; exact (getV_all l).2.2.1)
  have ATS : Hid (∀ W, Gr w W → Calls Tryz.prog 28 #[gv, .int .i64 x.region] W (RetAt W r x.region)) := Lib.hid fun W hW => at_any W P gv r (by
    rcases h with h | ⟨g, e, h⟩
    · exact .inl h
    · exact .inr ⟨g, e, h.gr hW⟩) x.region
  have SIT : Hid (inG r x.region = true → ∃ g, gv = .pointer (some ⟨g, 0, none⟩) ∧ ∀ W, Gr w W → W.cell? ⟨g, 0, none⟩ = some (.int .i64 r.sites)) := Lib.hid fun hi => by
    rcases h with ⟨h1, h2⟩ | ⟨g, e, h⟩
    · rw [h2] at hi
      unfold inG at hi
      simp at hi; omega
    · obtain ⟨_, _, a, c, K, _⟩ := h
      exact ⟨g, e, fun W hW => (K.gr hW).cell 0⟩
  have HNO : Hid (ne = 0 ∧ isD x.kind = false) := Lib.hid (by (try rw [hx]); rw [hne]; exact hno)
  clear hno h hs hx hne
  go_enter Tryz.func12, Tryz.ntmps12
  go_wp2_with fail
  refine GET.out.mono ?_
  intro en w1 hr1
  obtain ⟨q, rfl, p1, g1⟩ := RG.out _ _ _ hr1
  obtain ⟨E, hE⟩ : ∃ E, E = entCells x q := ⟨_, rfl⟩
  have EN : Hid (E.length = 23) := Lib.hid (by rw [hE]; rfl)
  have E1 : Hid (oneAll E) := Lib.hid (by rw [hE]; exact p1.one)
  have CE : Hid (∀ W b, CellsAt W b E 44 → W.cell? ⟨b, 0, none⟩ = some (.int .u8 (x.kind : Int)) ∧ W.cell? ⟨b, 19, none⟩ = some (.int .i64 x.site) ∧ W.cell? ⟨b, 20, none⟩ = some (.int .i64 x.region)) := Lib.hid fun W b hk => by rw [hE] at hk; exact ⟨hk.cell 0, hk.cell 19, hk.cell 20⟩
  have HE := Lib.hid hE
  have P1 := Lib.hid p1
  rw [← hE]
  clear hr1 hE p1
  go_wp2_with (first | (refine wpList_storeE entTy _ _ rfl rfl rfl rfl (CellsAt.new _ _ _) EN.out rfl E1.out ?_) | fail)
  intro w2 k2 ch2
  have g2 : Gr w1 w2 := Below.trans ((Gr.refl w1).alloc _) (ch2.below ((Gr.refl w1).alloc _).size (fun k hk => by have : k = w1.heap.size := hk; omega))
  obtain ⟨b4, hb4⟩ : ∃ b, b = w1.heap.size := ⟨_, rfl⟩
  rw [← hb4] at k2 ⊢
  obtain ⟨w3, w4, w5, m0, r1, r2, g5, look⟩ := does_map w2
  have K5 := Lib.hid (k2.gr g5)
  have G5 := Lib.hid (g1.trans (g2.trans g5))
  have G25 := Lib.hid (g2.trans g5)
  have B4 : Hid (w.heap.size ≤ b4) := Lib.hid (by rw [hb4]; exact g1.size)
  obtain ⟨c0, _, c20⟩ := CE.out w5 b4 K5.out
  have lk := look w5 (Gr.refl _) x.kind XOK.out.kind
  clear k2 ch2 g1 g2 g5 look hb4
  go_wp2_with fail
  refine (ATS.out w5 G5.out).mono ?_
  rintro en w6 ⟨b, o, rfl, _, g6⟩
  have G6 := Lib.hid (G5.out.trans g6)
  have K6 := Lib.hid (K5.out.gr g6)
  have CK : Hid (∀ W, Gr w6 W → W.cell? ⟨b4, 19, none⟩ = some (.int .i64 x.site)) := Lib.hid fun W hW => (CE.out W b4 (K6.out.gr hW)).2.1
  have GD := Lib.hid ((Gr.refl w6).drew)
  obtain ⟨z, hz⟩ : ∃ z, z = inG r x.region := ⟨_, rfl⟩
  obtain ⟨d, hd⟩ : ∃ d, d = isD x.kind := ⟨_, rfl⟩
  have hno := HNO.out
  (try rw [← hz] at hno)
  rw [← hz] at SIT ⊢
  (try rw [← hd] at hno)
  rw [← hd] at lk ⊢
  clear hd hz c0 c20 lk m0 r1 r2 g6 ATS HNO GET RG
  obtain ⟨rfl, rfl⟩ := hno
  go_wp2_with fail
  apply wp_region_draw_grow (.eq _ :: .eq _ :: .eq _ :: .eq _ :: .eq _ :: .eq _ :: .eq _ :: .eq _ :: .eq _ :: .eq _ :: .eq _ :: .eq _ :: .eq _ :: .eq _ :: .eq _ :: .eq _ :: .eq _ :: .eq _ :: .eq _ :: .eq _ :: .eq _ :: .eq _ :: .eq _ :: .eq _ :: .eq _ :: .eq _ :: .eq _ :: .eq _ :: .eq _ :: .eq _ :: .eq _ :: []) (by kernel_rfl) (by kernel_rfl) trivial
  iterate 31
   apply wpG_eq
   · intro W hW hs
     unfold opG
     go_simp
     first | exact resG_eq_mk _ _ _ | rfl
   simp only [Act.put, pt1, pt2, pt3]
  apply wpG_nil
  intro W9 hW9 hsAll
  clear hsAll
  have G9 := Lib.hid (G6.out.trans (GD.out.trans hW9))
  clear hW9
  go_wp2
  refine bodyPost_ret (results_none rfl _ _ _) rfl ?_
  exact ⟨rfl, G9.out⟩
set_option maxHeartbeats 8000000 in
theorem apply_no3 (w : World) (P : Nat → Prop) (gv : Value) (r : RegD) (h : RegV w P gv r) (v : Value) (l : List UInt8) (hs : Sl w v (bytes l)) (hl : l.length ≤ 1000000000)
    (hno : (getV l).2 = 0 ∧ isD (getV l).1.kind = true ∧ inG r (getV l).1.region = false) : Calls Tryz.prog 12 #[gv, v] w fun e w' => e = .returned (.tuple #[]) ∧ Gr w w' := by
  obtain ⟨a, cap, rfl⟩ := hs.oneCells
  rw [bytes_length] at hs ⊢
  have GET := Lib.hid (get_any w _ l hs hl)
  obtain ⟨x, hx⟩ : ∃ x, x = (getV l).1 := ⟨_, rfl⟩
  obtain ⟨ne, hne⟩ : ∃ ne, ne = (getV l).2 := ⟨_, rfl⟩
  have RG : Hid (∀ W e W', RetGet W l e W' → ∃ q, e = .returned (.tuple #[.agg (entCells x q).toArray, .int .i64 ne]) ∧ EntP (From W.heap.size) W' x q ∧ Gr W W') := Lib.hid fun W e W' h => by rw [hx, hne]; exact h
  have XOK : Hid (EntOk x) := Lib.hid (by rw [hx]; exact (getV_all l).2.2.1)
  have ATS : Hid (∀ W, Gr w W → Calls Tryz.prog 28 #[gv, .int .i64 x.region] W (RetAt W r x.region)) := Lib.hid fun W hW => at_any W P gv r (by
    rcases h with h | ⟨g, e, h⟩
    · exact .inl h
    · exact .inr ⟨g, e, h.gr hW⟩) x.region
  have SIT : Hid (inG r x.region = true → ∃ g, gv = .pointer (some ⟨g, 0, none⟩) ∧ ∀ W, Gr w W → W.cell? ⟨g, 0, none⟩ = some (.int .i64 r.sites)) := Lib.hid fun hi => by
    rcases h with ⟨h1, h2⟩ | ⟨g, e, h⟩
    · rw [h2] at hi
      unfold inG at hi
      simp at hi; omega
    · obtain ⟨_, _, a, c, K, _⟩ := h
      exact ⟨g, e, fun W hW => (K.gr hW).cell 0⟩
  have HNO : Hid (ne = 0 ∧ isD x.kind = true ∧ inG r x.region = false) := Lib.hid (by (try rw [hx]); rw [hne]; exact hno)
  clear hno h hs hx hne
  go_enter Tryz.func12, Tryz.ntmps12
  go_wp2_with fail
  refine GET.out.mono ?_
  intro en w1 hr1
  obtain ⟨q, rfl, p1, g1⟩ := RG.out _ _ _ hr1
  obtain ⟨E, hE⟩ : ∃ E, E = entCells x q := ⟨_, rfl⟩
  have EN : Hid (E.length = 23) := Lib.hid (by rw [hE]; rfl)
  have E1 : Hid (oneAll E) := Lib.hid (by rw [hE]; exact p1.one)
  have CE : Hid (∀ W b, CellsAt W b E 44 → W.cell? ⟨b, 0, none⟩ = some (.int .u8 (x.kind : Int)) ∧ W.cell? ⟨b, 19, none⟩ = some (.int .i64 x.site) ∧ W.cell? ⟨b, 20, none⟩ = some (.int .i64 x.region)) := Lib.hid fun W b hk => by rw [hE] at hk; exact ⟨hk.cell 0, hk.cell 19, hk.cell 20⟩
  have HE := Lib.hid hE
  have P1 := Lib.hid p1
  rw [← hE]
  clear hr1 hE p1
  go_wp2_with (first | (refine wpList_storeE entTy _ _ rfl rfl rfl rfl (CellsAt.new _ _ _) EN.out rfl E1.out ?_) | fail)
  intro w2 k2 ch2
  have g2 : Gr w1 w2 := Below.trans ((Gr.refl w1).alloc _) (ch2.below ((Gr.refl w1).alloc _).size (fun k hk => by have : k = w1.heap.size := hk; omega))
  obtain ⟨b4, hb4⟩ : ∃ b, b = w1.heap.size := ⟨_, rfl⟩
  rw [← hb4] at k2 ⊢
  obtain ⟨w3, w4, w5, m0, r1, r2, g5, look⟩ := does_map w2
  have K5 := Lib.hid (k2.gr g5)
  have G5 := Lib.hid (g1.trans (g2.trans g5))
  have G25 := Lib.hid (g2.trans g5)
  have B4 : Hid (w.heap.size ≤ b4) := Lib.hid (by rw [hb4]; exact g1.size)
  obtain ⟨c0, _, c20⟩ := CE.out w5 b4 K5.out
  have lk := look w5 (Gr.refl _) x.kind XOK.out.kind
  clear k2 ch2 g1 g2 g5 look hb4
  go_wp2_with fail
  refine (ATS.out w5 G5.out).mono ?_
  rintro en w6 ⟨b, o, rfl, _, g6⟩
  have G6 := Lib.hid (G5.out.trans g6)
  have K6 := Lib.hid (K5.out.gr g6)
  have CK : Hid (∀ W, Gr w6 W → W.cell? ⟨b4, 19, none⟩ = some (.int .i64 x.site)) := Lib.hid fun W hW => (CE.out W b4 (K6.out.gr hW)).2.1
  have GD := Lib.hid ((Gr.refl w6).drew)
  obtain ⟨z, hz⟩ : ∃ z, z = inG r x.region := ⟨_, rfl⟩
  obtain ⟨d, hd⟩ : ∃ d, d = isD x.kind := ⟨_, rfl⟩
  have hno := HNO.out
  (try rw [← hz] at hno)
  rw [← hz] at SIT ⊢
  (try rw [← hd] at hno)
  rw [← hd] at lk ⊢
  clear hd hz c0 c20 lk m0 r1 r2 g6 ATS HNO GET RG
  obtain ⟨rfl, rfl, rfl⟩ := hno
  go_wp2_with fail
  apply wp_region_draw_grow (.eq _ :: .eq _ :: .eq _ :: .eq _ :: .eq _ :: .eq _ :: .eq _ :: .eq _ :: .eq _ :: .eq _ :: .eq _ :: .eq _ :: .eq _ :: .eq _ :: .eq _ :: .eq _ :: .eq _ :: .eq _ :: .eq _ :: .eq _ :: .eq _ :: .eq _ :: .eq _ :: .eq _ :: .eq _ :: .eq _ :: .eq _ :: .eq _ :: .eq _ :: .eq _ :: .eq _ :: []) (by kernel_rfl) (by kernel_rfl) trivial
  iterate 31
   apply wpG_eq
   · intro W hW hs
     unfold opG
     go_simp
     first | exact resG_eq_mk _ _ _ | rfl
   simp only [Act.put, pt1, pt2, pt3]
  apply wpG_nil
  intro W9 hW9 hsAll
  clear hsAll
  have G9 := Lib.hid (G6.out.trans (GD.out.trans hW9))
  clear hW9
  go_wp2
  refine bodyPost_ret (results_none rfl _ _ _) rfl ?_
  exact ⟨rfl, G9.out⟩
set_option maxHeartbeats 8000000 in
theorem apply_no4 (w : World) (P : Nat → Prop) (gv : Value) (r : RegD) (h : RegV w P gv r) (v : Value) (l : List UInt8) (hs : Sl w v (bytes l)) (hl : l.length ≤ 1000000000)
    (hno : (getV l).2 = 0 ∧ isD (getV l).1.kind = true ∧ inG r (getV l).1.region = true ∧ (getV l).1.site < 0) : Calls Tryz.prog 12 #[gv, v] w fun e w' => e = .returned (.tuple #[]) ∧ Gr w w' := by
  obtain ⟨a, cap, rfl⟩ := hs.oneCells
  rw [bytes_length] at hs ⊢
  have GET := Lib.hid (get_any w _ l hs hl)
  obtain ⟨x, hx⟩ : ∃ x, x = (getV l).1 := ⟨_, rfl⟩
  obtain ⟨ne, hne⟩ : ∃ ne, ne = (getV l).2 := ⟨_, rfl⟩
  have RG : Hid (∀ W e W', RetGet W l e W' → ∃ q, e = .returned (.tuple #[.agg (entCells x q).toArray, .int .i64 ne]) ∧ EntP (From W.heap.size) W' x q ∧ Gr W W') := Lib.hid fun W e W' h => by rw [hx, hne]; exact h
  have XOK : Hid (EntOk x) := Lib.hid (by rw [hx]; exact (getV_all l).2.2.1)
  have ATS : Hid (∀ W, Gr w W → Calls Tryz.prog 28 #[gv, .int .i64 x.region] W (RetAt W r x.region)) := Lib.hid fun W hW => at_any W P gv r (by
    rcases h with h | ⟨g, e, h⟩
    · exact .inl h
    · exact .inr ⟨g, e, h.gr hW⟩) x.region
  have SIT : Hid (inG r x.region = true → ∃ g, gv = .pointer (some ⟨g, 0, none⟩) ∧ ∀ W, Gr w W → W.cell? ⟨g, 0, none⟩ = some (.int .i64 r.sites)) := Lib.hid fun hi => by
    rcases h with ⟨h1, h2⟩ | ⟨g, e, h⟩
    · rw [h2] at hi
      unfold inG at hi
      simp at hi; omega
    · obtain ⟨_, _, a, c, K, _⟩ := h
      exact ⟨g, e, fun W hW => (K.gr hW).cell 0⟩
  have HNO : Hid (ne = 0 ∧ isD x.kind = true ∧ inG r x.region = true ∧ x.site < 0) := Lib.hid (by (try rw [hx]); rw [hne]; exact hno)
  clear hno h hs hx hne
  go_enter Tryz.func12, Tryz.ntmps12
  go_wp2_with fail
  refine GET.out.mono ?_
  intro en w1 hr1
  obtain ⟨q, rfl, p1, g1⟩ := RG.out _ _ _ hr1
  obtain ⟨E, hE⟩ : ∃ E, E = entCells x q := ⟨_, rfl⟩
  have EN : Hid (E.length = 23) := Lib.hid (by rw [hE]; rfl)
  have E1 : Hid (oneAll E) := Lib.hid (by rw [hE]; exact p1.one)
  have CE : Hid (∀ W b, CellsAt W b E 44 → W.cell? ⟨b, 0, none⟩ = some (.int .u8 (x.kind : Int)) ∧ W.cell? ⟨b, 19, none⟩ = some (.int .i64 x.site) ∧ W.cell? ⟨b, 20, none⟩ = some (.int .i64 x.region)) := Lib.hid fun W b hk => by rw [hE] at hk; exact ⟨hk.cell 0, hk.cell 19, hk.cell 20⟩
  have HE := Lib.hid hE
  have P1 := Lib.hid p1
  rw [← hE]
  clear hr1 hE p1
  go_wp2_with (first | (refine wpList_storeE entTy _ _ rfl rfl rfl rfl (CellsAt.new _ _ _) EN.out rfl E1.out ?_) | fail)
  intro w2 k2 ch2
  have g2 : Gr w1 w2 := Below.trans ((Gr.refl w1).alloc _) (ch2.below ((Gr.refl w1).alloc _).size (fun k hk => by have : k = w1.heap.size := hk; omega))
  obtain ⟨b4, hb4⟩ : ∃ b, b = w1.heap.size := ⟨_, rfl⟩
  rw [← hb4] at k2 ⊢
  obtain ⟨w3, w4, w5, m0, r1, r2, g5, look⟩ := does_map w2
  have K5 := Lib.hid (k2.gr g5)
  have G5 := Lib.hid (g1.trans (g2.trans g5))
  have G25 := Lib.hid (g2.trans g5)
  have B4 : Hid (w.heap.size ≤ b4) := Lib.hid (by rw [hb4]; exact g1.size)
  obtain ⟨c0, _, c20⟩ := CE.out w5 b4 K5.out
  have lk := look w5 (Gr.refl _) x.kind XOK.out.kind
  clear k2 ch2 g1 g2 g5 look hb4
  go_wp2_with fail
  refine (ATS.out w5 G5.out).mono ?_
  rintro en w6 ⟨b, o, rfl, _, g6⟩
  have G6 := Lib.hid (G5.out.trans g6)
  have K6 := Lib.hid (K5.out.gr g6)
  have CK : Hid (∀ W, Gr w6 W → W.cell? ⟨b4, 19, none⟩ = some (.int .i64 x.site)) := Lib.hid fun W hW => (CE.out W b4 (K6.out.gr hW)).2.1
  have GD := Lib.hid ((Gr.refl w6).drew)
  obtain ⟨z, hz⟩ : ∃ z, z = inG r x.region := ⟨_, rfl⟩
  obtain ⟨d, hd⟩ : ∃ d, d = isD x.kind := ⟨_, rfl⟩
  have hno := HNO.out
  (try rw [← hz] at hno)
  rw [← hz] at SIT ⊢
  (try rw [← hd] at hno)
  rw [← hd] at lk ⊢
  clear hd hz c0 c20 lk m0 r1 r2 g6 ATS HNO GET RG
  obtain ⟨rfl, rfl, rfl, hsi⟩ := hno
  go_wp2_with fail
  apply wp_region_draw_grow (.eq _ :: .eq _ :: .eq _ :: .eq _ :: .eq _ :: .eq _ :: .eq _ :: .eq _ :: .eq _ :: .eq _ :: .eq _ :: .eq _ :: .eq _ :: .eq _ :: .eq _ :: .eq _ :: .eq _ :: .eq _ :: .eq _ :: .eq _ :: .eq _ :: .eq _ :: .eq _ :: .eq _ :: .eq _ :: .eq _ :: .eq _ :: .eq _ :: .eq _ :: .eq _ :: .eq _ :: []) (by kernel_rfl) (by kernel_rfl) trivial
  iterate 31
   apply wpG_eq
   · intro W hW hs
     have y19 := CK.out W (GD.out.trans hW)
     unfold opG
     go_simp
     first | exact resG_eq_mk _ _ _ | rfl
   simp only [Act.put, pt1, pt2, pt3]
  apply wpG_nil
  intro W9 hW9 hsAll
  clear hsAll
  have G9 := Lib.hid (G6.out.trans (GD.out.trans hW9))
  clear hW9
  go_wp2
  refine bodyPost_ret (results_none rfl _ _ _) rfl ?_
  exact ⟨rfl, G9.out⟩
set_option maxHeartbeats 8000000 in
theorem apply_no5 (w : World) (P : Nat → Prop) (gv : Value) (r : RegD) (h : RegV w P gv r) (v : Value) (l : List UInt8) (hs : Sl w v (bytes l)) (hl : l.length ≤ 1000000000)
    (hno : (getV l).2 = 0 ∧ isD (getV l).1.kind = true ∧ inG r (getV l).1.region = true ∧ 0 ≤ (getV l).1.site ∧ r.sites ≤ (getV l).1.site) : Calls Tryz.prog 12 #[gv, v] w fun e w' => e = .returned (.tuple #[]) ∧ Gr w w' := by
  obtain ⟨a, cap, rfl⟩ := hs.oneCells
  rw [bytes_length] at hs ⊢
  have GET := Lib.hid (get_any w _ l hs hl)
  obtain ⟨x, hx⟩ : ∃ x, x = (getV l).1 := ⟨_, rfl⟩
  obtain ⟨ne, hne⟩ : ∃ ne, ne = (getV l).2 := ⟨_, rfl⟩
  have RG : Hid (∀ W e W', RetGet W l e W' → ∃ q, e = .returned (.tuple #[.agg (entCells x q).toArray, .int .i64 ne]) ∧ EntP (From W.heap.size) W' x q ∧ Gr W W') := Lib.hid fun W e W' h => by rw [hx, hne]; exact h
  have XOK : Hid (EntOk x) := Lib.hid (by rw [hx]; exact (getV_all l).2.2.1)
  have ATS : Hid (∀ W, Gr w W → Calls Tryz.prog 28 #[gv, .int .i64 x.region] W (RetAt W r x.region)) := Lib.hid fun W hW => at_any W P gv r (by
    rcases h with h | ⟨g, e, h⟩
    · exact .inl h
    · exact .inr ⟨g, e, h.gr hW⟩) x.region
  have SIT : Hid (inG r x.region = true → ∃ g, gv = .pointer (some ⟨g, 0, none⟩) ∧ ∀ W, Gr w W → W.cell? ⟨g, 0, none⟩ = some (.int .i64 r.sites)) := Lib.hid fun hi => by
    rcases h with ⟨h1, h2⟩ | ⟨g, e, h⟩
    · rw [h2] at hi
      unfold inG at hi
      simp at hi; omega
    · obtain ⟨_, _, a, c, K, _⟩ := h
      exact ⟨g, e, fun W hW => (K.gr hW).cell 0⟩
  have HNO : Hid (ne = 0 ∧ isD x.kind = true ∧ inG r x.region = true ∧ 0 ≤ x.site ∧ r.sites ≤ x.site) := Lib.hid (by (try rw [hx]); rw [hne]; exact hno)
  clear hno h hs hx hne
  go_enter Tryz.func12, Tryz.ntmps12
  go_wp2_with fail
  refine GET.out.mono ?_
  intro en w1 hr1
  obtain ⟨q, rfl, p1, g1⟩ := RG.out _ _ _ hr1
  obtain ⟨E, hE⟩ : ∃ E, E = entCells x q := ⟨_, rfl⟩
  have EN : Hid (E.length = 23) := Lib.hid (by rw [hE]; rfl)
  have E1 : Hid (oneAll E) := Lib.hid (by rw [hE]; exact p1.one)
  have CE : Hid (∀ W b, CellsAt W b E 44 → W.cell? ⟨b, 0, none⟩ = some (.int .u8 (x.kind : Int)) ∧ W.cell? ⟨b, 19, none⟩ = some (.int .i64 x.site) ∧ W.cell? ⟨b, 20, none⟩ = some (.int .i64 x.region)) := Lib.hid fun W b hk => by rw [hE] at hk; exact ⟨hk.cell 0, hk.cell 19, hk.cell 20⟩
  have HE := Lib.hid hE
  have P1 := Lib.hid p1
  rw [← hE]
  clear hr1 hE p1
  go_wp2_with (first | (refine wpList_storeE entTy _ _ rfl rfl rfl rfl (CellsAt.new _ _ _) EN.out rfl E1.out ?_) | fail)
  intro w2 k2 ch2
  have g2 : Gr w1 w2 := Below.trans ((Gr.refl w1).alloc _) (ch2.below ((Gr.refl w1).alloc _).size (fun k hk => by have : k = w1.heap.size := hk; omega))
  obtain ⟨b4, hb4⟩ : ∃ b, b = w1.heap.size := ⟨_, rfl⟩
  rw [← hb4] at k2 ⊢
  obtain ⟨w3, w4, w5, m0, r1, r2, g5, look⟩ := does_map w2
  have K5 := Lib.hid (k2.gr g5)
  have G5 := Lib.hid (g1.trans (g2.trans g5))
  have G25 := Lib.hid (g2.trans g5)
  have B4 : Hid (w.heap.size ≤ b4) := Lib.hid (by rw [hb4]; exact g1.size)
  obtain ⟨c0, _, c20⟩ := CE.out w5 b4 K5.out
  have lk := look w5 (Gr.refl _) x.kind XOK.out.kind
  clear k2 ch2 g1 g2 g5 look hb4
  go_wp2_with fail
  refine (ATS.out w5 G5.out).mono ?_
  rintro en w6 ⟨b, o, rfl, _, g6⟩
  have G6 := Lib.hid (G5.out.trans g6)
  have K6 := Lib.hid (K5.out.gr g6)
  have CK : Hid (∀ W, Gr w6 W → W.cell? ⟨b4, 19, none⟩ = some (.int .i64 x.site)) := Lib.hid fun W hW => (CE.out W b4 (K6.out.gr hW)).2.1
  have GD := Lib.hid ((Gr.refl w6).drew)
  obtain ⟨z, hz⟩ : ∃ z, z = inG r x.region := ⟨_, rfl⟩
  obtain ⟨d, hd⟩ : ∃ d, d = isD x.kind := ⟨_, rfl⟩
  have hno := HNO.out
  (try rw [← hz] at hno)
  rw [← hz] at SIT ⊢
  (try rw [← hd] at hno)
  rw [← hd] at lk ⊢
  clear hd hz c0 c20 lk m0 r1 r2 g6 ATS HNO GET RG
  obtain ⟨rfl, rfl, rfl, hsi, hsi2⟩ := hno
  obtain ⟨g, rfl, SG⟩ := SIT.out rfl
  have SGH : Hid (∀ W, Gr w6 W → W.cell? ⟨g, 0, none⟩ = some (.int .i64 r.sites)) := Lib.hid fun W hW => SG W (G6.out.trans hW)
  have hq3 : ¬ x.site < 0 := by omega
  clear SG SIT
  go_wp2_with fail
  apply wp_region_draw_grow (.eq _ :: .eq _ :: .eq _ :: .eq _ :: .eq _ :: .eq _ :: .eq _ :: .eq _ :: .eq _ :: .eq _ :: .eq _ :: .eq _ :: .eq _ :: .eq _ :: .eq _ :: .eq _ :: .eq _ :: .eq _ :: .eq _ :: .eq _ :: .eq _ :: .eq _ :: .eq _ :: .eq _ :: .eq _ :: .eq _ :: .eq _ :: .eq _ :: .eq _ :: .eq _ :: .eq _ :: []) (by kernel_rfl) (by kernel_rfl) trivial
  iterate 31
   apply wpG_eq
   · intro W hW hs
     have y19 := CK.out W (GD.out.trans hW)
     have ys := SGH.out W (GD.out.trans hW)
     unfold opG
     go_simp
     first | exact resG_eq_mk _ _ _ | rfl
   simp only [Act.put, pt1, pt2, pt3]
  apply wpG_nil
  intro W9 hW9 hsAll
  clear hsAll
  have G9 := Lib.hid (G6.out.trans (GD.out.trans hW9))
  clear hW9
  go_wp2
  refine bodyPost_ret (results_none rfl _ _ _) rfl ?_
  exact ⟨rfl, G9.out⟩
end Go.Proofs.YtpcpijecibiibaaGreat
end
