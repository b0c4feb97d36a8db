/-
  The document's Apply: what it does to a token.
-/
import Derived.Test.YtpcpijecibiibaaGreatZRfApply
set_option linter.unusedVariables false
set_option linter.unusedSimpArgs false
set_option maxRecDepth 100000
namespace Go.Proofs.YtpcpijecibiibaaGreat
open Go.RowKit
/-- A token of the document's became another one. -/
def RDid (W : World) (P : Nat → Prop) (g h : Nat) (ts : List Tok) (i : Nat) (t' : Tok) (W' : World) : Prop :=
  (∃ P' cur' fv' qv', RTab W' P' g h (ts.set i t') cur' fv' qv' ∧ (∀ k, P k → P' k) ∧ (∀ k, P' k → P k ∨ W.heap.size ≤ k) ∧ ∀ k, P' k → k < W'.heap.size) ∧ Ch (fun k => k = h) W W'
theorem RDid.same {W W' : World} {P : Nat → Prop} {g h : Nat} {ts : List Tok} {cur : List Value} {fv qv : Nat → Value} (T : RTab W P g h ts cur fv qv) (hw : ∀ k, P k → k < W.heap.size) (i : Nat) (hi : i < ts.length) (gr : Gr W W') : RDid W P g h ts i ts[i] W' := by
  have c : Ch (fun _ => False) W W' := Ch.of_gr gr
  refine ⟨⟨P, cur, fv, qv, ?_, fun k h => h, fun k h => .inl h, fun k h => Nat.lt_of_lt_of_le (hw k h) gr.size⟩, ch_mono c fun _ h => h.elim⟩
  rw [List.set_getElem_self]
  exact T.keep c (fun h => h) (fun _ _ _ _ h => h) (fun _ h => h)
def row4 (cur : List Value) (i : Nat) (a b c d : Value) : List Value := (((cur.set (i * 4) a).set (i * 4 + 1) b).set (i * 4 + 2) c).set (i * 4 + 3) d
theorem row4_out (cur : List Value) (i : Nat) (a b c d : Value) (j : Nat) (h : j < i * 4 ∨ i * 4 + 4 ≤ j) : (row4 cur i a b c d)[j]? = cur[j]? := by
  unfold row4
  rw [List.getElem?_set_ne (by omega), List.getElem?_set_ne (by omega), List.getElem?_set_ne (by omega), List.getElem?_set_ne (by omega)]
theorem RDid.new {W W' : World} {P : Nat → Prop} {g h : Nat} {ts : List Tok} {cur : List Value} {fv qv : Nat → Value} (T : RTab W P g h ts cur fv qv) (hw : ∀ k, P k → k < W.heap.size) (hPg : P g) (hPh : P h) (i : Nat) (hi : i < ts.length) (t : Tok) (f q : Value)
    (c : Ch (fun k => k = h) W W') (hh : CellsAt W' h (row4 cur i (.int .u64 (t.epoch : Int)) (.int .i64 t.holder) f q) 87) (hf : Sl W' f (nums t.frontier)) (hq : Sl W' q (ints t.queue))
    (bf : ∀ k, f.ownBlock = some k → (P k ∧ k ≠ g ∧ k ≠ h) ∨ (W.heap.size ≤ k ∧ k < W'.heap.size)) (bq : ∀ k, q.ownBlock = some k → (P k ∧ k ≠ g ∧ k ≠ h) ∨ (W.heap.size ≤ k ∧ k < W'.heap.size)) : RDid W P g h ts i t W' := by
  have sz := T.sz
  have hl : i * 4 + 4 ≤ cur.length := by omega
  have hg := hw g hPg
  have hhl := hw h hPh
  have blk : ∀ (v : Value), (∀ k, v.ownBlock = some k → (P k ∧ k ≠ g ∧ k ≠ h) ∨ (W.heap.size ≤ k ∧ k < W'.heap.size)) → ∀ k, v.ownBlock = some k → (P k ∨ (W.heap.size ≤ k ∧ k < W'.heap.size)) ∧ k ≠ g ∧ k ≠ h := fun v b k hk => by
    rcases b k hk with h1 | h1
    · exact ⟨.inl h1.1, h1.2⟩
    · exact ⟨.inr h1, by omega, by omega⟩
  refine ⟨⟨fun k => P k ∨ (W.heap.size ≤ k ∧ k < W'.heap.size), _, _, _, T.set (P' := fun k => P k ∨ (W.heap.size ≤ k ∧ k < W'.heap.size)) c i hi hh (by unfold row4; simp) (row4_out _ _ _ _ _ _) (fun k hk => .inl hk) t f q ?_, fun k hk => .inl hk, fun k hk => hk.imp id (·.1), fun k hk => hk.elim (fun h1 => Nat.lt_of_lt_of_le (hw k h1) c.size) (·.2)⟩, c⟩
  exact ⟨by unfold row4; rw [List.getElem?_set_ne (by omega), List.getElem?_set_ne (by omega), List.getElem?_set_ne (by omega), List.getElem?_set_self (by omega)],
    by unfold row4; rw [List.getElem?_set_ne (by omega), List.getElem?_set_ne (by omega), List.getElem?_set_self (by simp; omega)],
    by unfold row4; rw [List.getElem?_set_ne (by omega), List.getElem?_set_self (by simp; omega)],
    by unfold row4; rw [List.getElem?_set_self (by simp; omega)], hf, hq, blk f bf, blk q bq⟩
theorem tcell {w : World} {b : Nat} {x y z u : Value} {t : TypeId} (h : CellsAt w b [x, y, z, u] t) : w.cell? ⟨b, 0, none⟩ = some x ∧ w.cell? ⟨b, 1, none⟩ = some y ∧ w.cell? ⟨b, 2, none⟩ = some z ∧ w.cell? ⟨b, 3, none⟩ = some u := ⟨h.cell 0, h.cell 1, h.cell 2, h.cell 3⟩
theorem append_zero (w : World) (B0 : Nat) (a : Option Addr) (c : Nat) : (Builtin.append_ #[27, 27] 27 #[.slice (some ⟨B0, 0, none⟩) 0 0, .slice a 0 c]).run Tryz.prog w = .ok (.slice (some ⟨B0, 0, none⟩) 0 0) w := by
  obtain ⟨i0, hi0, hz0, hz1, hz2⟩ := info_parts info_int
  have hf : (Builtin.firstCells i0.size 0 (.slice a 0 c)).run Tryz.prog w = .ok #[] w := by
    cases a with
    | none => exact run_firstCells_none _ _ _ _ _
    | some b => exact run_firstCells_some (P := Tryz.prog) w i0.size 0 b 0 c [] (by simp) (fun j v h => by cases h)
  simp [Builtin.append_, run_underlying Tryz.underlying27, sizeOf, typeInfo, zeroValue, hi0, hz0, Builtin.lenOf, hf, storeCells]
theorem append_empty (w : World) (B0 : Nat) (q : Value) (l : List Int) (hs : Sl w q (ints l)) (hl : l.length ≤ 1000) : ∃ v' w', (Builtin.append_ #[27, 27] 27 #[.slice (some ⟨B0, 0, none⟩) 0 0, q]).run Tryz.prog w = .ok v' w' ∧ Gr w w' ∧ ((v' = .slice (some ⟨B0, 0, none⟩) 0 0 ∧ l = []) ∨ Own w' w.heap.size 3 v' (ints l)) := by
  obtain ⟨i0, hi0, hz0, hz1, hz2⟩ := info_parts info_int
  obtain ⟨a, c, rfl, hc, h⟩ := hs
  rcases h with h | ⟨b, o, rfl, hb, hcell⟩
  · have e : l = [] := by
      have := congrArg List.length h
      rw [ints_length] at this
      exact List.eq_nil_of_length_eq_zero this
    subst e
    exact ⟨_, w, append_zero w B0 a c, Gr.refl _, .inl ⟨rfl, rfl⟩⟩
  · have hcells : ∀ j u, (ints l)[j]? = some u → w.cell? ((⟨b, o, none⟩ : Addr).add j) = some u := fun j u hu => by
      have hj := (List.getElem?_eq_some_iff.1 hu).1
      rw [addr_add, hcell j hj, ← hu, List.getElem?_eq_getElem hj]
    by_cases e : l = []
    · subst e
      exact ⟨_, w, append_zero w B0 _ c, Gr.refl _, .inl ⟨rfl, rfl⟩⟩
    · have hlen : 0 < l.length := List.length_pos_iff.2 e
      obtain ⟨v', w', hr, ho, hg⟩ := run_append_arg_grows (P := Tryz.prog) w 27 27 3 i0 _ 1 8 Tryz.underlying27 hi0 hz0 hz1 hz2 (by rfl) (by decide) ⟨B0, 0, none⟩ 0 0 [] rfl (fun j u hu => by cases hu) ⟨b, o, none⟩ (ints l).length c (ints l) (by simp) hcells (by rw [ints_length]; omega) (by rw [ints_length]; unfold maxLen; omega) (by rw [ints_length]; omega)
      refine ⟨v', w', hr, grownBy_below hg (Nat.le_refl _) (by intro k hk; cases hk), .inr ?_⟩
      unfold Own
      simpa using ho
theorem append_one (w : World) (base B0 : Nat) (s : Int) (hb : Nat) (hs : Sl w (.slice (some ⟨hb, 0, none⟩) 1 1) (ints [s])) (hB : base ≤ w.heap.size) :
    ∃ v' w', (Builtin.append_ #[27, 27] 27 #[.slice (some ⟨B0, 0, none⟩) 0 0, .slice (some ⟨hb, 0, none⟩) 1 1]).run Tryz.prog w = .ok v' w' ∧ Own w' base 3 v' (ints [s]) ∧ Gr w w' := by
  obtain ⟨i0, hi0, hz0, hz1, hz2⟩ := info_parts info_int
  obtain ⟨a, c, e, _, h⟩ := hs
  injection e with e1 e2 e3
  rcases h with h | ⟨b, o, h, _, hcell⟩
  · cases h
  · rw [h] at e1
    injection e1 with e1
    injection e1 with e4 e5
    subst e4 e5
    have hcells : ∀ j u, (ints [s])[j]? = some u → w.cell? ((⟨hb, 0, none⟩ : Addr).add j) = some u := fun j u hu => by
      have hj := (List.getElem?_eq_some_iff.1 hu).1
      rw [addr_add, hcell j hj, ← hu, List.getElem?_eq_getElem hj]
    obtain ⟨v', w', hr, ho, hg⟩ := run_append_arg_grows (P := Tryz.prog) w 27 27 3 i0 _ 1 8 Tryz.underlying27 hi0 hz0 hz1 hz2 (by rfl) (by decide) ⟨B0, 0, none⟩ 0 0 [] rfl (fun j u hu => by cases hu) ⟨hb, 0, none⟩ 1 1 (ints [s]) (by simp [ints]) hcells (by decide) (by decide) (by decide)
    exact ⟨v', w', hr, World.ownsRow.mono (by simpa [ints] using ho) hB, grownBy_below hg (Nat.le_refl _) (by intro k hk; cases hk)⟩
theorem sl_tailo {w : World} {b o n c : Nat} {x : Int} {xs : List Int} (h : Sl w (.slice (some ⟨b, o, none⟩) (n + 1) c) (ints (x :: xs))) : Sl w (.slice (if c = 1 then some ⟨b, o, none⟩ else some ⟨b, o + 1, none⟩) n (c - 1)) (ints xs) := by
  obtain ⟨a', c', he, hc, hx⟩ := h
  rw [ints_length] at he hc
  injection he with e1 e2 e3
  subst e1 e3
  have hn : n = xs.length := by simpa using e2
  refine ⟨_, _, by rw [ints_length, hn], by rw [ints_length]; simp at hc; omega, ?_⟩
  by_cases h1 : c = 1
  · left
    have : xs.length = 0 := by simp at hc; omega
    rw [List.eq_nil_of_length_eq_zero this]; rfl
  · rw [if_neg h1]
    rcases hx with hx | ⟨b', o', e, hb, hcell⟩
    · cases hx
    · injection e with e
      injection e with e4 e5
      subst e4 e5
      refine .inr ⟨b, o + 1, rfl, hb, fun k hk => ?_⟩
      rw [ints_length] at hk
      have := hcell (k + 1) (by rw [ints_length]; simpa using hk)
      rw [show o + 1 + k = o + (k + 1) by omega, this]
      rfl
def stRf (b4 : Nat) (cs : List Value) (qi : Value) (Q : List Int) (s : Int) (B : Nat) : List Value → (Nat → Prop) → World → Prop
  | [], _, W => CellsAt W b4 cs 87
  | [v], _, W => v = qi ∧ CellsAt W b4 cs 87
  | [_, v3], U, W => CellsAt W b4 cs 87 ∧ ((∃ B0, v3 = .slice (some ⟨B0, 0, none⟩) 0 0 ∧ Q = []) ∨ (Own W B 3 v3 (ints Q) ∧ ∀ k, v3.ownBlock = some k → U k))
  | [_, _, v7], _, W => CellsAt W b4 cs 87 ∧ Own W B 3 v7 (ints (Q ++ [s]))
  | _, _, W => ∃ v7, CellsAt W b4 (cs.set 3 v7) 87 ∧ Own W B 3 v7 (ints (Q ++ [s]))
theorem stRf_gr (b4 : Nat) (cs : List Value) (qi : Value) (Q : List Int) (s : Int) (B : Nat) : ∀ us U W W', Gr W W' → stRf b4 cs qi Q s B us U W → stRf b4 cs qi Q s B us U W'
  | [], _, _, _, g, hh => hh.gr g
  | [_], _, _, _, g, hh => ⟨hh.1, hh.2.gr g⟩
  | [_, _], _, _, _, g, hh => ⟨hh.1.gr g, hh.2.imp id (fun h => ⟨h.1.gr g, h.2⟩)⟩
  | [_, _, _], _, _, _, g, hh => ⟨hh.1.gr g, hh.2.gr g⟩
  | _ :: _ :: _ :: _ :: _, _, _, _, g, ⟨v, h1, h2⟩ => ⟨v, h1.gr g, h2.gr g⟩
set_option maxHeartbeats 20000000 in
theorem rapply_in (w0 : World) (P : Nat → Prop) (g h : Nat) (r : RegD) (sites : Int) (cur : List Value) (fv qv : Nat → Value) (c i : Nat) (hi : i < r.l.length) (K : CellsAt w0 g [.int .i64 sites, .slice (some ⟨h, 0, none⟩) r.l.length c] 85) (T : RTab w0 P g h r.l cur fv qv)
    (hPg : P g) (hPh : P h) (hgh : h ≠ g) (hPW : ∀ k, P k → k < w0.heap.size) (E : List Value) (x : EntD) (xv : Value) (hE : E.length = 23) (e0 : E[0]? = some (.int .u8 (x.kind : Int))) (e19 : E[19]? = some (.int .i64 x.site)) (e20 : E[20]? = some (.int .i64 ((i : Nat) : Int))) (e21 : E[21]? = some (.int .u64 (x.epoch : Int))) (e22 : E[22]? = some xv)
    (SX : Sl w0 xv (nums x.frontier)) (hxl : x.frontier.length ≤ 1000000) (okt : TokOk sites r.l[i]) (hs : 0 ≤ x.site ∧ x.site < sites) (h3 : sites ≤ 3) :
    Calls Tryz.prog 21 #[.pointer (some ⟨g, 0, none⟩), .agg E.toArray] w0 fun e w0' => e = .returned (.tuple #[]) ∧ RDid w0 P g h r.l i (afterT (doT x r.l[i]) r.l[i]) w0' := by
  have sz := T.sz
  obtain ⟨t, ht⟩ : ∃ t, t = r.l[i] := ⟨_, rfl⟩
  have TK0 := T.tok i hi
  have SAME : Hid (∀ w0', Gr w0 w0' → RDid w0 P g h r.l i t w0') := Lib.hid (by rw [ht]; exact fun w0' gr => RDid.same T hPW i hi gr)
  have NEW : Hid (∀ w0' (u : Tok) (f q : Value), Ch (fun k => k = h) w0 w0' → CellsAt w0' h (row4 cur i (.int .u64 (u.epoch : Int)) (.int .i64 u.holder) f q) 87 → Sl w0' f (nums u.frontier) → Sl w0' q (ints u.queue) → (∀ k, f.ownBlock = some k → (P k ∧ k ≠ g ∧ k ≠ h) ∨ (w0.heap.size ≤ k ∧ k < w0'.heap.size)) → (∀ k, q.ownBlock = some k → (P k ∧ k ≠ g ∧ k ≠ h) ∨ (w0.heap.size ≤ k ∧ k < w0'.heap.size)) → RDid w0 P g h r.l i u w0') := Lib.hid fun w0' u f q c hh hf hq bf bq => RDid.new T hPW hPg hPh i hi u f q c hh hf hq bf bq
  rw [← ht] at TK0 okt ⊢
  obtain ⟨ep, ho, fr, qu⟩ := t
  obtain ⟨fvi, hfvi⟩ : ∃ v, v = fv i := ⟨_, rfl⟩
  obtain ⟨qvi, hqvi⟩ : ∃ v, v = qv i := ⟨_, rfl⟩
  rw [← hfvi, ← hqvi] at TK0
  have TC : Hid (cur[i * 4]? = some (.int .u64 (ep : Int)) ∧ cur[i * 4 + 1]? = some (.int .i64 ho) ∧ cur[i * 4 + 2]? = some fvi ∧ cur[i * 4 + 3]? = some qvi) := Lib.hid ⟨TK0.c0, TK0.c1, TK0.c2, TK0.c3⟩
  have SF : Hid (Sl w0 fvi (nums fr)) := Lib.hid TK0.fs
  have SQ : Hid (Sl w0 qvi (ints qu)) := Lib.hid TK0.qs
  have BF : Hid (∀ k, fvi.ownBlock = some k → P k ∧ k ≠ g ∧ k ≠ h) := Lib.hid TK0.fb
  have BQ : Hid (∀ k, qvi.ownBlock = some k → P k ∧ k ≠ g ∧ k ≠ h) := Lib.hid TK0.qb
  have TOK : Hid (TokOk sites ⟨ep, ho, fr, qu⟩) := Lib.hid okt
  obtain ⟨fa, fc, hfs⟩ := SF.out.oneCells
  obtain ⟨qa, qc, hqs⟩ := SQ.out.oneCells
  obtain ⟨fn, hfn⟩ : ∃ fn, fn = (nums fr).length := ⟨_, rfl⟩
  obtain ⟨qn, hqn⟩ : ∃ qn, qn = (ints qu).length := ⟨_, rfl⟩
  rw [← hfn] at hfs
  rw [← hqn] at hqs
  have FN : Hid (fn = fr.length) := Lib.hid (by rw [hfn, nums_length])
  have QN : Hid (qn = qu.length) := Lib.hid (by rw [hqn, ints_length])
  subst hfs hqs
  obtain ⟨tn, htn⟩ : ∃ tn, tn = afterT (doT x ⟨ep, ho, fr, qu⟩) ⟨ep, ho, fr, qu⟩ := ⟨_, rfl⟩
  have HTN := Lib.hid htn
  rw [← htn]
  obtain ⟨n, hn⟩ : ∃ n, n = r.l.length := ⟨_, rfl⟩
  have KG := Lib.hid K
  rw [← hn] at KG
  have TH := Lib.hid T.hh
  have CURN : Hid (i * 4 + 4 ≤ cur.length) := Lib.hid (by omega)
  obtain ⟨xa, xc, hxs⟩ := SX.oneCells
  obtain ⟨xn, hxn⟩ : ∃ xn, xn = (nums x.frontier).length := ⟨_, rfl⟩
  rw [← hxn] at hxs
  have XN : Hid (xn = x.frontier.length) := Lib.hid (by rw [hxn, nums_length])
  have SX' := Lib.hid SX
  have XL := Lib.hid hxl
  have EN := Lib.hid hE
  have E0 := Lib.hid e0
  have E19 := Lib.hid e19
  have E20 := Lib.hid e20
  have E21 := Lib.hid e21
  have E22 : Hid (E[22]? = some (.slice xa xn xc)) := Lib.hid (by rw [← hxs]; exact e22)
  rw [hxs] at SX'
  obtain ⟨kd, hkd⟩ : ∃ kd, kd = x.kind := ⟨_, rfl⟩
  obtain ⟨st, hst⟩ : ∃ st, st = x.site := ⟨_, rfl⟩
  obtain ⟨xe, hxe⟩ : ∃ xe, xe = x.epoch := ⟨_, rfl⟩
  have XX : Hid (kd = x.kind ∧ st = x.site ∧ xe = x.epoch) := Lib.hid ⟨hkd, hst, hxe⟩
  have PW := Lib.hid hPW
  have HH : Hid (P g ∧ P h ∧ h ≠ g) := Lib.hid ⟨hPg, hPh, hgh⟩
  have ST : Hid (0 ≤ st ∧ st < sites ∧ sites ≤ 3 ∧ 0 ≤ sites) := Lib.hid ⟨by rw [hst]; exact hs.1, by rw [hst]; exact hs.2, h3, by omega⟩
  have IN : Hid (i < n) := Lib.hid (by rw [hn]; exact hi)
  rw [← hkd] at E0
  rw [← hst] at E19
  rw [← hxe] at E21
  have t1 : (((i : Nat) : Int) < 0) = False := by simp only [eq_iff_iff, iff_false]; omega
  have t2 : ((n : Int) ≤ ((i : Nat) : Int)) = False := by have := IN.out; simp only [eq_iff_iff, iff_false]; omega
  have t3 : (st < 0) = False := by have := ST.out; simp only [eq_iff_iff, iff_false]; omega
  have t4 : (sites ≤ st) = False := by have := ST.out; simp only [eq_iff_iff, iff_false]; omega
  clear hkd hst hxe hxs hxn hn htn hqn hfn hfvi hqvi TK0 ht okt T K SX e0 e19 e20 e21 e22 hE hPg hPh hgh hs h3 hi hxl sz hPW
  go_enter Tryz.func21, Tryz.ntmps21
  go_wp2_with (first | (refine wpList_boxE _ rfl rfl rfl ?_) | fail)
  intro w1 k1 g1 n1
  obtain ⟨b1, hb1⟩ : ∃ b1, b1 = w0.heap.size := ⟨_, rfl⟩
  rw [← hb1] at k1 ⊢
  have G1 := Lib.hid g1
  have CE : Hid (∀ w0', Gr w1 w0' → w0'.cell? ⟨b1, 0, none⟩ = some (.int .u8 (kd : Int)) ∧ w0'.cell? ⟨b1, 19, none⟩ = some (.int .i64 st) ∧ w0'.cell? ⟨b1, 20, none⟩ = some (.int .i64 ((i : Nat) : Int)) ∧ w0'.cell? ⟨b1, 21, none⟩ = some (.int .u64 (xe : Int)) ∧ w0'.cell? ⟨b1, 22, none⟩ = some (.slice xa xn xc)) := Lib.hid fun w0' hW' => ⟨by rw [(k1.gr hW').cell]; exact E0.out, by rw [(k1.gr hW').cell]; exact E19.out, by rw [(k1.gr hW').cell]; exact E20.out, by rw [(k1.gr hW').cell]; exact E21.out, by rw [(k1.gr hW').cell]; exact E22.out⟩
  have CG : Hid (∀ w0', Gr w1 w0' → w0'.cell? ⟨g, 0, none⟩ = some (.int .i64 sites) ∧ w0'.cell? ⟨g, 1, none⟩ = some (.slice (some ⟨h, 0, none⟩) n c)) := Lib.hid fun w0' hW' => ⟨((KG.out.gr g1).gr hW').cell 0, ((KG.out.gr g1).gr hW').cell 1⟩
  have CT : Hid (∀ w0', Gr w1 w0' → w0'.cell? ⟨h, i * 4, none⟩ = some (.int .u64 (ep : Int)) ∧ w0'.cell? ⟨h, i * 4 + 1, none⟩ = some (.int .i64 ho) ∧ w0'.cell? ⟨h, i * 4 + 2, none⟩ = some (.slice fa fn fc) ∧ w0'.cell? ⟨h, i * 4 + 3, none⟩ = some (.slice qa qn qc)) := Lib.hid fun w0' hW' => by
    have k := (TH.out.gr g1).gr hW'
    exact ⟨by rw [k.cell]; exact TC.out.1, by rw [k.cell]; exact TC.out.2.1, by rw [k.cell]; exact TC.out.2.2.1, by rw [k.cell]; exact TC.out.2.2.2⟩
  have GD := Lib.hid ((Gr.refl w1).drew)
  clear k1 g1 n1 hb1 E0 E19 E20 E21 E22
  go_wp2_with fail
  apply wp_region_draw_grow (.eq _ :: .eq _ :: .eq _ :: .eq _ :: .eq _ :: .eq _ :: .eq _ :: .eq _ :: .eq _ :: .eq _ :: .eq _ :: .eq _ :: .eq _ :: .eq _ :: .eq _ :: .eq _ :: .eq _ :: .eq _ :: .eq _ :: .eq _ :: .eq _ :: .eq _ :: .eq _ :: .eq _ :: .eq _ :: .eq _ :: .eq _ :: []) (by kernel_rfl) (by kernel_rfl) trivial
  iterate 27
   apply wpG_eq
   · intro W hW hs
     obtain ⟨x0, x19, x20, x21, x22⟩ := CE.out W (GD.out.trans hW)
     obtain ⟨y0, y1⟩ := CG.out W (GD.out.trans hW)
     unfold opG
     go_simp
     first | exact resG_eq_mk _ _ _ | rfl
   simp only [Act.put, pt1, pt2, pt3]
  apply wpG_nil
  intro w2 hW2 hsAll
  clear hsAll
  have GG := Lib.hid (GD.out.trans hW2)
  have GD2 := Lib.hid ((Gr.refl w2).drew)
  clear hW2 GD t1 t2 t3 t4
  have i1 : (0 : Int) ≤ (i : Int) := by omega
  have i2 : (i : Int) < (n : Int) := by have := IN.out; omega
  go_wp2_with fail
  apply wp_region_draw_tail 9 (.eq _ :: .eq _ :: .eq _ :: .eq _ :: .eq _ :: .eq _ :: .eq _ :: .eq _ :: .ok (fun v W => ∃ b, v = .pointer (some ⟨b, 0, none⟩) ∧ CellsAt W b [.int .u64 0, .int .i64 0, .slice none 0 0, .slice none 0 0] 87 ∧ w2.heap.size ≤ b) :: []) (by kernel_rfl) (by kernel_rfl) ⟨fun _ _ _ hg ⟨b, e, k, s⟩ => ⟨b, e, k.gr hg, s⟩, trivial⟩
  simp only [List.take_succ_cons, List.take_zero, List.drop_succ_cons, List.drop_zero]
  iterate 8
   apply wpG_eq
   · intro W hW hs
     obtain ⟨x0, x19, x20, x21, x22⟩ := CE.out W (GG.out.trans (GD2.out.trans hW))
     obtain ⟨y0, y1⟩ := CG.out W (GG.out.trans (GD2.out.trans hW))
     obtain ⟨z0, z1, z2, z3⟩ := CT.out W (GG.out.trans (GD2.out.trans hW))
     unfold opG
     go_simp
     first | exact resG_eq_mk _ _ _ | rfl
   simp only [Act.put, pt1, pt2, pt3]
  apply wpG_ok
  · intro W hW hs
    have KB : Hid (CellsAt (W.alloc (.cells #[.int .u64 0, .int .i64 0, .slice none 0 0, .slice none 0 0] 87)) W.heap.size [.int .u64 0, .int .i64 0, .slice none 0 0, .slice none 0 0] 87) := Lib.hid (CellsAt.new _ _ _)
    have SZ : Hid (w2.heap.size ≤ W.heap.size) := Lib.hid hW.size
    unfold opG
    go_simp
    exact resG_mk ((Gr.refl W).alloc _) ⟨_, rfl, KB.out, SZ.out⟩
  intro vt
  simp only [Act.put, pt1, pt2, pt3]
  apply wpG_nil
  intro w3 hW3 hsAll
  obtain ⟨b4, rfl, k3, hb4⟩ := hsAll _ (List.mem_cons_self ..)
  have g3 := GG.out.trans (GD2.out.trans hW3)
  have K3 := Lib.hid k3
  have tz0 := k3.cell 0
  have tz1 := k3.cell 1
  have tz2 := k3.cell 2
  have tz3 := k3.cell 3
  simp only [List.getElem?_cons_zero, List.getElem?_cons_succ] at tz0 tz1 tz2 tz3
  have tf := k3.frozen
  have tf0 := tf 0
  have tf1 := tf 1
  have tf2 := tf 2
  have tf3 := tf 3
  have G3 := Lib.hid g3
  have HB4 : Hid (w1.heap.size ≤ b4 ∧ b4 < w3.heap.size) := Lib.hid ⟨by have := GG.out.size; omega, k3.lt⟩
  clear hsAll hW3 g3 hb4 k3 tf GG GD2 i1 i2
  go_upto_region 3 with fail
  obtain ⟨w4, hw4⟩ : ∃ w4, w4 = (((w3.setCell ⟨b4, 0, none⟩ (.int .u64 (ep : Int))).setCell ⟨b4, 1, none⟩ (.int .i64 ho)).setCell ⟨b4, 2, none⟩ (.slice fa fn fc)).setCell ⟨b4, 3, none⟩ (.slice qa qn qc) := ⟨_, rfl⟩
  rw [← hw4]
  have c4 : Ch (fun k => k = b4) w3 w4 := by
    rw [hw4]
    exact (((ch_setCell' _ _ _ _).trans (ch_setCell' _ _ _ _)).trans (ch_setCell' _ _ _ _)).trans (ch_setCell' _ _ _ _)
  have KT : Hid (CellsAt w4 b4 [.int .u64 (ep : Int), .int .i64 ho, .slice fa fn fc, .slice qa qn qc] 87) := Lib.hid (by
    rw [hw4]
    exact (((K3.out.set 0 _).set 1 _).set 2 _).set 3 _)
  have GG : Hid (Gr w1 w4) := Lib.hid (Below.trans G3.out (c4.below G3.out.size (fun k hk => by have : k = b4 := hk; have := HB4.out; omega)))
  have HB : Hid (w1.heap.size ≤ b4) := Lib.hid HB4.out.1
  clear hw4 c4 K3 G3 HB4 tz0 tz1 tz2 tz3 tf0 tf1 tf2 tf3 CT
  by_cases h8 : kd = 8
  · as_aux_lemma =>
    obtain ⟨x0, x19, x20, x21, x22⟩ := CE.out _ GG.out
    obtain ⟨t0, t1, t2, t3⟩ := tcell KT.out
    have H8 := Lib.hid h8
    replace x0 : w4.cell? ⟨b1, 0, none⟩ = some (.int .u8 8) := by rw [x0, h8]; rfl
    clear h8
    by_cases hh : ho = st
    · have d1 : (ho == st) = true := by simp [hh]
      go_wp2
      exact bodyPost_ret (results_none rfl _ _ _) rfl ⟨rfl, by
        have e : tn = ⟨ep, ho, fr, qu⟩ := HTN.out.trans (by
          unfold doT wantT
          rw [if_pos (by rw [← XX.out.1]; exact H8.out), if_pos (.inl (by rw [← XX.out.2.1]; exact hh))]
          rfl
      )
        rw [e]
        exact SAME.out _ (G1.out.trans GG.out)⟩
    have NH := Lib.hid hh
    have d1 : (ho == st) = false := by simp [hh]
    clear hh
    go_wp2_with fail
    clear x0 x19 x20 x21 x22 t0 t1 t2 t3 d1
    go_loopw [5] (fun s5 wr => ∃ k : Nat, k ≤ qn ∧ s5 = .int .i64 k ∧ (∀ j (hj : j < qu.length), j < k → qu[j] ≠ st) ∧ Gr w4 wr) (fun s5 _ => qn - (intOf s5).toNat)
    case atStart => exact ⟨0, Nat.zero_le _, rfl, fun j _ h => absurd h (Nat.not_lt_zero _), Gr.refl _⟩
    case round =>
      obtain ⟨k, hk, rfl, hno, hG⟩ := hrel
      obtain ⟨wE, rfl⟩ : ∃ wE : World, wE = wr := ⟨_, rfl⟩
      replace KT := Lib.hid (KT.out.gr hG)
      replace GG := Lib.hid (GG.out.trans hG)
      have G4 := Lib.hid hG
      have NO := Lib.hid hno
      clear hG hno
      by_cases hlt : k < qn
      · obtain ⟨qb, qo, hqa, hcell⟩ : ∃ qb qo, qa = some ⟨qb, qo, none⟩ ∧ ∀ V, Gr w0 V → ∃ z, V.cell? ⟨qb, qo + k, none⟩ = some (.int .i64 z) ∧ qu[k]? = some z := by
          obtain ⟨a', c', e, _, h1⟩ := SQ.out
          injection e with e _ _
          have hk2 : k < qu.length := by have := QN.out; omega
          rcases h1 with h1 | ⟨b', o', h1, hb, hc⟩
          · exfalso
            have h9 : (ints qu).length = 0 := by rw [h1]; rfl
            rw [ints_length] at h9; omega
          · refine ⟨b', o', e.trans h1, fun V hV => ⟨qu[k], ?_, List.getElem?_eq_getElem hk2⟩⟩
            rw [hV.cell (p := ⟨b', o' + k, none⟩) hb, hc k (by rw [ints_length]; exact hk2)]
            simp [ints]
        subst hqa
        obtain ⟨z, hz⟩ : ∃ z, qu[k]? = some z := by
          have hk2 : k < qu.length := by have := QN.out; omega
          exact ⟨_, List.getElem?_eq_getElem hk2⟩
        have CQ : Hid (∀ V, Gr w0 V → V.cell? ⟨qb, qo + k, none⟩ = some (.int .i64 z)) := Lib.hid fun V hV => by
          obtain ⟨z', h1, h2⟩ := hcell V hV
          rw [hz] at h2
          injection h2 with h2
          rw [h2]; exact h1
        have HZ := Lib.hid hz
        obtain ⟨t0, t1, t2, t3⟩ := tcell KT.out
        have i3 : (0 : Int) ≤ (k : Int) := by omega
        have i4 : (k : Int) < (qn : Int) := by omega
        have HLT := Lib.hid hlt
        have GD := Lib.hid ((Gr.refl wE).drew)
        clear hcell hz hk hlt
        by_cases hzs : z = st
        · have d1 : (z == st) = true := by simp [hzs]
          have HZS := Lib.hid hzs
          clear hzs
          go_wp2_with fail
          apply wp_region_draw_grow (.eq _ :: .eq _ :: .eq _ :: .eq _ :: .eq _ :: .eq _ :: .eq _ :: .eq _ :: []) (by kernel_rfl) (by kernel_rfl) trivial
          iterate 8
           apply wpG_eq
           · intro W hW hs
             obtain ⟨t0, t1, t2, t3⟩ := tcell (KT.out.gr (GD.out.trans hW))
             obtain ⟨x0, x19, x20, x21, x22⟩ := CE.out W (GG.out.trans (GD.out.trans hW))
             have yq := CQ.out W (G1.out.trans (GG.out.trans (GD.out.trans hW)))
             unfold opG
             go_simp
             first | exact resG_eq_mk _ _ _ | rfl
           simp only [Act.put, pt1, pt2, pt3]
          apply wpG_nil
          intro W9 hW9 hsAll
          clear hsAll
          have GX := Lib.hid (GG.out.trans (GD.out.trans hW9))
          clear hW9 t0 t1 t2 t3 i3 i4
          go_wp2
          exact bodyPost_ret (results_none rfl _ _ _) rfl ⟨rfl, by
            have e : tn = ⟨ep, ho, fr, qu⟩ := HTN.out.trans (by
              unfold doT wantT
              rw [if_pos (by rw [← XX.out.1]; exact H8.out), if_pos (.inr (by rw [← XX.out.2.1, ← HZS.out]; exact List.mem_of_getElem? HZ.out))]
              rfl)
            rw [e]
            exact SAME.out _ (G1.out.trans GX.out)⟩
        · have d1 : (z == st) = false := by simp [hzs]
          have HZS := Lib.hid hzs
          clear hzs
          go_wp2_with fail
          apply wp_region_draw_grow (.eq _ :: .eq _ :: .eq _ :: .eq _ :: .eq _ :: .eq _ :: .eq _ :: .eq _ :: []) (by kernel_rfl) (by kernel_rfl) trivial
          iterate 8
           apply wpG_eq
           · intro W hW hs
             obtain ⟨t0, t1, t2, t3⟩ := tcell (KT.out.gr (GD.out.trans hW))
             obtain ⟨x0, x19, x20, x21, x22⟩ := CE.out W (GG.out.trans (GD.out.trans hW))
             have yq := CQ.out W (G1.out.trans (GG.out.trans (GD.out.trans hW)))
             unfold opG
             go_simp
             first | exact resG_eq_mk _ _ _ | rfl
           simp only [Act.put, pt1, pt2, pt3]
          apply wpG_nil
          intro W9 hW9 hsAll
          clear hsAll
          have GX := Lib.hid (G4.out.trans (GD.out.trans hW9))
          have kw : wrap64 ((k : Int) + 1) = (k : Int) + 1 := by have h1 := QN.out; have h2 := TOK.out.queue_le ST.out.2.2.1 ST.out.2.2.2; have h3 : qu.length ≤ 3 := h2; have h4 := HLT.out; unfold wrap64; omega
          clear hW9 t0 t1 t2 t3 i3 i4
          go_wp2
          go_roundw
          case rel => exact ⟨k + 1, by have := HLT.out; omega, by first | go_num | (rw [kw]; rfl), fun j hj hjk => by
            by_cases e : j = k
            · subst e
              have h1 := HZ.out
              rw [List.getElem?_eq_getElem hj] at h1
              injection h1 with h1
              rw [h1]; exact HZS.out
            · exact NO.out j hj (by omega), GX.out⟩
          case measure =>
            have h8 := HLT.out
            have h9 : qn - (k + 1) < qn - k := by omega
            (try rw [kw])
            clear kw
            simp [intOf]; omega
      · have NIN : Hid (st ∉ qu) := Lib.hid fun hm => by
          obtain ⟨j, hj, e⟩ := List.getElem_of_mem hm
          exact NO.out j hj (by have := QN.out; omega) e
        obtain ⟨t0, t1, t2, t3⟩ := tcell KT.out
        have i4 : ¬ (k : Int) < (qn : Int) := by omega
        clear hk hlt NO
        go_wp2_with fail
        clear t0 t1 t2 t3 i4 G4
        have QS : Hid (∀ V, Ch (fun k => k = b4) wE.drew V → Sl V (.slice qa qn qc) (ints qu)) := Lib.hid fun V c => (SQ.out.below (G1.out.trans GG.out)).ch (Ch.drewL c) (fun k hk e => by have e : k = b4 := e; have h1 := PW.out k (BQ.out k hk).1; have := G1.out.size; have := HB.out; omega)
        have KL : Hid (b4 < wE.heap.size) := Lib.hid KT.out.lt
        have QL : Hid (qu.length ≤ 1000) := Lib.hid (by have := TOK.out.queue_le ST.out.2.2.1 ST.out.2.2.2; have h : qu.length ≤ 3 := this; omega)
        apply wp_region_draw_turnU (fun k => k = b4) (stRf b4 [.int .u64 (ep : Int), .int .i64 ho, .slice fa fn fc, .slice qa qn qc] (.slice qa qn qc) qu st wE.heap.size) (.ok (fun v _ _ => ∃ B0, v = .slice (some ⟨B0, 0, none⟩) 0 0) :: .eq _ :: .use TU :: .use TU :: .eq _ :: .eq _ :: .ok (OneU (fun k => k = b4) st) :: .use TU :: .eq _ :: .use TU :: []) (by kernel_rfl) (by kernel_rfl) (by kernel_rfl) ⟨⟨fun _ _ _ _ _ h => h, fun _ _ _ _ _ _ h => h⟩, TU.mono _, TU.mono _, OneU.mono _ _, TU.mono _, TU.mono _, trivial⟩ (stRf_gr b4 [.int .u64 (ep : Int), .int .i64 ho, .slice fa fn fc, .slice qa qn qc] (.slice qa qn qc) qu st wE.heap.size) (KT.out.gr (Gr.refl _).drew)
        apply wpU_ok
        · intro U W hW hU hs
          unfold opT
          go_simp
          exact resT_mk ((Gr.refl W).alloc _) ⟨_, rfl⟩
        intro v0
        simp only [Act.put, pt1, pt2, pt3]
        apply wpU_eq
        · intro U W hW hU hs
          unfold opT
          go_simp
          first | exact resT_eq_mk _ _ _ | exact ⟨Gr.refl _, rfl⟩
        simp only [Act.put, pt1, pt2, pt3]
        apply wpU_use
        · intro U W hW hU hS hs
          have h2 : CellsAt W b4 [.int .u64 (ep : Int), .int .i64 ho, .slice fa fn fc, .slice qa qn qc] 87 := hS
          obtain ⟨t0, t1, t2, t3⟩ := tcell h2
          have S1 : Hid (stRf b4 [.int .u64 (ep : Int), .int .i64 ho, .slice fa fn fc, .slice qa qn qc] (.slice qa qn qc) qu st wE.heap.size [.slice qa qn qc] (newU U W W) W) := Lib.hid ⟨rfl, h2⟩
          refine opT_hide fun VV hVV => ?_
          have HV := Lib.hid (hVV (.slice qa qn qc) W ⟨S1.out, trivial⟩)
          clear hVV h2 S1
          unfold opT
          go_simp
          exact ⟨Ch.of_gr (Gr.refl W), HV.out⟩
        intro v2
        simp only [Act.put, pt1, pt2, pt3]
        apply wpU_use
        · intro U W hW hU hS hs
          obtain ⟨B0, rfl⟩ := hs _ (.tail _ (.head _)) (by rfl)
          obtain ⟨rfl, h2⟩ : v2 = .slice qa qn qc ∧ CellsAt W b4 [.int .u64 (ep : Int), .int .i64 ho, .slice fa fn fc, .slice qa qn qc] 87 := hS
          obtain ⟨v', W10, hrun, hg10, hown⟩ := append_empty W B0 (.slice qa qn qc) qu (QS.out W hW) QL.out
          have hz : wE.heap.size ≤ W.heap.size := hW.size
          refine opT_append hrun rfl _ _ rfl rfl rfl ⟨Ch.of_gr hg10, ⟨⟨h2.gr hg10, ?_⟩, trivial⟩⟩
          rcases hown with ⟨h3, h4⟩ | hown
          · exact .inl ⟨B0, h3, h4⟩
          · exact .inr ⟨World.ownsRow.mono hown hz, fun k hk => .inr (hown.lt k hk)⟩
        intro v3
        simp only [Act.put, pt1, pt2, pt3]
        apply wpU_eq
        · intro U W hW hU hs
          unfold opT
          go_simp
          first | exact resT_eq_mk _ _ _ | exact ⟨Gr.refl _, rfl⟩
        simp only [Act.put, pt1, pt2, pt3]
        apply wpU_eq
        · intro U W hW hU hs
          obtain ⟨x0, x19, x20, x21, x22⟩ := CE.out W (Below.trans GG.out ((Ch.drewL hW).below GG.out.size (fun k hk => by have : k = b4 := hk; have := HB.out; omega)))
          unfold opT
          go_simp
          first | exact resT_eq_mk _ _ _ | exact ⟨Gr.refl _, rfl⟩
        simp only [Act.put, pt1, pt2, pt3]
        apply wpU_ok
        · intro U W hW hU hs
          have BX : Hid (OneU (fun k => k = b4) st (.slice (some ⟨W.heap.size, 0, none⟩) 1 1) U (W.alloc (.cells #[.int .i64 st] 3))) := Lib.hid ⟨W.heap.size, rfl, Sl.new W [.int .i64 st] _ _ _ _ rfl (by decide), by simp, fun e => by have e : W.heap.size = b4 := e; have h2 := hW.size; have h3 : wE.drew.heap.size = wE.heap.size := rfl; have := KL.out; omega, fun e => by have := (hU _ e).2; omega⟩
          unfold opT
          go_simp
          exact resT_mk ((Gr.refl W).alloc _) BX.out
        intro v6
        simp only [Act.put, pt1, pt2, pt3]
        apply wpU_use
        · intro U W hW hU hS hs
          obtain ⟨hb, rfl, hs1, hb1, hb2, hb3⟩ := hs _ (.head _) (by rfl)
          obtain ⟨h2, h3⟩ : CellsAt W b4 [.int .u64 (ep : Int), .int .i64 ho, .slice fa fn fc, .slice qa qn qc] 87 ∧ ((∃ B0, v3 = .slice (some ⟨B0, 0, none⟩) 0 0 ∧ qu = []) ∨ (Own W wE.heap.size 3 v3 (ints qu) ∧ ∀ k, v3.ownBlock = some k → U k)) := hS
          have hz : wE.heap.size ≤ W.heap.size := hW.size
          have hfin : ∃ v' W10, (Builtin.append_ #[27, 27] 27 #[v3, .slice (some ⟨hb, 0, none⟩) 1 1]).run Tryz.prog W = .ok v' W10 ∧ Own W10 wE.heap.size 3 v' (ints (qu ++ [st])) ∧ Ch U W W10 := by
            rcases h3 with ⟨B0, rfl, e⟩ | ⟨h3, hu⟩
            · obtain ⟨v', W10, hrun, hown, hg⟩ := append_one W wE.heap.size B0 st hb hs1 hz
              exact ⟨v', W10, hrun, by rw [e]; exact hown, Ch.of_gr hg⟩
            · obtain ⟨v', W10, hrun, hown, hg⟩ := run_append_ints W wE.heap.size v3 (.slice (some ⟨hb, 0, none⟩) 1 1) qu [st] h3 hs1 (by have := QL.out; simp; omega) hz
              exact ⟨v', W10, hrun, hown, ch_mono (TokP.grown hg) (fun k hk => hu k hk)⟩
          obtain ⟨v', W10, hrun, hown, c10⟩ := hfin
          have K10 : CellsAt W10 b4 [.int .u64 (ep : Int), .int .i64 ho, .slice fa fn fc, .slice qa qn qc] 87 := h2.ch c10 (fun e => by have := (hU _ e).1; have h3 : wE.drew.heap.size = wE.heap.size := rfl; have := KL.out; omega)
          exact opT_append hrun rfl _ _ rfl rfl rfl ⟨ch_mono c10 (fun k hk => .inr hk), ⟨⟨K10, hown⟩, trivial⟩⟩
        intro v7
        simp only [Act.put, pt1, pt2, pt3]
        apply wpU_eq
        · intro U W hW hU hs
          unfold opT
          go_simp
          first | exact resT_eq_mk _ _ _ | exact ⟨Gr.refl _, rfl⟩
        simp only [Act.put, pt1, pt2, pt3]
        apply wpU_use
        · intro U W hW hU hS hs
          obtain ⟨h2, hown⟩ : CellsAt W b4 [.int .u64 (ep : Int), .int .i64 ho, .slice fa fn fc, .slice qa qn qc] 87 ∧ Own W wE.heap.size 3 v7 (ints (qu ++ [st])) := hS
          obtain ⟨va, vc, rfl⟩ := hown.shape
          obtain ⟨t0, t1, t2, t3⟩ := tcell h2
          have f3 := h2.frozen 3
          have KS := h2.set 3 (.slice va (ints (qu ++ [st])).length vc)
          have c3 := ch_setCell' W b4 3 (.slice va (ints (qu ++ [st])).length vc)
          have ho2 := hown.ch c3 (fun k hk e => by have e : k = b4 := e; have := (hown.lt k hk).1; have := KL.out; omega)
          have CH := Lib.hid (ch_mono (σ := fun k => k = b4 ∨ U k) c3 (fun k hk => .inl hk))
          have SS : Hid (stRf b4 [.int .u64 (ep : Int), .int .i64 ho, .slice fa fn fc, .slice qa qn qc] (.slice qa qn qc) qu st wE.heap.size [v2, v3, .slice va (ints (qu ++ [st])).length vc, undef] (newU U W (W.setCell ⟨b4, 3, none⟩ (.slice va (ints (qu ++ [st])).length vc))) (W.setCell ⟨b4, 3, none⟩ (.slice va (ints (qu ++ [st])).length vc))) := Lib.hid ⟨_, KS, ho2⟩
          refine opT_hide fun VV hVV => ?_
          have HV := Lib.hid (hVV undef _ ⟨SS.out, trivial⟩)
          clear hVV hown h2 SS KS ho2 c3
          unfold opT
          go_simp
          exact ⟨CH.out, HV.out⟩
        intro v9
        simp only [Act.put, pt1, pt2, pt3]
        apply wpU_nil
        intro U wF hWF hUF hSF hsF
        obtain ⟨v7', KS, hoF⟩ : ∃ v7, CellsAt wF b4 ([.int .u64 (ep : Int), .int .i64 ho, .slice fa fn fc, .slice qa qn qc].set 3 v7) 87 ∧ Own wF wE.heap.size 3 v7 (ints (qu ++ [st])) := hSF
        obtain ⟨va, vc, hsh⟩ := hoF.shape
        subst hsh
        have cF : Ch (fun k => k = b4) wE wF := Ch.drewL hWF
        obtain ⟨vn, hvn⟩ : ∃ m, m = (ints (qu ++ [st])).length := ⟨_, rfl⟩
        rw [← hvn] at KS hoF
        obtain ⟨fa2, hfa2⟩ : ∃ a, a = fa := ⟨_, rfl⟩
        obtain ⟨fn2, hfn2⟩ : ∃ a, a = fn := ⟨_, rfl⟩
        obtain ⟨fc2, hfc2⟩ : ∃ a, a = fc := ⟨_, rfl⟩
        obtain ⟨f2, hf2⟩ : ∃ a, a = fr := ⟨_, rfl⟩
        obtain ⟨q2, hq2⟩ : ∃ a, a = qu ++ [st] := ⟨_, rfl⟩
        have FL : Hid (∀ k, (Value.slice fa fn fc).ownBlock = some k → k ≠ b4 ∧ k < w1.heap.size) := Lib.hid fun k hk => by have h1 := PW.out k (BF.out k hk).1; have := G1.out.size; have := HB.out; omega
        have SFN : Hid (Sl wF (.slice fa2 fn2 fc2) (nums f2)) := Lib.hid (by rw [hfa2, hfn2, hfc2, hf2]; exact (SF.out.below (G1.out.trans GG.out)).ch cF (fun k hk => (FL.out k hk).1))
        have SQN : Hid (Sl wF (.slice va vn vc) (ints q2)) := Lib.hid (by rw [hq2]; exact hoF.sl)
        have BFN : Hid (∀ k, (Value.slice fa2 fn2 fc2).ownBlock = some k → (P k ∧ k ≠ g ∧ k ≠ h) ∨ (w0.heap.size ≤ k ∧ k < wF.heap.size)) := Lib.hid (by rw [hfa2, hfn2, hfc2]; exact fun k hk => .inl (BF.out k hk))
        have BQN : Hid (∀ k, (Value.slice va vn vc).ownBlock = some k → (P k ∧ k ≠ g ∧ k ≠ h) ∨ (w0.heap.size ≤ k ∧ k < wF.heap.size)) := Lib.hid fun k hk => .inr (by have h1 := hoF.lt k hk; have := (G1.out.trans GG.out).size; omega)
        have BFH : Hid (∀ k, (Value.slice fa2 fn2 fc2).ownBlock = some k → k ≠ h) := Lib.hid (by rw [hfa2, hfn2, hfc2]; exact fun k hk => (BF.out k hk).2.2)
        have BQH : Hid (∀ k, (Value.slice va vn vc).ownBlock = some k → k ≠ h) := Lib.hid fun k hk => by have h1 := hoF.lt k hk; have h2 := PW.out h HH.out.2.1; have := (G1.out.trans GG.out).size; omega
        have BQ4 : Hid (∀ k, (Value.slice va vn vc).ownBlock = some k → k ≠ b4) := Lib.hid fun k hk => by have h1 := hoF.lt k hk; have := KL.out; omega
        have VN : Hid (vn = q2.length ∧ 0 < vn) := Lib.hid ⟨by rw [hvn, hq2, ints_length], by rw [hvn, ints_length]; simp⟩
        have BF4 : Hid (∀ k, (Value.slice fa2 fn2 fc2).ownBlock = some k → k ≠ b4) := Lib.hid (by rw [hfa2, hfn2, hfc2]; exact fun k hk => (FL.out k hk).1)
        have HN : Hid (tn = nextT ⟨ep, ho, f2, q2⟩) := Lib.hid (HTN.out.trans (by
          rw [hf2, hq2]
          unfold doT wantT
          rw [if_pos (by rw [← XX.out.1]; exact H8.out), if_neg (by rw [← XX.out.2.1]; exact fun k => k.elim NH.out NIN.out)]
          rw [XX.out.2.1]
          rfl))
        replace KT : Hid (CellsAt wF b4 [.int .u64 (ep : Int), .int .i64 ho, .slice fa2 fn2 fc2, .slice va vn vc] 87) := Lib.hid (by rw [hfa2, hfn2, hfc2]; exact KS)
        replace GG : Hid (Gr w1 wF) := Lib.hid (Below.trans GG.out (cF.below GG.out.size (fun k hk => by have : k = b4 := hk; have := HB.out; omega)))
        clear hWF hUF hsF KS hoF cF hvn hfa2 hfn2 hfc2 hf2 hq2 QS KL QL FL
        by_cases hneg : ho < 0
        · have d1 : (ho < 0) = True := by simp only [eq_iff_iff, iff_true]; exact hneg
          have d2 : (0 < vn) = True := by simp only [eq_iff_iff, iff_true]; exact VN.out.2
          have HNEG := Lib.hid hneg
          clear hneg
          obtain ⟨x0, x19, x20, x21, x22⟩ := CE.out _ GG.out
          obtain ⟨t0, t1, t2, t3⟩ := tcell KT.out
          obtain ⟨en, hen⟩ : ∃ en, en = (ep + 1) % 2 ^ 64 := ⟨_, rfl⟩
          have e5 : IntKind.wrap .u64 ((ep : Int) + 1) = (en : Int) := by rw [hen]; exact wrap_u64 ep
          have HEN := Lib.hid hen
          clear hen
          have tf0 := KT.out.frozen 0
          go_upto_region 16 with fail
          clear x0 x19 x20 x21 x22 t0 t1 t2 t3 tf0 e5
          obtain ⟨wE1, hwE⟩ : ∃ w, w = wF.setCell ⟨b4, 0, none⟩ (.int .u64 (en : Int)) := ⟨_, rfl⟩
          rw [← hwE]
          have cE : Ch (fun k => k = b4) wF wE1 := by rw [hwE]; exact ch_setCell' _ _ _ _
          have KT1 : Hid (CellsAt wE1 b4 [.int .u64 (en : Int), .int .i64 (ho), .slice fa2 fn2 fc2, .slice va vn vc] 87) := Lib.hid (by rw [hwE]; exact KT.out.set 0 _)
          have GG1 : Hid (Gr w1 wE1) := Lib.hid (Below.trans GG.out (cE.below GG.out.size (fun k hk => by have : k = b4 := hk; have := HB.out; omega)))
          have C1 := Lib.hid cE
          obtain ⟨qa1, q3, hq2⟩ : ∃ a l, q2 = a :: l := by
            have h1 := VN.out.1
            have h2 := VN.out.2
            cases hq : q2 with
            | nil => rw [hq] at h1; simp at h1; omega
            | cons a l => exact ⟨a, l, rfl⟩
          have HQ2 := Lib.hid hq2
          obtain ⟨vn1, hvn1⟩ : ∃ m, m = q3.length := ⟨_, rfl⟩
          have hvn : vn = vn1 + 1 := by rw [VN.out.1, hq2, hvn1]; rfl
          subst hvn
          have SQ0 := SQN.out.ch cE (fun k hk e => BQ4.out k hk e)
          rw [hq2] at SQ0
          obtain ⟨vb, vo, hva, hcell⟩ : ∃ vb vo, va = some ⟨vb, vo, none⟩ ∧ wE1.cell? ⟨vb, vo, none⟩ = some (.int .i64 qa1) := by
            obtain ⟨a', c', e, _, hh⟩ := SQ0
            injection e with e1 _ _
            rcases hh with hh | ⟨b', o', hh, _, hc⟩
            · cases hh
            · exact ⟨b', o', e1.trans hh, hc 0 (by simp [ints])⟩
          subst hva
          have SQ1 := Lib.hid SQ0
          obtain ⟨t0, t1, t2, t3⟩ := tcell KT1.out
          have tf1 := KT1.out.frozen 1
          clear hwE cE SQ0 hvn1 hq2 KT GG
          go_upto_region 17 with fail
          clear t0 t1 t2 t3 tf1 hcell
          obtain ⟨wE2, hwE⟩ : ∃ w, w = wE1.setCell ⟨b4, 1, none⟩ (.int .i64 qa1) := ⟨_, rfl⟩
          rw [← hwE]
          have cE : Ch (fun k => k = b4) wE1 wE2 := by rw [hwE]; exact ch_setCell' _ _ _ _
          have KT2 : Hid (CellsAt wE2 b4 [.int .u64 (en : Int), .int .i64 qa1, .slice fa2 fn2 fc2, .slice (some ⟨vb, vo, none⟩) (vn1 + 1) vc] 87) := Lib.hid (by rw [hwE]; exact KT1.out.set 1 _)
          have GG2 : Hid (Gr w1 wE2) := Lib.hid (Below.trans GG1.out (cE.below GG1.out.size (fun k hk => by have : k = b4 := hk; have := HB.out; omega)))
          have C2 := Lib.hid (C1.out.trans cE)
          have SQ2 := Lib.hid (SQ1.out.ch cE (fun k hk e => BQ4.out k hk e))
          obtain ⟨t0, t1, t2, t3⟩ := tcell KT2.out
          have tf3 := KT2.out.frozen 3
          have l1 : 1 ≤ vn1 + 1 := by omega
          have l2 : vn1 + 1 ≤ vc := by
            obtain ⟨a', c', e, hl, _⟩ := SQ2.out
            injection e with _ e2 e3
            omega
          clear hwE cE KT1 GG1 C1 SQ1
          go_upto_region 18 with fail
          clear t0 t1 t2 t3 tf3 l1 l2
          obtain ⟨tv, htv⟩ : ∃ tv, tv = if vc = 1 then some (⟨vb, vo, none⟩ : Addr) else some ⟨vb, vo + 1, none⟩ := ⟨_, rfl⟩
          rw [← htv]
          obtain ⟨wE3, hwE⟩ : ∃ w, w = wE2.setCell ⟨b4, 3, none⟩ (.slice tv vn1 (vc - 1)) := ⟨_, rfl⟩
          rw [← hwE]
          have cE : Ch (fun k => k = b4) wE2 wE3 := by rw [hwE]; exact ch_setCell' _ _ _ _
          have BT : Hid (∀ k, (Value.slice tv vn1 (vc - 1)).ownBlock = some k → (Value.slice (some ⟨vb, vo, none⟩) (vn1 + 1) vc).ownBlock = some k) := Lib.hid fun k hk => by
            rw [htv] at hk
            split at hk <;> exact hk
          have KT3 : Hid (CellsAt wE3 b4 [.int .u64 (en : Int), .int .i64 qa1, .slice fa2 fn2 fc2, .slice tv vn1 (vc - 1)] 87) := Lib.hid (by rw [hwE]; exact KT2.out.set 3 _)
          have GG3 : Hid (Gr w1 wE3) := Lib.hid (Below.trans GG2.out (cE.below GG2.out.size (fun k hk => by have : k = b4 := hk; have := HB.out; omega)))
          have c30 := C2.out.trans cE
          have SFN3 : Hid (Sl wE3 (.slice fa2 fn2 fc2) (nums f2)) := Lib.hid (SFN.out.ch c30 (fun k hk e => BF4.out k hk e))
          have SQN3 : Hid (Sl wE3 (.slice tv vn1 (vc - 1)) (ints q3)) := Lib.hid (by
            have h1 := sl_tailo SQ2.out
            rw [← htv] at h1
            exact h1.ch cE (fun k hk e => BQ4.out k (BT.out k hk) e))
          have SZ3 : Hid (wF.heap.size ≤ wE3.heap.size) := Lib.hid c30.size
          replace BFN : Hid (∀ k, (Value.slice fa2 fn2 fc2).ownBlock = some k → (P k ∧ k ≠ g ∧ k ≠ h) ∨ (w0.heap.size ≤ k ∧ k < wE3.heap.size)) := Lib.hid fun k hk => (BFN.out k hk).imp id fun h1 => ⟨h1.1, by have := SZ3.out; omega⟩
          replace BQN : Hid (∀ k, (Value.slice tv vn1 (vc - 1)).ownBlock = some k → (P k ∧ k ≠ g ∧ k ≠ h) ∨ (w0.heap.size ≤ k ∧ k < wE3.heap.size)) := Lib.hid fun k hk => (BQN.out k (BT.out k hk)).imp id fun h1 => ⟨h1.1, by have := SZ3.out; omega⟩
          replace BQH : Hid (∀ k, (Value.slice tv vn1 (vc - 1)).ownBlock = some k → k ≠ h) := Lib.hid fun k hk => BQH.out k (BT.out k hk)
          replace HN : Hid (tn = ⟨en, qa1, f2, q3⟩) := Lib.hid (HN.out.trans (by
            rw [nextT_pos (t := ⟨ep, ho, f2, q2⟩) HNEG.out (by show 0 < q2.length; rw [HQ2.out]; simp), HEN.out]
            show (⟨_, q2.headD 0, _, q2.tail⟩ : Tok) = _
            rw [HQ2.out]
            rfl))
          clear hwE cE c30 htv KT2 GG2 C2 SQ2 SFN SQN BQ4 BF4 BT
          have KT := KT3
          have GG := GG3
          have SFN := SFN3
          have SQN := SQN3
          clear KT3 GG3 SFN3 SQN3
          have GD := Lib.hid ((Gr.refl wE3).drew)
          have i1 : (0 : Int) ≤ (i : Int) := by omega
          have i2 : (i : Int) < (n : Int) := by have := IN.out; omega
          apply wp_region_draw_tail 8 (.eq _ :: .eq _ :: .eq _ :: .eq _ :: .eq _ :: .eq _ :: .eq _ :: .eq _ :: []) (by kernel_rfl) (by kernel_rfl) trivial
          simp only [List.take_succ_cons, List.take_zero, List.drop_succ_cons, List.drop_zero]
          iterate 8
           apply wpG_eq
           · intro W hW hs
             obtain ⟨x0, x19, x20, x21, x22⟩ := CE.out W (GG.out.trans (GD.out.trans hW))
             obtain ⟨y0, y1⟩ := CG.out W (GG.out.trans (GD.out.trans hW))
             obtain ⟨t0, t1, t2, t3⟩ := tcell (KT.out.gr (GD.out.trans hW))
             unfold opG
             go_simp
             first | exact resG_eq_mk _ _ _ | rfl
           simp only [Act.put, pt1, pt2, pt3]
          apply wpG_nil
          intro wG hWG hsAll
          have gG := GD.out.trans hWG
          have gG1 := GG.out.trans gG
          have kh := (TH.out.gr G1.out).gr gG1
          have z0 := kh.cell (i * 4)
          have z1 := kh.cell (i * 4 + 1)
          have z2 := kh.cell (i * 4 + 2)
          have z3 := kh.cell (i * 4 + 3)
          rw [TC.out.1] at z0
          rw [TC.out.2.1] at z1
          rw [TC.out.2.2.1] at z2
          rw [TC.out.2.2.2] at z3
          have f0 := kh.frozen (i * 4)
          have f1 := kh.frozen (i * 4 + 1)
          have f2' := kh.frozen (i * 4 + 2)
          have f3 := kh.frozen (i * 4 + 3)
          have KH := Lib.hid kh
          have SFG := Lib.hid (SFN.out.below gG)
          have SQG := Lib.hid (SQN.out.below gG)
          have GG0 := Lib.hid (G1.out.trans gG1)
          have SZF : Hid (wE3.heap.size ≤ wG.heap.size) := Lib.hid gG.size
          clear hsAll hWG gG gG1 kh GD i1 i2
          go_wp2_with fail
          obtain ⟨wH, hwH⟩ : ∃ wH, wH = (((wG.setCell ⟨h, i * 4, none⟩ (.int .u64 ((en : Int)))).setCell ⟨h, i * 4 + 1, none⟩ (.int .i64 qa1)).setCell ⟨h, i * 4 + 2, none⟩ (.slice fa2 fn2 fc2)).setCell ⟨h, i * 4 + 3, none⟩ (.slice tv vn1 (vc - 1)) := ⟨_, rfl⟩
          rw [← hwH]
          have cH : Ch (fun k => k = h) wG wH := by
            rw [hwH]
            exact (((ch_setCell' _ _ _ _).trans (ch_setCell' _ _ _ _)).trans (ch_setCell' _ _ _ _)).trans (ch_setCell' _ _ _ _)
          have kH : CellsAt wH h (row4 cur i (.int .u64 ((en : Int))) (.int .i64 qa1) (.slice fa2 fn2 fc2) (.slice tv vn1 (vc - 1))) 87 := by
            rw [hwH]
            exact (((KH.out.set _ _).set _ _).set _ _).set _ _
          go_end0
          exact ⟨rfl, by
            rw [HN.out]
            refine NEW.out wH _ _ _ ((Ch.of_gr (ρ := fun _ => False) GG0.out |> fun c => ch_mono c fun _ h => h.elim).trans cH) kH (SFG.out.ch cH fun k hk e => by subst e; exact BFH.out _ hk rfl) (SQG.out.ch cH fun k hk e => by subst e; exact BQH.out _ hk rfl) (fun k hk => (BFN.out k hk).imp id fun h1 => ⟨h1.1, by have := cH.size; have := SZF.out; omega⟩) (fun k hk => (BQN.out k hk).imp id fun h1 => ⟨h1.1, by have := cH.size; have := SZF.out; omega⟩)⟩
        · have d1 : (ho < 0) = False := by simp only [eq_iff_iff, iff_false]; exact hneg
          have HNEG := Lib.hid hneg
          clear hneg
          obtain ⟨x0, x19, x20, x21, x22⟩ := CE.out _ GG.out
          obtain ⟨t0, t1, t2, t3⟩ := tcell KT.out
          go_upto_region 18 with fail
          clear x0 x19 x20 x21 x22 t0 t1 t2 t3
          replace HN : Hid (tn = ⟨ep, ho, f2, q2⟩) := Lib.hid (HN.out.trans (nextT_neg (.inl HNEG.out)))
          have GD := Lib.hid ((Gr.refl wF).drew)
          have i1 : (0 : Int) ≤ (i : Int) := by omega
          have i2 : (i : Int) < (n : Int) := by have := IN.out; omega
          apply wp_region_draw_tail 8 (.eq _ :: .eq _ :: .eq _ :: .eq _ :: .eq _ :: .eq _ :: .eq _ :: .eq _ :: []) (by kernel_rfl) (by kernel_rfl) trivial
          simp only [List.take_succ_cons, List.take_zero, List.drop_succ_cons, List.drop_zero]
          iterate 8
           apply wpG_eq
           · intro W hW hs
             obtain ⟨x0, x19, x20, x21, x22⟩ := CE.out W (GG.out.trans (GD.out.trans hW))
             obtain ⟨y0, y1⟩ := CG.out W (GG.out.trans (GD.out.trans hW))
             obtain ⟨t0, t1, t2, t3⟩ := tcell (KT.out.gr (GD.out.trans hW))
             unfold opG
             go_simp
             first | exact resG_eq_mk _ _ _ | rfl
           simp only [Act.put, pt1, pt2, pt3]
          apply wpG_nil
          intro wG hWG hsAll
          have gG := GD.out.trans hWG
          have gG1 := GG.out.trans gG
          have kh := (TH.out.gr G1.out).gr gG1
          have z0 := kh.cell (i * 4)
          have z1 := kh.cell (i * 4 + 1)
          have z2 := kh.cell (i * 4 + 2)
          have z3 := kh.cell (i * 4 + 3)
          rw [TC.out.1] at z0
          rw [TC.out.2.1] at z1
          rw [TC.out.2.2.1] at z2
          rw [TC.out.2.2.2] at z3
          have f0 := kh.frozen (i * 4)
          have f1 := kh.frozen (i * 4 + 1)
          have f2' := kh.frozen (i * 4 + 2)
          have f3 := kh.frozen (i * 4 + 3)
          have KH := Lib.hid kh
          have SFG := Lib.hid (SFN.out.below gG)
          have SQG := Lib.hid (SQN.out.below gG)
          have GG0 := Lib.hid (G1.out.trans gG1)
          have SZF : Hid (wF.heap.size ≤ wG.heap.size) := Lib.hid gG.size
          clear hsAll hWG gG gG1 kh GD i1 i2
          go_wp2_with fail
          obtain ⟨wH, hwH⟩ : ∃ wH, wH = (((wG.setCell ⟨h, i * 4, none⟩ (.int .u64 ((ep : Int)))).setCell ⟨h, i * 4 + 1, none⟩ (.int .i64 ho)).setCell ⟨h, i * 4 + 2, none⟩ (.slice fa2 fn2 fc2)).setCell ⟨h, i * 4 + 3, none⟩ (.slice va vn vc) := ⟨_, rfl⟩
          rw [← hwH]
          have cH : Ch (fun k => k = h) wG wH := by
            rw [hwH]
            exact (((ch_setCell' _ _ _ _).trans (ch_setCell' _ _ _ _)).trans (ch_setCell' _ _ _ _)).trans (ch_setCell' _ _ _ _)
          have kH : CellsAt wH h (row4 cur i (.int .u64 ((ep : Int))) (.int .i64 ho) (.slice fa2 fn2 fc2) (.slice va vn vc)) 87 := by
            rw [hwH]
            exact (((KH.out.set _ _).set _ _).set _ _).set _ _
          go_end0
          exact ⟨rfl, by
            rw [HN.out]
            refine NEW.out wH _ _ _ ((Ch.of_gr (ρ := fun _ => False) GG0.out |> fun c => ch_mono c fun _ h => h.elim).trans cH) kH (SFG.out.ch cH fun k hk e => by subst e; exact BFH.out _ hk rfl) (SQG.out.ch cH fun k hk e => by subst e; exact BQH.out _ hk rfl) (fun k hk => (BFN.out k hk).imp id fun h1 => ⟨h1.1, by have := cH.size; have := SZF.out; omega⟩) (fun k hk => (BQN.out k hk).imp id fun h1 => ⟨h1.1, by have := cH.size; have := SZF.out; omega⟩)⟩
  by_cases h9 : kd = 9
  · as_aux_lemma =>
    obtain ⟨x0, x19, x20, x21, x22⟩ := CE.out _ GG.out
    obtain ⟨t0, t1, t2, t3⟩ := tcell KT.out
    have H9 := Lib.hid h9
    replace x0 : w4.cell? ⟨b1, 0, none⟩ = some (.int .u8 9) := by rw [x0, h9]; rfl
    clear h8 h9
    have GD := Lib.hid ((Gr.refl w4).drew)
    go_upto_region 11 with fail
    clear x0 x19 x20 x21 x22 t0 t1 t2 t3
    by_cases hh : ho = st
    · by_cases he : ep = xe
      · by_cases hl : (xn : Int) = sites
        · have d1 : (ho != st) = false := by simp [hh]
          have d2 : ((ep : Int) != (xe : Int)) = false := by simp [he]
          have d3 : ((xn : Int) != sites) = false := by simp [hl]
          have HC := Lib.hid (And.intro hh (And.intro he hl))
          clear hh he hl
          apply wp_region_draw_grow (.eq _ :: .eq _ :: .eq _ :: .eq _ :: .eq _ :: .eq _ :: .eq _ :: .eq _ :: .eq _ :: .eq _ :: .eq _ :: .eq _ :: .eq _ :: .eq _ :: .eq _ :: .eq _ :: .eq _ :: .eq _ :: .eq _ :: .eq _ :: .eq _ :: .eq _ :: []) (by kernel_rfl) (by kernel_rfl) trivial
          iterate 22
           apply wpG_eq
           · intro W hW hs
             obtain ⟨t0, t1, t2, t3⟩ := tcell (KT.out.gr (GD.out.trans hW))
             obtain ⟨x0, x19, x20, x21, x22⟩ := CE.out W (GG.out.trans (GD.out.trans hW))
             obtain ⟨y0, y1⟩ := CG.out W (GG.out.trans (GD.out.trans hW))
             unfold opG
             go_simp
             first | exact resG_eq_mk _ _ _ | rfl
           simp only [Act.put, pt1, pt2, pt3]
          apply wpG_nil
          intro wE hWE hsAll
          clear hsAll
          have GE := Lib.hid (GD.out.trans hWE)
          clear hWE GD
          have FL : Hid (fr.length = x.frontier.length ∧ fr.length ≤ 1000000) := Lib.hid (by
            have h1 : fr.length = sites.toNat := TOK.out.front
            have h2 := HC.out.2.2
            have h3 := XN.out
            have h4 := ST.out
            omega)
          replace KT := Lib.hid (KT.out.gr GE.out)
          replace GG := Lib.hid (GG.out.trans GE.out)
          obtain ⟨t0, t1, t2, t3⟩ := tcell KT.out
          have tf1 := KT.out.frozen 1
          clear GE d1 d2 d3
          go_upto_region 13 with fail
          clear t0 t1 t2 t3 tf1
          obtain ⟨wM, hwE⟩ : ∃ w, w = wE.setCell ⟨b4, 1, none⟩ (.int .i64 (-1)) := ⟨_, rfl⟩
          try rw [← hwE]
          have cE : Ch (fun k => k = b4) wE wM := by rw [hwE]; exact ch_setCell' _ _ _ _
          have KM : Hid (CellsAt wM b4 [.int .u64 (ep : Int), .int .i64 (-1), .slice fa fn fc, .slice qa qn qc] 87) := Lib.hid (by rw [hwE]; exact KT.out.set 1 _)
          have GM : Hid (Gr w1 wM) := Lib.hid (Below.trans GG.out (cE.below GG.out.size (fun k hk => by have : k = b4 := hk; have := HB.out; omega)))
          clear hwE cE KT GG
          have NB4 : Hid (b4 < wM.heap.size ∧ (∀ k, P k → k ≠ b4)) := Lib.hid ⟨KM.out.lt, fun k hk e => by have h1 := PW.out k hk; have := G1.out.size; have := HB.out; omega⟩
          have GM0 := Lib.hid (G1.out.trans GM.out)
          have MX : Hid (Calls Tryz.prog 39 #[.slice fa fn fc, .slice xa xn xc] wM (RetNums wM (maxV fr x.frontier))) := Lib.hid (refmax_any wM _ _ fr x.frontier (SF.out.below GM0.out) (SX'.out.below GM0.out) FL.out.2 XL.out)
          obtain ⟨t0, t1, t2, t3⟩ := tcell KM.out
          obtain ⟨x0, x19, x20, x21, x22⟩ := CE.out _ GM.out
          go_wp2_with fail
          clear x0 x19 x20 x21 x22 t0 t1 t2 t3
          refine MX.out.mono ?_
          rintro en wN ⟨vm, rfl, om, gm⟩
          obtain ⟨fa2, fc2, hsh⟩ := om.shape
          have OM := Lib.hid om
          obtain ⟨fn2, hfn2⟩ : ∃ m, m = (nums (maxV fr x.frontier)).length := ⟨_, rfl⟩
          rw [← hfn2] at hsh
          subst hsh
          have KN : Hid (CellsAt wN b4 [.int .u64 (ep : Int), .int .i64 (-1), .slice fa fn fc, .slice qa qn qc] 87) := Lib.hid (KM.out.gr gm)
          have GN : Hid (Gr w1 wN) := Lib.hid (GM.out.trans gm)
          clear om gm hfn2 MX KM
          obtain ⟨t0, t1, t2, t3⟩ := tcell KN.out
          have tf2 := KN.out.frozen 2
          go_upto_region 14 with fail
          clear t0 t1 t2 t3 tf2
          obtain ⟨wF, hwE⟩ : ∃ w, w = wN.setCell ⟨b4, 2, none⟩ (.slice fa2 fn2 fc2) := ⟨_, rfl⟩
          rw [← hwE]
          have cF : Ch (fun k => k = b4) wN wF := by rw [hwE]; exact ch_setCell' _ _ _ _
          have KF : CellsAt wF b4 [.int .u64 (ep : Int), .int .i64 (-1), .slice fa2 fn2 fc2, .slice qa qn qc] 87 := by rw [hwE]; exact KN.out.set 2 _
          obtain ⟨va, hva⟩ : ∃ a, a = qa := ⟨_, rfl⟩
          obtain ⟨vn, hvn⟩ : ∃ a, a = qn := ⟨_, rfl⟩
          obtain ⟨vc, hvc⟩ : ∃ a, a = qc := ⟨_, rfl⟩
          obtain ⟨f2, hf2⟩ : ∃ a, a = maxV fr x.frontier := ⟨_, rfl⟩
          obtain ⟨q2, hq2⟩ : ∃ a, a = qu := ⟨_, rfl⟩
          have KT : Hid (CellsAt wF b4 [.int .u64 (ep : Int), .int .i64 (-1), .slice fa2 fn2 fc2, .slice va vn vc] 87) := Lib.hid (by rw [hva, hvn, hvc]; exact KF)
          have BF4 : Hid (∀ k, (Value.slice fa2 fn2 fc2).ownBlock = some k → k ≠ b4) := Lib.hid fun k hk => by have := OM.out.lt k hk; have := NB4.out.1; omega
          have SFN : Hid (Sl wF (.slice fa2 fn2 fc2) (nums f2)) := Lib.hid (by rw [hf2]; exact OM.out.sl.ch cF (fun k hk => BF4.out k hk))
          have BQ4 : Hid (∀ k, (Value.slice va vn vc).ownBlock = some k → k ≠ b4) := Lib.hid (by rw [hva, hvn, hvc]; exact fun k hk => NB4.out.2 k (BQ.out k hk).1)
          have SQN : Hid (Sl wF (.slice va vn vc) (ints q2)) := Lib.hid (by rw [hva, hvn, hvc, hq2]; exact (SQ.out.below (G1.out.trans GN.out)).ch cF (fun k hk => NB4.out.2 k (BQ.out k hk).1))
          have BFN : Hid (∀ k, (Value.slice fa2 fn2 fc2).ownBlock = some k → (P k ∧ k ≠ g ∧ k ≠ h) ∨ (w0.heap.size ≤ k ∧ k < wF.heap.size)) := Lib.hid fun k hk => .inr (by have h1 := OM.out.lt k hk; have h2 := GM0.out.size; have h3 := cF.size; omega)
          have BQN : Hid (∀ k, (Value.slice va vn vc).ownBlock = some k → (P k ∧ k ≠ g ∧ k ≠ h) ∨ (w0.heap.size ≤ k ∧ k < wF.heap.size)) := Lib.hid (by rw [hva, hvn, hvc]; exact fun k hk => .inl (BQ.out k hk))
          have BFH : Hid (∀ k, (Value.slice fa2 fn2 fc2).ownBlock = some k → k ≠ h) := Lib.hid fun k hk => by have h1 := OM.out.lt k hk; have h2 := PW.out h HH.out.2.1; have := GM0.out.size; omega
          have BQH : Hid (∀ k, (Value.slice va vn vc).ownBlock = some k → k ≠ h) := Lib.hid (by rw [hva, hvn, hvc]; exact fun k hk => (BQ.out k hk).2.2)
          have GG : Hid (Gr w1 wF) := Lib.hid (Below.trans GN.out (cF.below GN.out.size (fun k hk => by have : k = b4 := hk; have := HB.out; omega)))
          have VL : Hid (vn = q2.length) := Lib.hid (by rw [hvn, hq2]; exact QN.out)
          have HNEG : Hid ((-1 : Int) < 0) := Lib.hid (by decide)
          have HN : Hid (tn = nextT ⟨ep, -1, f2, q2⟩) := Lib.hid (HTN.out.trans (by
            rw [hf2, hq2]
            unfold doT
            rw [if_neg (by rw [← XX.out.1, H9.out]; decide), if_pos (by rw [← XX.out.1]; exact H9.out), backT_some (by rw [← XX.out.2.1]; exact HC.out.1) (by rw [← XX.out.2.2]; exact HC.out.2.1) FL.out.1.symm]
            rfl))
          clear hwE cF KF hva hvn hvc hf2 hq2 KN GN GM OM GM0 FL NB4
          by_cases hv : 0 < vn
          · have d2 : (0 < vn) = True := by simp only [eq_iff_iff, iff_true]; exact hv
            have VN := Lib.hid (And.intro VL.out hv)
            clear hv VL
            obtain ⟨x0, x19, x20, x21, x22⟩ := CE.out _ GG.out
            obtain ⟨t0, t1, t2, t3⟩ := tcell KT.out
            obtain ⟨en, hen⟩ : ∃ en, en = (ep + 1) % 2 ^ 64 := ⟨_, rfl⟩
            have e5 : IntKind.wrap .u64 ((ep : Int) + 1) = (en : Int) := by rw [hen]; exact wrap_u64 ep
            have HEN := Lib.hid hen
            clear hen
            have tf0 := KT.out.frozen 0
            go_upto_region 16 with fail
            clear x0 x19 x20 x21 x22 t0 t1 t2 t3 tf0 e5
            obtain ⟨wE1, hwE⟩ : ∃ w, w = wF.setCell ⟨b4, 0, none⟩ (.int .u64 (en : Int)) := ⟨_, rfl⟩
            rw [← hwE]
            have cE : Ch (fun k => k = b4) wF wE1 := by rw [hwE]; exact ch_setCell' _ _ _ _
            have KT1 : Hid (CellsAt wE1 b4 [.int .u64 (en : Int), .int .i64 ((-1)), .slice fa2 fn2 fc2, .slice va vn vc] 87) := Lib.hid (by rw [hwE]; exact KT.out.set 0 _)
            have GG1 : Hid (Gr w1 wE1) := Lib.hid (Below.trans GG.out (cE.below GG.out.size (fun k hk => by have : k = b4 := hk; have := HB.out; omega)))
            have C1 := Lib.hid cE
            obtain ⟨qa1, q3, hq2⟩ : ∃ a l, q2 = a :: l := by
              have h1 := VN.out.1
              have h2 := VN.out.2
              cases hq : q2 with
              | nil => rw [hq] at h1; simp at h1; omega
              | cons a l => exact ⟨a, l, rfl⟩
            have HQ2 := Lib.hid hq2
            obtain ⟨vn1, hvn1⟩ : ∃ m, m = q3.length := ⟨_, rfl⟩
            have hvn : vn = vn1 + 1 := by rw [VN.out.1, hq2, hvn1]; rfl
            subst hvn
            have SQ0 := SQN.out.ch cE (fun k hk e => BQ4.out k hk e)
            rw [hq2] at SQ0
            obtain ⟨vb, vo, hva, hcell⟩ : ∃ vb vo, va = some ⟨vb, vo, none⟩ ∧ wE1.cell? ⟨vb, vo, none⟩ = some (.int .i64 qa1) := by
              obtain ⟨a', c', e, _, hh⟩ := SQ0
              injection e with e1 _ _
              rcases hh with hh | ⟨b', o', hh, _, hc⟩
              · cases hh
              · exact ⟨b', o', e1.trans hh, hc 0 (by simp [ints])⟩
            subst hva
            have SQ1 := Lib.hid SQ0
            obtain ⟨t0, t1, t2, t3⟩ := tcell KT1.out
            have tf1 := KT1.out.frozen 1
            clear hwE cE SQ0 hvn1 hq2 KT GG
            go_upto_region 17 with fail
            clear t0 t1 t2 t3 tf1 hcell
            obtain ⟨wE2, hwE⟩ : ∃ w, w = wE1.setCell ⟨b4, 1, none⟩ (.int .i64 qa1) := ⟨_, rfl⟩
            rw [← hwE]
            have cE : Ch (fun k => k = b4) wE1 wE2 := by rw [hwE]; exact ch_setCell' _ _ _ _
            have KT2 : Hid (CellsAt wE2 b4 [.int .u64 (en : Int), .int .i64 qa1, .slice fa2 fn2 fc2, .slice (some ⟨vb, vo, none⟩) (vn1 + 1) vc] 87) := Lib.hid (by rw [hwE]; exact KT1.out.set 1 _)
            have GG2 : Hid (Gr w1 wE2) := Lib.hid (Below.trans GG1.out (cE.below GG1.out.size (fun k hk => by have : k = b4 := hk; have := HB.out; omega)))
            have C2 := Lib.hid (C1.out.trans cE)
            have SQ2 := Lib.hid (SQ1.out.ch cE (fun k hk e => BQ4.out k hk e))
            obtain ⟨t0, t1, t2, t3⟩ := tcell KT2.out
            have tf3 := KT2.out.frozen 3
            have l1 : 1 ≤ vn1 + 1 := by omega
            have l2 : vn1 + 1 ≤ vc := by
              obtain ⟨a', c', e, hl, _⟩ := SQ2.out
              injection e with _ e2 e3
              omega
            clear hwE cE KT1 GG1 C1 SQ1
            go_upto_region 18 with fail
            clear t0 t1 t2 t3 tf3 l1 l2
            obtain ⟨tv, htv⟩ : ∃ tv, tv = if vc = 1 then some (⟨vb, vo, none⟩ : Addr) else some ⟨vb, vo + 1, none⟩ := ⟨_, rfl⟩
            rw [← htv]
            obtain ⟨wE3, hwE⟩ : ∃ w, w = wE2.setCell ⟨b4, 3, none⟩ (.slice tv vn1 (vc - 1)) := ⟨_, rfl⟩
            rw [← hwE]
            have cE : Ch (fun k => k = b4) wE2 wE3 := by rw [hwE]; exact ch_setCell' _ _ _ _
            have BT : Hid (∀ k, (Value.slice tv vn1 (vc - 1)).ownBlock = some k → (Value.slice (some ⟨vb, vo, none⟩) (vn1 + 1) vc).ownBlock = some k) := Lib.hid fun k hk => by
              rw [htv] at hk
              split at hk <;> exact hk
            have KT3 : Hid (CellsAt wE3 b4 [.int .u64 (en : Int), .int .i64 qa1, .slice fa2 fn2 fc2, .slice tv vn1 (vc - 1)] 87) := Lib.hid (by rw [hwE]; exact KT2.out.set 3 _)
            have GG3 : Hid (Gr w1 wE3) := Lib.hid (Below.trans GG2.out (cE.below GG2.out.size (fun k hk => by have : k = b4 := hk; have := HB.out; omega)))
            have c30 := C2.out.trans cE
            have SFN3 : Hid (Sl wE3 (.slice fa2 fn2 fc2) (nums f2)) := Lib.hid (SFN.out.ch c30 (fun k hk e => BF4.out k hk e))
            have SQN3 : Hid (Sl wE3 (.slice tv vn1 (vc - 1)) (ints q3)) := Lib.hid (by
              have h1 := sl_tailo SQ2.out
              rw [← htv] at h1
              exact h1.ch cE (fun k hk e => BQ4.out k (BT.out k hk) e))
            have SZ3 : Hid (wF.heap.size ≤ wE3.heap.size) := Lib.hid c30.size
            replace BFN : Hid (∀ k, (Value.slice fa2 fn2 fc2).ownBlock = some k → (P k ∧ k ≠ g ∧ k ≠ h) ∨ (w0.heap.size ≤ k ∧ k < wE3.heap.size)) := Lib.hid fun k hk => (BFN.out k hk).imp id fun h1 => ⟨h1.1, by have := SZ3.out; omega⟩
            replace BQN : Hid (∀ k, (Value.slice tv vn1 (vc - 1)).ownBlock = some k → (P k ∧ k ≠ g ∧ k ≠ h) ∨ (w0.heap.size ≤ k ∧ k < wE3.heap.size)) := Lib.hid fun k hk => (BQN.out k (BT.out k hk)).imp id fun h1 => ⟨h1.1, by have := SZ3.out; omega⟩
            replace BQH : Hid (∀ k, (Value.slice tv vn1 (vc - 1)).ownBlock = some k → k ≠ h) := Lib.hid fun k hk => BQH.out k (BT.out k hk)
            replace HN : Hid (tn = ⟨en, qa1, f2, q3⟩) := Lib.hid (HN.out.trans (by
              rw [nextT_pos (t := ⟨ep, (-1), f2, q2⟩) HNEG.out (by show 0 < q2.length; rw [HQ2.out]; simp), HEN.out]
              show (⟨_, q2.headD 0, _, q2.tail⟩ : Tok) = _
              rw [HQ2.out]
              rfl))
            clear hwE cE c30 htv KT2 GG2 C2 SQ2 SFN SQN BQ4 BF4 BT
            have KT := KT3
            have GG := GG3
            have SFN := SFN3
            have SQN := SQN3
            clear KT3 GG3 SFN3 SQN3
            have GD := Lib.hid ((Gr.refl wE3).drew)
            have i1 : (0 : Int) ≤ (i : Int) := by omega
            have i2 : (i : Int) < (n : Int) := by have := IN.out; omega
            apply wp_region_draw_tail 8 (.eq _ :: .eq _ :: .eq _ :: .eq _ :: .eq _ :: .eq _ :: .eq _ :: .eq _ :: []) (by kernel_rfl) (by kernel_rfl) trivial
            simp only [List.take_succ_cons, List.take_zero, List.drop_succ_cons, List.drop_zero]
            iterate 8
             apply wpG_eq
             · intro W hW hs
               obtain ⟨x0, x19, x20, x21, x22⟩ := CE.out W (GG.out.trans (GD.out.trans hW))
               obtain ⟨y0, y1⟩ := CG.out W (GG.out.trans (GD.out.trans hW))
               obtain ⟨t0, t1, t2, t3⟩ := tcell (KT.out.gr (GD.out.trans hW))
               unfold opG
               go_simp
               first | exact resG_eq_mk _ _ _ | rfl
             simp only [Act.put, pt1, pt2, pt3]
            apply wpG_nil
            intro wG hWG hsAll
            have gG := GD.out.trans hWG
            have gG1 := GG.out.trans gG
            have kh := (TH.out.gr G1.out).gr gG1
            have z0 := kh.cell (i * 4)
            have z1 := kh.cell (i * 4 + 1)
            have z2 := kh.cell (i * 4 + 2)
            have z3 := kh.cell (i * 4 + 3)
            rw [TC.out.1] at z0
            rw [TC.out.2.1] at z1
            rw [TC.out.2.2.1] at z2
            rw [TC.out.2.2.2] at z3
            have f0 := kh.frozen (i * 4)
            have f1 := kh.frozen (i * 4 + 1)
            have f2' := kh.frozen (i * 4 + 2)
            have f3 := kh.frozen (i * 4 + 3)
            have KH := Lib.hid kh
            have SFG := Lib.hid (SFN.out.below gG)
            have SQG := Lib.hid (SQN.out.below gG)
            have GG0 := Lib.hid (G1.out.trans gG1)
            have SZF : Hid (wE3.heap.size ≤ wG.heap.size) := Lib.hid gG.size
            clear hsAll hWG gG gG1 kh GD i1 i2
            go_wp2_with fail
            obtain ⟨wH, hwH⟩ : ∃ wH, wH = (((wG.setCell ⟨h, i * 4, none⟩ (.int .u64 ((en : Int)))).setCell ⟨h, i * 4 + 1, none⟩ (.int .i64 qa1)).setCell ⟨h, i * 4 + 2, none⟩ (.slice fa2 fn2 fc2)).setCell ⟨h, i * 4 + 3, none⟩ (.slice tv vn1 (vc - 1)) := ⟨_, rfl⟩
            rw [← hwH]
            have cH : Ch (fun k => k = h) wG wH := by
              rw [hwH]
              exact (((ch_setCell' _ _ _ _).trans (ch_setCell' _ _ _ _)).trans (ch_setCell' _ _ _ _)).trans (ch_setCell' _ _ _ _)
            have kH : CellsAt wH h (row4 cur i (.int .u64 ((en : Int))) (.int .i64 qa1) (.slice fa2 fn2 fc2) (.slice tv vn1 (vc - 1))) 87 := by
              rw [hwH]
              exact (((KH.out.set _ _).set _ _).set _ _).set _ _
            go_end0
            exact ⟨rfl, by
              rw [HN.out]
              refine NEW.out wH _ _ _ ((Ch.of_gr (ρ := fun _ => False) GG0.out |> fun c => ch_mono c fun _ h => h.elim).trans cH) kH (SFG.out.ch cH fun k hk e => by subst e; exact BFH.out _ hk rfl) (SQG.out.ch cH fun k hk e => by subst e; exact BQH.out _ hk rfl) (fun k hk => (BFN.out k hk).imp id fun h1 => ⟨h1.1, by have := cH.size; have := SZF.out; omega⟩) (fun k hk => (BQN.out k hk).imp id fun h1 => ⟨h1.1, by have := cH.size; have := SZF.out; omega⟩)⟩
          · have d2 : (0 < vn) = False := by simp only [eq_iff_iff, iff_false]; exact hv
            have VZ : Hid (¬ 0 < q2.length) := Lib.hid (by rw [← VL.out]; exact hv)
            clear hv VL
            obtain ⟨x0, x19, x20, x21, x22⟩ := CE.out _ GG.out
            obtain ⟨t0, t1, t2, t3⟩ := tcell KT.out
            go_upto_region 18 with fail
            clear x0 x19 x20 x21 x22 t0 t1 t2 t3
            replace HN : Hid (tn = ⟨ep, (-1), f2, q2⟩) := Lib.hid (HN.out.trans (nextT_neg (.inr VZ.out)))
            have GD := Lib.hid ((Gr.refl wF).drew)
            have i1 : (0 : Int) ≤ (i : Int) := by omega
            have i2 : (i : Int) < (n : Int) := by have := IN.out; omega
            apply wp_region_draw_tail 8 (.eq _ :: .eq _ :: .eq _ :: .eq _ :: .eq _ :: .eq _ :: .eq _ :: .eq _ :: []) (by kernel_rfl) (by kernel_rfl) trivial
            simp only [List.take_succ_cons, List.take_zero, List.drop_succ_cons, List.drop_zero]
            iterate 8
             apply wpG_eq
             · intro W hW hs
               obtain ⟨x0, x19, x20, x21, x22⟩ := CE.out W (GG.out.trans (GD.out.trans hW))
               obtain ⟨y0, y1⟩ := CG.out W (GG.out.trans (GD.out.trans hW))
               obtain ⟨t0, t1, t2, t3⟩ := tcell (KT.out.gr (GD.out.trans hW))
               unfold opG
               go_simp
               first | exact resG_eq_mk _ _ _ | rfl
             simp only [Act.put, pt1, pt2, pt3]
            apply wpG_nil
            intro wG hWG hsAll
            have gG := GD.out.trans hWG
            have gG1 := GG.out.trans gG
            have kh := (TH.out.gr G1.out).gr gG1
            have z0 := kh.cell (i * 4)
            have z1 := kh.cell (i * 4 + 1)
            have z2 := kh.cell (i * 4 + 2)
            have z3 := kh.cell (i * 4 + 3)
            rw [TC.out.1] at z0
            rw [TC.out.2.1] at z1
            rw [TC.out.2.2.1] at z2
            rw [TC.out.2.2.2] at z3
            have f0 := kh.frozen (i * 4)
            have f1 := kh.frozen (i * 4 + 1)
            have f2' := kh.frozen (i * 4 + 2)
            have f3 := kh.frozen (i * 4 + 3)
            have KH := Lib.hid kh
            have SFG := Lib.hid (SFN.out.below gG)
            have SQG := Lib.hid (SQN.out.below gG)
            have GG0 := Lib.hid (G1.out.trans gG1)
            have SZF : Hid (wF.heap.size ≤ wG.heap.size) := Lib.hid gG.size
            clear hsAll hWG gG gG1 kh GD i1 i2
            go_wp2_with fail
            obtain ⟨wH, hwH⟩ : ∃ wH, wH = (((wG.setCell ⟨h, i * 4, none⟩ (.int .u64 ((ep : Int)))).setCell ⟨h, i * 4 + 1, none⟩ (.int .i64 (-1))).setCell ⟨h, i * 4 + 2, none⟩ (.slice fa2 fn2 fc2)).setCell ⟨h, i * 4 + 3, none⟩ (.slice va vn vc) := ⟨_, rfl⟩
            rw [← hwH]
            have cH : Ch (fun k => k = h) wG wH := by
              rw [hwH]
              exact (((ch_setCell' _ _ _ _).trans (ch_setCell' _ _ _ _)).trans (ch_setCell' _ _ _ _)).trans (ch_setCell' _ _ _ _)
            have kH : CellsAt wH h (row4 cur i (.int .u64 ((ep : Int))) (.int .i64 (-1)) (.slice fa2 fn2 fc2) (.slice va vn vc)) 87 := by
              rw [hwH]
              exact (((KH.out.set _ _).set _ _).set _ _).set _ _
            go_end0
            exact ⟨rfl, by
              rw [HN.out]
              refine NEW.out wH _ _ _ ((Ch.of_gr (ρ := fun _ => False) GG0.out |> fun c => ch_mono c fun _ h => h.elim).trans cH) kH (SFG.out.ch cH fun k hk e => by subst e; exact BFH.out _ hk rfl) (SQG.out.ch cH fun k hk e => by subst e; exact BQH.out _ hk rfl) (fun k hk => (BFN.out k hk).imp id fun h1 => ⟨h1.1, by have := cH.size; have := SZF.out; omega⟩) (fun k hk => (BQN.out k hk).imp id fun h1 => ⟨h1.1, by have := cH.size; have := SZF.out; omega⟩)⟩
        · have d1 : (ho != st) = false := by simp [hh]
          have d2 : ((ep : Int) != (xe : Int)) = false := by simp [he]
          have d3 : ((xn : Int) != sites) = true := by simp [hl]
          have HL : Hid (x.frontier.length ≠ fr.length) := Lib.hid (by
            have h1 : fr.length = sites.toNat := TOK.out.front
            have h3 := XN.out
            have h4 := ST.out
            omega)
          clear hh he hl
          apply wp_region_draw_grow (.eq _ :: .eq _ :: .eq _ :: .eq _ :: .eq _ :: .eq _ :: .eq _ :: .eq _ :: .eq _ :: .eq _ :: .eq _ :: .eq _ :: .eq _ :: .eq _ :: .eq _ :: .eq _ :: .eq _ :: .eq _ :: .eq _ :: .eq _ :: .eq _ :: .eq _ :: []) (by kernel_rfl) (by kernel_rfl) trivial
          iterate 22
           apply wpG_eq
           · intro W hW hs
             obtain ⟨t0, t1, t2, t3⟩ := tcell (KT.out.gr (GD.out.trans hW))
             obtain ⟨x0, x19, x20, x21, x22⟩ := CE.out W (GG.out.trans (GD.out.trans hW))
             obtain ⟨y0, y1⟩ := CG.out W (GG.out.trans (GD.out.trans hW))
             unfold opG
             go_simp
             first | exact resG_eq_mk _ _ _ | rfl
           simp only [Act.put, pt1, pt2, pt3]
          apply wpG_nil
          intro wE hWE hsAll
          clear hsAll
          have GE := Lib.hid (GD.out.trans hWE)
          clear hWE GD
          go_wp2
          exact bodyPost_ret (results_none rfl _ _ _) rfl ⟨rfl, by
            have e : tn = ⟨ep, ho, fr, qu⟩ := HTN.out.trans (by
              unfold doT backT
              rw [if_neg (by rw [← XX.out.1, H9.out]; decide), if_pos (by rw [← XX.out.1]; exact H9.out), if_pos (.inr (.inr HL.out))]
              rfl)
            rw [e]
            exact SAME.out _ (G1.out.trans (GG.out.trans GE.out))⟩
      · have d1 : (ho != st) = false := by simp [hh]
        have d2 : ((ep : Int) != (xe : Int)) = true := by simp; omega
        have HE := Lib.hid he
        clear hh he
        apply wp_region_draw_grow (.eq _ :: .eq _ :: .eq _ :: .eq _ :: .eq _ :: .eq _ :: .eq _ :: .eq _ :: .eq _ :: .eq _ :: .eq _ :: .eq _ :: .eq _ :: .eq _ :: .eq _ :: .eq _ :: .eq _ :: .eq _ :: .eq _ :: .eq _ :: .eq _ :: .eq _ :: []) (by kernel_rfl) (by kernel_rfl) trivial
        iterate 22
         apply wpG_eq
         · intro W hW hs
           obtain ⟨t0, t1, t2, t3⟩ := tcell (KT.out.gr (GD.out.trans hW))
           obtain ⟨x0, x19, x20, x21, x22⟩ := CE.out W (GG.out.trans (GD.out.trans hW))
           obtain ⟨y0, y1⟩ := CG.out W (GG.out.trans (GD.out.trans hW))
           unfold opG
           go_simp
           first | exact resG_eq_mk _ _ _ | rfl
         simp only [Act.put, pt1, pt2, pt3]
        apply wpG_nil
        intro wE hWE hsAll
        clear hsAll
        have GE := Lib.hid (GD.out.trans hWE)
        clear hWE GD
        go_wp2
        exact bodyPost_ret (results_none rfl _ _ _) rfl ⟨rfl, by
          have e : tn = ⟨ep, ho, fr, qu⟩ := HTN.out.trans (by
            unfold doT backT
            rw [if_neg (by rw [← XX.out.1, H9.out]; decide), if_pos (by rw [← XX.out.1]; exact H9.out), if_pos (.inr (.inl (by rw [← XX.out.2.2]; exact HE.out)))]
            rfl)
          rw [e]
          exact SAME.out _ (G1.out.trans (GG.out.trans GE.out))⟩
    · have d1 : (ho != st) = true := by simp [hh]
      have HO := Lib.hid hh
      clear hh
      apply wp_region_draw_grow (.eq _ :: .eq _ :: .eq _ :: .eq _ :: .eq _ :: .eq _ :: .eq _ :: .eq _ :: .eq _ :: .eq _ :: .eq _ :: .eq _ :: .eq _ :: .eq _ :: .eq _ :: .eq _ :: .eq _ :: .eq _ :: .eq _ :: .eq _ :: .eq _ :: .eq _ :: []) (by kernel_rfl) (by kernel_rfl) trivial
      iterate 22
       apply wpG_eq
       · intro W hW hs
         obtain ⟨t0, t1, t2, t3⟩ := tcell (KT.out.gr (GD.out.trans hW))
         obtain ⟨x0, x19, x20, x21, x22⟩ := CE.out W (GG.out.trans (GD.out.trans hW))
         obtain ⟨y0, y1⟩ := CG.out W (GG.out.trans (GD.out.trans hW))
         unfold opG
         go_simp
         first | exact resG_eq_mk _ _ _ | rfl
       simp only [Act.put, pt1, pt2, pt3]
      apply wpG_nil
      intro wE hWE hsAll
      clear hsAll
      have GE := Lib.hid (GD.out.trans hWE)
      clear hWE GD
      go_wp2
      exact bodyPost_ret (results_none rfl _ _ _) rfl ⟨rfl, by
        have e : tn = ⟨ep, ho, fr, qu⟩ := HTN.out.trans (by
          unfold doT backT
          rw [if_neg (by rw [← XX.out.1, H9.out]; decide), if_pos (by rw [← XX.out.1]; exact H9.out), if_pos (.inl (by rw [← XX.out.2.1]; exact HO.out))]
          rfl)
        rw [e]
        exact SAME.out _ (G1.out.trans (GG.out.trans GE.out))⟩
  obtain ⟨x0, x19, x20, x21, x22⟩ := CE.out _ GG.out
  obtain ⟨t0, t1, t2, t3⟩ := tcell KT.out
  have x0' := x0
  have c8 : ((kd : Int) == 8) = false := by simp; omega
  have c9 : ((kd : Int) == 9) = false := by simp; omega
  have H89 := Lib.hid (And.intro h8 h9)
  clear h8 h9
  go_wp2
  exact bodyPost_ret (results_none rfl _ _ _) rfl ⟨rfl, by
    have e : tn = ⟨ep, ho, fr, qu⟩ := HTN.out.trans (by
      unfold doT
      rw [if_neg (by rw [← XX.out.1]; exact H89.out.1), if_neg (by rw [← XX.out.1]; exact H89.out.2)]
      rfl
  )
    rw [e]
    exact SAME.out _ (G1.out.trans GG.out)⟩
end Go.Proofs.YtpcpijecibiibaaGreat
