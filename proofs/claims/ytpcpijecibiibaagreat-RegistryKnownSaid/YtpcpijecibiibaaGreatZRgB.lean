/-
  Package registry: at, Holder, Queue, Frontier.
  Package registry: want.
  Package registry: back.
-/
import Derived.Test.YtpcpijecibiibaaGreatZRgA
import Derived.Test.YtpcpijecibiibaaGreatZC
import Derived.Test.YtpcpijecibiibaaGreatZRPP
section
set_option linter.unusedVariables false
set_option linter.unusedSimpArgs false
set_option maxRecDepth 100000
namespace Go.Proofs.YtpcpijecibiibaaGreat
open Go.RowKit
theorem built_tokz : Tryz.prog.built 68 [(1, .int .i64 (Int.negSucc 0))] = some #[.int .u64 0, .int .i64 (Int.negSucc 0), .slice none 0 0, .slice none 0 0] := by kernel_rfl
theorem tokz_rd (w : World) : TokRd (w.alloc (.cells #[.int .u64 0, .int .i64 (Int.negSucc 0), .slice none 0 0, .slice none 0 0] 68)) w.heap.size 0 (tok0 0) := by
  have k := CellsAt.new w [.int .u64 0, .int .i64 (Int.negSucc 0), .slice none 0 0, .slice none 0 0] 68
  exact ⟨.slice none 0 0, .slice none 0 0, k.cell 0, k.cell 1, k.cell 2, k.cell 3, Sl.nil _ _ _, Sl.nil _ _ _, k.lt⟩
/-- What at hands back where there is no such token. -/
def RetOut (w : World) (e : Ending) (w' : World) : Prop := ∃ b, e = .returned (.tuple #[.pointer (some ⟨b, 0, none⟩), .bool false]) ∧ TokRd w' b 0 (tok0 0) ∧ Gr w w'
theorem at_nil (w : World) (i : Int) : Calls Tryz.prog 28 #[.pointer none, .int .i64 i] w (RetOut w) := by
  have q := built_tokz
  have T := Lib.hid (tokz_rd w)
  go_enter Tryz.func28, Tryz.ntmps28
  go_wp2
  go_ret2
  exact ⟨w.heap.size, rfl, T.out, (Gr.refl w).alloc _⟩
theorem at_out (w : World) (g : Nat) (s : Int) (a : Option Addr) (n c : Nat) (K : CellsAt w g [.int .i64 s, .slice a n c] 66) (i : Int) (hi : i < 0 ∨ (n : Int) ≤ i) : Calls Tryz.prog 28 #[.pointer (some ⟨g, 0, none⟩), .int .i64 i] w (RetOut w) := by
  have q := built_tokz
  have T := Lib.hid (tokz_rd w)
  have c1 := K.cell 1
  simp only [List.getElem?_cons_zero, List.getElem?_cons_succ] at c1
  by_cases h0 : i < 0
  · clear hi K
    go_enter Tryz.func28, Tryz.ntmps28
    go_wp2
    go_ret2
    exact ⟨w.heap.size, rfl, T.out, (Gr.refl w).alloc _⟩
  · have h1 : (n : Int) ≤ i := by omega
    clear hi K
    go_enter Tryz.func28, Tryz.ntmps28
    go_wp2
    go_ret2
    exact ⟨w.heap.size, rfl, T.out, (Gr.refl w).alloc _⟩
theorem at_in (w : World) (g h : Nat) (s : Int) (n c : Nat) (K : CellsAt w g [.int .i64 s, .slice (some ⟨h, 0, none⟩) n c] 66) (k : Nat) (hk : k < n) : Calls Tryz.prog 28 #[.pointer (some ⟨g, 0, none⟩), .int .i64 (k : Int)] w fun e w' => e = .returned (.tuple #[.pointer (some ⟨h, k * 4, none⟩), .bool true]) ∧ w' = w := by
  have c1 := K.cell 1
  simp only [List.getElem?_cons_zero, List.getElem?_cons_succ] at c1
  have h0 : ¬ (k : Int) < 0 := by omega
  have h1 : ¬ (n : Int) ≤ (k : Int) := by omega
  have h2 : (0 : Int) ≤ (k : Int) := by omega
  have h3 : (k : Int) < (n : Int) := by omega
  clear K
  go_enter Tryz.func28, Tryz.ntmps28
  go_wp2
  go_ret2
  exact ⟨rfl, rfl⟩
/-- A receiver: nil, or a registry. -/
def RegV (w : World) (P : Nat → Prop) (gv : Value) (r : RegD) : Prop := (gv = .pointer none ∧ r = ⟨0, []⟩) ∨ ∃ g, gv = .pointer (some ⟨g, 0, none⟩) ∧ RegIs w P g r
def RetAt (w : World) (r : RegD) (i : Int) (e : Ending) (w' : World) : Prop := ∃ b o, e = .returned (.tuple #[.pointer (some ⟨b, o, none⟩), .bool (inG r i)]) ∧ TokRd w' b o (atG r i) ∧ Gr w w'
theorem inG_false {r : RegD} {i : Int} (h : inG r i = false) : i < 0 ∨ (r.l.length : Int) ≤ i := by
  unfold inG at h
  simp only [Bool.and_eq_false_iff, decide_eq_false_iff_not] at h
  omega
theorem atG_out {r : RegD} {i : Int} (h : inG r i = false) : atG r i = tok0 0 := by unfold atG; rw [h]; rfl
theorem at_any (w : World) (P : Nat → Prop) (gv : Value) (r : RegD) (h : RegV w P gv r) (i : Int) : Calls Tryz.prog 28 #[gv, .int .i64 i] w (RetAt w r i) := by
  rcases h with ⟨rfl, rfl⟩ | ⟨g, rfl, h⟩
  · have e : inG ⟨0, []⟩ i = false := by unfold inG; simp <;> omega
    refine (at_nil w i).mono ?_
    rintro en w' ⟨b, h1, h2, h3⟩
    exact ⟨b, 0, by rw [e]; exact h1, by rw [atG_out e]; exact h2, h3⟩
  · obtain ⟨h1, h2, a, c, K, h4⟩ := h
    cases hi : inG r i with
    | false =>
      refine (at_out w g r.sites a r.l.length c K i (inG_false hi)).mono ?_
      rintro en w' ⟨b, h1, h2, h3⟩
      exact ⟨b, 0, by rw [hi]; exact h1, by rw [atG_out hi]; exact h2, h3⟩
    | true =>
      obtain ⟨hl, e1, e2, e3⟩ := atG_at hi
      rcases h4 with h4 | ⟨h, cur, fv, qv, rfl, hP, hg, ht⟩
      · rw [h4] at hl; exact absurd hl (Nat.not_lt_zero _)
      · have hk := at_in w g h r.sites r.l.length c K i.toNat hl
        rw [show ((i.toNat : Nat) : Int) = i by omega] at hk
        refine hk.mono ?_
        rintro en w' ⟨h1, rfl⟩
        exact ⟨h, i.toNat * 4, by rw [hi]; exact h1, by rw [e1]; exact ht.rd i.toNat hl, Gr.refl _⟩
set_option maxHeartbeats 1000000 in
theorem holder_any (w : World) (P : Nat → Prop) (gv : Value) (r : RegD) (h : RegV w P gv r) (i : Int) :
    Calls Tryz.prog 14 #[gv, .int .i64 i] w fun e w' => e = .returned (.tuple #[.int .i64 (atG r i).holder, .int .u64 ((atG r i).epoch : Int), .bool (decide (0 ≤ (atG r i).holder))]) ∧ Gr w w' := by
  have C := Lib.hid (at_any w P gv r h i)
  obtain ⟨t, ht⟩ : ∃ t, t = atG r i := ⟨_, rfl⟩
  obtain ⟨z, hz⟩ : ∃ z, z = inG r i := ⟨_, rfl⟩
  unfold RetAt at C
  rw [← ht, ← hz] at C
  rw [← ht]
  clear ht hz h
  go_enter Tryz.func14, Tryz.ntmps14
  go_wp2_with fail
  refine C.out.mono ?_
  rintro en w1 ⟨b, o, rfl, hr, g1⟩
  obtain ⟨ep, ho, fr, qu⟩ := t
  have T : Hid (∀ W, Gr w1 W → W.cell? ⟨b, o, none⟩ = some (.int .u64 (ep : Int)) ∧ W.cell? ⟨b, o + 1, none⟩ = some (.int .i64 ho)) := Lib.hid fun W hW => by
    obtain ⟨fv, qv, h1, h2, _⟩ := hr.gr hW
    exact ⟨h1, h2⟩
  have G1 := Lib.hid g1
  have GD := Lib.hid ((Gr.refl w1).drew)
  clear hr g1
  go_wp2_with fail
  apply wp_region_draw_grow (.eq _ :: .eq _ :: .eq _ :: .eq _ :: .eq _ :: .eq _ :: .eq _ :: .eq _ :: .eq _ :: .eq _ :: .eq _ :: .eq _ :: .eq _ :: .eq _ :: .eq _ :: .eq _ :: []) (by kernel_rfl) (by kernel_rfl) trivial
  iterate 16
   apply wpG_eq
   · intro W hW hs
     obtain ⟨y0, y1⟩ := T.out W (GD.out.trans hW)
     unfold opG
     go_simp
     first | exact resG_eq_mk _ _ _ | rfl
   simp only [Act.put, pt1, pt2, pt3]
  apply wpG_nil
  intro W9 hW9 hsAll
  clear hsAll
  have G9 := Lib.hid (G1.out.trans (GD.out.trans hW9))
  clear hW9
  go_wp2
  go_ret3
  exact ⟨by simp, G9.out⟩
set_option maxHeartbeats 1000000 in
theorem queue_any (w : World) (P : Nat → Prop) (gv : Value) (r : RegD) (h : RegV w P gv r) (i : Int) (hl : (atG r i).queue.length ≤ 100) :
    Calls Tryz.prog 17 #[gv, .int .i64 i] w fun e w' => ∃ v, e = .returned v ∧ Own w' w.heap.size 3 v (ints (atG r i).queue) ∧ Gr w w' := by
  have C := Lib.hid (at_any w P gv r h i)
  obtain ⟨t, ht⟩ : ∃ t, t = atG r i := ⟨_, rfl⟩
  obtain ⟨z, hz⟩ : ∃ z, z = inG r i := ⟨_, rfl⟩
  unfold RetAt at C
  rw [← ht, ← hz] at C
  rw [← ht] at hl ⊢
  clear ht hz h
  go_enter Tryz.func17, Tryz.ntmps17
  go_wp2_with fail
  refine C.out.mono ?_
  rintro en w1 ⟨b, o, rfl, hr, g1⟩
  obtain ⟨fv, qv, h0, h1, h2, h3, sf, sq, hb⟩ := hr
  have CL : Hid (Calls Tryz.prog 29 #[qv] w1 (fun e w' => ∃ v, e = .returned v ∧ Own w' w1.heap.size 3 v (ints t.queue) ∧ Gr w1 w')) := Lib.hid (clone_ints _ _ _ sq hl)
  have G1 := Lib.hid g1
  obtain ⟨aa, nn, cc, hsh⟩ : ∃ a n c, qv = Value.slice a n c := by
    obtain ⟨a, c, e, _⟩ := sq
    exact ⟨a, _, c, e⟩
  subst hsh
  clear h0 h1 h2 sf sq hb g1 hl
  go_wp2_with fail
  refine CL.out.mono ?_
  rintro en w2 ⟨v2, rfl, o2, g2⟩
  have O2 := Lib.hid (World.ownsRow.mono o2 G1.out.size)
  have G2 := Lib.hid (G1.out.trans g2)
  clear o2 g2
  go_wp2
  go_ret
  exact ⟨_, rfl, O2.out, G2.out⟩
set_option maxHeartbeats 1000000 in
theorem frontier_any (w : World) (P : Nat → Prop) (gv : Value) (r : RegD) (h : RegV w P gv r) (i : Int) (hl : (atG r i).frontier.length ≤ 1000000) :
    Calls Tryz.prog 15 #[gv, .int .i64 i] w fun e w' => ∃ v, e = .returned v ∧ Own w' w.heap.size 39 v (nums (atG r i).frontier) ∧ Gr w w' := by
  have C := Lib.hid (at_any w P gv r h i)
  obtain ⟨t, ht⟩ : ∃ t, t = atG r i := ⟨_, rfl⟩
  obtain ⟨z, hz⟩ : ∃ z, z = inG r i := ⟨_, rfl⟩
  unfold RetAt at C
  rw [← ht, ← hz] at C
  rw [← ht] at hl ⊢
  clear ht hz h
  go_enter Tryz.func15, Tryz.ntmps15
  go_wp2_with fail
  refine C.out.mono ?_
  rintro en w1 ⟨b, o, rfl, hr, g1⟩
  obtain ⟨fv, qv, h0, h1, h2, h3, sf, sq, hb⟩ := hr
  have CL : Hid (Calls Tryz.prog 30 #[fv] w1 (fun e w' => ∃ v, e = .returned v ∧ Own w' w1.heap.size 39 v (nums t.frontier) ∧ Gr w1 w')) := Lib.hid (clone_n _ _ _ sf hl)
  have G1 := Lib.hid g1
  obtain ⟨aa, nn, cc, hsh⟩ : ∃ a n c, fv = Value.slice a n c := by
    obtain ⟨a, c, e, _⟩ := sf
    exact ⟨a, _, c, e⟩
  subst hsh
  clear h0 h1 h3 sf sq hb g1 hl
  go_wp2_with fail
  refine CL.out.mono ?_
  rintro en w2 ⟨v2, rfl, o2, g2⟩
  have O2 := Lib.hid (World.ownsRow.mono o2 G1.out.size)
  have G2 := Lib.hid (G1.out.trans g2)
  clear o2 g2
  go_wp2
  go_ret
  exact ⟨_, rfl, O2.out, G2.out⟩
end Go.Proofs.YtpcpijecibiibaaGreat
end
section
set_option linter.unusedVariables false
set_option linter.unusedSimpArgs false
set_option maxRecDepth 100000
namespace Go.Proofs.YtpcpijecibiibaaGreat
open Go.RowKit
def fV (b : Nat) : Value := .func (.func 41) #[] #[.pointer (some ⟨b, 0, none⟩)]
def isS (s q : Int) : Bool := q == s
theorem eq_any (w : World) (b : Nat) (s q : Int) (hc : w.cell? ⟨b, 19, none⟩ = some (.int .i64 s)) : Calls Tryz.prog 41 #[.int .i64 q, .pointer (some ⟨b, 0, none⟩)] w fun e w' => e = .returned (.bool (isS s q)) ∧ w' = w := by
  go_enter Tryz.func41, Tryz.ntmps41
  go_wp2
  go_ret
  exact ⟨by simp [isS], rfl⟩
set_option maxHeartbeats 2000000 in
theorem indexI_any (w : World) (bx : Nat) (s : Int) (hcx0 : w.cell? ⟨bx, 19, none⟩ = some (.int .i64 s)) (v : Value) (sizes : List Int) (hs : Sl w v (ints sizes)) (hl4 : sizes.length ≤ 100) : Calls Tryz.prog 91 #[v, fV bx] w fun e w' => ∃ r, e = .returned (.int .i64 r) ∧ decide (0 ≤ r) = sizes.any (isS s) ∧ w' = w := by
  obtain ⟨a, c, rfl, hc, hcell⟩ := hs
  have hlen : (ints sizes).length = sizes.length := by unfold ints; rw [List.length_map]
  rw [hlen] at hc
  rw [hlen]
  obtain ⟨L, hL⟩ : ∃ L, L = sizes.length := ⟨_, rfl⟩
  rw [← hL] at hc hl4 hlen ⊢
  have HL := Lib.hid (And.intro hL hlen)
  have HC := Lib.hid hcell
  clear hcell hL hlen
  unfold fV
  go_enter Tryz.func91, Tryz.ntmps91
  go_wp2_with fail
  go_loopw [5, 8] (fun _ i W => ∃ k : Nat, k ≤ L ∧ i = .int .i64 k ∧ (sizes.take k).any (isS s) = false ∧ W = w) (fun _ i _ => L - (intOf i).toNat)
  case atStart => exact ⟨0, Nat.zero_le _, rfl, by simp, rfl⟩
  case round =>
    obtain ⟨k, hk, rfl, hno, hw⟩ := hrel
    subst hw
    by_cases hlt : k < L
    · have hkp : k < sizes.length := by rw [← HL.out.1]; exact hlt
      obtain ⟨bq, off, rfl, hb, hcell⟩ := HC.out.resolve_left (by intro h; have := congrArg List.length h; rw [HL.out.2] at this; simp only [List.length_nil] at this; omega)
      obtain ⟨x, hx⟩ : ∃ x, x = sizes[k]'hkp := ⟨_, rfl⟩
      have hcx : wr.cell? ⟨bq, off + k, Option.none⟩ = some (.int .i64 x) := by
        rw [hcell k (by rw [HL.out.2]; exact hlt), hx]; simp [ints]
      have htk : (sizes.take (k + 1)).any (isS s) = isS s x := by
        rw [List.take_add_one, List.getElem?_eq_getElem hkp, ← hx, List.any_append, hno]; simp
      have hall : isS s x = true → sizes.any (isS s) = true := fun h => List.any_eq_true.2 ⟨x, by rw [hx]; exact List.getElem_mem hkp, h⟩
      have HTK := Lib.hid (And.intro htk hall)
      have hk0 : (0 : Int) ≤ (k : Int) := by omega
      have hk1 : (k : Int) < (L : Int) := by omega
      clear hcell hno htk hall hx
      go_wp2_with fail
      refine (eq_any wr bx s x hcx0).mono ?_
      rintro e w1 ⟨rfl, hw1⟩
      rw [hw1]
      clear hw1 w1
      cases hbad : isS s x with
      | true =>
        have HR := Lib.hid (HTK.out.2 hbad)
        clear hbad
        go_wp2_with fail
        go_ret
        exact ⟨k, rfl, by rw [HR.out]; simp, rfl⟩
      | false =>
        have HR := Lib.hid (HTK.out.1.trans hbad)
        clear hbad
        go_wp2_with fail
        go_roundw
        case rel =>
          first
            | exact ⟨k + 1, by omega, by go_num, HR.out, (by first | trivial | rfl)⟩
            | ((repeat apply Exists.intro); apply And.intro; rotate_left; rfl; exact ⟨k + 1, by omega, by go_num, HR.out, (by first | trivial | rfl)⟩)
        case measure => (first | (simp [intOf]; omega) | (show _ < _; simp [intOf]; omega))
    · obtain rfl : k = L := by omega
      have hfin : sizes.any (isS s) = false := by rw [HL.out.1, List.take_length] at hno; exact hno
      have HFIN := Lib.hid hfin
      clear hno hfin
      go_wp2_with fail
      go_ret
      exact ⟨-1, rfl, by rw [HFIN.out]; rfl, rfl⟩
theorem containsI_any (w : World) (bx : Nat) (s : Int) (hcx0 : w.cell? ⟨bx, 19, none⟩ = some (.int .i64 s)) (v : Value) (sizes : List Int) (hs : Sl w v (ints sizes)) (hl4 : sizes.length ≤ 100) : Calls Tryz.prog 40 #[v, fV bx] w fun e w' => e = .returned (.bool (sizes.any (isS s))) ∧ w' = w := by
  have hi := indexI_any w bx s hcx0 v sizes hs hl4
  have HI := Lib.hid hi
  unfold fV at HI
  clear hi
  obtain ⟨r, hr⟩ : ∃ r, r = sizes.any (isS s) := ⟨_, rfl⟩
  rw [← hr] at HI ⊢
  clear hr hs
  unfold fV
  go_enter Tryz.func40, Tryz.ntmps40
  go_wp2_with fail
  refine HI.out.mono ?_
  rintro e w1 ⟨z, rfl, hz, hw1⟩
  rw [hw1]
  clear hw1 w1
  subst hz
  go_wp2_with fail
  go_ret
  exact ⟨rfl, rfl⟩
/-- What is done to a token: o is the token that comes of it. -/
def TokDid (w : World) (P : Nat → Prop) (g h : Nat) (ts : List Tok) (i : Nat) (t : Tok) (o : Option Tok) (e : Ending) (w' : World) : Prop :=
  e = .returned (.bool o.isSome) ∧ (∃ P' cur' fv' qv', TabP w' P' g h (ts.set i (o.getD t)) cur' fv' qv' ∧ (∀ k, P k → P' k) ∧ (∀ k, P' k → P k ∨ w.heap.size ≤ k) ∧ (∀ k, P' k → k < w'.heap.size)) ∧ Ch (fun k => P k ∧ k ≠ g) w w'
theorem TokDid.no {w w' : World} {P : Nat → Prop} {g h : Nat} {ts : List Tok} {cur : List Value} {fv qv : Nat → Value} (T : TabP w P g h ts cur fv qv) (hw : ∀ k, P k → k < w.heap.size) (i : Nat) (hi : i < ts.length) (t : Tok) (ht : t = ts[i]) (o : Option Tok) (ho : o = none) (gr : Gr w w') : TokDid w P g h ts i t o (.returned (.bool false)) w' := by
  subst ho ht
  have c : Ch (fun _ => False) w w' := Ch.of_gr gr
  refine ⟨rfl, ⟨P, cur, fv, qv, ?_, fun k h => h, fun k h => .inl h, fun k h => Nat.lt_of_lt_of_le (hw k h) gr.size⟩, ⟨gr.os, gr.tape, gr.output, gr.size, fun k hk _ => gr.block k hk⟩⟩
  show TabP w' P g h (ts.set i ts[i]) cur fv qv
  rw [List.set_getElem_self]
  exact T.keep c (fun h => h) (fun _ _ _ _ h => h) (fun _ h => h)
theorem wantT_any (t : Tok) (s : Int) : t.queue.any (isS s) = decide (s ∈ t.queue) := by
  rw [Bool.eq_iff_iff]
  simp [isS]
theorem TokP.grown {w w' : World} {v : Value} (h : w.grownBy w' v.ownBlock) : Ch (fun k => v.ownBlock = some k) w w' :=
  ⟨h.os, h.tape, h.output, h.size, fun k hk hn => h.block k hk (fun e => hn e.symm)⟩
/-- The token i with a longer queue. -/
theorem want_did {w W' : World} {P : Nat → Prop} {g h : Nat} {ts : List Tok} {cur : List Value} {fv qv : Nat → Value} (T : TabP w P g h ts cur fv qv) (hw : ∀ k, P k → k < w.heap.size) (hh : P h) (hP : P g) (hg : h ≠ g) (i : Nat) (hi : i < ts.length) (t : Tok) (ht : t = ts[i]) (s : Int) (v' : Value)
    (c10 : Ch (fun k => k = h ∨ (qv i).ownBlock = some k) w W') (ho : Own W' 0 3 v' (ints (t.queue ++ [s]))) (KS : CellsAt W' h (cur.set (i * 4 + 3) v') 68) (hv : ∀ k, v'.ownBlock = some k → (qv i).ownBlock = some k ∨ w.heap.size ≤ k) (hne : wantT t s = some { t with queue := t.queue ++ [s] }) :
    TokDid w P g h ts i t (wantT t s) (.returned (.bool true)) W' := by
  subst ht
  have tk := T.tok i hi
  have sz := T.sz
  have hlt : i * 4 + 3 < cur.length := by omega
  have hvlt : ∀ k, v'.ownBlock = some k → k < W'.heap.size := fun k hk => (World.ownsRow.lt ho k hk).2
  have hgl := hw g hP
  have hhl := hw h hh
  have hvh : ∀ k, v'.ownBlock = some k → k ≠ g ∧ k ≠ h := fun k hk => by
    rcases hv k hk with h1 | h1
    · exact (tk.qb k h1).2
    · exact ⟨by omega, by omega⟩
  have hset : ∀ j, j ≠ i * 4 + 3 → (cur.set (i * 4 + 3) v')[j]? = cur[j]? := fun j hj => List.getElem?_set_ne (fun e => hj e.symm)
  have tok' : TokP W' (fun k => P k ∨ (w.heap.size ≤ k ∧ k < W'.heap.size)) g h (cur.set (i * 4 + 3) v') i { ts[i] with queue := ts[i].queue ++ [s] } (fv i) v' :=
    ⟨by rw [hset _ (by omega)]; exact tk.c0, by rw [hset _ (by omega)]; exact tk.c1, by rw [hset _ (by omega)]; exact tk.c2, by rw [List.getElem?_set_self hlt],
      tk.fs.ch c10 (fun k hk hr => by
        rcases hr with rfl | e2
        · exact (tk.fb _ hk).2.2 rfl
        · exact T.qf i i k hi hi e2 hk),
      ho, fun k hk => ⟨.inl (tk.fb k hk).1, (tk.fb k hk).2⟩,
      fun k hk => ⟨by
        rcases hv k hk with h1 | h1
        · exact .inl (tk.qb k h1).1
        · exact .inr ⟨h1, hvlt k hk⟩, hvh k hk⟩⟩
  rw [hne]
  refine ⟨rfl, ⟨fun k => P k ∨ (w.heap.size ≤ k ∧ k < W'.heap.size), cur.set (i * 4 + 3) v', _, _, T.upd i hi { ts[i] with queue := ts[i].queue ++ [s] } (fv i) v' c10 (fun k hk => .inl hk) hw KS (by simp) (fun j hj => hset j (by omega)) (fun k hk => hk) tok' (fun k hk => .inl hk) hv (fun k hk => ?_), fun k hk => .inl hk, fun k hk => hk.imp id (fun h => h.1), fun k hk => ?_⟩, ch_mono c10 fun k hk => ?_⟩
  · rcases hv k hk with h1 | h1
    · exact T.qf i i k hi hi h1
    · intro h2
      have := hw k (tk.fb k h2).1
      omega
  · rcases hk with hk | hk
    · have := hw k hk; have := c10.size; omega
    · exact hk.2
  · rcases hk with rfl | hk
    · exact ⟨hh, hg⟩
    · exact ⟨(tk.qb k hk).1, (tk.qb k hk).2.1⟩
theorem run_append_int1 (w : World) (v : Value) (hb : Nat) (l : List Int) (s : Int) (hown : Own w 0 3 v (ints l)) (hy : Sl w (.slice (some ⟨hb, 0, none⟩) 1 1) (ints [s])) (hl : l.length ≤ 1000) :
    ∃ v' w', (Builtin.append_ #[27, 27] 27 #[v, .slice (some ⟨hb, 0, none⟩) 1 1]).run Tryz.prog w = .ok v' w' ∧ Own w' 0 3 v' (ints (l ++ [s])) ∧ w.grownBy w' v.ownBlock ∧ ∀ k, v'.ownBlock = some k → v.ownBlock = some k ∨ w.heap.size ≤ k := by
  obtain ⟨i0, hi0, hz0, hz1, hz2⟩ := info_parts info_int
  obtain ⟨a, cap, hy', _, hc⟩ := hy
  have hcells : ∀ j u, (ints [s])[j]? = some u → w.cell? ((⟨hb, 0, none⟩ : Addr).add j) = some u := by
    intro j u hu
    rcases hc with h | ⟨b, off, h, _, hcell⟩
    · cases h
    · injection hy' with h1
      subst h
      injection h1 with h1
      injection h1 with h2 h3
      subst h2 h3
      have hj : j < (ints [s]).length := (List.getElem?_eq_some_iff.1 hu).1
      rw [addr_add, hcell j hj, ← hu, List.getElem?_eq_getElem hj]
  obtain ⟨v', w', hr, h2, h3, _, h5⟩ := run_append_own_at (P := Tryz.prog) (ty := 27) w 0 27 3 i0 _ 1 8 Tryz.underlying27 hi0 hz0 hz1 hz2 rfl (by decide) v (ints l).length (ints l) hown ⟨hb, 0, none⟩ 1 1 (ints [s]) (by simp [ints]) hcells (one_ints [s]) (by rw [ints_length]; unfold maxLen; omega) (by rw [ints_length]; omega) (Nat.zero_le _)
  refine ⟨v', w', hr, ?_, h3, fun k hk => ?_⟩
  · unfold Own
    rw [show ints (l ++ [s]) = ints l ++ ints [s] from List.map_append, List.length_append]
    exact h2
  · rcases h5 with h5 | h5
    · exact .inl (h5 ▸ hk)
    · rw [h5] at hk; injection hk with hk; exact .inr (by omega)
theorem wantT_none {t : Tok} {s : Int} (h : t.holder = s ∨ (t.queue.any (isS s)) = true) : wantT t s = none := by
  unfold wantT
  rw [wantT_any, decide_eq_true_eq] at h
  rw [if_pos h]
theorem wantT_some {t : Tok} {s : Int} (h1 : ¬ t.holder = s) (h2 : t.queue.any (isS s) = false) : wantT t s = some { t with queue := t.queue ++ [s] } := by
  unfold wantT
  rw [wantT_any, decide_eq_false_iff_not] at h2
  rw [if_neg (fun h => h.elim h1 h2)]
def rhoW (h : Nat) (qi : Value) : Nat → Prop := fun k => k = h ∨ qi.ownBlock = some k
def stWant (h : Nat) (cur : List Value) (qi : Value) (Q : List Int) (s : Int) (i B : Nat) : List Value → (Nat → Prop) → World → Prop
  | [], _, W => Own W 0 3 qi (ints Q) ∧ CellsAt W h cur 68
  | [v], _, W => v = qi ∧ Own W 0 3 qi (ints Q) ∧ CellsAt W h cur 68
  | [_, v'], _, W => Own W 0 3 v' (ints (Q ++ [s])) ∧ CellsAt W h cur 68 ∧ ∀ k, v'.ownBlock = some k → qi.ownBlock = some k ∨ B ≤ k
  | _, _, W => ∃ v', Own W 0 3 v' (ints (Q ++ [s])) ∧ CellsAt W h (cur.set (i * 4 + 3) v') 68 ∧ ∀ k, v'.ownBlock = some k → qi.ownBlock = some k ∨ B ≤ k
theorem stWant_gr (h : Nat) (cur : List Value) (qi : Value) (Q : List Int) (s : Int) (i B : Nat) : ∀ us U W W', Gr W W' → stWant h cur qi Q s i B us U W → stWant h cur qi Q s i B us U W'
  | [], _, _, _, g, hh => ⟨hh.1.gr g, hh.2.gr g⟩
  | [_], _, _, _, g, hh => ⟨hh.1, hh.2.1.gr g, hh.2.2.gr g⟩
  | [_, _], _, _, _, g, hh => ⟨hh.1.gr g, hh.2.1.gr g, hh.2.2⟩
  | _ :: _ :: _ :: _, _, _, _, g, ⟨v, h1, h2, h3⟩ => ⟨v, h1.gr g, h2.gr g, h3⟩
def OneU (ρ : Nat → Prop) (s : Int) : Su := fun v U W => ∃ hb, v = .slice (some ⟨hb, 0, none⟩) 1 1 ∧ Sl W (.slice (some ⟨hb, 0, none⟩) 1 1) (ints [s]) ∧ hb < W.heap.size ∧ ¬ ρ hb ∧ ¬ U hb
theorem OneU.mono (ρ : Nat → Prop) (s : Int) : MonoU ρ (OneU ρ s) := by
  refine ⟨fun v U W W' g ⟨hb, e, h1, h2, h3, h4⟩ => ⟨hb, e, h1.below g, Nat.lt_of_lt_of_le h2 g.size, h3, h4⟩, fun v U W W' hU g ⟨hb, e, h1, h2, h3, h4⟩ => ⟨hb, e, h1.ch g (fun k hk hr => ?_), Nat.lt_of_lt_of_le h2 g.size, h3, fun hn => ?_⟩⟩
  · have : hb = k := by simpa [Value.ownBlock] using hk
    subst this
    exact hr.elim h3 h4
  · rcases hn with hn | hn
    · exact h4 hn
    · omega
def IsOne (s : Int) (v : Value) (W : World) : Prop := ∃ hb, v = .slice (some ⟨hb, 0, none⟩) 1 1 ∧ Sl W (.slice (some ⟨hb, 0, none⟩) 1 1) (ints [s])
set_option maxHeartbeats 4000000 in
theorem want_any (w : World) (P : Nat → Prop) (g h : Nat) (ts : List Tok) (cur : List Value) (fv qv : Nat → Value) (T : TabP w P g h ts cur fv qv) (hw : ∀ k, P k → k < w.heap.size) (hh : P h) (hP : P g) (hg : h ≠ g) (i : Nat) (hi : i < ts.length) (x : EntD) (q : EntV) (hp : EntP Any w x q) (hql : ts[i].queue.length ≤ 99) :
    Calls Tryz.prog 26 #[.pointer (some ⟨h, i * 4, none⟩), .agg (entCells x q).toArray] w (TokDid w P g h ts i ts[i] (wantT ts[i] x.site)) := by
  have tk := T.tok i hi
  obtain ⟨qi, hqi⟩ : ∃ qi, qi = qv i := ⟨_, rfl⟩
  obtain ⟨t, ht⟩ : ∃ t, t = ts[i] := ⟨_, rfl⟩
  obtain ⟨s, hs⟩ : ∃ s, s = x.site := ⟨_, rfl⟩
  have NONE : Hid (∀ w', Gr w w' → wantT t s = none → TokDid w P g h ts i t (wantT t s) (.returned (.bool false)) w') := Lib.hid fun w' gr ho => TokDid.no T hw i hi t ht _ ho gr
  have DONE : Hid (∀ W' v', Ch (fun k => k = h ∨ qi.ownBlock = some k) w W' → Own W' 0 3 v' (ints (t.queue ++ [s])) → CellsAt W' h (cur.set (i * 4 + 3) v') 68 → (∀ k, v'.ownBlock = some k → qi.ownBlock = some k ∨ w.heap.size ≤ k) → wantT t s = some { t with queue := t.queue ++ [s] } → TokDid w P g h ts i t (wantT t s) (.returned (.bool true)) W') := Lib.hid fun W' v' a1 a2 a3 a4 a5 => want_did T hw hh hP hg i hi t ht s v' (hqi ▸ a1) a2 a3 (hqi ▸ a4) a5
  have KH := Lib.hid T.hh
  have HBQ : Hid (∀ k, qi.ownBlock = some k → k ≠ h) := Lib.hid fun k hk => (tk.qb k (hqi ▸ hk)).2.2
  have C1 : Hid (cur[i * 4 + 1]? = some (.int .i64 t.holder) ∧ cur[i * 4 + 3]? = some qi) := Lib.hid ⟨by rw [ht]; exact tk.c1, by rw [hqi]; exact tk.c3⟩
  have QO : Hid (Own w 0 3 qi (ints t.queue)) := Lib.hid (by rw [ht, hqi]; exact tk.qs)
  obtain ⟨aq, cq, hsh⟩ := QO.out.shape
  rw [ints_length] at hsh
  obtain ⟨E, hE⟩ : ∃ E, E = entCells x q := ⟨_, rfl⟩
  have CE : Hid (∀ W b, CellsAt W b E 44 → W.cell? ⟨b, 19, none⟩ = some (.int .i64 s)) := Lib.hid fun W b hk => by rw [hE] at hk; rw [hs]; exact hk.cell 19
  have HQL : Hid (t.queue.length ≤ 99) := Lib.hid (by rw [ht]; exact hql)
  rw [← ht, ← hs, ← hE]
  obtain ⟨nq, hnq⟩ : ∃ n, n = t.queue.length := ⟨_, rfl⟩
  rw [← hnq] at hsh
  subst hsh
  clear hE hs ht hqi tk hp hql hi hw T hh hP hg hnq
  go_enter Tryz.func26, Tryz.ntmps26
  go_wp2_with (first | (refine wpList_boxE _ rfl rfl rfl ?_) | fail)
  intro w1 k1 g1 n1
  obtain ⟨b, hb⟩ : ∃ b, b = w.heap.size := ⟨_, rfl⟩
  rw [← hb] at k1 ⊢
  have CK : Hid (∀ W, Gr w1 W → W.cell? ⟨h, i * 4 + 1, none⟩ = some (.int .i64 t.holder) ∧ W.cell? ⟨h, i * 4 + 3, none⟩ = some (.slice aq nq cq) ∧ W.cell? ⟨b, 19, none⟩ = some (.int .i64 s)) := Lib.hid fun W hW => by
    have kk := (KH.out.gr g1).gr hW
    exact ⟨by rw [kk.cell]; exact C1.out.1, by rw [kk.cell]; exact C1.out.2, CE.out W b (k1.gr hW)⟩
  have CO : Hid (∀ W, Gr w1 W → Calls Tryz.prog 40 #[.slice aq nq cq, .func (.func 41) #[] #[.pointer (some ⟨b, 0, none⟩)]] W (fun e w' => e = .returned (.bool (t.queue.any (isS s))) ∧ w' = W)) := Lib.hid fun W hW => containsI_any W b s (CK.out W hW).2.2 _ t.queue ((QO.out.sl.below g1).below hW) (by have := HQL.out; omega)
  have KBE := Lib.hid k1
  have NB : Hid (¬ rhoW h (.slice aq nq cq) b) := Lib.hid fun e => by
    rcases e with e | e
    · have := KH.out.lt; omega
    · have := (World.ownsRow.lt QO.out b e).2; omega
  have G1 := Lib.hid g1
  have GD := Lib.hid ((Gr.refl w1).drew)
  have hmf : ∀ (fn : Fn) (first cap : Array Value) (w : World), (Instr.makeFunc fn first cap).run Tryz.prog w = .ok (.func fn first cap) w := fun _ _ _ _ => rfl
  have HMF := Lib.hid hmf
  clear k1 g1 n1 hb hmf
  go_wp2_with fail
  by_cases h1 : t.holder = s
  · have HN := Lib.hid (wantT_none (t := t) (s := s) (.inl h1))
    have hq : (t.holder == s) = true := by simp [h1]
    apply wp_region_draw_grow (.eq _ :: .eq _ :: .eq _ :: .eq _ :: .eq _ :: .eq _ :: .eq _ :: .eq _ :: .eq _ :: .eq _ :: .eq _ :: .eq _ :: .eq _ :: .eq _ :: .eq _ :: []) (by kernel_rfl) (by kernel_rfl) trivial
    iterate 15
     apply wpG_eq
     · intro W hW hs
       obtain ⟨y1, y3, y19⟩ := CK.out W (GD.out.trans hW)
       unfold opG
       go_simp
       first | exact resG_eq_mk _ _ _ | rfl
     simp only [Act.put, pt1, pt2, pt3]
    apply wpG_nil
    intro W9 hW9 hsAll
    clear hsAll
    have G9 := Lib.hid (G1.out.trans (GD.out.trans hW9))
    clear hW9
    go_wp2
    go_ret
    exact NONE.out _ G9.out HN.out
  have H1 := Lib.hid h1
  have hq : (t.holder == s) = false := by simp [h1]
  apply wp_region_draw_grow (.eq _ :: .eq _ :: .eq _ :: .eq _ :: .eq _ :: .eq _ :: .eq _ :: .eq _ :: .eq _ :: .eq _ :: .eq _ :: .eq _ :: .eq _ :: .eq _ :: .eq _ :: []) (by kernel_rfl) (by kernel_rfl) trivial
  iterate 12
   apply wpG_eq
   · intro W hW hs
     obtain ⟨y1, y3, y19⟩ := CK.out W (GD.out.trans hW)
     unfold opG
     go_simp
     first | exact resG_eq_mk _ _ _ | rfl
   simp only [Act.put, pt1, pt2, pt3]
  apply wpG_eq
  · intro W hW hs
    have hmf := HMF.out
    unfold opG
    go_simp
    first | exact resG_eq_mk _ _ _ | rfl
  simp only [Act.put, pt1, pt2, pt3]
  apply wpG_eq
  · intro W hW hs
    unfold opG
    go_simp
    refine resG_call ((CO.out W (GD.out.trans hW)).mono ?_)
    rintro en W2 ⟨rfl, rfl⟩
    exact ⟨_, rfl, Gr.refl _, rfl⟩
  simp only [Act.put, pt1, pt2, pt3]
  apply wpG_eq
  · intro W hW hs
    obtain ⟨y1, y3, y19⟩ := CK.out W (GD.out.trans hW)
    unfold opG
    go_simp
    first | exact resG_eq_mk _ _ _ | rfl
  simp only [Act.put, pt1, pt2, pt3]
  apply wpG_nil
  intro W9 hW9 hsAll
  clear hsAll
  have G9 := Lib.hid (GD.out.trans hW9)
  clear hW9 CO
  cases hz : t.queue.any (isS s) with
  | true =>
    have HN := Lib.hid (wantT_none (t := t) (s := s) (.inr hz))
    have GG := Lib.hid (G1.out.trans G9.out)
    clear hz
    go_wp2
    go_ret
    exact NONE.out _ GG.out HN.out
  | false =>
  have HS := Lib.hid (wantT_some h1 hz)
  have GW9 := Lib.hid (G1.out.trans G9.out)
  have QO9 := Lib.hid (QO.out.gr GW9.out)
  have KH9 := Lib.hid (KH.out.gr GW9.out)
  have LT : Hid (∀ k, rhoW h (.slice aq nq cq) k → k < W9.heap.size) := Lib.hid fun k hk => by
    rcases hk with rfl | hk
    · exact KH9.out.lt
    · exact (World.ownsRow.lt QO9.out k hk).2
  have KB : Hid (∀ W, Ch (rhoW h (.slice aq nq cq)) W9.drew W → W.cell? ⟨b, 19, none⟩ = some (.int .i64 s)) := Lib.hid fun W hW => CE.out W b (((KBE.out.gr G9.out).gr (Gr.refl _).drew).block (hW.block b (Nat.lt_of_lt_of_le KBE.out.lt G9.out.size) (fun e => NB.out e)))
  clear hz h1 hq
  go_wp2_with fail
  apply wp_region_draw_turnU (rhoW h (.slice aq nq cq)) (stWant h cur (.slice aq nq cq) t.queue s i W9.heap.size) (.eq _ :: .eq _ :: .eq _ :: .eq _ :: .use TU :: .eq _ :: .eq _ :: .ok (OneU (rhoW h (.slice aq nq cq)) s) :: .use TU :: .eq _ :: .eq _ :: .use TU :: []) (by kernel_rfl) (by kernel_rfl) (by kernel_rfl) ⟨TU.mono _, OneU.mono _ _, TU.mono _, TU.mono _, trivial⟩ (stWant_gr h cur (.slice aq nq cq) t.queue s i W9.heap.size) ⟨QO9.out.gr (Gr.refl _).drew, KH9.out.gr (Gr.refl _).drew⟩
  iterate 4
   apply wpU_eq
   · intro U W hW hU hs
     unfold opT
     go_simp
     first | exact resT_eq_mk _ _ _ | exact ⟨Gr.refl _, rfl⟩
   simp only [Act.put, pt1, pt2, pt3]
  apply wpU_use
  · intro U W hW hU hS hs
    obtain ⟨h1, h2⟩ : Own W 0 3 (.slice aq nq cq) (ints t.queue) ∧ CellsAt W h cur 68 := hS
    have y3 := (h2.cell (i * 4 + 3)).trans C1.out.2
    have S1 : Hid (stWant h cur (.slice aq nq cq) t.queue s i W9.heap.size [.slice aq nq cq] (newU U W W) W) := Lib.hid ⟨rfl, h1, h2⟩
    refine opT_hide fun VV hVV => ?_
    have HV := Lib.hid (hVV (.slice aq nq cq) W ⟨S1.out, trivial⟩)
    clear hVV h1 h2 S1
    unfold opT
    go_simp
    exact ⟨Ch.of_gr (Gr.refl W), HV.out⟩
  intro v4
  simp only [Act.put, pt1, pt2, pt3]
  apply wpU_eq
  · intro U W hW hU hs
    unfold opT
    go_simp
    first | exact resT_eq_mk _ _ _ | exact ⟨Gr.refl _, rfl⟩
  simp only [Act.put, pt1, pt2, pt3]
  apply wpU_eq
  · intro U W hW hU hs
    have y19 := KB.out W hW
    unfold opT
    go_simp
    first | exact resT_eq_mk _ _ _ | exact ⟨Gr.refl _, rfl⟩
  simp only [Act.put, pt1, pt2, pt3]
  apply wpU_ok
  · intro U W hW hU hs
    have BX : Hid (OneU (rhoW h (.slice aq nq cq)) s (.slice (some ⟨W.heap.size, 0, none⟩) 1 1) U (W.alloc (.cells #[.int .i64 s] 3))) := Lib.hid ⟨W.heap.size, rfl, Sl.new W [.int .i64 s] _ _ _ _ rfl (by decide), by simp, fun e => by have h1 := LT.out _ e; have h2 := hW.size; have h3 : W9.drew.heap.size = W9.heap.size := rfl; omega, fun e => by have := (hU _ e).2; omega⟩
    unfold opT
    go_simp
    exact resT_mk ((Gr.refl W).alloc _) BX.out
  intro v7
  simp only [Act.put, pt1, pt2, pt3]
  apply wpU_use
  · intro U W hW hU hS hs
    obtain ⟨hb, rfl, hs1, hb1, hb2, hb3⟩ := hs _ (.head _) (by rfl)
    obtain ⟨rfl, h1, h2⟩ : v4 = .slice aq nq cq ∧ Own W 0 3 (.slice aq nq cq) (ints t.queue) ∧ CellsAt W h cur 68 := hS
    obtain ⟨v', W10, hrun, ho, hg10, hv⟩ := run_append_int1 W (.slice aq nq cq) hb t.queue s h1 hs1 (by have := HQL.out; omega)
    have K10 : CellsAt W10 h cur 68 := h2.block ((TokP.grown hg10).block h h2.lt (fun e => HBQ.out h e rfl))
    have hz : W9.heap.size ≤ W.heap.size := hW.size
    exact opT_append hrun rfl _ _ rfl rfl rfl ⟨ch_mono (TokP.grown hg10) (fun k hk => .inl (.inr hk)), ⟨⟨ho, K10, fun k hk => (hv k hk).imp id (fun h => by omega)⟩, trivial⟩⟩
  intro v8
  simp only [Act.put, pt1, pt2, pt3]
  iterate 2
   apply wpU_eq
   · intro U W hW hU hs
     unfold opT
     go_simp
     first | exact resT_eq_mk _ _ _ | exact ⟨Gr.refl _, rfl⟩
   simp only [Act.put, pt1, pt2, pt3]
  apply wpU_use
  · intro U W hW hU hS hs
    obtain ⟨ho, h2, hv⟩ : Own W 0 3 v8 (ints (t.queue ++ [s])) ∧ CellsAt W h cur 68 ∧ ∀ k, v8.ownBlock = some k → (Value.slice aq nq cq).ownBlock = some k ∨ W9.heap.size ≤ k := hS
    obtain ⟨av, cv, rfl⟩ := ho.shape
    have y3 := (h2.cell (i * 4 + 3)).trans C1.out.2
    have f3 := h2.frozen (i * 4 + 3)
    have KS := h2.set (i * 4 + 3) (.slice av (ints (t.queue ++ [s])).length cv)
    have ho2 := ho.ch (ch_setCell' W h (i * 4 + 3) (.slice av (ints (t.queue ++ [s])).length cv)) (fun k hk e => by
      have e : k = h := e
      subst e
      rcases hv _ hk with h1 | h1
      · exact HBQ.out _ h1 rfl
      · have := LT.out _ (.inl rfl); omega)
    have CH := Lib.hid (ch_mono (σ := fun k => rhoW h (.slice aq nq cq) k ∨ U k) (ch_setCell' W h (i * 4 + 3) (.slice av (ints (t.queue ++ [s])).length cv)) (fun k hk => .inl (.inl hk)))
    have SS : Hid (stWant h cur (.slice aq nq cq) t.queue s i W9.heap.size [v4, .slice av (ints (t.queue ++ [s])).length cv, undef] (newU U W (W.setCell ⟨h, i * 4 + 3, none⟩ (.slice av (ints (t.queue ++ [s])).length cv))) (W.setCell ⟨h, i * 4 + 3, none⟩ (.slice av (ints (t.queue ++ [s])).length cv))) := Lib.hid ⟨_, ho2, KS, hv⟩
    refine opT_hide fun VV hVV => ?_
    have HV := Lib.hid (hVV undef _ ⟨SS.out, trivial⟩)
    clear hVV ho h2 hv SS KS ho2
    unfold opT
    go_simp
    exact ⟨CH.out, HV.out⟩
  intro v11
  simp only [Act.put, pt1, pt2, pt3]
  apply wpU_nil
  intro U W8 hW8 hU8 hS8 hs8
  obtain ⟨v', ho, KS, hv⟩ : ∃ v', Own W8 0 3 v' (ints (t.queue ++ [s])) ∧ CellsAt W8 h (cur.set (i * 4 + 3) v') 68 ∧ ∀ k, v'.ownBlock = some k → (Value.slice aq nq cq).ownBlock = some k ∨ W9.heap.size ≤ k := hS8
  have c8 : Ch (fun k => k = h ∨ (Value.slice aq nq cq).ownBlock = some k) w W8 := (ch_mono (Ch.of_gr (ρ := fun _ => False) GW9.out) (fun k hk => hk.elim)).trans (ch_mono (Ch.drewL hW8) (fun k hk => hk))
  have DD := Lib.hid (DONE.out W8 v' c8 ho KS (fun k hk => (hv k hk).imp id (fun h => Nat.le_trans GW9.out.size h)) HS.out)
  clear hW8 hU8 hs8 ho KS hv c8
  go_wp2
  go_ret
  exact DD.out
end Go.Proofs.YtpcpijecibiibaaGreat
end
section
set_option linter.unusedVariables false
set_option linter.unusedSimpArgs false
set_option maxRecDepth 100000
namespace Go.Proofs.YtpcpijecibiibaaGreat
open Go.RowKit
/-- The token i that came back. -/
theorem back_did {w W' : World} {P : Nat → Prop} {g h : Nat} {ts : List Tok} {cur : List Value} {fv qv : Nat → Value} (T : TabP w P g h ts cur fv qv) (hw : ∀ k, P k → k < w.heap.size) (hh : P h) (hP : P g) (hg : h ≠ g) (i : Nat) (hi : i < ts.length) (t : Tok) (ht : t = ts[i]) (s : Int) (e : Nat) (f : List Nat) (vm : Value)
    (c10 : Ch (fun k => k = h) w W') (hm : Sl W' vm (nums (maxV t.frontier f))) (KS : CellsAt W' h ((cur.set (i * 4 + 1) (.int .i64 (Int.negSucc 0))).set (i * 4 + 2) vm) 68) (hv : ∀ k, vm.ownBlock = some k → w.heap.size ≤ k ∧ k < W'.heap.size) (hne : backT t s e f = some { t with holder := -1, frontier := maxV t.frontier f }) :
    TokDid w P g h ts i t (backT t s e f) (.returned (.bool true)) W' := by
  subst ht
  have tk := T.tok i hi
  have sz := T.sz
  have hgl := hw g hP
  have hhl := hw h hh
  have c11 : Ch (fun k => k = h ∨ (qv i).ownBlock = some k) w W' := ch_mono c10 fun k hk => .inl hk
  have hset : ∀ j, j ≠ i * 4 + 1 → j ≠ i * 4 + 2 → ((cur.set (i * 4 + 1) (.int .i64 (Int.negSucc 0))).set (i * 4 + 2) vm)[j]? = cur[j]? := fun j h1 h2 => by
    rw [List.getElem?_set_ne (fun e => h2 e.symm), List.getElem?_set_ne (fun e => h1 e.symm)]
  have tok' : TokP W' (fun k => P k ∨ (w.heap.size ≤ k ∧ k < W'.heap.size)) g h ((cur.set (i * 4 + 1) (.int .i64 (Int.negSucc 0))).set (i * 4 + 2) vm) i { ts[i] with holder := -1, frontier := maxV ts[i].frontier f } vm (qv i) :=
    ⟨by rw [hset _ (by omega) (by omega)]; exact tk.c0, by rw [List.getElem?_set_ne (by omega), List.getElem?_set_self (by omega)]; rfl, by rw [List.getElem?_set_self (by simp; omega)], by rw [hset _ (by omega) (by omega)]; exact tk.c3,
      hm, tk.qs.ch c10 (fun k hk hr => (tk.qb k hk).2.2 hr), fun k hk => ⟨.inr (hv k hk), by have := hv k hk; exact ⟨by omega, by omega⟩⟩, fun k hk => ⟨.inl (tk.qb k hk).1, (tk.qb k hk).2⟩⟩
  rw [hne]
  refine ⟨rfl, ⟨fun k => P k ∨ (w.heap.size ≤ k ∧ k < W'.heap.size), _, _, _, T.upd i hi { ts[i] with holder := -1, frontier := maxV ts[i].frontier f } vm (qv i) c11 (fun k hk => .inl hk) hw KS (by simp) (fun j hj => hset j (by omega) (by omega)) (fun k hk => hk) tok' (fun k hk => .inr (hv k hk).1) (fun k hk => .inl hk) (fun k hk => ?_), fun k hk => .inl hk, fun k hk => hk.imp id (fun h => h.1), fun k hk => ?_⟩, ch_mono c10 fun k hk => ?_⟩
  · intro h2
    have := hw k (tk.qb k hk).1
    have := (hv k h2).1
    omega
  · rcases hk with hk | hk
    · have := hw k hk; have := c10.size; omega
    · exact hk.2
  · have : k = h := hk
    subst this
    exact ⟨hh, hg⟩
theorem backT_none {t : Tok} {s : Int} {e : Nat} {f : List Nat} (h : t.holder ≠ s ∨ t.epoch ≠ e ∨ f.length ≠ t.frontier.length) : backT t s e f = none := by unfold backT; rw [if_pos h]
theorem backT_some {t : Tok} {s : Int} {e : Nat} {f : List Nat} (h1 : t.holder = s) (h2 : t.epoch = e) (h3 : f.length = t.frontier.length) : backT t s e f = some { t with holder := -1, frontier := maxV t.frontier f } := by
  unfold backT
  rw [if_neg (fun h => h.elim (fun k => k h1) (fun h => h.elim (fun k => k h2) (fun k => k h3)))]
def SlN (ρ : Nat → Prop) (B : Nat) (l : List Nat) : Su := fun v U W => Sl W v (nums l) ∧ v.oneCell' = true ∧ ∀ k, v.ownBlock = some k → B ≤ k ∧ k < W.heap.size ∧ ¬ ρ k ∧ ¬ U k
theorem SlN.mono (ρ : Nat → Prop) (B : Nat) (l : List Nat) : MonoU ρ (SlN ρ B l) := by
  refine ⟨fun v U W W' g h => ⟨h.1.below g, h.2.1, fun k hk => ⟨(h.2.2 k hk).1, Nat.lt_of_lt_of_le (h.2.2 k hk).2.1 g.size, (h.2.2 k hk).2.2⟩⟩, fun v U W W' hU g h => ⟨h.1.ch g (fun k hk e => ?_), h.2.1, fun k hk => ⟨(h.2.2 k hk).1, Nat.lt_of_lt_of_le (h.2.2 k hk).2.1 g.size, (h.2.2 k hk).2.2.1, fun e => ?_⟩⟩⟩
  · exact e.elim (h.2.2 k hk).2.2.1 (h.2.2 k hk).2.2.2
  · rcases e with e | e
    · exact (h.2.2 k hk).2.2.2 e
    · have := (h.2.2 k hk).2.1; omega
def IsV (c : Value) : Su := fun v _ _ => v = c
theorem IsV.mono (ρ : Nat → Prop) (c : Value) : MonoU ρ (IsV c) := ⟨fun _ _ _ _ _ h => h, fun _ _ _ _ _ _ h => h⟩
def rhoB (h : Nat) : Nat → Prop := fun k => k = h
def stBack (h : Nat) (cur : List Value) (fi : Value) (L : List Nat) (i B : Nat) : List Value → (Nat → Prop) → World → Prop
  | [], _, W => CellsAt W h cur 68
  | [v], _, W => v = fi ∧ CellsAt W h cur 68
  | [_, _], _, W => CellsAt W h (cur.set (i * 4 + 1) (.int .i64 (Int.negSucc 0))) 68
  | _, _, W => ∃ vm, CellsAt W h ((cur.set (i * 4 + 1) (.int .i64 (Int.negSucc 0))).set (i * 4 + 2) vm) 68 ∧ Sl W vm (nums L) ∧ ∀ k, vm.ownBlock = some k → B ≤ k ∧ k < W.heap.size
theorem stBack_gr (h : Nat) (cur : List Value) (fi : Value) (L : List Nat) (i B : Nat) : ∀ us U W W', Gr W W' → stBack h cur fi L i B us U W → stBack h cur fi L i B us U W'
  | [], _, _, _, g, hh => CellsAt.gr hh g
  | [_], _, _, _, g, hh => ⟨hh.1, hh.2.gr g⟩
  | [_, _], _, _, _, g, hh => CellsAt.gr hh g
  | _ :: _ :: _ :: _, _, _, _, g, ⟨v, h1, h2, h3⟩ => ⟨v, h1.gr g, h2.below g, fun k hk => ⟨(h3 k hk).1, Nat.lt_of_lt_of_le (h3 k hk).2 g.size⟩⟩
set_option maxHeartbeats 4000000 in
theorem back_any (w : World) (P : Nat → Prop) (g h : Nat) (ts : List Tok) (cur : List Value) (fv qv : Nat → Value) (T : TabP w P g h ts cur fv qv) (hw : ∀ k, P k → k < w.heap.size) (hh : P h) (hP : P g) (hg : h ≠ g) (i : Nat) (hi : i < ts.length) (x : EntD) (q : EntV) (hp : EntP (fun k => k ≠ h) w x q) (hql : ts[i].frontier.length ≤ 1000000) :
    Calls Tryz.prog 27 #[.pointer (some ⟨h, i * 4, none⟩), .agg (entCells x q).toArray] w (TokDid w P g h ts i ts[i] (backT ts[i] x.site x.epoch x.frontier)) := by
  have tk := T.tok i hi
  obtain ⟨fi, hfi⟩ : ∃ fi, fi = fv i := ⟨_, rfl⟩
  obtain ⟨t, ht⟩ : ∃ t, t = ts[i] := ⟨_, rfl⟩
  obtain ⟨s, hs⟩ : ∃ s, s = x.site := ⟨_, rfl⟩
  obtain ⟨e, he⟩ : ∃ e, e = x.epoch := ⟨_, rfl⟩
  obtain ⟨f, hf⟩ : ∃ f, f = x.frontier := ⟨_, rfl⟩
  have NONE : Hid (∀ w', Gr w w' → backT t s e f = none → TokDid w P g h ts i t (backT t s e f) (.returned (.bool false)) w') := Lib.hid fun w' gr ho => TokDid.no T hw i hi t ht _ ho gr
  have DONE : Hid (∀ W' vm, Ch (fun k => k = h) w W' → Sl W' vm (nums (maxV t.frontier f)) → CellsAt W' h ((cur.set (i * 4 + 1) (.int .i64 (Int.negSucc 0))).set (i * 4 + 2) vm) 68 → (∀ k, vm.ownBlock = some k → w.heap.size ≤ k ∧ k < W'.heap.size) → backT t s e f = some { t with holder := -1, frontier := maxV t.frontier f } → TokDid w P g h ts i t (backT t s e f) (.returned (.bool true)) W') := Lib.hid fun W' vm a1 a2 a3 a4 a5 => back_did T hw hh hP hg i hi t ht s e f vm a1 a2 a3 a4 a5
  have KH := Lib.hid T.hh
  have SZ : Hid (i * 4 + 4 ≤ cur.length) := Lib.hid (by have := T.sz; omega)
  have HBF0 : Hid (∀ k, fi.ownBlock = some k → k ≠ h) := Lib.hid fun k hk => (tk.fb k (hfi ▸ hk)).2.2
  have C1 : Hid (cur[i * 4]? = some (.int .u64 (t.epoch : Int)) ∧ cur[i * 4 + 1]? = some (.int .i64 t.holder) ∧ cur[i * 4 + 2]? = some fi) := Lib.hid ⟨by rw [ht]; exact tk.c0, by rw [ht]; exact tk.c1, by rw [hfi]; exact tk.c2⟩
  have FS0 : Hid (Sl w fi (nums t.frontier)) := Lib.hid (by rw [ht, hfi]; exact tk.fs)
  obtain ⟨af, cf, hsh, _, _⟩ := Sl.numsAt' FS0.out
  obtain ⟨xf, hxf⟩ : ∃ xf, xf = q.fv := ⟨_, rfl⟩
  have XS0 : Hid (Sl w xf (nums f)) := Lib.hid (by rw [hxf, hf]; exact hp.2.2.1)
  have HBX0 : Hid (f = [] ∨ ∀ k, xf.ownBlock = some k → k ≠ h) := Lib.hid (by
    rw [hxf, hf]
    rcases hp.2.2.2 with h1 | h1
    · left
      have := congrArg List.length h1
      rw [nums_length] at this
      exact List.eq_nil_of_length_eq_zero this
    · exact .inr h1)
  obtain ⟨ax, cx, hshx, _, _⟩ := Sl.numsAt' XS0.out
  obtain ⟨E, hE⟩ : ∃ E, E = entCells x q := ⟨_, rfl⟩
  have CE : Hid (∀ W b, CellsAt W b E 44 → W.cell? ⟨b, 19, none⟩ = some (.int .i64 s) ∧ W.cell? ⟨b, 21, none⟩ = some (.int .u64 (e : Int)) ∧ W.cell? ⟨b, 22, none⟩ = some xf) := Lib.hid fun W b hk => by rw [hE] at hk; rw [hs, he, hxf]; exact ⟨hk.cell 19, hk.cell 21, hk.cell 22⟩
  have HFL0 : Hid (t.frontier.length ≤ 1000000) := Lib.hid (by rw [ht]; exact hql)
  rw [← ht, ← hs, ← he, ← hf, ← hE]
  obtain ⟨nf, hnf⟩ : ∃ n, n = t.frontier.length := ⟨_, rfl⟩
  obtain ⟨nx, hnx⟩ : ∃ n, n = f.length := ⟨_, rfl⟩
  rw [← hnf] at hsh
  rw [← hnx] at hshx
  subst hsh hshx
  have NF := Lib.hid (And.intro hnf hnx)
  clear hE hs ht hfi tk hp hql hi hw T hh hP hg hnf hnx he hf hxf
  go_enter Tryz.func27, Tryz.ntmps27
  go_wp2_with (first | (refine wpList_boxE _ rfl rfl rfl ?_) | fail)
  intro w1 k1 g1 n1
  obtain ⟨b, hb⟩ : ∃ b, b = w.heap.size := ⟨_, rfl⟩
  rw [← hb] at k1 ⊢
  have CK : Hid (∀ W, Gr w1 W → W.cell? ⟨h, i * 4, none⟩ = some (.int .u64 (t.epoch : Int)) ∧ W.cell? ⟨h, i * 4 + 1, none⟩ = some (.int .i64 t.holder) ∧ W.cell? ⟨h, i * 4 + 2, none⟩ = some (.slice af nf cf) ∧ W.cell? ⟨b, 19, none⟩ = some (.int .i64 s) ∧ W.cell? ⟨b, 21, none⟩ = some (.int .u64 (e : Int)) ∧ W.cell? ⟨b, 22, none⟩ = some (.slice ax nx cx)) := Lib.hid fun W hW => by
    have kk := (KH.out.gr g1).gr hW
    exact ⟨by rw [kk.cell]; exact C1.out.1, by rw [kk.cell]; exact C1.out.2.1, by rw [kk.cell]; exact C1.out.2.2, CE.out W b (k1.gr hW)⟩
  have KBE := Lib.hid k1
  have NB : Hid (¬ rhoB h b) := Lib.hid fun e => by
    have e : b = h := e
    have := KH.out.lt; omega
  have G1 := Lib.hid g1
  have GD := Lib.hid ((Gr.refl w1).drew)
  clear k1 g1 n1 hb
  go_wp2_with fail
  by_cases h1 : t.holder = s
  rotate_left
  · have HN := Lib.hid (backT_none (t := t) (s := s) (e := e) (f := f) (.inl h1))
    have hq : (t.holder == s) = false := by simp [h1]
    apply wp_region_draw_grow (.eq _ :: .eq _ :: .eq _ :: .eq _ :: .eq _ :: .eq _ :: .eq _ :: .eq _ :: .eq _ :: .eq _ :: .eq _ :: .eq _ :: .eq _ :: .eq _ :: .eq _ :: .eq _ :: .eq _ :: .eq _ :: .eq _ :: .eq _ :: .eq _ :: .eq _ :: .eq _ :: .eq _ :: .eq _ :: .eq _ :: .eq _ :: []) (by kernel_rfl) (by kernel_rfl) trivial
    iterate 27
     apply wpG_eq
     · intro W hW hs
       obtain ⟨y0, y1, y2, y19, y21, y22⟩ := CK.out W (GD.out.trans hW)
       unfold opG
       go_simp
       first | exact resG_eq_mk _ _ _ | rfl
     simp only [Act.put, pt1, pt2, pt3]
    apply wpG_nil
    intro W9 hW9 hsAll
    clear hsAll
    have G9 := Lib.hid (G1.out.trans (GD.out.trans hW9))
    clear hW9
    go_wp2
    go_ret
    exact NONE.out _ G9.out HN.out
  have H1 := Lib.hid h1
  have hq : (t.holder == s) = true := by simp [h1]
  by_cases h2 : t.epoch = e
  rotate_left
  · have HN := Lib.hid (backT_none (t := t) (s := s) (e := e) (f := f) (.inr (.inl h2)))
    have hq2 : ((t.epoch : Int) == (e : Int)) = false := by simp; omega
    have hq3 : ¬ (t.epoch : Int) = (e : Int) := by omega
    apply wp_region_draw_grow (.eq _ :: .eq _ :: .eq _ :: .eq _ :: .eq _ :: .eq _ :: .eq _ :: .eq _ :: .eq _ :: .eq _ :: .eq _ :: .eq _ :: .eq _ :: .eq _ :: .eq _ :: .eq _ :: .eq _ :: .eq _ :: .eq _ :: .eq _ :: .eq _ :: .eq _ :: .eq _ :: .eq _ :: .eq _ :: .eq _ :: .eq _ :: []) (by kernel_rfl) (by kernel_rfl) trivial
    iterate 27
     apply wpG_eq
     · intro W hW hs
       obtain ⟨y0, y1, y2, y19, y21, y22⟩ := CK.out W (GD.out.trans hW)
       unfold opG
       go_simp
       first | exact resG_eq_mk _ _ _ | rfl
     simp only [Act.put, pt1, pt2, pt3]
    apply wpG_nil
    intro W9 hW9 hsAll
    clear hsAll
    have G9 := Lib.hid (G1.out.trans (GD.out.trans hW9))
    clear hW9
    go_wp2
    go_ret
    exact NONE.out _ G9.out HN.out
  have H2 := Lib.hid h2
  have hq2 : ((t.epoch : Int) == (e : Int)) = true := by simp [h2]
  have hq5 : (t.epoch : Int) = (e : Int) := by rw [h2]
  by_cases h3 : nx = nf
  rotate_left
  · have HN := Lib.hid (backT_none (t := t) (s := s) (e := e) (f := f) (.inr (.inr (by have := NF.out; omega))))
    have hq3 : ((nx : Int) == (nf : Int)) = false := by simp; omega
    have hq4 : ¬ (nx : Int) = (nf : Int) := by omega
    apply wp_region_draw_grow (.eq _ :: .eq _ :: .eq _ :: .eq _ :: .eq _ :: .eq _ :: .eq _ :: .eq _ :: .eq _ :: .eq _ :: .eq _ :: .eq _ :: .eq _ :: .eq _ :: .eq _ :: .eq _ :: .eq _ :: .eq _ :: .eq _ :: .eq _ :: .eq _ :: .eq _ :: .eq _ :: .eq _ :: .eq _ :: .eq _ :: .eq _ :: []) (by kernel_rfl) (by kernel_rfl) trivial
    iterate 27
     apply wpG_eq
     · intro W hW hs
       obtain ⟨y0, y1, y2, y19, y21, y22⟩ := CK.out W (GD.out.trans hW)
       unfold opG
       go_simp
       first | exact resG_eq_mk _ _ _ | rfl
     simp only [Act.put, pt1, pt2, pt3]
    apply wpG_nil
    intro W9 hW9 hsAll
    clear hsAll
    have G9 := Lib.hid (G1.out.trans (GD.out.trans hW9))
    clear hW9
    go_wp2
    go_ret
    exact NONE.out _ G9.out HN.out
  subst h3
  apply wp_region_draw_grow (.eq _ :: .eq _ :: .eq _ :: .eq _ :: .eq _ :: .eq _ :: .eq _ :: .eq _ :: .eq _ :: .eq _ :: .eq _ :: .eq _ :: .eq _ :: .eq _ :: .eq _ :: .eq _ :: .eq _ :: .eq _ :: .eq _ :: .eq _ :: .eq _ :: .eq _ :: .eq _ :: .eq _ :: .eq _ :: .eq _ :: .eq _ :: []) (by kernel_rfl) (by kernel_rfl) trivial
  iterate 27
   apply wpG_eq
   · intro W hW hs
     obtain ⟨y0, y1, y2, y19, y21, y22⟩ := CK.out W (GD.out.trans hW)
     unfold opG
     go_simp
     first | exact resG_eq_mk _ _ _ | rfl
   simp only [Act.put, pt1, pt2, pt3]
  apply wpG_nil
  intro W9 hW9 hsAll
  clear hsAll
  have G9 := Lib.hid (GD.out.trans hW9)
  clear hW9
  have HS := Lib.hid (backT_some (f := f) H1.out H2.out (by have := NF.out; omega))
  have GW9 := Lib.hid (G1.out.trans G9.out)
  have KH9 := Lib.hid (KH.out.gr GW9.out)
  have LT : Hid (h < W9.heap.size) := Lib.hid KH9.out.lt
  have FS := Lib.hid (FS0.out.below GW9.out)
  have XSW : Hid (∀ W, Ch (rhoB h) W9.drew W → Sl W (.slice ax nx cx) (nums f)) := Lib.hid fun W hW => by
    rcases HBX0.out with h1 | h1
    · have e0 : nx = 0 := by have := NF.out.2; rw [h1] at this; exact this
      rw [h1, e0]
      exact Sl.nil _ _ _
    · exact ((XS0.out.below GW9.out).below (Gr.refl W9).drew).ch hW (fun k hk hr => h1 k hk hr)
  have HBF : Hid (∀ k, (Value.slice af nx cf).ownBlock = some k → rhoB h k → False) := Lib.hid fun k hk e => HBF0.out k hk e
  have HFL : Hid (t.frontier.length ≤ 1000000 ∧ f.length ≤ 1000000) := Lib.hid ⟨HFL0.out, by have := NF.out; have := HFL0.out; omega⟩
  have KB : Hid (∀ W, Ch (rhoB h) W9.drew W → W.cell? ⟨b, 22, none⟩ = some (.slice ax nx cx)) := Lib.hid fun W hW => (CE.out W b (((KBE.out.gr G9.out).gr (Gr.refl _).drew).block (hW.block b (Nat.lt_of_lt_of_le KBE.out.lt G9.out.size) (fun e => NB.out e)))).2.2
  clear h1 hq h2 hq2 hq5
  go_wp2_with fail
  apply wp_region_draw_turnU (rhoB h) (stBack h cur (.slice af nx cf) (maxV t.frontier f) i W9.heap.size) (.eq _ :: .eq _ :: .eq _ :: .eq _ :: .eq _ :: .use (IsV (.slice af nx cf)) :: .eq _ :: .eq _ :: .ok (SlN (rhoB h) W9.heap.size (maxV t.frontier f)) :: .eq _ :: .eq _ :: .use TU :: .eq _ :: .eq _ :: .use TU :: []) (by kernel_rfl) (by kernel_rfl) (by kernel_rfl) ⟨IsV.mono _ _, SlN.mono _ _ _, TU.mono _, TU.mono _, trivial⟩ (stBack_gr h cur (.slice af nx cf) (maxV t.frontier f) i W9.heap.size) (KH9.out.gr (Gr.refl _).drew)
  iterate 5
   apply wpU_eq
   · intro U W hW hU hs
     unfold opT
     go_simp
     first | exact resT_eq_mk _ _ _ | exact ⟨Gr.refl _, rfl⟩
   simp only [Act.put, pt1, pt2, pt3]
  apply wpU_use
  · intro U W hW hU hS hs
    have h2 : CellsAt W h cur 68 := hS
    have y2 := (h2.cell (i * 4 + 2)).trans C1.out.2.2
    have S1 : Hid (stBack h cur (.slice af nx cf) (maxV t.frontier f) i W9.heap.size [.slice af nx cf] (newU U W W) W) := Lib.hid ⟨rfl, h2⟩
    refine opT_hide fun VV hVV => ?_
    have HV := Lib.hid (hVV (.slice af nx cf) W ⟨S1.out, rfl⟩)
    clear hVV h2 hS S1
    unfold opT
    go_simp
    exact ⟨Ch.of_gr (Gr.refl W), HV.out⟩
  intro v5
  simp only [Act.put, pt1, pt2, pt3]
  apply wpU_eq
  · intro U W hW hU hs
    unfold opT
    go_simp
    first | exact resT_eq_mk _ _ _ | exact ⟨Gr.refl _, rfl⟩
  simp only [Act.put, pt1, pt2, pt3]
  apply wpU_eq
  · intro U W hW hU hs
    have y22 := KB.out W hW
    unfold opT
    go_simp
    first | exact resT_eq_mk _ _ _ | exact ⟨Gr.refl _, rfl⟩
  simp only [Act.put, pt1, pt2, pt3]
  apply wpU_ok
  · intro U W hW hU hs
    obtain rfl : v5 = (.slice af nx cf) := hs _ (.head _) (by rfl)
    have MX := Lib.hid (max_any W (.slice af nx cf) (.slice ax nx cx) t.frontier f ((FS.out.below (Gr.refl W9).drew).ch hW (fun k hk hr => HBF.out k hk hr)) (XSW.out W hW) (by have := HFL.out; omega) (by have := HFL.out; omega))
    have hz : W9.heap.size ≤ W.heap.size := hW.size
    unfold opT
    go_simp
    refine resT_call (MX.out.mono ?_)
    rintro en W2 ⟨vm, rfl, om, gm⟩
    obtain ⟨am, cm, hsm⟩ := om.shape
    exact ⟨_, rfl, gm, om.sl, by rw [hsm]; rfl, fun k hk => by
      have h1 := World.ownsRow.lt om k hk
      exact ⟨by omega, h1.2, fun e => by have := LT.out; have e : k = h := e; omega, fun e => by have := (hU k e).2; omega⟩⟩
  intro v8
  simp only [Act.put, pt1, pt2, pt3]
  iterate 2
   apply wpU_eq
   · intro U W hW hU hs
     unfold opT
     go_simp
     first | exact resT_eq_mk _ _ _ | exact ⟨Gr.refl _, rfl⟩
   simp only [Act.put, pt1, pt2, pt3]
  apply wpU_use
  · intro U W hW hU hS hs
    have h2 : CellsAt W h (cur) 68 := hS.2
    obtain ⟨yv, yy⟩ : ∃ z, W.cell? ⟨h, i * 4 + 1, none⟩ = some z := ⟨_, (h2.cell (i * 4 + 1)).trans (List.getElem?_eq_getElem (by have := SZ.out; simp; omega))⟩
    have ff := h2.frozen (i * 4 + 1)
    have KS := h2.set (i * 4 + 1) (.int .i64 (Int.negSucc 0))
    have CH := Lib.hid (ch_mono (σ := fun k => rhoB h k ∨ U k) (ch_setCell' W h (i * 4 + 1) (.int .i64 (Int.negSucc 0))) (fun k hk => .inl hk))
    have SS : Hid (stBack h cur (.slice af nx cf) (maxV t.frontier f) i W9.heap.size [v5, undef] (newU U W (W.setCell ⟨h, i * 4 + 1, none⟩ (.int .i64 (Int.negSucc 0)))) (W.setCell ⟨h, i * 4 + 1, none⟩ (.int .i64 (Int.negSucc 0)))) := Lib.hid KS
    refine opT_hide fun VV hVV => ?_
    have HV := Lib.hid (hVV undef _ ⟨SS.out, trivial⟩)
    clear hVV h2 hS SS KS
    unfold opT
    go_simp
    exact ⟨CH.out, HV.out⟩
  intro v11
  simp only [Act.put, pt1, pt2, pt3]
  iterate 2
   apply wpU_eq
   · intro U W hW hU hs
     unfold opT
     go_simp
     first | exact resT_eq_mk _ _ _ | exact ⟨Gr.refl _, rfl⟩
   simp only [Act.put, pt1, pt2, pt3]
  apply wpU_use
  · intro U W hW hU hS hs
    obtain ⟨sm, om, bm⟩ := hs _ (.tail _ (.head _)) (by rfl)
    have h2 : CellsAt W h (cur.set (i * 4 + 1) (.int .i64 (Int.negSucc 0))) 68 := hS
    obtain ⟨yv, yy⟩ : ∃ z, W.cell? ⟨h, i * 4 + 2, none⟩ = some z := ⟨_, (h2.cell (i * 4 + 2)).trans (List.getElem?_eq_getElem (by have := SZ.out; simp; omega))⟩
    have ff := h2.frozen (i * 4 + 2)
    have KS := h2.set (i * 4 + 2) (v8)
    have CH := Lib.hid (ch_mono (σ := fun k => rhoB h k ∨ U k) (ch_setCell' W h (i * 4 + 2) (v8)) (fun k hk => .inl hk))
    have sm2 := sm.ch (ch_setCell' W h (i * 4 + 2) v8) (fun k hk e => (bm k hk).2.2.1 e)
    have SS : Hid (stBack h cur (.slice af nx cf) (maxV t.frontier f) i W9.heap.size [v5, v11, undef] (newU U W (W.setCell ⟨h, i * 4 + 2, none⟩ v8)) (W.setCell ⟨h, i * 4 + 2, none⟩ v8)) := Lib.hid ⟨v8, KS, sm2, fun k hk => ⟨(bm k hk).1, by have := (bm k hk).2.1; simpa using this⟩⟩
    obtain ⟨am, nm, cm, rfl⟩ : ∃ a n c, v8 = .slice a n c := by obtain ⟨a, c, e, _⟩ := sm; exact ⟨a, _, c, e⟩
    clear sm sm2 bm om
    refine opT_hide fun VV hVV => ?_
    have HV := Lib.hid (hVV undef _ ⟨SS.out, trivial⟩)
    clear hVV h2 hS SS KS
    unfold opT
    go_simp
    exact ⟨CH.out, HV.out⟩
  intro v14
  simp only [Act.put, pt1, pt2, pt3]
  apply wpU_nil
  intro U W8 hW8 hU8 hS8 hs8
  obtain ⟨vm, KS, hm, hv⟩ : ∃ vm, CellsAt W8 h ((cur.set (i * 4 + 1) (.int .i64 (Int.negSucc 0))).set (i * 4 + 2) vm) 68 ∧ Sl W8 vm (nums (maxV t.frontier f)) ∧ ∀ k, vm.ownBlock = some k → W9.heap.size ≤ k ∧ k < W8.heap.size := hS8
  have c8 : Ch (fun k => k = h) w W8 := (ch_mono (Ch.of_gr (ρ := fun _ => False) GW9.out) (fun k hk => hk.elim)).trans (ch_mono (Ch.drewL hW8) (fun k hk => hk))
  have DD := Lib.hid (DONE.out W8 vm c8 hm KS (fun k hk => ⟨Nat.le_trans GW9.out.size (hv k hk).1, (hv k hk).2⟩) HS.out)
  clear hW8 hU8 hs8 hm KS hv c8
  go_wp2
  go_ret
  exact DD.out
end Go.Proofs.YtpcpijecibiibaaGreat
end
