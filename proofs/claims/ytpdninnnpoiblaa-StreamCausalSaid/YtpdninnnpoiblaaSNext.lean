/-
  stream.Next: the next items, copied.
-/
import Derived.Test.YtpdninnnpoiblaaSRows
import Derived.Test.YtpdninnnpoiblaaGrowTailIn
set_option linter.unusedVariables false
namespace Go.Proofs.Ytpdninnnpoiblaa
open Go.RowKit Go.Shelf
attribute [local go_sem] Oper.semAt_some

def zeroItem : ItemD := ⟨0, 0, 0, 0, [], [], 0⟩
/-- A slice of items. -/
def Items (w : World) (v : Value) (xs : List ItemD) : Prop :=
  ∃ R, Rows w v xs.length 7 R ∧ ∀ i (h : i < xs.length), ItemOk xs[i] ∧ ∃ sv ev, (∀ j u, (itemCells xs[i] sv ev)[j]? = some u → R i j = u) ∧ ItemIs w xs[i] sv ev
theorem Items.below {w w' : World} {v : Value} {xs : List ItemD} (h : Items w v xs) (g : Gr w w') : Items w' v xs := by
  obtain ⟨R, h1, h2⟩ := h
  exact ⟨R, h1.below g, fun i hi => ⟨(h2 i hi).1, by obtain ⟨sv, ev, q1, q2⟩ := (h2 i hi).2; exact ⟨sv, ev, q1, q2.below g⟩⟩⟩
def wanted (hv : Nat) (xs : List ItemD) : List ItemD := xs.filter fun x => decide (hv < x.seq)
def nextV (hv : Nat) (xs : List ItemD) : List ItemD := (wanted hv xs).take 8
theorem filter_map_range (xs : List ItemD) (p : ItemD → Bool) : ((List.range xs.length).filter fun i => p (xs.getD i zeroItem)).map (fun i => xs.getD i zeroItem) = xs.filter p := by
  have h : (List.range xs.length).map (fun i => xs.getD i zeroItem) = xs := by
    apply List.ext_getElem?
    intro i
    rw [List.getElem?_map]
    rcases Nat.lt_or_ge i xs.length with hi | hi
    · rw [List.getElem?_range hi, List.getElem?_eq_getElem hi]
      simp [hi]
    · rw [List.getElem?_eq_none (by simpa using hi), List.getElem?_eq_none hi]; rfl
  conv => rhs; rw [← h]
  rw [List.filter_map]
  rfl
theorem pick_map (hv : Nat) (xs : List ItemD) : (pick (fun i => decide (hv < (xs.getD i zeroItem).seq)) xs.length).map (fun i => xs.getD i zeroItem) = wanted hv xs := filter_map_range xs (fun x => decide (hv < x.seq))
theorem pick_prefix (p : Nat → Bool) (k m : Nat) (h : k ≤ m) : pick p k <+: pick p m := by
  unfold pick
  have e : List.range k = (List.range m).take k := by rw [List.take_range, Nat.min_eq_left h]
  rw [e]
  obtain ⟨t, ht⟩ := List.take_prefix k (List.range m)
  exact ⟨t.filter p, by rw [← List.filter_append, ht]⟩
def RetItems (w : World) (xs : List ItemD) (e : Ending) (w' : World) : Prop := ∃ v, e = .returned v ∧ ItemsR w' w.heap.size v xs ∧ Gr w w'

theorem wpListIn_run_append {l0 n : Nat} {P : Program} {w w' : World} {ops : Array Oper} {rest : List Oper} {o : Oper} {a : Act} {Q : Exit → Act → World → Prop} {t : TypeId} {v y v' : Value}
    (hr : (Builtin.append_ #[t, t] o.type #[v, y]).run P w = .ok v' w') (hgd : o.guard = none) (s x : Operand)
    (ho : o.op = .call { callee := .builtin .append, args := #[s, x], argTypes := #[t, t] }) (hs : a.eval s = v) (hx : a.eval x = y)
    (h : wpListIn (Fence.wide.inRound l0) n P ops Q rest (a.put o.dst v') w') : wpListIn (Fence.wide.inRound l0) n P ops Q (o :: rest) a w := by
  unfold wpListIn
  rw [if_pos (by simp [Region.wanted, hgd])]
  refine ⟨fun _ _ => trivial, ?_⟩
  rw [Oper.semAt_eq _ _ _ (fun c e => by rw [ho] at e; cases e)]
  have he : (execOp a.eval o).run P w = .ok (.value v') w' := by
    unfold execOp
    simp only [ho, resolve, invoke, builtin, Sem.run_bind, Sem.run_pure, Result.andThen_ok, List.map_toArray, List.map_cons, List.map_nil, hs, hx, hr]
  rw [he]
  exact h
/-- An item of the call's own, by its value. -/
def ItW (b0 : Nat) (x : ItemD) (u : Value) (w : World) : Prop := ∃ su eu, u = .agg (itemCells x su eu) ∧ ItemR w b0 x su eu
/-- A row of one such item. -/
def RowW (b0 : Nat) (x : ItemD) (u : Value) (w : World) : Prop := ∃ su eu R, Rows w u 1 7 R ∧ (∀ j u', (itemCells x su eu)[j]? = some u' → R 0 j = u') ∧ ItemR w b0 x su eu
def rowF (cs : Array Value) (_ : Nat) (j : Nat) : Value := (cs[j]?).getD (.bool false)
/-- What stands while the items are gathered: the box b of 'out', its row. -/
structure Core (w W : World) (B b : Nat) (v : Value) (xs : List ItemD) : Prop where
  box : Boxed W b 22 v
  row : ItemsR W B v xs
  below : Below w.heap.size w W
  size : B ≤ W.heap.size
theorem Core.grown {w A W : World} {B b M : Nat} {v : Value} {xs : List ItemD} {r : Option Nat} (h : Core w A B b v xs) (hg : A.grownBy W r) (hw : w.heap.size ≤ M) (hr : ∀ k, r = some k → M ≤ k ∧ ∃ o : Obj, A.heap[k]? = some o ∧ o.isCells = false) : Core w W B b v xs := by
  have hc : ∀ (j : Nat) (cs : Array Value) (t : TypeId) (fr : Nat × Nat), A.heap[j]? = some (Obj.cells cs t fr) → W.heap[j]? = A.heap[j]? := fun j cs t fr hj => hg.block j (Array.getElem?_eq_some_iff.1 hj).1 (fun e => by
    obtain ⟨_, o, h1, h2⟩ := hr j e.symm
    rw [hj] at h1
    cases h1
    cases h2)
  exact ⟨(hc b _ _ _ h.box).trans h.box, h.row.keep hg.size fun j cs t fr _ hj => hc j cs t fr hj, h.below.grown hg h.below.size (fun k e => Nat.le_trans hw (hr k e).1), Nat.le_trans h.size hg.size⟩

set_option maxRecDepth 100000 in
set_option maxHeartbeats 4000000 in
theorem next_any (w : World) (v : Value) (hv : Nat) (xs : List ItemD) (h : Items w v xs) (hm : xs.length ≤ 100000) (h64 : hv < 2 ^ 64) :
    Calls Try.prog 10 #[v, .int .u64 (hv : Int)] w (RetItems w (nextV hv xs)) := by
  obtain ⟨R, h1, h2⟩ := h
  obtain ⟨a, ca, rfl, hcap, hrow⟩ := h1
  -- total functions
  have tot : ∀ i, ∃ p : Value × Value, (∃ a n c, p.1 = .slice a n c) ∧ (∃ a n c, p.2 = .slice a n c) ∧ ItemOk (xs.getD i zeroItem) ∧ ItemIs w (xs.getD i zeroItem) p.1 p.2 ∧ (i < xs.length → ∀ j u, (itemCells (xs.getD i zeroItem) p.1 p.2)[j]? = some u → R i j = u) := by
    intro i
    by_cases hi : i < xs.length
    · obtain ⟨ok, su, eu, q1, q2⟩ := h2 i hi
      have e : xs.getD i zeroItem = xs[i] := by rw [List.getD_eq_getElem?_getD, List.getElem?_eq_getElem hi]; rfl
      rw [e]
      obtain ⟨x1, x2, e1⟩ := q2.1.oneCells
      obtain ⟨y1, y2, e2⟩ := q2.2.shape
      exact ⟨(su, eu), ⟨_, _, _, e1⟩, ⟨_, _, _, e2⟩, ok, q2, fun _ => q1⟩
    · have e : xs.getD i zeroItem = zeroItem := by rw [List.getD_eq_getElem?_getD, List.getElem?_eq_none (by omega)]; rfl
      rw [e]
      exact ⟨(.slice none 0 0, .slice none 0 0), ⟨_, _, _, rfl⟩, ⟨_, _, _, rfl⟩, ⟨Nat.zero_le _, Nat.zero_le _⟩, ⟨Sl.nil _ _ _, Effs.nil _ _ _⟩, fun hh => absurd hh hi⟩
  obtain ⟨P, hP⟩ := Classical.axiomOfChoice tot
  obtain ⟨D, hD⟩ : ∃ D : Nat → ItemD, D = fun i => xs.getD i zeroItem := ⟨_, rfl⟩
  obtain ⟨sv, hsvd⟩ : ∃ sv : Nat → Value, sv = fun i => (P i).1 := ⟨_, rfl⟩
  obtain ⟨ev, hevd⟩ : ∃ ev : Nat → Value, ev = fun i => (P i).2 := ⟨_, rfl⟩
  have hsv : ∀ i, ∃ a n c, sv i = .slice a n c := fun i => by rw [hsvd]; exact (hP i).1
  have hev : ∀ i, ∃ a n c, ev i = .slice a n c := fun i => by rw [hevd]; exact (hP i).2.1
  have hokD : ∀ i, ItemOk (D i) := fun i => by rw [hD]; exact (hP i).2.2.1
  have hisD : ∀ i, ItemIs w (D i) (sv i) (ev i) := fun i => by rw [hD, hsvd, hevd]; exact (hP i).2.2.2.1
  have hcD : ∀ i, i < xs.length → ∀ j u, (itemCells (D i) (sv i) (ev i))[j]? = some u → R i j = u := fun i hi => by rw [hD, hsvd, hevd]; exact (hP i).2.2.2.2 hi
  have hpick : (pick (fun i => decide (hv < (D i).seq)) xs.length).map D = wanted hv xs := by rw [hD]; exact pick_map hv xs
  clear tot hP hsvd hevd hD
  refine (callsIn_wide (n := 5)).1 ?_
  obtain ⟨F, hF⟩ : ∃ F, F = Fence.wide := ⟨_, rfl⟩
  rw [← hF]
  have hro : F.round = none := by rw [hF]; rfl
  have f10 : F.fn 10 := by rw [hF]; trivial
  have f21 : F.fn 21 := by rw [hF]; trivial
  have f22 : F.fn 22 := by rw [hF]; trivial
  have f23 : F.fn 23 := by rw [hF]; trivial
  have f29 : F.fn 29 := by rw [hF]; trivial
  have own : ∀ (k : Nat) (W : World) (x : ItemD) (su eu : Value), ItemIs W x su eu → ItemOk x → CallsIn F k Try.prog 23 #[.agg (itemCells x su eu)] W (RetItem W x) := fun k W x su eu h1 h2 => by rw [hF]; exact callsIn_wide.2 (own_any W x su eu h1 h2)
  have OWN := Lib.hid own
  have HF := Lib.hid hF
  clear own hF
  refine callsIn_of_wp_marks Try.func10 rfl f10 ?_ hro
  simp only [Try.ntmps10, List.size_toArray, List.length_cons, List.length_nil, Nat.reduceAdd, Nat.reduceSub, Array.replicate_succ, Array.replicate_zero, List.push_toArray, List.append_toArray, List.nil_append, List.cons_append]
  gi_wp2_with (gi_at_call 21; refine (chosen_in F 4 f21 hro _ _ _ _ ⟨_, _, _, rfl⟩ _).mono ?_; rintro e w' ⟨rfl, rfl⟩)
  obtain ⟨w1, hw1⟩ : ∃ w1, w1 = w.alloc (.cells #[.int .u64 (hv : Int)] 23) := ⟨_, rfl⟩
  have e1 : w1.heap.size = w.heap.size + 1 := by rw [hw1]; simp
  obtain ⟨w2, hw2⟩ : ∃ w2, w2 = w1.alloc (.cells #[.slice none 0 0] 22) := ⟨_, rfl⟩
  have e2 : w2.heap.size = w.heap.size + 2 := by rw [hw2]; simp [e1]
  obtain ⟨w3, hw3⟩ : ∃ w3, w3 = w2.alloc (.cells #[.slice a xs.length ca] 22) := ⟨_, rfl⟩
  have e3 : w3.heap.size = w.heap.size + 3 := by rw [hw3]; simp [e2]
  obtain ⟨w4, hw4⟩ : ∃ w4, w4 = w3.alloc (.cells #[.func (.func 22) #[] #[.pointer (some ⟨w.heap.size, 0, none⟩)]] 60) := ⟨_, rfl⟩
  have e4 : w4.heap.size = w.heap.size + 4 := by rw [hw4]; simp [e3]
  have g1 : Gr w w1 := by rw [hw1]; exact (Gr.refl w).alloc _
  have g2 : Gr w1 w2 := by rw [hw2]; exact (Gr.refl w1).alloc _
  have g3 : Gr w2 w3 := by rw [hw3]; exact (Gr.refl w2).alloc _
  have g4 : Gr w3 w4 := by rw [hw4]; exact (Gr.refl w3).alloc _
  have G4 := Gr.trans (Gr.trans g1 g2) (Gr.trans g3 g4)
  have bH : Boxed w4 w.heap.size 23 (.int .u64 (hv : Int)) := ((Gr.trans g2 (Gr.trans g3 g4)).block _ (by omega)).trans (by rw [hw1]; exact heap_alloc_new w _)
  have bO : Boxed w4 (w.heap.size + 1) 22 (.slice none 0 0) := ((Gr.trans g3 g4).block _ (by omega)).trans (by rw [hw2, ← e1]; exact heap_alloc_new w1 _)
  have bL : Boxed w4 (w.heap.size + 2) 22 (.slice a xs.length ca) := (g4.block _ (by omega)).trans (by rw [hw3, ← e2]; exact heap_alloc_new w2 _)
  have bW : Boxed w4 (w.heap.size + 3) 60 (.func (.func 22) #[] #[.pointer (some ⟨w.heap.size, 0, none⟩)]) := by rw [hw4, ← e3]; exact heap_alloc_new w3 _
  have hS : ∀ k, (k < w.heap.size ∨ k = w.heap.size ∨ k = w.heap.size + 2 ∨ k = w.heap.size + 3) → k < w4.heap.size := by intro k hk; omega
  have hrows : RowsS (fun k => k < w.heap.size ∨ k = w.heap.size ∨ k = w.heap.size + 2 ∨ k = w.heap.size + 3) w4 (.slice a xs.length ca) xs.length (fun i => itemCells (D i) (sv i) (ev i)) := by
    refine ⟨a, ca, rfl, ?_⟩
    rcases hrow with h0 | ⟨b, o, rfl, hb, hc⟩
    · exact .inl h0
    · refine .inr ⟨b, o, rfl, .inl hb, fun i hi j hj => ?_⟩
      rw [G4.cell (p := ⟨b, o + i * 7 + j, none⟩) hb, hc i hi j hj]
      obtain ⟨u, hu⟩ : ∃ u, (itemCells (D i) (sv i) (ev i))[j]? = some u := ⟨_, Array.getElem?_eq_getElem (by simpa [itemCells] using hj)⟩
      rw [hu, hcD i hi j u hu]
  have hst := chosen_stops F 4 f29 f22 hro (by decide) (w.heap.size + 2) (w.heap.size + 3) w.heap.size hv (fun k => k < w.heap.size ∨ k = w.heap.size ∨ k = w.heap.size + 2 ∨ k = w.heap.size + 3) _ xs.length D sv ev (by omega) hsv hev w4 hS bL.cell bW.cell bH.cell (.inr (.inr (.inl rfl))) (.inr (.inr (.inr rfl))) (.inr (.inl rfl)) hrows
  have hB0 : Below w.heap.size w w4 := G4
  have HW1 := Lib.hid hw1
  have HW2 := Lib.hid hw2
  have HW3 := Lib.hid hw3
  have HW4 := Lib.hid hw4
  rw [show ((((w.alloc (.cells #[.int .u64 (hv : Int)] 23)).alloc (.cells #[.slice none 0 0] 22)).alloc (.cells #[.slice a xs.length ca] 22)).alloc (.cells #[.func (.func 22) #[] #[.pointer (some ⟨w.heap.size, 0, none⟩)]] 60)) = w4 by rw [hw4, hw3, hw2, hw1]]
  clear hw1 hw2 hw3 hw4 g1 g2 g3 g4 hrows bL bW bH
  refine wpIn_rangeFunc_ownH hro (by decide) (gf := 29) (lb := #[.pointer (some ⟨w.heap.size + 2, 0, none⟩), .pointer (some ⟨w.heap.size + 3, 0, none⟩)]) rfl f29 (enters_of Try.func29 (by kernel_rfl) rfl) hst (fun h k => h.trans k) (stayZ_b hS) (Below.refl _ _) (fun _ => rfl)
    (fun pre W => ∃ v, Core w W (w.heap.size + 4) (w.heap.size + 1) v (pre.map D) ∧ pre.length < 8)
    (fun c pre W => c = .exit 0 ∧ ∃ v, Core w W (w.heap.size + 4) (w.heap.size + 1) v (pre.map D) ∧ pre.length = 8)
    (fun s A W row hs hg hr => by obtain ⟨v, h1, h2⟩ := hs; exact ⟨v, h1.grown hg (M := w4.heap.size) (by omega) hr, h2⟩)
    (fun c s A W row hs hg hr => by obtain ⟨h0, v, h1, h2⟩ := hs; exact ⟨h0, v, h1.grown hg (M := w4.heap.size) (by omega) hr, h2⟩)
    ⟨_, ⟨bO, ItemsR.nil _ _, hB0, by omega⟩, by decide⟩
    (fun x a' W => ∃ bx, w.heap.size + 4 ≤ bx ∧ ItemAt W bx (itemCells (D x) (sv x) (ev x)) ∧ a' = { tmps := #[.slice a xs.length ca, .int .u64 (hv : Int), undef, .pointer (some ⟨w.heap.size, 0, none⟩), .slice none 0 0, .pointer (some ⟨w.heap.size + 1, 0, none⟩), .pointer (some ⟨bx, 0, none⟩), .slice a xs.length ca, .func (.func 22) #[] #[.pointer (some ⟨w.heap.size, 0, none⟩)], .func (.func 29) #[] #[.pointer (some ⟨w.heap.size + 1 + 1, 0, none⟩), .pointer (some ⟨w.heap.size + 1 + 1 + 1, 0, none⟩)], .agg (itemCells (D x) (sv x) (ev x)), undef, undef, undef, undef, undef, undef, undef, undef, undef], defers := [] })
    (fun x a' s A W row hs hg hr => by
      obtain ⟨bx, h1, h2, h3⟩ := hs
      exact ⟨bx, h1, h2.block (hg.block bx h2.lt (fun e => by obtain ⟨_, o, q1, q2⟩ := hr bx e.symm; unfold ItemAt at h2; rw [h2] at q1; cases q1; cases q2)), h3⟩) ?assign ?body ?done ?stop
  case assign =>
    intro l pre x W K hI hK
    obtain ⟨v, hc, hlen⟩ := hI
    obtain ⟨a1, n1, c1, es⟩ := hsv x
    obtain ⟨a2, n2, c2, ee⟩ := hev x
    have hsz := hc.size
    have g1 : Gr W (W.alloc (.cells (itemCells (D x) (sv x) (ev x)) 33)) := (Gr.refl W).alloc _
    have hk := hK _ _ (KeepsFrom.of_grownBy (B := w4.heap.size) (below_grownBy g1 none) (fun j e => by cases e)) ⟨Stay.below g1 (fun j hj => by have := hS j hj; omega), g1.size⟩ ⟨v, hc.grown (M := w4.heap.size) (below_grownBy g1 none) (by omega) (fun k e => by cases e), hlen⟩ ⟨W.heap.size, hsz, by unfold ItemAt; exact heap_alloc_new W _, rfl⟩
    rw [es, ee] at hk
    have HK := Lib.hid hk
    clear hk hK
    dsimp only
    rw [es, ee]
    unfold itemCells at HK ⊢
    gi_wp2
    exact HK.out
  case body =>
    rintro l pre x a' W hl ⟨r, hr⟩ ⟨v, hc, hlen⟩ ⟨bx, hbx, hat, rfl⟩ hlt
    obtain ⟨a1, n1, c1, es⟩ := hsv x
    obtain ⟨a2, n2, c2, ee⟩ := hev x
    have hisW : ∀ W', Gr W W' → ItemIs W' (D x) (.slice a1 n1 c1) (.slice a2 n2 c2) := fun W' hg => by rw [← es, ← ee]; exact (hisD x).below (Gr.trans hc.below hg)
    rw [es, ee] at hat ⊢
    have hcell := hc.box.cell
    have hbol := hc.box.lt
    have hbxl := hat.lt
    have t0 := hat.cell 0
    have t1 := hat.cell 1
    have t2 := hat.cell 2
    have t3 := hat.cell 3
    have t4 := hat.cell 4
    have t5 := hat.cell 5
    have t6 := hat.cell 6
    simp only [itemCells, List.getElem?_toArray, List.getElem?_cons_zero, List.getElem?_cons_succ] at t0 t1 t2 t3 t4 t5 t6
    have HISW := Lib.hid hisW
    have CW : Hid (∀ W', Gr W.drew W' → W'.cell? ⟨w.heap.size + 1, 0, none⟩ = some v) := Lib.hid fun W' hg => (hg.cell (p := ⟨w.heap.size + 1, 0, none⟩) (by simpa using hbol)).trans (by simpa using hcell)
    have TW : Hid (∀ W', Gr W.drew W' → W'.cell? ⟨bx, 0, none⟩ = some (.int .i64 (D x).origin) ∧ W'.cell? ⟨bx, 1, none⟩ = some (.int .u64 ((D x).seq : Int)) ∧ W'.cell? ⟨bx, 2, none⟩ = some (.int .i64 (D x).region) ∧ W'.cell? ⟨bx, 3, none⟩ = some (.int .u64 ((D x).epoch : Int)) ∧ W'.cell? ⟨bx, 4, none⟩ = some (.slice a1 n1 c1) ∧ W'.cell? ⟨bx, 5, none⟩ = some (.slice a2 n2 c2) ∧ W'.cell? ⟨bx, 6, none⟩ = some (.int .u32 ((D x).closed : Int))) := Lib.hid fun W' hg =>
      ⟨(hg.cell (p := ⟨bx, 0, none⟩) (by simpa using hbxl)).trans (by simpa using t0), (hg.cell (p := ⟨bx, 1, none⟩) (by simpa using hbxl)).trans (by simpa using t1), (hg.cell (p := ⟨bx, 2, none⟩) (by simpa using hbxl)).trans (by simpa using t2), (hg.cell (p := ⟨bx, 3, none⟩) (by simpa using hbxl)).trans (by simpa using t3),
       (hg.cell (p := ⟨bx, 4, none⟩) (by simpa using hbxl)).trans (by simpa using t4), (hg.cell (p := ⟨bx, 5, none⟩) (by simpa using hbxl)).trans (by simpa using t5), (hg.cell (p := ⟨bx, 6, none⟩) (by simpa using hbxl)).trans (by simpa using t6)⟩
    clear hisW t0 t1 t2 t3 t4 t5 t6
    have HA : Hid ((.agg #[.int .i64 (D x).origin, .int .u64 ((D x).seq : Int), .int .i64 (D x).region, .int .u64 ((D x).epoch : Int), .slice a1 n1 c1, .slice a2 n2 c2, .int .u32 ((D x).closed : Int)] : Value) = .agg (itemCells (D x) (.slice a1 n1 c1) (.slice a2 n2 c2))) := Lib.hid rfl
    gi_wp2_with fail
    rw [HF.out]
    apply wpIn_region_tail_round 4 (.eq _ :: .eq _ :: .ok (ItW W.heap.size (D x)) :: .ok (RowW W.heap.size (D x)) :: []) (by kernel_rfl) (by kernel_rfl) ⟨(fun u A B hg h => by obtain ⟨su, eu, e, h⟩ := h; exact ⟨su, eu, e, h.blocksC fun j cs t fr _ hc => hg.block j (Array.getElem?_eq_some_iff.1 hc).1⟩), (fun u A B hg h => by obtain ⟨su, eu, R, h1, h2, h⟩ := h; exact ⟨su, eu, R, h1.below hg, h2, h.blocksC fun j cs t fr _ hc => hg.block j (Array.getElem?_eq_some_iff.1 hc).1⟩), trivial⟩
    apply wpG_eq
    · intro W hW hs
      have h1 := CW.out _ hW
      unfold opG
      go_simp
      first | exact resG_eq_mk _ _ _ | rfl
    simp only [Act.put, List.setIfInBounds_toArray, List.set_cons_zero, List.set_cons_succ]
    apply wpG_eq
    · intro W hW hs
      obtain ⟨t0, t1, t2, t3, t4, t5, t6⟩ := TW.out _ hW
      unfold opG
      go_simp
      first | exact resG_eq_mk _ _ _ | rfl
    simp only [Act.put, List.setIfInBounds_toArray, List.set_cons_zero, List.set_cons_succ]
    apply wpG_ok
    · intro W1 hW hs
      have hlW : W.heap.size ≤ W1.heap.size := hW.size
      unfold opG
      go_simp
      rw [HA.out]
      refine resG_call ((own_any _ (D x) _ _ (HISW.out _ (Gr.trans ((Gr.refl W).drew) hW)) (hokD x)).mono ?_)
      rintro e W2 ⟨su, eu, rfl, hir, hg⟩
      exact ⟨_, rfl, hg, su, eu, rfl, hir.mono hlW⟩
    intro vi
    simp only [Act.put, List.setIfInBounds_toArray, List.set_cons_zero, List.set_cons_succ]
    apply wpG_ok
    · intro W1 hW hs
      obtain ⟨su, eu, rfl, hir⟩ := hs _ (.head _) rfl
      obtain ⟨b1, d1, rfl⟩ := hir.1.shape
      obtain ⟨b2, d2, rfl⟩ := hir.2.shape
      have hat1 : ItemAt (W1.alloc (.cells (itemCells (D x) (.slice b1 (nums (D x).stamp).length d1) (.slice b2 (D x).effs.length d2)) 33)) W1.heap.size (itemCells (D x) (.slice b1 (nums (D x).stamp).length d1) (.slice b2 (D x).effs.length d2)) := by unfold ItemAt; exact heap_alloc_new W1 _
      have hir2 : ItemR (W1.alloc (.cells (itemCells (D x) (.slice b1 (nums (D x).stamp).length d1) (.slice b2 (D x).effs.length d2)) 33)) W.heap.size (D x) (.slice b1 (nums (D x).stamp).length d1) (.slice b2 (D x).effs.length d2) := hir.blocksC fun j cs t fr _ hc => ((Gr.refl W1).alloc _).block j (Array.getElem?_eq_some_iff.1 hc).1
      have hfin : Gr W1 (W1.alloc (.cells (itemCells (D x) (.slice b1 (nums (D x).stamp).length d1) (.slice b2 (D x).effs.length d2)) 33)) ∧ RowW W.heap.size (D x) (.slice (some ⟨W1.heap.size, 0, none⟩) 1 1) (W1.alloc (.cells (itemCells (D x) (.slice b1 (nums (D x).stamp).length d1) (.slice b2 (D x).effs.length d2)) 33)) :=
        ⟨(Gr.refl W1).alloc _, _, _, rowF (itemCells (D x) (.slice b1 (nums (D x).stamp).length d1) (.slice b2 (D x).effs.length d2)), ⟨_, 1, rfl, Nat.le_refl _, .inr ⟨_, 0, rfl, hat1.lt, fun i hi j hj => by
          obtain rfl : i = 0 := by omega
          rw [show (0 + 0 * 7 + j : Nat) = j by omega, hat1.cell j]
          obtain ⟨u, hu⟩ : ∃ u, (itemCells (D x) (.slice b1 (nums (D x).stamp).length d1) (.slice b2 (D x).effs.length d2))[j]? = some u := ⟨_, Array.getElem?_eq_getElem (by simpa [itemCells] using hj)⟩
          rw [hu]; simp [rowF, hu]⟩⟩, fun j u' hu' => by simp [rowF, hu'], hir2⟩
      have HFIN := Lib.hid hfin
      clear hfin hir2 hat1 hir
      unfold itemCells at HFIN ⊢
      unfold opG
      go_simp
      exact resG_mk HFIN.out.1 HFIN.out.2
    intro vrow
    simp only [Act.put, List.setIfInBounds_toArray, List.set_cons_zero, List.set_cons_succ]
    apply wpG_nil
    intro W9 hW9 hsAll
    obtain ⟨su, eu, R0, hR1, hR2, hir⟩ := hsAll _ (.head _)
    have hgW : Gr W W9 := Gr.trans ((Gr.refl W).drew) hW9
    have hc9 := hc.grown (M := w4.heap.size) (below_grownBy hgW none) (by omega) (fun k e => by cases e)
    have hsz := hc.size
    obtain ⟨v', w', hrun, p1, p2, p3⟩ := run_append_item W9 (w.heap.size + 4) W.heap.size v vrow su eu (pre.map D) (D x) hc9.row R0 hR1 hR2 hir hsz (fun k hk => (hc.row.lt k hk).2) (by simp; omega) (by have := hgW.size; omega)
    obtain ⟨a6, c6, rfl⟩ := p1.shape
    have hown : ∀ j, v.ownBlock = some j → w.heap.size + 4 ≤ j := fun j hj => (hc.row.lt j hj).1
    have hboxw : Boxed w' (w.heap.size + 1) 22 v := hc9.box.kept p2 (fun e => by have := hown _ e.symm; omega)
    have hcellw := hboxw.cell
    have hfrw := hboxw.frozen
    have hlen2 : ((pre ++ [x]).map D) = pre.map D ++ [D x] := by simp
    have hcx : Core w (w'.setCell ⟨w.heap.size + 1, 0, none⟩ (.slice a6 (pre.map D ++ [D x]).length c6)) (w.heap.size + 4) (w.heap.size + 1) (.slice a6 (pre.map D ++ [D x]).length c6) ((pre ++ [x]).map D) := by
      rw [hlen2]
      have b5 : Below w.heap.size w w' := hc9.below.grown p2 hc9.below.size (fun k hk => by have := hown k hk; omega)
      exact ⟨hboxw.set _, p1.keep (by simp) (fun j cs t fr hj hcs => Below.heap_setCell w' ⟨w.heap.size + 1, 0, none⟩ _ j (by show j ≠ w.heap.size + 1; omega)), b5.setCell (p := ⟨w.heap.size + 1, 0, none⟩) (by show w.heap.size ≤ w.heap.size + 1; omega) _, by have h1 := p2.size; have h2 := hc9.size; simp; omega⟩
    have hkf : KeepsFrom w4.heap.size W (w'.setCell ⟨w.heap.size + 1, 0, none⟩ (.slice a6 (pre.map D ++ [D x]).length c6)) := by
      refine ⟨by have h1 := p2.size; have h2 := hgW.size; simp; omega, fun k o hk ho hoc => ?_⟩
      have hkl := (Array.getElem?_eq_some_iff.1 ho).1
      rw [Below.heap_setCell w' ⟨w.heap.size + 1, 0, none⟩ _ k (by show k ≠ w.heap.size + 1; omega), p2.block k (Nat.lt_of_lt_of_le hkl hgW.size) (fun e => by
        obtain ⟨cs, t, fr, hcs⟩ := hc.row.cells k e.symm
        rw [hcs] at ho
        cases ho
        cases hoc), hgW.block k hkl]
      exact ho
    have hst2 : StayZ (fun k => k < w.heap.size ∨ k = w.heap.size ∨ k = w.heap.size + 2 ∨ k = w.heap.size + 3) W (w'.setCell ⟨w.heap.size + 1, 0, none⟩ (.slice a6 (pre.map D ++ [D x]).length c6)) := by
      refine ⟨fun k hk => ?_, hkf.size⟩
      rw [Below.heap_setCell w' ⟨w.heap.size + 1, 0, none⟩ _ k (by show k ≠ w.heap.size + 1; omega), p2.block k (by have := hgW.size; omega) (fun e => by have := hown k e.symm; omega), hgW.block k (by omega)]
    have hll : (pre.map D ++ [D x]).length = pre.length + 1 := by simp
    rw [hll] at hcx hkf hst2 hrun
    have HCX := Lib.hid hcx
    have HKF := Lib.hid hkf
    have HST := Lib.hid hst2
    have HRUN := Lib.hid hrun
    clear hcx hkf hst2 hrun p1 p2 p3 hboxw hc9 hir hR1 hR2 hsAll hc hcell hat hr hll hlen2
    simp only [List.drop_succ_cons, List.drop_zero]
    refine wpListIn_run_append HRUN.out rfl _ _ rfl rfl rfl ?_
    clear HRUN
    simp only [Act.put, List.setIfInBounds_toArray, List.set_cons_zero, List.set_cons_succ]
    have hst3 := HST.out
    have hcx3 := HCX.out
    have hc8 := hcx3.box.cell
    by_cases h8 : pre.length = 7
    · have h8' : (pre.length : Int) + 1 = 8 := by omega
      have h88 : ((pre.length : Int) + 1 == 8) = true := by rw [beq_iff_eq]; exact h8'
      clear hst3 hcx3
      gi_wp2_with fail
      have e8 : pre.length + 1 = 8 := by omega
      have q1 := HKF.out
      have q2 := HCX.out
      rw [e8] at q1 q2
      exact ⟨q1, rfl, _, q2, by simp [h8]⟩
    · have h8' : ((pre.length : Int) + 1 == 8) = false := by rw [beq_eq_false_iff_ne]; omega
      clear hst3 hcx3
      gi_wp2_with fail
      exact ⟨HKF.out, HST.out, _, HCX.out, by simp; omega⟩
  case done =>
    rintro DD zs W hD rfl ⟨v, hc, hlen⟩ hK
    have hn : nextV hv xs = (pick (fun i => decide (hv < (D i).seq)) xs.length).map D := by
      unfold nextV
      rw [← hpick]
      exact List.take_of_length_le (by simp; omega)
    have hcell := hc.box.cell
    gi_wp2
    have hfin := hc.grown (M := w4.heap.size) (grownBy_putObj' W DD (.deferred none)) (by omega) (fun k e => by cases e; exact ⟨hD, _, hK, rfl⟩)
    refine ⟨by simp, .inl ⟨_, _, rfl, run_takeDeferred hK, ?_⟩⟩
    exact ⟨_, results_tmp rfl _ _ _, v, rfl, by rw [hn]; exact (ItemsR.mono hfin.row (by omega)), hfin.below⟩
  case stop =>
    rintro DD c pre W hD ⟨k, hk, rfl⟩ ⟨rfl, v, hc, hlen⟩ hK
    have hcell := hc.box.cell
    gi_wp2
    have hn : nextV hv xs = (pick (fun i => decide (hv < (D i).seq)) k).map D := by
      unfold nextV
      rw [← hpick]
      obtain ⟨t, ht⟩ := pick_prefix (fun i => decide (hv < (D i).seq)) k xs.length hk
      rw [← ht, List.map_append, List.take_left' (by simpa using hlen)]
    have hfin := hc.grown (M := w4.heap.size) (grownBy_putObj' W DD (.deferred none)) (by omega) (fun k e => by cases e; exact ⟨hD, _, hK, rfl⟩)
    refine ⟨by simp, .inl ⟨_, _, rfl, run_takeDeferred hK, ?_⟩⟩
    exact ⟨_, results_tmp rfl _ _ _, v, rfl, by rw [hn]; exact (ItemsR.mono hfin.row (by omega)), hfin.below⟩
end Go.Proofs.Ytpdninnnpoiblaa
