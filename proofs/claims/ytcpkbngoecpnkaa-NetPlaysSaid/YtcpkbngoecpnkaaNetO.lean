/-
  A net's object in memory, its row of letters, and appends to it.
-/
import Derived.Test.YtcpkbngoecpnkaaNet1
import Derived.Test.YtcpkbngoecpnkaaWirePut
set_option linter.unusedVariables false
namespace Go.Proofs.Ytcpkbngoecpnkaa
open Go.RowKit

theorem Own.blockT {w w' : World} {base : Nat} {e : TypeId} {v : Value} {xs : List Value} (h : Own w base e v xs) (hb : ∀ (j : Nat) (cs : Array Value) (fr : Nat × Nat), w.heap[j]? = some (.cells cs e fr) → v.ownBlock = some j → w'.heap[j]? = w.heap[j]?) : Own w' base e v xs := by
  refine ⟨h.1, ?_⟩
  rcases h.2 with hn | ⟨g, cap, cur, rfl, h1, h2, rest⟩
  · exact .inl hn
  · exact .inr ⟨g, cap, cur, rfl, h1, (hb g _ _ h2 rfl).trans h2, rest⟩
theorem OwnR.cells {w : World} {base k : Nat} {e : TypeId} {v : Value} {rs : List (List Value)} (h : OwnR w base e k v rs) : ∀ j, v.ownBlock = some j → ∃ cs, w.heap[j]? = some (.cells cs e (0, 0)) := by
  intro j hj
  rcases h.2 with ⟨rfl, _⟩ | ⟨g, cap, cur, rfl, _, h2, _⟩
  · cases hj
  · injection hj with hj; subst hj; exact ⟨cur, h2⟩
/-- Blocks of bytes and of numbers stay. -/
def Kb (w w' : World) : Prop := ∀ (j : Nat) (cs : Array Value) (t : TypeId) (fr : Nat × Nat), (t = 5 ∨ t = 3) → w.heap[j]? = some (.cells cs t fr) → w'.heap[j]? = w.heap[j]?
theorem Kb.gr {w w' : World} (g : Gr w w') : Kb w w' := fun j cs t fr _ h => g.block j (Array.getElem?_eq_some_iff.1 h).1
theorem Kb.trans {a b c : World} (h : Kb a b) (k : Kb b c) : Kb a c := fun j cs t fr ht hc => by
  have h1 := h j cs t fr ht hc
  exact (k j cs t fr ht (h1.trans hc)).trans h1
theorem Kb.ch {ρ : Nat → Prop} {w w' : World} (g : Ch ρ w w') (hn : ∀ (j : Nat) (cs : Array Value) (t : TypeId) (fr : Nat × Nat), ρ j → w.heap[j]? = some (.cells cs t fr) → t ≠ 5 ∧ t ≠ 3) : Kb w w' := fun j cs t fr ht hc =>
  g.block j (Array.getElem?_eq_some_iff.1 hc).1 (fun hr => by have := hn j cs t fr hr hc; rcases ht with h | h <;> simp [h] at this)
theorem Own.kb {w w' : World} {base : Nat} {e : TypeId} {v : Value} {xs : List Value} (h : Own w base e v xs) (he : e = 5 ∨ e = 3) (hk : Kb w w') : Own w' base e v xs := h.blockT fun j cs fr hc _ => hk j cs e fr he hc

def rowP (p : LetD × Value) : List Value := letRow p.1 p.2
/-- The net's own letters. -/
structure LetsR (w : World) (base : Nat) (v : Value) (ps : List (LetD × Value)) : Prop where
  rows : OwnR w base 35 5 v (ps.map rowP)
  own : ∀ p ∈ ps, Own w base 5 p.2 (bytes p.1.b)
theorem LetsR.nil (w : World) (base : Nat) : LetsR w base (.slice none 0 0) [] := ⟨OwnR.nil w base 35 5, fun p hp => by cases hp⟩
section
variable {w w' : World} {base : Nat} {v : Value} {ps : List (LetD × Value)}
theorem LetsR.shape (h : LetsR w base v ps) : ∃ a cap, v = .slice a ps.length cap := by have := h.rows.shape; rwa [List.length_map] at this
theorem LetsR.lt (h : LetsR w base v ps) : ∀ j, v.ownBlock = some j → base ≤ j ∧ j < w.heap.size := h.rows.lt
theorem LetsR.cells (h : LetsR w base v ps) : ∀ j, v.ownBlock = some j → ∃ cs, w.heap[j]? = some (.cells cs 35 (0, 0)) := h.rows.cells
theorem LetsR.keep (h : LetsR w base v ps) (hk : Kb w w') (hb : ∀ j, v.ownBlock = some j → w'.heap[j]? = w.heap[j]?) : LetsR w' base v ps :=
  ⟨h.rows.block hb, fun p hp => (h.own p hp).kb (.inl rfl) hk⟩
theorem LetsR.gr (h : LetsR w base v ps) (g : Gr w w') : LetsR w' base v ps := h.keep (Kb.gr g) (fun j hj => g.block j (h.lt j hj).2)
theorem LetsR.at (h : LetsR w base v ps) (k : Nat) (hk : k < ps.length) : ∃ g cap, v = .slice (some ⟨g, 0, none⟩) ps.length cap ∧ base ≤ g ∧ g < w.heap.size ∧
    w.cell? ⟨g, k * 5, none⟩ = some (.int .i64 (ps[k]'hk).1.src.1) ∧ w.cell? ⟨g, k * 5 + 1, none⟩ = some (.int .i64 (ps[k]'hk).1.src.2) ∧ w.cell? ⟨g, k * 5 + 2, none⟩ = some (.int .i64 (ps[k]'hk).1.dst.1) ∧ w.cell? ⟨g, k * 5 + 3, none⟩ = some (.int .i64 (ps[k]'hk).1.dst.2) ∧ w.cell? ⟨g, k * 5 + 4, none⟩ = some (ps[k]'hk).2 ∧
    Own w base 5 (ps[k]'hk).2 (bytes (ps[k]'hk).1.b) := by
  obtain ⟨g, cap, e, hb, hlt, _, hc⟩ := h.rows.formN (by rw [List.length_map]; omega)
  rw [List.length_map] at e
  have hk' : k < (ps.map rowP).length := by rw [List.length_map]; exact hk
  have hr : (ps.map rowP)[k] = letRow (ps[k]'hk).1 (ps[k]'hk).2 := by simp [rowP]
  have hcc : ∀ j (hj : j < 5), w.cell? ⟨g, k * 5 + j, none⟩ = (letRow (ps[k]'hk).1 (ps[k]'hk).2)[j]? := fun j hj => by
    rw [hc k hk' j (by rw [hr]; exact hj)]
    rw [← List.getElem?_eq_getElem]
    rw [hr]
  exact ⟨g, cap, e, hb, hlt, hcc 0 (by decide), hcc 1 (by decide), hcc 2 (by decide), hcc 3 (by decide), hcc 4 (by decide), h.own _ (List.getElem_mem hk)⟩
end
theorem info_let : (Try.prog.info? 35).map (fun i => (i.zero, i.size, i.bytes)) = some (some (.agg #[.int .i64 0, .int .i64 0, .int .i64 0, .int .i64 0, .slice none 0 0]), 5, 56) := by kernel_rfl
theorem letRow_one (l : LetD) (bv : Value) (h : ∃ a n c, bv = .slice a n c) : ∀ u ∈ letRow l bv, u.oneCell' = true := by
  obtain ⟨a, n, c, rfl⟩ := h
  intro u hu
  simp only [letRow, List.mem_cons, List.not_mem_nil, or_false] at hu
  rcases hu with rfl | rfl | rfl | rfl | rfl <;> rfl
theorem Own.sh {w : World} {B : Nat} {v : Value} {e : TypeId} {xs : List Value} (h : Own w B e v xs) : ∃ a n c, v = .slice a n c := by obtain ⟨a, c, rfl⟩ := h.shape; exact ⟨a, _, c, rfl⟩
/-- append(letters, more...) -/
theorem run_append_lets (w : World) (base : Nat) (v y : Value) (ps qs : List (LetD × Value)) (h : LetsR w base v ps) (hy : Rows w y qs.length 5 (fun i j => ((qs.map rowP).getD i []).getD j (.bool false))) (hq : ∀ q ∈ qs, Own w base 5 q.2 (bytes q.1.b))
    (hl : ps.length + qs.length ≤ 1000000) (hB : base ≤ w.heap.size) :
    ∃ v' w', (Builtin.append_ #[30, 30] 30 #[v, y]).run Try.prog w = .ok v' w' ∧ LetsR w' base v' (ps ++ qs) ∧ w.grownBy w' v.ownBlock ∧
      (0 < qs.length → (∃ g cap, v = .slice (some ⟨g, 0, none⟩) ps.length cap ∧ ps.length + qs.length ≤ cap ∧ v' = .slice (some ⟨g, 0, none⟩) (ps.length + qs.length) cap) ∨
        ((∀ a n cap, v = .slice a n cap → cap < ps.length + qs.length) ∧ w.grownBy w' none ∧ ∃ j, v'.ownBlock = some j ∧ w.heap.size ≤ j)) ∧ (v'.ownBlock = v.ownBlock ∨ ∃ j, v'.ownBlock = some j ∧ w.heap.size ≤ j) := by
  obtain ⟨i0, hi0, hz0, hz1, hz2⟩ := info_parts info_let
  obtain ⟨v', w', hr, h1, h2, h3, h4⟩ := run_append_rows (P := Try.prog) w base 30 30 35 i0 _ 5 56 Try.underlying30 hi0 hz0 hz1 hz2 rfl v y (ps.map rowP) (qs.map rowP) h.rows
    (fun i j => ((qs.map rowP).getD i []).getD j (.bool false)) (by rw [List.length_map]; exact hy) (fun i hi => ⟨by simp [rowP, letRow], fun j hj => by rw [List.getD_eq_getElem?_getD, List.getD_eq_getElem?_getD, List.getElem?_eq_getElem hi, Option.getD_some, List.getElem?_eq_getElem hj, Option.getD_some]⟩)
    (fun r hr u hu => by
      obtain ⟨q, hq', rfl⟩ := List.mem_map.1 hr
      exact letRow_one q.1 q.2 ((hq q hq').sh) u hu)
    (by rw [List.length_map, List.length_map]; unfold maxLen; omega) (by rw [List.length_map, List.length_map]; omega) hB
  rw [← List.map_append] at h1
  rw [List.length_map, List.length_map] at h4
  have hkb : Kb w w' := fun j cs t fr ht hc => h2.block j (Array.getElem?_eq_some_iff.1 hc).1 (fun e => by
    obtain ⟨cs', hc'⟩ := h.cells j e.symm
    have := cells_type hc hc'
    rcases ht with h9 | h9 <;> rw [h9] at this <;> cases this)
  exact ⟨v', w', hr, ⟨h1, fun p hp => (List.mem_append.1 hp).elim (fun hp => (h.own p hp).kb (.inl rfl) hkb) (fun hp => (hq p hp).kb (.inl rfl) hkb)⟩, h2, h4, h3⟩
theorem rows_one {w : World} {Y : Nat} {q : LetD × Value} (h : CellsAt w Y (rowP q).toArray 35) : Rows w (.slice (some ⟨Y, 0, none⟩) 1 1) [q].length 5 (fun i j => (([q].map rowP).getD i []).getD j (.bool false)) := by
  refine ⟨_, 1, rfl, Nat.le_refl _, .inr ⟨Y, 0, rfl, h.lt, fun i hi j hj => ?_⟩⟩
  have hi0 : i = 0 := by simpa using hi
  subst hi0
  have := h.cell j
  simp only [Nat.zero_mul, Nat.zero_add]
  rw [this]
  have hj5 : j < (rowP q).length := by simpa [rowP, letRow] using hj
  simp [List.getElem?_eq_getElem hj5]
/-- The word on a new row of one letter; K: the word on its bytes. -/
def NewRow (N0 : Nat) (x : LetD) (K : Sp) (r : Value) (W : World) : Prop := ∃ Y bv, r = .slice (some ⟨Y, 0, Option.none⟩) 1 1 ∧ N0 ≤ Y ∧ CellsAt W Y (rowP (x, bv)).toArray 35 ∧ K bv W
theorem NewRow.mono (N0 : Nat) (x : LetD) {K : Sp} (hK : MonoSp K) : MonoSp (NewRow N0 x K) := fun _ _ _ g ⟨Y, bv, e, h1, h2, h3⟩ => ⟨Y, bv, e, h1, h2.gr g, hK _ _ _ g h3⟩
theorem NewRow.monoT (N0 : Nat) (x : LetD) {K : Sp} (g : Nat) (hg : g < N0) (hK : MonoT (fun j => j = g) K) : MonoT (fun j => j = g) (NewRow N0 x K) := fun _ _ _ h ⟨Y, bv, e, h1, h2, h3⟩ =>
  ⟨Y, bv, e, h1, h2.ch h (by show ¬ Y = g; omega), hK _ _ _ h h3⟩
/-- Bytes of the region's own. -/
def KOwn (N0 : Nat) (b : List UInt8) : Sp := fun bv W => Own W N0 5 bv (bytes b)
theorem KOwn.mono (N0 : Nat) (b : List UInt8) : MonoSp (KOwn N0 b) := fun _ _ _ g h => Own.gr h g
theorem KOwn.monoT (N0 : Nat) (b : List UInt8) (g : Nat) (hg : g < N0) : MonoT (fun j => j = g) (KOwn N0 b) := fun v w w' h k =>
  Own.blockT k fun j cs fr hc hj => h.block j (Array.getElem?_eq_some_iff.1 hc).1 (fun e => by have e9 : j = g := e; have := (World.ownsRow.lt k j hj).1; omega)
/-- Bytes that were there. -/
def KEq (bv0 : Value) : Sp := fun bv _ => bv = bv0
theorem KEq.mono (bv0 : Value) : MonoSp (KEq bv0) := fun _ _ _ _ h => h
theorem KEq.monoT (bv0 : Value) (ρ : Nat → Prop) : MonoT ρ (KEq bv0) := fun _ _ _ _ h => h
/-- The word on a copy. -/
def OwnW (N0 : Nat) (x : LetD) : Sp := fun r W => ∃ bv, r = letV x bv ∧ KOwn N0 x.b bv W
theorem OwnW.mono (N0 : Nat) (x : LetD) : MonoSp (OwnW N0 x) := fun _ _ _ g ⟨bv, e, h⟩ => ⟨bv, e, KOwn.mono _ _ _ _ _ g h⟩
theorem OwnW.monoT (N0 : Nat) (x : LetD) (g : Nat) (hg : g < N0) : MonoT (fun j => j = g) (OwnW N0 x) := fun _ _ _ h ⟨bv, e, k⟩ => ⟨bv, e, KOwn.monoT _ _ g hg _ _ _ h k⟩
/-- The word on a row that was made anew. -/
def LongRow (N0 B : Nat) (ps : List (LetD × Value)) (x : LetD) (K : Sp) (r : Value) (W : World) : Prop := ∃ bv, K bv W ∧ (∃ a c, r = .slice a (ps.length + 1) c) ∧ LetsR W B r (ps ++ [(x, bv)]) ∧ ∀ j, r.ownBlock = some j → N0 ≤ j
theorem LongRow.mono (N0 B : Nat) (ps : List (LetD × Value)) (x : LetD) {K : Sp} (hK : MonoSp K) : MonoSp (LongRow N0 B ps x K) := fun _ _ _ g ⟨bv, k, e, h1, h2⟩ => ⟨bv, hK _ _ _ g k, e, h1.gr g, h2⟩
/-- The append of one letter, whatever the world that came of the region's own start. -/
theorem app_room {W0 W : World} {B g cap : Nat} {v : Value} {ps : List (LetD × Value)} {x : LetD} {y : Value} (h0 : LetsR W0 B v ps) (hW : Ch (fun j => j = g) W0.drew W) (hg : W.heap[g]? = W0.heap[g]?) (ev : v = .slice (some ⟨g, 0, Option.none⟩) ps.length cap) (hcap : ps.length + 1 ≤ cap)
    {K : Sp} (hKT : MonoT (fun j => j = g) K) (hy : NewRow W0.heap.size x K y W) (hK : ∀ bv, K bv W → Own W B 5 bv (bytes x.b)) (hl : ps.length ≤ 10000) (hB : B ≤ W0.heap.size) :
    ∃ w', (Builtin.append_ #[30, 30] 30 #[v, y]).run Try.prog W = .ok (.slice (some ⟨g, 0, Option.none⟩) (ps.length + 1) cap) w' ∧ (∃ bv, K bv w' ∧ LetsR w' B (.slice (some ⟨g, 0, Option.none⟩) (ps.length + 1) cap) (ps ++ [(x, bv)])) ∧ Ch (fun j => j = g) W w' := by
  have hk : Kb W0 W := fun j cs t fr ht hc => by
    by_cases e : j = g
    · subst e; exact hg
    · exact hW.block j (Array.getElem?_eq_some_iff.1 hc).1 e
  obtain ⟨Y, bv, rfl, h1, h2, h3⟩ := hy
  obtain ⟨v', w', hr, p1, p2, p3, _⟩ := run_append_lets W B v _ ps [(x, bv)] (h0.keep hk (fun j hj => by rw [ev] at hj; injection hj with hj; subst hj; exact hg)) (rows_one h2)
    (fun q hq => by rw [List.mem_singleton.1 hq]; exact hK _ h3) (by simp; omega) (Nat.le_trans hB hW.size)
  rcases p3 (by simp) with ⟨g', cap', q1, q2, q3⟩ | ⟨q1, _, _⟩
  · rw [ev] at q1
    injection q1 with q1 _ q4
    injection q1 with q1
    injection q1 with q1
    subst q1 q4
    have q3' : v' = .slice (some ⟨g, 0, Option.none⟩) (ps.length + 1) cap := q3
    rw [q3'] at hr p1
    have hc : Ch (fun j => j = g) W w' := Ch.of_grownBy p2 (fun k hk => by rw [ev] at hk; injection hk with hk; exact hk.symm)
    exact ⟨w', hr, ⟨bv, hKT _ _ _ hc h3, p1⟩, hc⟩
  · have := q1 _ _ _ ev
    simp at this
    omega
theorem app_new {W0 W : World} {B : Nat} {v : Value} {ps : List (LetD × Value)} {x : LetD} {y : Value} (h0 : LetsR W0 B v ps) (hW : Gr W0.drew W) (hno : ¬ ∃ g cap, v = .slice (some ⟨g, 0, Option.none⟩) ps.length cap ∧ ps.length + 1 ≤ cap)
    {K : Sp} (hKm : MonoSp K) (hy : NewRow W0.heap.size x K y W) (hK : ∀ bv, K bv W → Own W B 5 bv (bytes x.b)) (hl : ps.length ≤ 10000) (hB : B ≤ W0.heap.size) :
    ∃ v' w', (Builtin.append_ #[30, 30] 30 #[v, y]).run Try.prog W = .ok v' w' ∧ LongRow W0.heap.size B ps x K v' w' ∧ Gr W w' := by
  have g0 : Gr W0 W := Gr.trans ((Gr.refl W0).drew) hW
  obtain ⟨Y, bv, rfl, h1, h2, h3⟩ := hy
  obtain ⟨v', w', hr, p1, p2, p3, _⟩ := run_append_lets W B v _ ps [(x, bv)] (h0.gr g0) (rows_one h2)
    (fun q hq => by rw [List.mem_singleton.1 hq]; exact hK _ h3) (by simp; omega) (Nat.le_trans hB g0.size)
  rcases p3 (by simp) with ⟨g', cap', q1, q2, q3⟩ | ⟨q1, q2, j, q3, q4⟩
  · exact absurd ⟨g', cap', q1, q2⟩ hno
  · have hg2 : Gr W w' := grownBy_below q2 (Nat.le_refl _) (by intro k hk; cases hk)
    exact ⟨v', w', hr, ⟨bv, hKm _ _ _ hg2 h3, by have := p1.shape; simpa using this, p1, fun j' hj' => by rw [q3] at hj'; injection hj' with hj'; have := g0.size; omega⟩, hg2⟩

/-! ### The net -/
structure NetIs (w : World) (base N M n : Nat) (lv : Value) (ps : List (LetD × Value)) (sizes : List Int) (cut : AdD × AdD → Bool) : Prop where
  obj : ∃ sv, CellsAt w N #[sv, lv, .map (some M)] 68 ∧ Own w base 3 sv (ints sizes)
  lets : LetsR w base lv ps
  map : ∃ f, MapIs w 70 4 M n (.bool false) f ∧ ∀ p, KeyOk p → f (keyL p) = .bool (cut p)
  bN : base ≤ N
  bM : base ≤ M
  szs : sizes.length ≤ 4
  len : ps.length ≤ 4096
/-- The blocks that a net's methods may write. -/
def netB (N M : Nat) (lv : Value) (j : Nat) : Prop := j = N ∨ j = M ∨ lv.ownBlock = some j
section
variable {w w' : World} {base N M n : Nat} {lv : Value} {ps : List (LetD × Value)} {sizes : List Int} {cut : AdD × AdD → Bool}
theorem NetIs.ltN (h : NetIs w base N M n lv ps sizes cut) : N < w.heap.size := by obtain ⟨sv, h1, _⟩ := h.obj; exact h1.lt
theorem NetIs.ltM (h : NetIs w base N M n lv ps sizes cut) : M < w.heap.size := by obtain ⟨f, h1, _⟩ := h.map; exact h1.lt
theorem NetIs.ltB (h : NetIs w base N M n lv ps sizes cut) (j : Nat) (hj : netB N M lv j) : base ≤ j ∧ j < w.heap.size := by
  rcases hj with rfl | rfl | hj
  · exact ⟨h.bN, h.ltN⟩
  · exact ⟨h.bM, h.ltM⟩
  · exact h.lets.lt j hj
theorem NetIs.bB (h : NetIs w base N M n lv ps sizes cut) : base ≤ w.heap.size := by have := h.bN; have := h.ltN; omega
theorem NetIs.keep (h : NetIs w base N M n lv ps sizes cut) (hk : Kb w w') (hb : ∀ j, netB N M lv j → w'.heap[j]? = w.heap[j]?) : NetIs w' base N M n lv ps sizes cut := by
  obtain ⟨sv, h1, h2⟩ := h.obj
  obtain ⟨f, h3, h4⟩ := h.map
  exact ⟨⟨sv, h1.block (hb N (.inl rfl)), h2.kb (.inr rfl) hk⟩, h.lets.keep hk (fun j hj => hb j (.inr (.inr hj))), ⟨f, h3.block (hb M (.inr (.inl rfl))), h4⟩, h.bN, h.bM, h.szs, h.len⟩
theorem NetIs.gr (h : NetIs w base N M n lv ps sizes cut) (g : Gr w w') : NetIs w' base N M n lv ps sizes cut :=
  h.keep (Kb.gr g) (fun j hj => g.block j (h.ltB j hj).2)
theorem NetIs.mono {n' : Nat} (h : NetIs w base N M n lv ps sizes cut) (hn : n ≤ n') : NetIs w base N M n' lv ps sizes cut := by
  obtain ⟨f, h3, h4⟩ := h.map
  exact ⟨h.obj, h.lets, ⟨f, h3.mono hn, h4⟩, h.bN, h.bM, h.szs, h.len⟩
/-- None of a net's blocks holds bytes or numbers. -/
theorem NetIs.nb (h : NetIs w base N M n lv ps sizes cut) : ∀ (j : Nat) (cs : Array Value) (t : TypeId) (fr : Nat × Nat), netB N M lv j → w.heap[j]? = some (.cells cs t fr) → t ≠ 5 ∧ t ≠ 3 := by
  intro j cs t fr hj hc
  rcases hj with rfl | rfl | hj
  · obtain ⟨sv, h1, _⟩ := h.obj
    rw [cells_type hc h1]
    exact ⟨by decide, by decide⟩
  · obtain ⟨f, ⟨D, ⟨es, clock, e1, _⟩, _⟩, _⟩ := h.map
    rw [e1] at hc
    cases hc
  · obtain ⟨cs', hc'⟩ := h.lets.cells j hj
    rw [cells_type hc hc']
    exact ⟨by decide, by decide⟩
theorem NetIs.kb (h : NetIs w base N M n lv ps sizes cut) (g : Ch (netB N M lv) w w') : Kb w w' := Kb.ch g h.nb
theorem NetIs.NM (h : NetIs w base N M n lv ps sizes cut) : N ≠ M := by
  obtain ⟨sv, h1, _⟩ := h.obj
  obtain ⟨f, ⟨D, ⟨es, clock, e1, _⟩, _⟩, _⟩ := h.map
  intro e
  subst e
  unfold CellsAt at h1
  rw [e1] at h1
  cases h1
theorem NetIs.NR (h : NetIs w base N M n lv ps sizes cut) : lv.ownBlock ≠ some N ∧ lv.ownBlock ≠ some M := by
  refine ⟨fun e => ?_, fun e => ?_⟩
  · obtain ⟨sv, h1, _⟩ := h.obj
    obtain ⟨cs', hc'⟩ := h.lets.cells N e
    cases cells_type h1 hc'
  · obtain ⟨f, ⟨D, ⟨es, clock, e1, _⟩, _⟩, _⟩ := h.map
    obtain ⟨cs', hc'⟩ := h.lets.cells M e
    rw [e1] at hc'
    cases hc'
end
/-- A method was done: the net's letters are ls, only the net's blocks were written. -/
def Did (w : World) (base N M n : Nat) (lv : Value) (sizes : List Int) (cut : AdD × AdD → Bool) (ls : List LetD) (w' : World) : Prop :=
  ∃ lv' ps', NetIs w' base N M n lv' ps' sizes cut ∧ ps'.map Prod.fst = ls ∧ Ch (netB N M lv) w w' ∧ ∀ j, lv'.ownBlock = some j → lv.ownBlock = some j ∨ w.heap.size ≤ j
/-- The letters' slice was stored into the object. -/
theorem NetIs.stored {w w1 : World} {base N M n : Nat} {lv lv' : Value} {ps ps' : List (LetD × Value)} {sizes : List Int} {cut : AdD × AdD → Bool} (h : NetIs w base N M n lv ps sizes cut) (g : Ch (fun j => lv.ownBlock = some j) w w1)
    (hl : LetsR w1 base lv' ps') (hf : ∀ j, lv'.ownBlock = some j → lv.ownBlock = some j ∨ w.heap.size ≤ j) (hn : ps'.length ≤ 4096) :
    NetIs (w1.setCell ⟨N, 1, none⟩ lv') base N M n lv' ps' sizes cut ∧ Ch (netB N M lv) w (w1.setCell ⟨N, 1, none⟩ lv') := by
  have g1 : Ch (netB N M lv) w w1 := g.mono (fun k hk => .inr (.inr hk))
  have hk := h.kb g1
  have hNR := h.NR
  have hNM := h.NM
  have gs := ch_setCell w1 N 1 lv'
  have gN : w1.heap[N]? = w.heap[N]? := g.block N h.ltN hNR.1
  have gM : w1.heap[M]? = w.heap[M]? := g.block M h.ltM hNR.2
  obtain ⟨sv, h1, h2⟩ := h.obj
  obtain ⟨f, h3, h4⟩ := h.map
  have h1' : CellsAt w1 N #[sv, lv, .map (some M)] 68 := h1.block gN
  have hk2 : Kb w1 (w1.setCell ⟨N, 1, none⟩ lv') := Kb.ch gs (fun j cs t fr hj hc => by
    have e : j = N := hj
    subst e
    rw [cells_type hc h1']
    exact ⟨by decide, by decide⟩)
  have hlN : ∀ j, lv'.ownBlock = some j → j ≠ N := fun j hj e => by
    rcases hf j hj with h9 | h9
    · exact hNR.1 (e ▸ h9)
    · have := h.ltN; omega
  refine ⟨⟨⟨sv, ?_, (h2.kb (.inr rfl) hk).kb (.inr rfl) hk2⟩, hl.keep hk2 (fun j hj => gs.block j (hl.lt j hj).2 (hlN j hj)), ⟨f, ?_, h4⟩, h.bN, h.bM, h.szs, hn⟩, g1.transN gs (fun j hj _ => .inl hj)⟩
  · have := h1'.set 1 lv'
    exact this
  · refine h3.block ?_
    rw [gs.block M (by have := h.ltM; have := g.size; omega) (fun e => hNM e.symm), gM]
end Go.Proofs.Ytcpkbngoecpnkaa
