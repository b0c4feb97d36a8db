/-
  Items and their effects, as the statements take them; effects of the call's own; slices.Clone of effects.
-/
import Derived.Test.YtpdninnnpoiblaaRowsOwn
import Derived.Test.YtpdninnnpoiblaaVecNums
import Derived.Test.YtpdninnnpoiblaaWirePut
import Derived.Test.YtpdninnnpoiblaaTurnTail
set_option linter.unusedVariables false
namespace Go.Proofs.Ytpdninnnpoiblaa
open Go.RowKit

structure EffD where
  path : List UInt8
  gone : Bool
  data : List UInt8
  rest : List Value
structure ItemD where
  origin : Int
  seq : Nat
  region : Int
  epoch : Nat
  stamp : List Nat
  effs : List EffD
  closed : Nat

def effRow (x : EffD) (dv : Value) : List Value := .string ⟨x.path.toArray⟩ :: .bool x.gone :: dv :: x.rest
def EffOk (x : EffD) : Prop := x.rest.length = 8 ∧ (∀ u ∈ x.rest, u.oneCell' = true) ∧ x.data.length ≤ 140737488351232
/-- Effects: what they read as. -/
def Effs (w : World) (v : Value) (es : List EffD) : Prop :=
  ∃ R, Rows w v es.length 11 R ∧ ∀ i (h : i < es.length), EffOk es[i] ∧ Sl w (R i 2) (bytes es[i].data) ∧ ∀ j u, (effRow es[i] (R i 2))[j]? = some u → R i j = u
theorem Effs.below {w w' : World} {v : Value} {es : List EffD} (h : Effs w v es) (g : Gr w w') : Effs w' v es := by
  obtain ⟨R, h1, h2⟩ := h
  exact ⟨R, h1.below g, fun i hi => ⟨(h2 i hi).1, (h2 i hi).2.1.below g, (h2 i hi).2.2⟩⟩
theorem Effs.shape {w : World} {v : Value} {es : List EffD} (h : Effs w v es) : ∃ a cap, v = .slice a es.length cap := by
  obtain ⟨R, ⟨a, cap, e, _⟩, _⟩ := h; exact ⟨a, cap, e⟩
theorem Effs.nil (w : World) (a : Option Addr) (c : Nat) : Effs w (.slice a 0 c) [] := ⟨fun _ _ => .bool false, ⟨a, c, rfl, Nat.zero_le _, .inl rfl⟩, fun i hi => absurd hi (Nat.not_lt_zero _)⟩
theorem effRow_length (x : EffD) (dv : Value) (h : EffOk x) : (effRow x dv).length = 11 := by simp [effRow, h.1]

theorem Own.lt' {w : World} {base : Nat} {e : TypeId} {v : Value} {xs : List Value} (h : Own w base e v xs) (j : Nat) (hj : v.ownBlock = some j) : base ≤ j ∧ j < w.heap.size := World.ownsRow.lt h j hj
theorem Own.block {w w' : World} {base : Nat} {e : TypeId} {v : Value} {xs : List Value} (h : Own w base e v xs) (hb : ∀ j, v.ownBlock = some j → w'.heap[j]? = w.heap[j]?) : Own w' base e v xs := by
  refine ⟨h.1, ?_⟩
  rcases h.2 with hn | ⟨g, cap, cur, rfl, h1, h2, rest⟩
  · exact .inl hn
  · exact .inr ⟨g, cap, cur, rfl, h1, (hb g rfl).trans h2, rest⟩

/-! ### A store into an own row -/
theorem flatten_set {k : Nat} : ∀ {rs : List (List Value)}, (∀ r ∈ rs, r.length = k) → ∀ (i : Nat) (hi : i < rs.length) (j : Nat) (u : Value), j < k → (rs.set i (rs[i].set j u)).flatten = rs.flatten.set (i * k + j) u
  | r :: rs, h, 0, hi, j, u, hj => by
    have hr := h r (by simp)
    simp only [List.set_cons_zero, List.getElem_cons_zero, List.flatten_cons, Nat.zero_mul, Nat.zero_add]
    rw [List.set_append_left _ _ (by omega)]
  | r :: rs, h, i + 1, hi, j, u, hj => by
    have hr := h r (by simp)
    have ih := flatten_set (rs := rs) (fun x hx => h x (by simp [hx])) i (by simpa using hi) j u hj
    simp only [List.set_cons_succ, List.getElem_cons_succ, List.flatten_cons]
    rw [ih, List.set_append_right _ _ (by rw [hr, Nat.add_mul]; omega)]
    congr 2
    rw [hr, Nat.add_mul]; omega
theorem OwnR.store {w : World} {B : Nat} {e : TypeId} {k g n cap : Nat} {rs : List (List Value)} (h : OwnR w B e k (.slice (some ⟨g, 0, none⟩) n cap) rs) (i : Nat) (hi : i < rs.length) (j : Nat) (hj : j < k) (u : Value) :
    OwnR (w.setCell ⟨g, i * k + j, none⟩ u) B e k (.slice (some ⟨g, 0, none⟩) n cap) (rs.set i (rs[i].set j u)) := by
  refine ⟨fun r hr => ?_, ?_⟩
  · rcases List.mem_or_eq_of_mem_set hr with hr | rfl
    · exact h.1 r hr
    · rw [List.length_set]; exact h.1 _ (List.getElem_mem hi)
  · rcases h.2 with ⟨hv, _⟩ | ⟨g', cap', cur, hv, h1, h2, h3, h4, h5, h6⟩
    · cases hv
    · injection hv with e1 e2 e3
      injection e1 with e1
      injection e1 with e1
      subst e1 e2 e3
      have hin : i * k + j < cur.size := by
        have : i * k + j < cap * k := by
          have h7 : (i + 1) * k ≤ cap * k := Nat.mul_le_mul_right _ (by omega)
          rw [Nat.add_mul] at h7; omega
        omega
      refine .inr ⟨g, cap, cur.setIfInBounds (i * k + j) u, by rw [List.length_set], h1, ?_, by rw [List.length_set]; exact h3, h4, by simpa using h5, ?_⟩
      · simp [World.setCell, Array.getElem?_modify, h2]
      · rw [List.length_set, Array.toList_setIfInBounds, List.take_set, h6, flatten_set h.1 i hi j u hj]

/-- Effects of the call's own: of the first k the data is its own too, of the others it is still that of the world w0. -/
def EffsK (w0 w : World) (B : Nat) (v : Value) (es : List EffD) (k : Nat) : Prop :=
  ∃ rs : List (List Value), OwnR w B 45 11 v rs ∧ rs.length = es.length ∧
    ∀ i (h : i < es.length), EffOk es[i] ∧ ∃ dv, rs[i]? = some (effRow es[i] dv) ∧ (i < k → Own w B 5 dv (bytes es[i].data) ∧ ∀ b, dv.ownBlock = some b → v.ownBlock ≠ some b) ∧ (k ≤ i → Sl w0 dv (bytes es[i].data))
theorem EffsK.lt {w0 w : World} {B k : Nat} {v : Value} {es : List EffD} (h : EffsK w0 w B v es k) : ∀ j, v.ownBlock = some j → B ≤ j ∧ j < w.heap.size := by
  obtain ⟨rs, h1, _⟩ := h; exact h1.lt
theorem EffsK.shape {w0 w : World} {B k : Nat} {v : Value} {es : List EffD} (h : EffsK w0 w B v es k) : ∃ a cap, v = .slice a es.length cap := by
  obtain ⟨rs, h1, h2, _⟩ := h; rw [← h2]; exact h1.shape
theorem EffsK.blocks {w0 w w' : World} {B k : Nat} {v : Value} {es : List EffD} (h : EffsK w0 w B v es k) (hb : ∀ j, B ≤ j → j < w.heap.size → w'.heap[j]? = w.heap[j]?) : EffsK w0 w' B v es k := by
  obtain ⟨rs, h1, h2, h3⟩ := h
  refine ⟨rs, h1.block fun j hj => hb j (h1.lt j hj).1 (h1.lt j hj).2, h2, fun i hi => ?_⟩
  obtain ⟨ok, dv, q1, q2, q3⟩ := h3 i hi
  exact ⟨ok, dv, q1, fun hk => ⟨(q2 hk).1.block fun j hj => hb j ((q2 hk).1.lt' j hj).1 ((q2 hk).1.lt' j hj).2, (q2 hk).2⟩, q3⟩
theorem EffsK.below {w0 w w' : World} {B k : Nat} {v : Value} {es : List EffD} (h : EffsK w0 w B v es k) (g : Gr w w') : EffsK w0 w' B v es k := h.blocks fun j _ hj => g.block j hj
theorem EffsK.mono {w0 w : World} {B B' k : Nat} {v : Value} {es : List EffD} (h : EffsK w0 w B v es k) (hb : B' ≤ B) : EffsK w0 w B' v es k := by
  obtain ⟨rs, h1, h2, h3⟩ := h
  refine ⟨rs, h1.mono hb, h2, fun i hi => ?_⟩
  obtain ⟨ok, dv, q1, q2, q3⟩ := h3 i hi
  exact ⟨ok, dv, q1, fun hk => ⟨(q2 hk).1.mono hb, (q2 hk).2⟩, q3⟩
/-- All their own. -/
theorem EffsK.effs {w0 w : World} {B : Nat} {v : Value} {es : List EffD} (h : EffsK w0 w B v es es.length) : Effs w v es := by
  obtain ⟨rs, h1, h2, h3⟩ := h
  refine ⟨_, by rw [← h2]; exact h1.rows, fun i hi => ?_⟩
  obtain ⟨ok, dv, q1, q2, _⟩ := h3 i hi
  have e : rs.getD i [] = effRow es[i] dv := by rw [List.getD_eq_getElem?_getD, q1]; rfl
  rw [e]
  have e2 : (effRow es[i] dv).getD 2 (.bool false) = dv := rfl
  rw [e2]
  exact ⟨ok, (q2 hi).1.sl, fun j u hu => by rw [List.getD_eq_getElem?_getD, hu]; rfl⟩

theorem EffsK.full {w0 w1 w : World} {B : Nat} {v : Value} {es : List EffD} (h : EffsK w0 w B v es es.length) : EffsK w1 w B v es es.length := by
  obtain ⟨rs, h1, h2, h3⟩ := h
  refine ⟨rs, h1, h2, fun i hi => ?_⟩
  obtain ⟨ok, dv, q1, q2, _⟩ := h3 i hi
  exact ⟨ok, dv, q1, q2, fun hk => absurd hk (by omega)⟩
/-- One of them: the place of its data. -/
theorem EffsK.at {w0 w : World} {B k : Nat} {v : Value} {es : List EffD} (h : EffsK w0 w B v es k) (hk : k < es.length) :
    ∃ g cap dv, v = .slice (some ⟨g, 0, none⟩) es.length cap ∧ B ≤ g ∧ g < w.heap.size ∧ w.cell? ⟨g, k * 11 + 2, none⟩ = some dv ∧ w.frozen? ⟨g, k * 11 + 2, none⟩ = false ∧ Sl w0 dv (bytes es[k].data) ∧ es[k].data.length ≤ 140737488351232 := by
  obtain ⟨rs, h1, h2, h3⟩ := h
  obtain ⟨ok, dv, q1, _, q3⟩ := h3 k hk
  obtain ⟨g, cap, e, hb, hg, hf, hc⟩ := h1.formN (by omega)
  have hk' : k < rs.length := by omega
  have hrow : rs[k] = effRow es[k] dv := by rw [List.getElem?_eq_getElem hk'] at q1; exact Option.some.inj q1
  have hl := effRow_length es[k] dv ok
  have hj : 2 < rs[k].length := by rw [hrow, hl]; decide
  have hcell := hc k hk' 2 hj
  have h9 : rs[k][2] = dv := by
    have : rs[k][2]? = some dv := by rw [hrow]; rfl
    rw [List.getElem?_eq_getElem hj] at this
    exact Option.some.inj this
  rw [h9] at hcell
  exact ⟨g, cap, dv, by rw [e, h2], hb, hg, hcell, hf _, q3 (Nat.le_refl _), ok.2.2⟩
theorem EffsK.step {w0 w : World} {B k g cap : Nat} {es : List EffD} {dv : Value} (h : EffsK w0 w B (.slice (some ⟨g, 0, none⟩) es.length cap) es k) (hk : k < es.length) (hd : Own w B 5 dv (bytes es[k].data)) (hne : dv.ownBlock ≠ some g) :
    EffsK w0 (w.setCell ⟨g, k * 11 + 2, none⟩ dv) B (.slice (some ⟨g, 0, none⟩) es.length cap) es (k + 1) := by
  obtain ⟨rs, h1, h2, h3⟩ := h
  have hk' : k < rs.length := by omega
  have hset : ∀ b, b ≠ g → (w.setCell ⟨g, k * 11 + 2, none⟩ dv).heap[b]? = w.heap[b]? := fun b hb => Below.heap_setCell w ⟨g, _, none⟩ _ b hb
  refine ⟨_, h1.store k hk' 2 (by decide) dv, by rw [List.length_set]; exact h2, fun i hi => ?_⟩
  obtain ⟨ok, du, q1, q2, q3⟩ := h3 i hi
  by_cases hik : i = k
  · subst hik
    have hrow : rs[i] = effRow es[i] du := by rw [List.getElem?_eq_getElem hk'] at q1; exact Option.some.inj q1
    refine ⟨ok, dv, ?_, fun _ => ⟨hd.block fun b hb => hset b (fun e => hne (e ▸ hb)), fun b hb e => hne (by injection e with e; have e' : g = b := e; rw [e']; exact hb)⟩, fun h => absurd h (by omega)⟩
    rw [List.getElem?_set_self (by omega), hrow]
    rfl
  · refine ⟨ok, du, ?_, fun hlt => ?_, fun hge => q3 (by omega)⟩
    · rw [List.getElem?_set_ne (fun e => hik e.symm)]; exact q1
    · obtain ⟨o1, o2⟩ := q2 (by omega)
      exact ⟨o1.block fun b hb => hset b (fun e => o2 b hb (by rw [e]; rfl)), o2⟩

theorem info_eff : (Try.prog.info? 45).map (fun i => (i.zero, i.size, i.bytes)) = some (some (.agg #[.string ⟨#[]⟩, .bool false, .slice none 0 0, .int .u32 0, .int .u32 0, .int .u32 0, .int .i64 0, .int .u32 0, .int .u64 0, .int .u64 0, .int .u64 0]), 11, 104) := by kernel_rfl
theorem info_item : (Try.prog.info? 33).map (fun i => (i.zero, i.size, i.bytes)) = some (some (.agg #[.int .i64 0, .int .u64 0, .int .i64 0, .int .u64 0, .slice none 0 0, .slice none 0 0, .int .u32 0]), 7, 88) := by kernel_rfl

def RetEffs (w0 w : World) (es : List EffD) (e : Ending) (w' : World) : Prop := ∃ v, e = .returned v ∧ EffsK w0 w' w.heap.size v es 0 ∧ Gr w w'
theorem clone_effs (w0 w : World) (v : Value) (es : List EffD) (h : Effs w0 v es) (hg0 : Gr w0 w) (hlen : es.length ≤ 100000) : Calls Try.prog 30 #[v] w (RetEffs w0 w es) := by
  obtain ⟨R, h1, h2⟩ := h
  replace h1 := h1.below hg0
  obtain ⟨a, cap, rfl, hcap, hc⟩ := h1
  cases a with
  | none =>
    have hn : es = [] := by
      rcases hc with h | ⟨B, o, h, _⟩
      · exact List.eq_nil_of_length_eq_zero h
      · cases h
    subst hn
    have hnil := Lib.run_eql_slice_nil (P := Try.prog) w 30 45 none 0 cap 0 0 Try.underlying30
    go_enter Try.func30, Try.ntmps30
    go_wp2
    go_ret
    exact ⟨_, rfl, ⟨[], OwnR.nil _ _ _ _, rfl, fun i hi => absurd hi (Nat.not_lt_zero _)⟩, Gr.refl _⟩
  | some ad =>
    obtain ⟨i0, hi0, hz0, hz1, hz2⟩ := info_parts info_eff
    have hnews : ((List.range es.length).map fun i => effRow (es.getD i ⟨[], false, [], []⟩) (R i 2)).length = es.length := by simp
    have hO := OwnR.lit (base := w.heap.size) w 45 11 [] #[] rfl (by simp) (by decide) (Nat.le_refl _)
    have hy : Rows (w.alloc (.cells #[] 45)) (.slice (some ad) es.length cap) es.length 11 R := Rows.below ⟨_, cap, rfl, hcap, hc⟩ ((Gr.refl w).alloc _)
    rw [← hnews] at hy
    have hget : ∀ i (hi : i < es.length), es.getD i ⟨[], false, [], []⟩ = es[i] := fun i hi => by rw [List.getD_eq_getElem?_getD, List.getElem?_eq_getElem hi]; rfl
    obtain ⟨v', w', hr, p1, p2, p3, _⟩ := run_append_rows (P := Try.prog) (w.alloc (.cells #[] 45)) w.heap.size 30 30 45 i0 _ 11 104 Try.underlying30 hi0 hz0 hz1 hz2 (by rfl) (.slice (some ⟨w.heap.size, 0, none⟩) 0 0) (.slice (some ad) ((List.range es.length).map fun i => effRow (es.getD i ⟨[], false, [], []⟩) (R i 2)).length cap) [] ((List.range es.length).map fun i => effRow (es.getD i ⟨[], false, [], []⟩) (R i 2)) hO R hy
      (by
        intro i hi
        have hi' : i < es.length := by simpa using hi
        obtain ⟨ok, _, he⟩ := h2 i hi'
        have e : ((List.range es.length).map fun i => effRow (es.getD i ⟨[], false, [], []⟩) (R i 2))[i] = effRow es[i] (R i 2) := by
          rw [List.getElem_map]
          simp only [List.getElem_range]
          rw [hget i hi']
        refine ⟨by rw [e]; exact effRow_length _ _ ok, fun j hj => ?_⟩
        have h9 : (effRow es[i] (R i 2))[j]? = some (((List.range es.length).map fun i => effRow (es.getD i ⟨[], false, [], []⟩) (R i 2))[i][j]) := by rw [← List.getElem?_eq_getElem hj, e]
        exact (he j _ h9).symm)
      (by
        intro r hr u hu
        obtain ⟨i, hi, rfl⟩ := List.mem_map.1 hr
        have hi' : i < es.length := List.mem_range.1 hi
        obtain ⟨ok, hs, _⟩ := h2 i hi'
        rw [hget i hi'] at hu
        simp only [effRow, List.mem_cons] at hu
        rcases hu with rfl | rfl | rfl | hu
        · rfl
        · rfl
        · obtain ⟨a, c, e, _⟩ := hs
          rw [e]; rfl
        · exact ok.2.1 u hu)
      (by unfold maxLen; simp; omega) (by simp; omega) (by simp)
    rw [List.nil_append] at p1
    rw [hnews] at hr
    have hnil := Lib.run_eql_slice_nil (P := Try.prog) w 30 45 (some ad) es.length cap 0 0 Try.underlying30
    have hb : Gr w w' := ((Below.refl _ _).alloc (Nat.le_refl _) _).grown p2 (by simp) (fun k hk => by simp [Value.ownBlock] at hk; omega)
    have hfin : RetEffs w0 w es (.returned v') w' := ⟨v', rfl, ⟨_, p1, hnews, fun i hi => ⟨(h2 i hi).1, R i 2, by rw [List.getElem?_map, List.getElem?_range hi]; show some (effRow (es.getD i _) _) = _; rw [hget i hi], fun hk => absurd hk (Nat.not_lt_zero _), fun _ => (h2 i hi).2.1⟩⟩, hb⟩
    have HF := Lib.hid hfin
    clear hfin p1 p2 p3 hb hnews hO hy hget h2 hc
    go_enter Try.func30, Try.ntmps30
    go_wp2_with (at_builtin; refine wpList_run_append hr rfl _ _ rfl rfl rfl ?_)
    go_ret
    exact HF.out
end Go.Proofs.Ytpdninnnpoiblaa
