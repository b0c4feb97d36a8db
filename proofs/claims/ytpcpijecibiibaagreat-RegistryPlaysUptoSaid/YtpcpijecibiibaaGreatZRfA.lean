/-
  The document's registry in memory.
  The document's New.
  The document's Max.
-/
import Derived.Test.YtpcpijecibiibaaGreatZRgD
import Derived.Test.YtpcpijecibiibaaGreatZRgE
import Derived.Test.YtpcpijecibiibaaGreatZRgA
section
set_option linter.unusedVariables false
set_option linter.unusedSimpArgs false
set_option maxRecDepth 100000
namespace Go.Proofs.YtpcpijecibiibaaGreat
open Go.RowKit
structure RTok (w : World) (P : Nat → Prop) (g h : Nat) (cur : List Value) (i : Nat) (t : Tok) (fv qv : Value) : Prop where
  c0 : cur[i * 4]? = some (.int .u64 (t.epoch : Int))
  c1 : cur[i * 4 + 1]? = some (.int .i64 t.holder)
  c2 : cur[i * 4 + 2]? = some fv
  c3 : cur[i * 4 + 3]? = some qv
  fs : Sl w fv (nums t.frontier)
  qs : Sl w qv (ints t.queue)
  fb : ∀ k, fv.ownBlock = some k → P k ∧ k ≠ g ∧ k ≠ h
  qb : ∀ k, qv.ownBlock = some k → P k ∧ k ≠ g ∧ k ≠ h
structure RTab (w : World) (P : Nat → Prop) (g h : Nat) (ts : List Tok) (cur : List Value) (fv qv : Nat → Value) : Prop where
  hh : CellsAt w h cur 87
  sz : ts.length * 4 ≤ cur.length
  tok : ∀ i (hi : i < ts.length), RTok w P g h cur i ts[i] (fv i) (qv i)
def RfIs (w : World) (P : Nat → Prop) (g : Nat) (r : RegD) : Prop :=
  P g ∧ (∀ k, P k → k < w.heap.size) ∧ ∃ a c, CellsAt w g [.int .i64 r.sites, .slice a r.l.length c] 85 ∧ (r.l = [] ∨ ∃ h cur fv qv, a = some ⟨h, 0, none⟩ ∧ P h ∧ h ≠ g ∧ RTab w P g h r.l cur fv qv)
section
variable {w w' : World} {P P' ρ : Nat → Prop} {g h i : Nat} {cur : List Value} {t : Tok} {ts : List Tok}
theorem RTok.keep {fv qv : Value} (x : RTok w P g h cur i t fv qv) (c : Ch ρ w w') (hn : ∀ k, P k → k ≠ g → k ≠ h → ¬ ρ k) (hP : ∀ k, P k → P' k) : RTok w' P' g h cur i t fv qv :=
  ⟨x.c0, x.c1, x.c2, x.c3, x.fs.ch c (fun k hk => by obtain ⟨h1, h2, h3⟩ := x.fb k hk; exact hn k h1 h2 h3), x.qs.ch c (fun k hk => by obtain ⟨h1, h2, h3⟩ := x.qb k hk; exact hn k h1 h2 h3), fun k hk => ⟨hP k (x.fb k hk).1, (x.fb k hk).2⟩, fun k hk => ⟨hP k (x.qb k hk).1, (x.qb k hk).2⟩⟩
theorem RTab.keep {fv qv : Nat → Value} (x : RTab w P g h ts cur fv qv) (c : Ch ρ w w') (hh : ¬ ρ h) (hn : ∀ k, P k → k ≠ g → k ≠ h → ¬ ρ k) (hP : ∀ k, P k → P' k) : RTab w' P' g h ts cur fv qv :=
  ⟨x.hh.block (c.block h x.hh.lt hh), x.sz, fun i hi => (x.tok i hi).keep c hn hP⟩
theorem RfIs.keep {r : RegD} (x : RfIs w P g r) (c : Ch ρ w w') (hn : ∀ k, P k → ¬ ρ k) : RfIs w' P g r := by
  obtain ⟨h1, h2, a, cc, h3, h4⟩ := x
  refine ⟨h1, fun k hk => Nat.lt_of_lt_of_le (h2 k hk) c.size, a, cc, h3.block (c.block g h3.lt (hn g h1)), ?_⟩
  rcases h4 with h4 | ⟨h, cur, fv, qv, e, hP, hg, ht⟩
  · exact .inl h4
  · exact .inr ⟨h, cur, fv, qv, e, hP, hg, ht.keep c (hn h hP) (fun k hk _ _ => hn k hk) (fun k hk => hk)⟩
theorem RfIs.gr {r : RegD} (x : RfIs w P g r) (c : Gr w w') : RfIs w' P g r := x.keep (Ch.of_gr (ρ := fun _ => False) c) (fun _ _ h => h)
theorem RTab.rd {fv qv : Nat → Value} (x : RTab w P g h ts cur fv qv) (i : Nat) (hi : i < ts.length) : TokRd w h (i * 4) ts[i] := by
  have o := x.tok i hi
  exact ⟨fv i, qv i, by rw [x.hh.cell]; exact o.c0, by rw [x.hh.cell]; exact o.c1, by rw [x.hh.cell]; exact o.c2, by rw [x.hh.cell]; exact o.c3, o.fs, o.qs, x.hh.lt⟩
/-- A row is another one. -/
theorem RTab.set {fv qv : Nat → Value} {cur' : List Value} (x : RTab w P g h ts cur fv qv) (c : Ch (fun k => k = h) w w') (i : Nat) (hi : i < ts.length) (hh : CellsAt w' h cur' 87) (hsz : cur'.length = cur.length) (hcur : ∀ j, j < i * 4 ∨ i * 4 + 4 ≤ j → cur'[j]? = cur[j]?) (hP : ∀ k, P k → P' k) (t' : Tok) (fv' qv' : Value) (ht : RTok w' P' g h cur' i t' fv' qv') :
    RTab w' P' g h (ts.set i t') cur' (upd fv i fv') (upd qv i qv') := by
  refine ⟨hh, by rw [List.length_set, hsz]; exact x.sz, fun j hj => ?_⟩
  rw [List.length_set] at hj
  by_cases e : j = i
  · subst e
    simp only [Go.Proofs.YtpcpijecibiibaaGreat.upd, if_true, List.getElem_set_self]
    exact ht
  · have o := (x.tok j hj).keep (P' := P') c (fun k _ _ h2 e2 => h2 e2) hP
    rw [List.getElem_set_ne (fun e2 => e e2.symm)]
    simp only [Go.Proofs.YtpcpijecibiibaaGreat.upd, if_neg e]
    exact ⟨by rw [hcur _ (by omega)]; exact o.c0, by rw [hcur _ (by omega)]; exact o.c1, by rw [hcur _ (by omega)]; exact o.c2, by rw [hcur _ (by omega)]; exact o.c3, o.fs, o.qs, o.fb, o.qb⟩
end
/-- A registry of the document's that is a call's own: made behind w. -/
def RfN (w W : World) (gv : Value) (P : Nat → Prop) (r : RegD) : Prop := ∃ g, gv = .pointer (some ⟨g, 0, none⟩) ∧ RfIs W P g r ∧ ∀ k, P k → w.heap.size ≤ k
theorem RfN.keep {ρ : Nat → Prop} {w W W' : World} {gv : Value} {P : Nat → Prop} {r : RegD} (h : RfN w W gv P r) (c : Ch ρ W W') (hn : ∀ k, P k → ¬ ρ k) : RfN w W' gv P r := by
  obtain ⟨g, e, h1, h2⟩ := h
  exact ⟨g, e, h1.keep c hn, h2⟩
theorem RfN.gr {w W W' : World} {gv : Value} {P : Nat → Prop} {r : RegD} (h : RfN w W gv P r) (c : Gr W W') : RfN w W' gv P r := h.keep (Ch.of_gr (ρ := fun _ => False) c) (fun _ _ h => h)
theorem RfN.lt {w W : World} {gv : Value} {P : Nat → Prop} {r : RegD} (h : RfN w W gv P r) : ∀ k, P k → k < W.heap.size := by
  obtain ⟨g, _, h1, _⟩ := h
  exact h1.2.1
end Go.Proofs.YtpcpijecibiibaaGreat
end
section
set_option linter.unusedVariables false
set_option linter.unusedSimpArgs false
set_option maxRecDepth 100000
namespace Go.Proofs.YtpcpijecibiibaaGreat
open Go.RowKit
def tokRowF (fv : Value) : List Value := [.int .u64 0, .int .i64 (Int.negSucc 0), fv, .slice none 0 0]
def FvOkF (w : World) (B g : Nat) (v : Value) (s : Nat) (fv : Value) : Prop := Sl w fv (nums (List.replicate s 0)) ∧ fv.oneCell' = true ∧ ∀ j, fv.ownBlock = some j → B ≤ j ∧ j < w.heap.size ∧ j ≠ g ∧ v.ownBlock ≠ some j
/-- A table under way: k tokens as they are at the start. -/
def TabNF (w : World) (B g : Nat) (v : Value) (s k : Nat) : Prop := ∃ rs, OwnR w B 87 4 v rs ∧ rs.length = k ∧ (∀ j, v.ownBlock = some j → j ≠ g) ∧ ∀ i (h : i < k), ∃ fv, rs[i]? = some (tokRowF fv) ∧ FvOkF w B g v s fv
theorem FvOkF.ch {ρ : Nat → Prop} {w w' : World} {B g s : Nat} {v fv : Value} (h : FvOkF w B g v s fv) (c : Ch ρ w w') (hn : ∀ j, fv.ownBlock = some j → ¬ ρ j) : FvOkF w' B g v s fv :=
  ⟨h.1.ch c hn, h.2.1, fun j hj => by obtain ⟨h1, h2, h3⟩ := h.2.2 j hj; exact ⟨h1, Nat.lt_of_lt_of_le h2 c.size, h3⟩⟩
theorem TabNF.nil (w : World) (B g s : Nat) : TabNF w B g (.slice none 0 0) s 0 := ⟨[], OwnR.nil _ _ _ _, rfl, fun j hj => (by cases hj), fun i hi => absurd hi (Nat.not_lt_zero _)⟩
theorem TabNF.shape {w : World} {B g s k : Nat} {v : Value} (h : TabNF w B g v s k) : ∃ a cap, v = .slice a k cap := by
  obtain ⟨rs, h1, h2, _⟩ := h; rw [← h2]; exact h1.shape
theorem TabNF.lt {w : World} {B g s k : Nat} {v : Value} (h : TabNF w B g v s k) : ∀ j, v.ownBlock = some j → B ≤ j ∧ j < w.heap.size := by
  obtain ⟨rs, h1, _⟩ := h; exact h1.lt
theorem TabNF.gr {w w' : World} {B g s k : Nat} {v : Value} (h : TabNF w B g v s k) (c : Gr w w') : TabNF w' B g v s k := by
  obtain ⟨rs, h1, h2, h3, h4⟩ := h
  refine ⟨rs, h1.block fun j hj => c.block j (h1.lt j hj).2, h2, h3, fun i hi => ?_⟩
  obtain ⟨fv, q1, q2⟩ := h4 i hi
  exact ⟨fv, q1, q2.ch (Ch.of_gr (ρ := fun _ => False) c) (fun _ _ h => h)⟩
theorem TabNF.chg {w w' : World} {B g s k : Nat} {v : Value} (h : TabNF w B g v s k) (c : Ch (fun j => j = g) w w') : TabNF w' B g v s k := by
  obtain ⟨rs, h1, h2, h3, h4⟩ := h
  refine ⟨rs, h1.block fun j hj => c.block j (h1.lt j hj).2 (h3 j hj), h2, h3, fun i hi => ?_⟩
  obtain ⟨fv, q1, q2⟩ := h4 i hi
  exact ⟨fv, q1, q2.ch c (fun j hj => (q2.2.2 j hj).2.2.1)⟩
theorem info_tokF : (Tryz.prog.info? 87).map (fun i => (i.zero, i.size, i.bytes)) = some (some (.agg #[.int .u64 0, .int .i64 0, .slice none 0 0, .slice none 0 0]), 4, 64) := by kernel_rfl
theorem run_append_tokF (w : World) (B g : Nat) (v : Value) (s k b : Nat) (fv : Value) (h : TabNF w B g v s k) (hx : FvOkF w B g v s fv) (hb : CellsAt w b (tokRowF fv) 87) (hl : k ≤ 1000) (hB : B ≤ w.heap.size) (hg : g < w.heap.size) :
    ∃ v' w', (Builtin.append_ #[83, 83] 83 #[v, .slice (some ⟨b, 0, none⟩) 1 1]).run Tryz.prog w = .ok v' w' ∧ TabNF w' B g v' s (k + 1) ∧ w.grownBy w' v.ownBlock := by
  obtain ⟨i0, hi0, hz0, hz1, hz2⟩ := info_parts info_tokF
  obtain ⟨rs, h1, h2, h3, h4⟩ := h
  obtain ⟨v', w', hr, p1, p2, p3, _⟩ := run_append_rows (P := Tryz.prog) w B 83 83 87 i0 _ 4 64 Tryz.underlying83 hi0 hz0 hz1 hz2 (by rfl) v (.slice (some ⟨b, 0, none⟩) 1 1) rs [tokRowF fv] h1 _
    (row_one w b _ _ hb 4 rfl)
    (by
      intro i hi
      obtain rfl : i = 0 := by simp at hi; omega
      refine ⟨rfl, fun j hj => ?_⟩
      simp only [List.getElem_cons_zero, List.getD_eq_getElem?_getD]
      rw [List.getElem?_eq_getElem (by simpa using hj)]; rfl)
    (by
      intro r hr u hu
      obtain rfl : r = tokRowF fv := by simpa using hr
      have hone := hx.2.1
      simp only [tokRowF, List.mem_cons, List.not_mem_nil, or_false] at hu
      rcases hu with rfl | rfl | rfl | rfl <;> first | rfl | exact hone)
    (by unfold maxLen; simp; omega) (by simp; omega) hB
  have up : ∀ fv, FvOkF w B g v s fv → FvOkF w' B g v' s fv := fun fv h => by
    have c : Ch (fun j => v.ownBlock = some j) w w' := Ch.of_grownBy p2 (fun k hk => hk)
    have h5 := h.ch c (fun j hj => (h.2.2 j hj).2.2.2)
    refine ⟨h5.1, h5.2.1, fun j hj => ⟨(h5.2.2 j hj).1, (h5.2.2 j hj).2.1, (h5.2.2 j hj).2.2.1, fun e => ?_⟩⟩
    rcases p3 with e2 | ⟨i, e2, hi⟩
    · exact (h.2.2 j hj).2.2.2 (e2 ▸ e)
    · have h6 := (h.2.2 j hj).2.1
      rw [e2] at e
      injection e with e
      omega
  refine ⟨v', w', hr, ⟨_, p1, by simp [h2], fun j hj => ?_, fun i hi => ?_⟩, p2⟩
  · rcases p3 with e2 | ⟨i, e2, hi⟩
    · exact h3 j (e2 ▸ hj)
    · rw [e2] at hj
      injection hj with hj
      omega
  · by_cases hlt : i < k
    · obtain ⟨fv, q1, q2⟩ := h4 i hlt
      exact ⟨fv, by rw [List.getElem?_append_left (by omega), q1], up _ q2⟩
    · obtain rfl : i = k := by omega
      exact ⟨fv, by rw [List.getElem?_append_right (by omega), h2]; simp, up _ hx⟩
def rhoNF (g : Nat) (v : Value) : Nat → Prop := fun k => k = g ∨ v.ownBlock = some k
def stNewF (B g : Nat) (s k : Nat) (tv : Value) : List Value → (Nat → Prop) → World → Prop
  | [], _, W => TabNF W B g tv s k ∧ CellsAt W g [.int .i64 (s : Int), tv] 85
  | [v], _, W => v = tv ∧ TabNF W B g tv s k ∧ CellsAt W g [.int .i64 (s : Int), tv] 85
  | [_, v'], _, W => TabNF W B g v' s (k + 1) ∧ CellsAt W g [.int .i64 (s : Int), tv] 85
  | _, _, W => ∃ v', TabNF W B g v' s (k + 1) ∧ CellsAt W g [.int .i64 (s : Int), v'] 85
theorem stNewF_gr (B g : Nat) (s k : Nat) (tv : Value) : ∀ us U W W', Gr W W' → stNewF B g s k tv us U W → stNewF B g s k tv us U W'
  | [], _, _, _, c, hh => ⟨hh.1.gr c, hh.2.gr c⟩
  | [_], _, _, _, c, hh => ⟨hh.1, hh.2.1.gr c, hh.2.2.gr c⟩
  | [_, _], _, _, _, c, hh => ⟨hh.1.gr c, hh.2.gr c⟩
  | _ :: _ :: _ :: _, _, _, _, c, ⟨v, h1, h2⟩ => ⟨v, h1.gr c, h2.gr c⟩
def AgUF (ρ : Nat → Prop) (B s : Nat) : Su := fun v U W => ∃ fv, v = .agg (tokRowF fv).toArray ∧ SlN ρ B (List.replicate s 0) fv U W
theorem AgUF.mono (ρ : Nat → Prop) (B s : Nat) : MonoU ρ (AgUF ρ B s) :=
  ⟨fun v U W W' g ⟨fv, e, h⟩ => ⟨fv, e, (SlN.mono ρ B _).1 _ _ _ _ g h⟩, fun v U W W' hU g ⟨fv, e, h⟩ => ⟨fv, e, (SlN.mono ρ B _).2 _ _ _ _ hU g h⟩⟩
def RowUF (ρ : Nat → Prop) (B s : Nat) : Su := fun v U W => ∃ b fv, v = .slice (some ⟨b, 0, none⟩) 1 1 ∧ CellsAt W b (tokRowF fv) 87 ∧ ¬ ρ b ∧ ¬ U b ∧ SlN ρ B (List.replicate s 0) fv U W
theorem RowUF.mono (ρ : Nat → Prop) (B s : Nat) : MonoU ρ (RowUF ρ B s) :=
  ⟨fun v U W W' g ⟨b, fv, e, k, h1, h2, h⟩ => ⟨b, fv, e, k.gr g, h1, h2, (SlN.mono ρ B _).1 _ _ _ _ g h⟩, fun v U W W' hU g ⟨b, fv, e, k, h1, h2, h⟩ => ⟨b, fv, e, k.block (g.block b k.lt (fun e => e.elim h1 h2)), h1, fun e => e.elim h2 (fun e => by have := k.lt; omega), (SlN.mono ρ B _).2 _ _ _ _ hU g h⟩⟩
theorem TabNF.reg {w : World} {B g s k : Nat} {v : Value} (T : TabNF w B g v s k) (K : CellsAt w g [.int .i64 (s : Int), v] 85) (hB : B ≤ g) : RfIs w (fun j => B ≤ j ∧ j < w.heap.size) g ⟨(s : Int), List.replicate k (tok0 s)⟩ := by
  obtain ⟨rs, h1, h2, h3, h4⟩ := T
  obtain ⟨a, c, hv⟩ := h1.shape
  refine ⟨⟨hB, K.lt⟩, fun j hj => hj.2, a, c, by rw [hv, h2] at K; simpa using K, ?_⟩
  by_cases hk : k = 0
  · left; rw [hk]; rfl
  right
  rcases h1.2 with ⟨_, e⟩ | ⟨h, cap, cur, e, hb, hh, _, _, hsz, htk⟩
  · rw [e] at h2; exact absurd h2.symm hk
  rw [e] at hv
  injection hv with e1 e2 e3
  have KH : CellsAt w h cur.toList 87 := hh
  have hlt := KH.lt
  have hhg : h ≠ g := h3 h (by rw [e]; rfl)
  refine ⟨h, cur.toList, fun i => ((rs.getD i []).getD 2 (.slice none 0 0)), fun _ => .slice none 0 0, e1.symm, ⟨hb, hlt⟩, hhg, KH, by simp [← h2]; omega, fun i hi => ?_⟩
  simp only [List.length_replicate] at hi
  obtain ⟨fv, q1, q2⟩ := h4 i hi
  have hri : i < rs.length := by omega
  have q3 : rs[i] = tokRowF fv := by rw [List.getElem?_eq_getElem hri] at q1; exact Option.some.inj q1
  have cell : ∀ m (hm : m < 4), cur.toList[i * 4 + m]? = (tokRowF fv)[m]? := fun m hm => by
    have hml : m < rs[i].length := by rw [q3]; exact hm
    have h5 := flatten_get h1.1 i hri m hml
    rw [← htk, List.getElem?_take, if_pos (by omega)] at h5
    rw [h5, ← List.getElem?_eq_getElem hml, q3]
  have hgd : rs.getD i [] = tokRowF fv := by rw [List.getD_eq_getElem?_getD, q1]; rfl
  have hfv : (rs.getD i []).getD 2 (.slice none 0 0) = fv := by rw [hgd]; rfl
  simp only [List.getElem_replicate, hfv]
  exact ⟨cell 0 (by decide), cell 1 (by decide), cell 2 (by decide), cell 3 (by decide), q2.1, Sl.nil _ _ _, fun j hj => ⟨⟨(q2.2.2 j hj).1, (q2.2.2 j hj).2.1⟩, (q2.2.2 j hj).2.2.1, fun e2 => (q2.2.2 j hj).2.2.2 (by rw [e, e2]; rfl)⟩, fun j hj => (by cases hj)⟩
theorem rnew_outF (w : World) (s r : Int) (h : s < 0 ∨ 3 < s ∨ r < 0 ∨ 4 < r) : Calls Tryz.prog 19 #[.int .i64 s, .int .i64 r] w fun e w' => ∃ g P, e = .returned (.pointer (some ⟨g, 0, none⟩)) ∧ RfIs w' P g ⟨0, []⟩ ∧ (∀ k, P k → w.heap.size ≤ k) ∧ Gr w w' := by
  have FIN : Hid (∃ g P, Ending.returned (.pointer (some ⟨w.heap.size, 0, none⟩)) = .returned (.pointer (some ⟨g, 0, none⟩)) ∧ RfIs (w.alloc (.cells #[.int .i64 0, .slice none 0 0] 85)) P g ⟨0, []⟩ ∧ (∀ k, P k → w.heap.size ≤ k) ∧ Gr w (w.alloc (.cells #[.int .i64 0, .slice none 0 0] 85))) := Lib.hid (by
    have k := CellsAt.new w [.int .i64 0, .slice none 0 0] 85
    exact ⟨_, _, rfl, TabNF.reg (s := 0) (k := 0) (TabNF.nil _ w.heap.size _ 0) k (Nat.le_refl _), fun k hk => hk.1, (Gr.refl w).alloc _⟩)
  by_cases h1 : s < 0
  · have e1 : (s < 0) = True := by simp <;> omega
    clear h h1
    go_enter Tryz.func19, Tryz.ntmps19
    go_wp2
    go_ret
    simpa using FIN.out
  by_cases h2 : 3 < s
  · have e1 : (s < 0) = False := by simp <;> omega
    have e2 : (3 < s) = True := by simp <;> omega
    clear h h1 h2
    go_enter Tryz.func19, Tryz.ntmps19
    go_wp2
    go_ret
    simpa using FIN.out
  by_cases h3 : r < 0
  · have e1 : (s < 0) = False := by simp <;> omega
    have e2 : (3 < s) = False := by simp <;> omega
    have e3 : (r < 0) = True := by simp <;> omega
    clear h h1 h2 h3
    go_enter Tryz.func19, Tryz.ntmps19
    go_wp2
    go_ret
    simpa using FIN.out
  · have e1 : (s < 0) = False := by simp <;> omega
    have e2 : (3 < s) = False := by simp <;> omega
    have e3 : (r < 0) = False := by simp <;> omega
    have e4 : (4 < r) = True := by simp <;> omega
    clear h h1 h2 h3
    go_enter Tryz.func19, Tryz.ntmps19
    go_wp2
    go_ret
    simpa using FIN.out
set_option maxHeartbeats 4000000 in
theorem rnew_inF (w : World) (s r : Nat) (hs : s ≤ 3) (hr : r ≤ 4) : Calls Tryz.prog 19 #[.int .i64 (s : Int), .int .i64 (r : Int)] w fun e w' => ∃ g P, e = .returned (.pointer (some ⟨g, 0, none⟩)) ∧ RfIs w' P g ⟨(s : Int), List.replicate r (tok0 s)⟩ ∧ (∀ k, P k → w.heap.size ≤ k) ∧ Gr w w' := by
  have e1 : ((s : Int) < 0) = False := by simp <;> omega
  have e2 : (3 < (s : Int)) = False := by simp <;> omega
  have e3 : ((r : Int) < 0) = False := by simp <;> omega
  have e4 : (4 < (r : Int)) = False := by simp <;> omega
  have HSR := Lib.hid (And.intro hs hr)
  have k0 := CellsAt.new w [.int .i64 (s : Int), .slice none 0 0] 85
  have G0 := Lib.hid ((Gr.refl w).alloc (.cells #[.int .i64 (s : Int), .slice none 0 0] 85))
  obtain ⟨w0, hw0⟩ : ∃ w0, w0 = w.alloc (.cells #[.int .i64 (s : Int), .slice none 0 0] 85) := ⟨_, rfl⟩
  have K0 : Hid (CellsAt w0 w.heap.size [.int .i64 (s : Int), .slice none 0 0] 85) := Lib.hid (by rw [hw0]; exact k0)
  rw [← hw0] at G0
  clear k0
  go_enter Tryz.func19, Tryz.ntmps19
  go_wp2_with fail
  rw [← hw0]
  clear hw0 e1 e2 e3 e4 hs hr
  go_loopw [6] (fun i wr => ∃ (k : Nat) (ta : Option Addr) (tc : Nat), k ≤ r ∧ i = .int .i64 k ∧ TabNF wr w.heap.size w.heap.size (.slice ta k tc) s k ∧ CellsAt wr w.heap.size [.int .i64 (s : Int), .slice ta k tc] 85 ∧ Gr w wr) (fun i _ => r - (intOf i).toNat)
  case atStart => exact ⟨0, none, 0, Nat.zero_le _, rfl, TabNF.nil _ _ _ _, K0.out, G0.out⟩
  case round =>
    clear K0 G0
    obtain ⟨k, ta, tc, hk, rfl, T, K, G⟩ := hrel
    obtain ⟨wo, rfl⟩ : ∃ wo : World, wo = wr := ⟨_, rfl⟩
    have HT := Lib.hid T
    have HK := Lib.hid K
    have HG := Lib.hid G
    clear T K G
    by_cases hlt : k < r
    · have HLT := Lib.hid hlt
      have i2 : ((k : Int) < (r : Int)) = True := by simp <;> omega
      have HGL : Hid (w.heap.size < wo.heap.size) := Lib.hid HK.out.lt
      have LT : Hid (∀ j, (rhoNF w.heap.size (.slice ta k tc)) j → j < wo.heap.size) := Lib.hid fun j hj => by
        rcases hj with rfl | hj
        · exact HK.out.lt
        · exact (HT.out.lt j hj).2
      have NE : Hid (∀ j, (Value.slice ta k tc).ownBlock = some j → j ≠ w.heap.size) := Lib.hid (by obtain ⟨_, _, _, h3, _⟩ := HT.out; exact h3)
      clear hk hlt
      go_wp2_with fail
      apply wp_region_draw_turnU (rhoNF w.heap.size (.slice ta k tc)) (stNewF w.heap.size w.heap.size s k (.slice ta k tc)) (.eq _ :: .eq _ :: .eq _ :: .eq _ :: .use TU :: .eq _ :: .ok (SlN (rhoNF w.heap.size (.slice ta k tc)) w.heap.size (List.replicate s 0)) :: .ok (AgUF (rhoNF w.heap.size (.slice ta k tc)) w.heap.size s) :: .ok (RowUF (rhoNF w.heap.size (.slice ta k tc)) w.heap.size s) :: .use TU :: .eq _ :: .eq _ :: .use TU :: []) (by kernel_rfl) (by kernel_rfl) (by kernel_rfl) ⟨TU.mono _, SlN.mono _ _ _, AgUF.mono _ _ _, RowUF.mono _ _ _, TU.mono _, TU.mono _, trivial⟩ (stNewF_gr w.heap.size w.heap.size s k (.slice ta k tc)) ⟨HT.out.gr (Gr.refl _).drew, HK.out.gr (Gr.refl _).drew⟩
      iterate 4
       apply wpU_eq
       · intro U W hW hU hs
         unfold opT
         go_simp
         first | exact resT_eq_mk _ _ _ | exact ⟨Gr.refl _, rfl⟩
       simp only [Act.put, pt1, pt2, pt3]
      apply wpU_use
      · intro U W hW hU hS hs
        obtain ⟨h1, h2⟩ : TabNF W w.heap.size w.heap.size (.slice ta k tc) s k ∧ CellsAt W w.heap.size [.int .i64 (s : Int), .slice ta k tc] 85 := hS
        have y1 := h2.cell 1
        have S1 : Hid (stNewF w.heap.size w.heap.size s k (.slice ta k tc) [.slice ta k tc] (newU U W W) W) := Lib.hid ⟨rfl, h1, h2⟩
        refine opT_hide fun VV hVV => ?_
        have HV := Lib.hid (hVV (.slice ta k tc) W ⟨S1.out, trivial⟩)
        clear hVV h1 h2 S1
        unfold opT
        go_simp
        exact ⟨Ch.of_gr (Gr.refl W), HV.out⟩
      intro v4
      simp only [Act.put, pt1, pt2, pt3]
      apply wpU_eq
      · intro U W hW hU hs
        unfold opT
        go_simp
        first | exact resT_eq_mk _ _ _ | exact ⟨Gr.refl _, rfl⟩
      simp only [Act.put, pt1, pt2, pt3]
      apply wpU_ok
      · intro U W hW hU hs
        have hz : wo.heap.size ≤ W.heap.size := hW.size
        obtain ⟨wm, hrm, om, gm⟩ := run_make_n W s (by have := HSR.out.1; omega)
        have OM := Lib.hid om
        have GM := Lib.hid gm
        clear om gm
        unfold opT
        go_simp
        exact resT_mk GM.out ⟨OM.out.sl, rfl, fun j hj => ⟨by have := (OM.out.lt j hj).1; have := HGL.out; omega, (OM.out.lt j hj).2, fun e => by have := LT.out j e; have := (OM.out.lt j hj).1; omega, fun e => by have := (hU j e).2; have := (OM.out.lt j hj).1; omega⟩⟩
      intro v6
      simp only [Act.put, pt1, pt2, pt3]
      apply wpU_ok
      · intro U W hW hU hs
        have ho := hs _ (.head _) (by rfl)
        have HO := Lib.hid ho
        obtain ⟨a6, n6, c6, rfl⟩ : ∃ a n c, v6 = .slice a n c := by obtain ⟨⟨a, c, e, _⟩, _⟩ := ho; exact ⟨a, _, c, e⟩
        clear ho hs
        unfold opT
        go_simp
        exact resT_mk (Gr.refl _) ⟨_, rfl, HO.out⟩
      intro v7
      simp only [Act.put, pt1, pt2, pt3]
      apply wpU_ok
      · intro U W hW hU hs
        obtain ⟨fv, rfl, ho⟩ := hs _ (.head _) (by rfl)
        have BX : Hid (RowUF (rhoNF w.heap.size (.slice ta k tc)) w.heap.size s (.slice (some ⟨W.heap.size, 0, none⟩) 1 1) U (W.alloc (.cells (tokRowF fv).toArray 87))) := Lib.hid ⟨W.heap.size, fv, rfl, CellsAt.new _ _ _, fun e => by have h1 := LT.out _ e; have h2 := hW.size; have h3 : wo.heap.size ≤ W.heap.size := h2; omega, fun e => by have h1 := (hU _ e).2; omega, (SlN.mono _ _ _).1 _ _ _ _ ((Gr.refl W).alloc _) ho⟩
        obtain ⟨a6, n6, c6, rfl⟩ : ∃ a n c, fv = .slice a n c := by obtain ⟨⟨a, c, e, _⟩, _⟩ := ho; exact ⟨a, _, c, e⟩
        clear ho hs
        unfold tokRowF at *
        unfold opT
        go_simp
        exact resT_mk ((Gr.refl W).alloc _) BX.out
      intro v8
      simp only [Act.put, pt1, pt2, pt3]
      apply wpU_use
      · intro U W hW hU hS hs
        obtain ⟨b, fv, rfl, kb, nb1, nb2, sl, one, bl⟩ := hs _ (.head _) (by rfl)
        obtain ⟨rfl, h1, h2⟩ : v4 = .slice ta k tc ∧ TabNF W w.heap.size w.heap.size (.slice ta k tc) s k ∧ CellsAt W w.heap.size [.int .i64 (s : Int), .slice ta k tc] 85 := hS
        have hz : wo.heap.size ≤ W.heap.size := hW.size
        obtain ⟨v', W10, hrun, ho, hg10⟩ := run_append_tokF W w.heap.size w.heap.size (.slice ta k tc) s k b fv h1 ⟨sl, one, fun j hj => ⟨(bl j hj).1, (bl j hj).2.1, fun e => (bl j hj).2.2.1 (.inl e), fun e => (bl j hj).2.2.1 (.inr e)⟩⟩ kb (by have := HLT.out; have := HSR.out.2; omega) (by have := HGL.out; omega) (by have := HGL.out; omega)
        have K10 : CellsAt W10 w.heap.size [.int .i64 (s : Int), .slice ta k tc] 85 := h2.block ((TokP.grown hg10).block w.heap.size h2.lt (fun e => NE.out w.heap.size e rfl))
        exact opT_append hrun rfl _ _ rfl rfl rfl ⟨ch_mono (TokP.grown hg10) (fun k hk => .inl (.inr hk)), ⟨⟨ho, K10⟩, trivial⟩⟩
      intro v9
      simp only [Act.put, pt1, pt2, pt3]
      iterate 2
       apply wpU_eq
       · intro U W hW hU hs
         unfold opT
         go_simp
         first | exact resT_eq_mk _ _ _ | exact ⟨Gr.refl _, rfl⟩
       simp only [Act.put, pt1, pt2, pt3]
      apply wpU_use
      · intro U W hW hU hS hs
        obtain ⟨ho, h2⟩ : TabNF W w.heap.size w.heap.size v9 s (k + 1) ∧ CellsAt W w.heap.size [.int .i64 (s : Int), .slice ta k tc] 85 := hS
        obtain ⟨av, cv, rfl⟩ := ho.shape
        have y1 := h2.cell 1
        have f1 := h2.frozen 1
        have KS : CellsAt (W.setCell ⟨w.heap.size, 1, none⟩ (.slice av (k + 1) cv)) w.heap.size [.int .i64 (s : Int), .slice av (k + 1) cv] 85 := h2.set 1 (.slice av (k + 1) cv)
        have c3 := ch_setCell' W w.heap.size 1 (.slice av (k + 1) cv)
        have CH := Lib.hid (ch_mono (σ := fun k2 => (rhoNF w.heap.size (.slice ta k tc)) k2 ∨ U k2) c3 (fun k hk => .inl (.inl hk)))
        have SS : Hid (stNewF w.heap.size w.heap.size s k (.slice ta k tc) [v4, .slice av (k + 1) cv, undef] (newU U W (W.setCell ⟨w.heap.size, 1, none⟩ (.slice av (k + 1) cv))) (W.setCell ⟨w.heap.size, 1, none⟩ (.slice av (k + 1) cv))) := Lib.hid ⟨_, ho.chg c3, KS⟩
        refine opT_hide fun VV hVV => ?_
        have HV := Lib.hid (hVV undef _ ⟨SS.out, trivial⟩)
        clear hVV ho h2 SS KS c3
        unfold opT
        go_simp
        exact ⟨CH.out, HV.out⟩
      intro v12
      simp only [Act.put, pt1, pt2, pt3]
      apply wpU_nil
      intro U W8 hW8 hU8 hS8 hs8
      obtain ⟨v', T8, K8⟩ : ∃ v', TabNF W8 w.heap.size w.heap.size v' s (k + 1) ∧ CellsAt W8 w.heap.size [.int .i64 (s : Int), v'] 85 := hS8
      obtain ⟨av, cv, rfl⟩ := T8.shape
      have g8 : Gr w W8 := Below.trans HG.out ((Ch.drewL hW8).below HG.out.size (fun j hj => by
        rcases hj with rfl | hj
        · exact Nat.le_refl _
        · exact (HT.out.lt j hj).1))
      have HT8 := Lib.hid T8
      have HK8 := Lib.hid K8
      have HG8 := Lib.hid g8
      clear hW8 hU8 hs8 T8 K8 g8 HT HK HG i2 HGL LT NE
      have kb1 : (k : Int) + 1 ≤ 9223372036854775807 := by have := HLT.out; have := HSR.out.2; omega
      have kw : wrap64 ((k : Int) + 1) = (k : Int) + 1 := by unfold wrap64; omega
      go_wp2
      go_roundw
      case rel => exact ⟨k + 1, av, cv, by have := HLT.out; omega, by go_num, HT8.out, HK8.out, HG8.out⟩
      case measure => have := HLT.out; simp [intOf]; omega
    · obtain rfl : k = r := by omega
      go_wp2
      go_ret
      exact ⟨_, _, rfl, HT.out.reg HK.out (Nat.le_refl _), fun j hj => hj.1, HG.out⟩
theorem rnew_anyF (w : World) (s r : Int) : Calls Tryz.prog 19 #[.int .i64 s, .int .i64 r] w fun e w' => ∃ g P, e = .returned (.pointer (some ⟨g, 0, none⟩)) ∧ RfIs w' P g (newG s r) ∧ (∀ k, P k → w.heap.size ≤ k) ∧ Gr w w' := by
  by_cases h : 0 ≤ s ∧ s ≤ 3 ∧ 0 ≤ r ∧ r ≤ 4
  · obtain ⟨a, rfl⟩ := Int.eq_ofNat_of_zero_le h.1
    obtain ⟨b, rfl⟩ := Int.eq_ofNat_of_zero_le h.2.2.1
    have e : newG (a : Int) (b : Int) = ⟨(a : Int), List.replicate b (tok0 a)⟩ := by unfold newG; rw [if_pos h]; rfl
    rw [e]
    exact rnew_inF w a b (by omega) (by omega)
  · have e : newG s r = ⟨0, []⟩ := by unfold newG; rw [if_neg h]
    rw [e]
    exact rnew_outF w s r (by omega)
end Go.Proofs.YtpcpijecibiibaaGreat
end
section
set_option linter.unusedVariables false
set_option linter.unusedSimpArgs false
set_option maxRecDepth 100000
namespace Go.Proofs.YtpcpijecibiibaaGreat
open Go.RowKit
set_option maxHeartbeats 1000000 in
theorem refmax_any (w : World) (va vb : Value) (xs ys : List Nat) (ha : Sl w va (nums xs)) (hb : Sl w vb (nums ys)) (hx : xs.length ≤ 1000000) (hy : ys.length ≤ 1000000) :
    Calls Tryz.prog 39 #[va, vb] w (RetNums w (maxV xs ys)) := by
  obtain ⟨a, ca, rfl, _, na⟩ := ha.nums
  obtain ⟨b, cb, rfl, _, nb⟩ := hb.nums
  by_cases hlen : xs.length = ys.length
  · have hv : maxV xs ys = upto (maxAt xs ys) xs.length := by unfold maxV; rw [if_pos hlen]
    rw [hv]
    obtain ⟨m, hm1, hm2⟩ : ∃ m, xs.length = m ∧ ys.length = m := ⟨ys.length, hlen, rfl⟩
    obtain ⟨_, _, e1, na⟩ := na
    obtain ⟨_, _, e2, nb⟩ := nb
    injection e1 with e11 _ e13
    injection e2 with e21 _ e23
    subst e11 e13 e21 e23
    have NA : ∀ k, k < m → ∃ b1 o1 b2 o2, a = some ⟨b1, o1, none⟩ ∧ b = some ⟨b2, o2, none⟩ ∧ b1 < w.heap.size ∧ b2 < w.heap.size ∧ w.cell? ⟨b1, o1 + k, none⟩ = some (.int .u64 ((pairAt xs ys k).1 : Int)) ∧ w.cell? ⟨b2, o2 + k, none⟩ = some (.int .u64 ((pairAt xs ys k).2 : Int)) := by
      intro k hk
      obtain ⟨b1, o1, h1, h2, h3⟩ := na.resolve_left (by intro h; rw [h] at hm1; simp at hm1; omega)
      obtain ⟨b2, o2, h4, h5, h6⟩ := nb.resolve_left (by intro h; rw [h] at hm2; simp at hm2; omega)
      exact ⟨b1, o1, b2, o2, h1, h4, h2, h5, h3 k (by omega), h6 k (by omega)⟩
    have hmm : m ≤ 1000000 := by omega
    rw [hm1, hm2]
    clear na nb ha hb hlen hx hy hm1 hm2 hv
    go_enter Tryz.func39, Tryz.ntmps39
    go_wp2
    go_loopw [5, 6] (fun u i wr => ∃ k : Nat, k ≤ m ∧ i = .int .i64 k ∧ Own wr w.heap.size 39 u (nums (upto (maxAt xs ys) k)) ∧ Below w.heap.size w wr) (fun _ i _ => m - (intOf i).toNat)
    case atStart => exact ⟨0, Nat.zero_le _, rfl, Own.nil0 _ _ _, Below.refl _ _⟩
    case round =>
      obtain ⟨k, hk, rfl, ho, br⟩ := hrel
      by_cases hlt : k < m
      · obtain ⟨b1, o1, b2, o2, rfl, rfl, hb1, hb2, c1, c2⟩ := NA k hlt
        obtain ⟨px, py, hp⟩ : ∃ px py, pairAt xs ys k = (px, py) := ⟨_, _, rfl⟩
        rw [hp] at c1 c2
        have HM : Hid (maxAt xs ys k = max px py) := Lib.hid (by unfold maxAt; rw [hp])
        have hsz := br.size
        have d1 := ((br.trans (below_drewN (Below.refl _ wr) 1)).cell (p := ⟨b1, o1 + k, none⟩) hb1).trans c1
        have d2 := ((br.trans (below_drewN (Below.refl _ wr) 1)).cell (p := ⟨b2, o2 + k, none⟩) hb2).trans c2
        have hb1' : b1 < wr.drew.heap.size := Nat.lt_of_lt_of_le hb1 br.size
        have hb2' : b2 < wr.drew.heap.size := Nat.lt_of_lt_of_le hb2 br.size
        have HO := Lib.hid ho
        clear ho hp
        go_wp2
        apply wp_region_draw_grow (.eq _ :: .eq _ :: .eq _ :: .eq _ :: .eq _ :: .eq _ :: .eq _ :: .eq _ :: .eq _ :: []) (by kernel_rfl) (by kernel_rfl) trivial
        iterate 2
         apply wpG_eq
         · intro W hW hs
           unfold opG
           go_simp
           first | exact resG_eq_mk _ _ _ | rfl
         simp only [Act.put, pt1, pt2, pt3]
        apply wpG_eq
        · intro W hW hs
          have h1 : (0 : Int) ≤ (k : Int) := by omega
          have h2 : (k : Int) < (m : Int) := by omega
          unfold opG
          go_simp
          first | exact resG_eq_mk _ _ _ | rfl
        simp only [Act.put, pt1, pt2, pt3]
        apply wpG_eq
        · intro W hW hs
          have h1 := (hW.cell (p := ⟨b1, o1 + k, none⟩) hb1').trans d1
          unfold opG
          go_simp
          first | exact resG_eq_mk _ _ _ | rfl
        simp only [Act.put, pt1, pt2, pt3]
        iterate 2
         apply wpG_eq
         · intro W hW hs
           unfold opG
           go_simp
           first | exact resG_eq_mk _ _ _ | rfl
         simp only [Act.put, pt1, pt2, pt3]
        apply wpG_eq
        · intro W hW hs
          have h1 : (0 : Int) ≤ (k : Int) := by omega
          have h2 : (k : Int) < (m : Int) := by omega
          unfold opG
          go_simp
          first | exact resG_eq_mk _ _ _ | rfl
        simp only [Act.put, pt1, pt2, pt3]
        apply wpG_eq
        · intro W hW hs
          have h1 := (hW.cell (p := ⟨b2, o2 + k, none⟩) hb2').trans d2
          unfold opG
          go_simp
          first | exact resG_eq_mk _ _ _ | rfl
        simp only [Act.put, pt1, pt2, pt3]
        apply wpG_eq
        · intro W hW hs
          unfold opG
          go_simp
          first | exact resG_eq_mk _ _ _ | rfl
        simp only [Act.put, pt1, pt2, pt3]
        apply wpG_nil
        intro W9 hW9 hsAll
        have bg : Below wr.heap.size wr W9 := (below_drewN (Below.refl _ wr) 1).trans hW9
        have o9 : Own W9 w.heap.size 39 u5 (nums (upto (maxAt xs ys) k)) := World.ownsRow.kept HO.out (below_grownBy bg none) (by cases h : u5.ownBlock <;> simp)
        have b9 := br.trans (bg.mono br.size)
        have e1 := (b9.cell (p := ⟨b1, o1 + k, none⟩) hb1).trans c1
        have e2 := (b9.cell (p := ⟨b2, o2 + k, none⟩) hb2).trans c2
        have hul : (upto (maxAt xs ys) k).length = k := upto_length _ _
        by_cases hpq : py < px
        · obtain ⟨v2, w2, hr, hown2, hg2⟩ := run_append_n (W9.alloc (.cells #[.int .u64 (px : Int)] 39)) w.heap.size u5 (.slice (some ⟨W9.heap.size, 0, none⟩) 1 1) (upto (maxAt xs ys) k) [px] (World.ownsRow.alloc o9 _) (Sl.new W9 [.int .u64 (px : Int)] _ _ _ _ rfl (by decide)) (by rw [hul]; simp; omega) (Nat.le_trans b9.size (by simp))
          have b10 : Below w.heap.size w w2 := (b9.alloc b9.size _).grown hg2 (Nat.le_trans b9.size (by simp)) (fun k hk => o9.ownBlock_ge k hk)
          have HW := Lib.hid hown2
          clear hown2 hul d1 d2 c1 c2
          go_wp2_with (at_builtin; refine wpList_run_append hr rfl _ _ rfl rfl rfl ?_)
          go_roundw
          case rel => exact ⟨k + 1, by omega, by go_num, by rw [upto_succ, HM.out, show max px py = px by omega]; exact HW.out, b10⟩
          case measure => simp [intOf]; omega
        · obtain ⟨v2, w2, hr, hown2, hg2⟩ := run_append_n (W9.alloc (.cells #[.int .u64 (py : Int)] 39)) w.heap.size u5 (.slice (some ⟨W9.heap.size, 0, none⟩) 1 1) (upto (maxAt xs ys) k) [py] (World.ownsRow.alloc o9 _) (Sl.new W9 [.int .u64 (py : Int)] _ _ _ _ rfl (by decide)) (by rw [hul]; simp; omega) (Nat.le_trans b9.size (by simp))
          have b10 : Below w.heap.size w w2 := (b9.alloc b9.size _).grown hg2 (Nat.le_trans b9.size (by simp)) (fun k hk => o9.ownBlock_ge k hk)
          have HW := Lib.hid hown2
          clear hown2 hul d1 d2 c1 c2
          go_wp2_with (at_builtin; refine wpList_run_append hr rfl _ _ rfl rfl rfl ?_)
          go_roundw
          case rel => exact ⟨k + 1, by omega, by go_num, by rw [upto_succ, HM.out, show max px py = py by omega]; exact HW.out, b10⟩
          case measure => simp [intOf]; omega
      · obtain rfl : m = k := by omega
        go_wp2
        go_ret
        exact ⟨_, rfl, ho, br⟩
  · have hv : maxV xs ys = [] := by unfold maxV; rw [if_neg hlen]
    rw [hv]
    go_enter Tryz.func39, Tryz.ntmps39
    go_wp2
    all_goals (go_ret; exact ⟨_, rfl, Own.nil0 _ _ _, Below.refl _ _⟩)
end Go.Proofs.YtpcpijecibiibaaGreat
end
