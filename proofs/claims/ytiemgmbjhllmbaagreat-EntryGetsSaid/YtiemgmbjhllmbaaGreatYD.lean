/-
  Arguments that are slices of structs of one-cell fields.
  Slices of rows of k cells that the call made; the slice may be a cut of a longer block.
-/
import Derived.Test.YtiemgmbjhllmbaaGreatYA
import Derived.Deep.Slices
import Derived.Deep.Fields
import Derived.ChangeSame
import Derived.Laws.AppendOwn
section
set_option linter.unusedVariables false
namespace Go.Proofs.YtiemgmbjhllmbaaGreat
open Go.ChangeShapes Go.WideShapes Go.ChangeAt Go.RowKit Go.Deep
/-- The slice value v holds len structs of n cells; R i j is the cell j of struct i. -/
def Rows (w : World) (v : Value) (len n : Nat) (R : Nat → Nat → Value) : Prop :=
  ∃ a cap, v = .slice a len cap ∧ len ≤ cap ∧ (len = 0 ∨ ∃ B o, a = some ⟨B, o, none⟩ ∧ B < w.heap.size ∧ ∀ i, i < len → ∀ j, j < n → w.cell? ⟨B, o + i * n + j, none⟩ = some (R i j))
theorem Rows.below {w w' : World} {v : Value} {len n : Nat} {R : Nat → Nat → Value} (h : Rows w v len n R) (hb : Below w.heap.size w w') : Rows w' v len n R := by
  obtain ⟨a, cap, rfl, hcap, h⟩ := h
  refine ⟨a, cap, rfl, hcap, ?_⟩
  rcases h with h | ⟨b, off, rfl, hlt, h⟩
  · exact .inl h
  · exact .inr ⟨b, off, rfl, Nat.lt_of_lt_of_le hlt hb.size, fun i hi j hj => by rw [hb.cell (p := ⟨b, off + i * n + j, none⟩) hlt]; exact h i hi j hj⟩
section
variable {H : Type} {enc : TypeId × Value → H} {P : Program} {w : World}
end
end Go.Proofs.YtiemgmbjhllmbaaGreat
end
section
set_option linter.unusedVariables false
namespace Go.Proofs.YtiemgmbjhllmbaaGreat
open Go.RowKit
theorem flatten_length {k : Nat} : ∀ {rs : List (List Value)}, (∀ r ∈ rs, r.length = k) → rs.flatten.length = rs.length * k
  | [], _ => by simp
  | r :: rs, h => by
    rw [List.flatten_cons, List.length_append, h r (by simp), flatten_length (rs := rs) (fun x hx => h x (by simp [hx])), List.length_cons, Nat.add_mul]; omega
theorem flatten_get {k : Nat} : ∀ {rs : List (List Value)}, (∀ r ∈ rs, r.length = k) → ∀ (i : Nat) (hi : i < rs.length) (j : Nat) (hj : j < rs[i].length), rs.flatten[i * k + j]? = some rs[i][j]
  | r :: rs, h, 0, hi, j, hj => by
    have := h r (by simp)
    simp at hj ⊢
    rw [List.getElem?_append_left hj, List.getElem?_eq_getElem hj]
  | r :: rs, h, i + 1, hi, j, hj => by
    have hr := h r (by simp)
    have ih := flatten_get (rs := rs) (fun x hx => h x (by simp [hx])) i (by simpa using hi) j (by simpa using hj)
    rw [List.flatten_cons, List.getElem?_append_right (by rw [hr, Nat.add_mul]; omega), hr, show (i + 1) * k + j - k = i * k + j by rw [Nat.add_mul]; omega]
    simpa using ih
/-- v is a slice of the call's own (blocks from base on) with the rows rs, of k cells each. -/
def OwnR (w : World) (base : Nat) (e : TypeId) (k : Nat) (v : Value) (rs : List (List Value)) : Prop :=
  (∀ r ∈ rs, r.length = k) ∧
  ((v = .slice none 0 0 ∧ rs = []) ∨
   ∃ g cap cur, v = .slice (some ⟨g, 0, none⟩) rs.length cap ∧ base ≤ g ∧ w.heap[g]? = some (.cells cur e (0, 0)) ∧ rs.length ≤ cap ∧ cap ≤ maxLen ∧ cap * k ≤ cur.size ∧ cur.toList.take (rs.length * k) = rs.flatten)
section
variable {w w' : World} {base base' k : Nat} {e : TypeId} {v : Value} {rs : List (List Value)}
theorem OwnR.nil (w : World) (base : Nat) (e : TypeId) (k : Nat) : OwnR w base e k (.slice none 0 0) [] := ⟨by simp, .inl ⟨rfl, rfl⟩⟩
theorem OwnR.lt (h : OwnR w base e k v rs) : ∀ j, v.ownBlock = some j → base ≤ j ∧ j < w.heap.size := by
  intro j hj
  rcases h.2 with ⟨rfl, _⟩ | ⟨g, cap, cur, rfl, hb, hg, _⟩
  · cases hj
  · injection hj with hj
    subst hj
    exact ⟨hb, (Array.getElem?_eq_some_iff.1 hg).1⟩
theorem OwnR.block (h : OwnR w base e k v rs) (hb : ∀ j, v.ownBlock = some j → w'.heap[j]? = w.heap[j]?) : OwnR w' base e k v rs := by
  refine ⟨h.1, ?_⟩
  rcases h.2 with hn | ⟨g, cap, cur, rfl, h1, h2, rest⟩
  · exact .inl hn
  · exact .inr ⟨g, cap, cur, rfl, h1, (hb g rfl).trans h2, rest⟩
theorem OwnR.shape (h : OwnR w base e k v rs) : ∃ a cap, v = .slice a rs.length cap := by
  rcases h.2 with ⟨rfl, rfl⟩ | ⟨g, cap, cur, rfl, _⟩
  · exact ⟨none, 0, rfl⟩
  · exact ⟨_, cap, rfl⟩
theorem OwnR.formN (h : OwnR w base e k v rs) (hn : 0 < rs.length) : ∃ g cap, v = .slice (some ⟨g, 0, none⟩) rs.length cap ∧ base ≤ g ∧ g < w.heap.size ∧ (∀ i, w.frozen? ⟨g, i, none⟩ = false) ∧
    ∀ (i : Nat) (hi : i < rs.length) (j : Nat) (hj : j < rs[i].length), w.cell? ⟨g, i * k + j, none⟩ = some rs[i][j] := by
  rcases h.2 with ⟨rfl, rfl⟩ | ⟨g, cap, cur, rfl, hb, hg, h1, h2, h3, h4⟩
  · cases hn
  · refine ⟨g, cap, rfl, hb, (Array.getElem?_eq_some_iff.1 hg).1, fun i => frozen_of_row w g i cur e hg, fun i hi j hj => ?_⟩
    have hk := h.1 _ (List.getElem_mem hi)
    have hlt : i * k + j < rs.length * k := by
      have : (i + 1) * k ≤ rs.length * k := Nat.mul_le_mul_right _ hi
      rw [Nat.add_mul] at this
      omega
    have := flatten_get h.1 i hi j hj
    rw [← h4, List.getElem?_take, if_pos hlt] at this
    rw [cell_of_row w g _ cur e (0, 0) hg]
    simpa using this
theorem OwnR.rows (h : OwnR w base e k v rs) : Rows w v rs.length k (fun i j => (rs.getD i []).getD j (.bool false)) := by
  rcases h.2 with ⟨rfl, rfl⟩ | ⟨g0, cap0, cur0, rfl, _, _, hc0, _⟩
  · exact ⟨none, 0, rfl, Nat.le_refl _, .inl rfl⟩
  · refine ⟨_, cap0, rfl, hc0, ?_⟩
    by_cases hn : rs.length = 0
    · exact .inl hn
    · right
      obtain ⟨g, cap, he, hb, hlt, _, hcell⟩ := h.formN (by omega)
      injection he with e1 e2 e3
      injection e1 with e1
      injection e1 with e1
      subst e1
      refine ⟨g0, 0, rfl, hlt, fun i hi j hj => ?_⟩
      have hk := h.1 _ (List.getElem_mem hi)
      rw [Nat.zero_add, hcell i hi j (by omega)]
      simp [List.getElem?_eq_getElem hi, List.getElem?_eq_getElem (show j < rs[i].length by omega)]
end
section
variable {P : Program}
/-- append(s, rows...), s the call's own. -/
theorem run_append_rows (w : World) (base : Nat) (t ty e : TypeId) (i : TypeInfo) (z : Value) (k bytes : Nat) (ht : P.underlying t = some (.slice e)) (hi : P.info? e = some i) (hz : i.zero = some z)
    (hsize : i.size = k) (hby : i.bytes = bytes) (hzs : z.cells.size = k)
    (v y : Value) (rs news : List (List Value)) (hown : OwnR w base e k v rs)
    (R : Nat → Nat → Value) (hy : Rows w y news.length k R) (hn : ∀ (i : Nat) (h : i < news.length), news[i].length = k ∧ ∀ (j : Nat) (hj : j < news[i].length), news[i][j] = R i j)
    (h1 : ∀ r ∈ news, ∀ u ∈ r, u.oneCell' = true)
    (h63 : rs.length + news.length ≤ maxLen) (hbytes : (rs.length + news.length) * bytes ≤ 140737488355328) (hbase : base ≤ w.heap.size) :
    ∃ v' w', (Builtin.append_ #[t, t] ty #[v, y]).run P w = .ok v' w' ∧ OwnR w' base e k v' (rs ++ news) ∧ w.grownBy w' v.ownBlock ∧ (v'.ownBlock = v.ownBlock ∨ ∃ j, v'.ownBlock = some j ∧ w.heap.size ≤ j) ∧
      (0 < news.length → (∃ g cap, v = .slice (some ⟨g, 0, none⟩) rs.length cap ∧ rs.length + news.length ≤ cap ∧ v' = .slice (some ⟨g, 0, none⟩) (rs.length + news.length) cap) ∨
        ((∀ a n cap, v = .slice a n cap → cap < rs.length + news.length) ∧ w.grownBy w' none ∧ ∃ j, v'.ownBlock = some j ∧ w.heap.size ≤ j)) := by
  subst hsize
  subst hby
  have hnk : ∀ r ∈ news, r.length = i.size := by
    intro r hr
    obtain ⟨n, hn', rfl⟩ := List.getElem_of_mem hr
    exact (hn n hn').1
  have hk' : ∀ r ∈ rs ++ news, r.length = i.size := fun r hr => (List.mem_append.1 hr).elim (hown.1 r) (hnk r)
  have hfl := flatten_length hnk
  have hfr := flatten_length hown.1
  obtain ⟨a, c, rfl, hcap, hy⟩ := hy
  rcases Nat.eq_zero_or_pos news.length with h0 | hpos
  · obtain rfl : news = [] := List.eq_nil_of_length_eq_zero h0
    refine ⟨v, w, ?_, by simpa using hown, ⟨rfl, rfl, rfl, Nat.le_refl _, fun _ _ _ => rfl⟩, .inl rfl, fun h => absurd h (by decide)⟩
    rcases hown.2 with ⟨rfl, rfl⟩ | ⟨g, cap, cur, rfl, _, _, hnc, _⟩
    · cases a <;> simp [Builtin.append_, run_underlying ht, sizeOf, typeInfo, hi, Builtin.lenOf, Builtin.firstCells, loadCells, loadCellsFrom]
    · cases a <;> simp [Builtin.append_, run_underlying ht, sizeOf, typeInfo, hi, Builtin.lenOf, Builtin.firstCells, hnc, storeCells, loadCells, loadCellsFrom]
  obtain ⟨B, o, rfl, hB, hcell⟩ := hy.resolve_left (by omega)
  have hnews : ∀ j u, news.flatten[j]? = some u → w.cell? ((⟨B, o, none⟩ : Addr).add j) = some u := by
    intro j u hu
    have hj : j < news.flatten.length := (List.getElem?_eq_some_iff.1 hu).1
    have hkpos : 0 < i.size := by
      rcases Nat.eq_zero_or_pos i.size with h | h
      · rw [hfl, h] at hj; simp at hj
      · exact h
    have hq : j / i.size < news.length := by rw [hfl] at hj; exact Nat.div_lt_of_lt_mul (by rw [Nat.mul_comm]; exact hj)
    have hm : j % i.size < i.size := Nat.mod_lt _ hkpos
    have hd : j / i.size * i.size + j % i.size = j := by rw [Nat.mul_comm]; exact Nat.div_add_mod j i.size
    obtain ⟨e1, e2⟩ := hn _ hq
    have hg := flatten_get hnk (j / i.size) hq (j % i.size) (by rw [e1]; exact hm)
    rw [hd, hu] at hg
    injection hg with hg
    rw [addr_add, ← hd, ← Nat.add_assoc, hcell _ hq _ hm, hg, e2]
  have h1' : ∀ u ∈ news.flatten, u.oneCell' = true := fun u hu => by
    obtain ⟨r, hr, hu⟩ := List.mem_flatten.1 hu
    exact h1 r hr u hu
  have hlen : ((rs ++ news).flatten).length = (rs ++ news).length * i.size := flatten_length hk'
  have h63' : (rs ++ news).length ≤ maxLen := by simpa using h63
  have hmx : maxLen ≤ 9223372036854775807 := by decide
  -- a new array
  have grown : ∀ (old : Nat), old < rs.length + news.length → ∀ row : Option Nat,
      OwnR (w.drew.alloc (.cells (rs.flatten.toArray ++ news.flatten.toArray ++ Builtin.zeroCells z.cells (grownCap w (rs.length + news.length) old e - (rs.length + news.length))) e)) base e i.size
        (.slice (some ⟨w.heap.size, 0, none⟩) (rs.length + news.length) (grownCap w (rs.length + news.length) old e)) (rs ++ news) ∧
      w.grownBy (w.drew.alloc (.cells (rs.flatten.toArray ++ news.flatten.toArray ++ Builtin.zeroCells z.cells (grownCap w (rs.length + news.length) old e - (rs.length + news.length))) e)) row := by
    intro old ho row
    have hge := grownCap_ge w (rs.length + news.length) old e
    refine ⟨⟨hk', .inr ⟨w.heap.size, _, _, by rw [List.length_append], hbase, heap_alloc_new w.drew _, by rw [List.length_append]; exact hge, grownCap_le_maxLen w _ old e h63, ?_, ?_⟩⟩, ⟨rfl, rfl, rfl, by simp, fun k hk _ => heap_alloc_old w.drew _ hk⟩⟩
    · simp only [Array.size_append, List.size_toArray, size_zeroCells, hzs, hfl, hfr, ← Nat.add_mul]
      exact Nat.mul_le_mul_right _ (by omega)
    · simp only [Array.toList_append, List.append_assoc]
      rw [← List.append_assoc, ← hlen, List.flatten_append]
      exact List.take_left
  rcases hown.2 with ⟨rfl, rfl⟩ | ⟨g, cap, cur, rfl, hbg, hg, hnc, hcm, hcs, htake⟩
  · have hr := run_append_nil (P := P) w t ty e i z ht hi hz ⟨B, o, none⟩ news.length c news.flatten hfl hnews hpos (by simp at h63; omega) (by simp at hbytes; omega)
    have hgr := grown 0 (by omega) (Value.ownBlock (.slice none 0 0))
    have hgn := (grown 0 (by omega) none).2
    simp only [List.length_nil, Nat.zero_add, List.nil_append, List.flatten_nil, Array.empty_append] at hgr hgn ⊢
    exact ⟨_, _, hr, hgr.1, hgr.2, .inr ⟨_, rfl, Nat.le_refl _⟩, fun _ => .inr ⟨fun a n cap e => by injection e with _ _ e; omega, hgn, _, rfl, Nat.le_refl _⟩⟩
  · by_cases hroom : rs.length + news.length ≤ cap
    · have hfit : rs.length * i.size + news.flatten.length ≤ cur.size := by
        rw [hfl, ← Nat.add_mul]; exact Nat.le_trans (Nat.mul_le_mul_right _ hroom) hcs
      have hr := run_append_room (P := P) w t ty e i ht hi g rs.length cap cur hg ⟨B, o, none⟩ news.length c news.flatten hfl hnews h1' hroom hfit
      refine ⟨_, _, hr, ⟨hk', .inr ⟨g, cap, _, by rw [List.length_append], hbg, setRow_heap w g cur _ e _ hg, by rw [List.length_append]; exact hroom, hcm, ?_, ?_⟩⟩, ⟨rfl, rfl, rfl, by simp, fun k _ hk => setRow_other w g k _ (fun e => hk (by simp [Value.ownBlock, e]))⟩, .inl rfl, fun _ => .inl ⟨g, cap, rfl, hroom, rfl⟩⟩
      · simp only [List.size_toArray, List.length_append, List.length_take, List.length_drop, Array.length_toList]
        omega
      · rw [htake, ← hlen, List.flatten_append]
        exact List.take_left
    · have holds : ∀ j u, rs.flatten[j]? = some u → w.cell? ((⟨g, 0, none⟩ : Addr).add j) = some u := by
        intro j u hu
        have hj : j < rs.flatten.length := (List.getElem?_eq_some_iff.1 hu).1
        rw [addr_add, Nat.zero_add, cell_of_row w g j cur e (0, 0) hg]
        rw [← htake, List.getElem?_take, if_pos (by omega)] at hu
        simpa using hu
      have hr := run_append_grow (P := P) w t ty e i z ht hi hz ⟨g, 0, none⟩ rs.length cap rs.flatten hfr holds ⟨B, o, none⟩ news.length c news.flatten hfl hnews (by omega) (by omega) (growslice_fits (by omega) hbytes)
      have hgr := grown cap (by omega) (Value.ownBlock (.slice (some ⟨g, 0, none⟩) rs.length cap))
      exact ⟨_, _, hr, hgr.1, hgr.2, .inr ⟨_, rfl, Nat.le_refl _⟩, fun _ => .inr ⟨fun a n cp e => by injection e with _ _ e; omega, (grown cap (by omega) none).2, _, rfl, Nat.le_refl _⟩⟩
end
end Go.Proofs.YtiemgmbjhllmbaaGreat
end
