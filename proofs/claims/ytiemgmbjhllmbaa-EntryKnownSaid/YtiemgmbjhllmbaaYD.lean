/-
  Arguments that are slices of structs of one-cell fields.
  Slices of rows of k cells that the call made; the slice may be a cut of a longer block.
-/
import Derived.Test.YtiemgmbjhllmbaaYA
import Derived.Deep.Slices
import Derived.Deep.Fields
import Derived.ChangeSame
import Derived.Laws.AppendOwn
section
set_option linter.unusedVariables false
namespace Go.Proofs.Ytiemgmbjhllmbaa
open Go.ChangeShapes Go.WideShapes Go.ChangeAt Go.RowKit Go.Deep
/-- The slice value v holds len structs of n cells; R i j is the cell j of struct i. -/
def Rows (w : World) (v : Value) (len n : Nat) (R : Nat → Nat → Value) : Prop :=
  ∃ a cap, v = .slice a len cap ∧ len ≤ cap ∧ (len = 0 ∨ ∃ B o, a = some ⟨B, o, none⟩ ∧ B < w.heap.size ∧ ∀ i, i < len → ∀ j, j < n → w.cell? ⟨B, o + i * n + j, none⟩ = some (R i j))
theorem Rows.below {w w' : World} {v : Value} {len n : Nat} {R : Nat → Nat → Value} (h : Rows w v len n R) (hb : Below w.heap.size w w') : Rows w' v len n R := by
  obtain ⟨a, cap, rfl, hcap, h⟩ := h
  refine ⟨a, cap, rfl, hcap, ?_⟩
  rcases h with h | ⟨b, off, rfl, hlt, h⟩
  · exact .inl h
  · exact .inr ⟨b, off, rfl, Nat.lt_of_lt_of_le hlt hb.size, fun i hi j hj => by rw [hb.cell (p := ⟨b, off + i * n + j, none⟩) hlt]; exact h i hi j hj⟩
section
variable {H : Type} {enc : TypeId × Value → H} {P : Program} {w : World}
theorem open_rows {r : Reach} {b0 : Nat} {t e : TypeId} {fs : Array Field} {v : Value} {d : DataW H} {ps : List MemPlace} (ht : P.underlying t = some (.slice e)) (he : P.underlying e = some (.struct fs))
    (hone : oneCellFields P fs = true) (hC : P.cellsOf e = fs.size) (hpos : 0 < fs.size)
    (hval : Value.okWide P w r b0 t v) (hd : DataW.Trod enc P w 0 (fun _ => true) true t v d ps) :
    ∃ (len : Nat) (R : Nat → Nat → Value), Rows w v len fs.size R ∧ len ≤ maxLen ∧
      ∀ i, i < len → ∀ (j : Nat) (f : Field), fs[j]? = some f → ∃ m y, DataW.trod enc P w 0 (fun _ => true) true m f.type [R i j] = some y := by
  obtain ⟨a, len, cap, rfl⟩ := okWide_slice ht hval
  obtain ⟨fuel, hf⟩ := hd
  rcases Go.Deep.open_slice ht hf with ⟨hcs, _⟩ | ⟨x, l, c, m, n, D, Pl, hcs, _, hl, hm, hmm, _, hi⟩
  · simp [Value.cells] at hcs
    obtain ⟨rfl, rfl, rfl⟩ := hcs
    exact ⟨0, fun _ _ => .bool false, ⟨none, 0, rfl, Nat.le_refl _, .inl rfl⟩, Nat.zero_le _, fun i hi => absurd hi (Nat.not_lt_zero _)⟩
  · simp [Value.cells] at hcs
    obtain ⟨rfl, rfl, rfl⟩ := hcs
    simp only [if_true] at hmm
    have each : ∀ i, i < len → ∃ cs' : List Value, cs'.length = fs.size ∧ (∀ j (h : j < cs'.length), w.cell? ((x.add (i * fs.size)).add j) = some cs'[j]) ∧
        ∀ (j : Nat) (f : Field), fs[j]? = some f → ∃ (h : j < cs'.length) (m : Nat) (y : _), DataW.trod enc P w 0 (fun _ => true) true m f.type [cs'[j]] = some y := by
      intro i hil
      obtain ⟨cs', hc, ht'⟩ := hi i (by omega)
      rw [hC] at hc
      obtain ⟨ys, n', hn', hy, hlen, hyl, hff⟩ := DataW.trod_struct he ht'
      obtain ⟨_, hcl, hat⟩ := World.cells?_some hc
      refine ⟨cs', hcl, fun j hj => ?_, fun j f hj => ?_⟩
      · rw [hat j (by omega), List.getElem?_eq_getElem hj]
      · obtain ⟨ho, hk⟩ := hone_of hone j f hj
        have hjl : j < fs.size := (Array.getElem?_eq_some_iff.1 hj).1
        have h1 := hff j f hj
        rw [ho, hk, List.drop_eq_getElem_cons (by omega)] at h1
        refine ⟨by omega, n', ys[j]'(by omega), ?_⟩
        rw [List.getElem?_eq_getElem (by omega)] at h1
        exact h1
    by_cases h0 : len = 0
    · subst h0
      exact ⟨0, fun _ _ => .bool false, ⟨_, _, rfl, by omega, .inl rfl⟩, Nat.zero_le _, fun i hi => absurd hi (Nat.not_lt_zero _)⟩
    · obtain ⟨b, off, sp⟩ := x
      have hsp : sp = none ∧ b < w.heap.size := by
        obtain ⟨cs', hl', hcell, _⟩ := each 0 (by omega)
        have h1 := hcell 0 (by omega)
        have h2 : sp = none := by simpa [Addr.add] using World.cell?_spot h1
        subst h2
        have hadd : ∀ b o i, (⟨b, o, none⟩ : Addr).add i = ⟨b, o + i, none⟩ := by intro b o i; unfold Addr.add; split <;> simp_all
        rw [hadd, hadd] at h1
        exact ⟨rfl, cell_block_lt h1⟩
      obtain ⟨rfl, hlt⟩ := hsp
      have pick : ∃ C : Nat → List Value, ∀ i, i < len → (C i).length = fs.size ∧ (∀ j (h : j < (C i).length), w.cell? ((Addr.add ⟨b, off, none⟩ (i * fs.size)).add j) = some (C i)[j]) ∧
          ∀ (j : Nat) (f : Field), fs[j]? = some f → ∃ (h : j < (C i).length) (m : Nat) (y : _), DataW.trod enc P w 0 (fun _ => true) true m f.type [(C i)[j]] = some y := by
        refine ⟨fun i => if h : i < len then (each i h).choose else [], fun i hil => ?_⟩
        simp only [hil, dif_pos]
        exact (each i hil).choose_spec
      obtain ⟨C, hC'⟩ := pick
      refine ⟨len, fun i j => (C i).getD j (.bool false), ⟨_, _, rfl, hl, .inr ⟨b, off, rfl, hlt, fun i hil j hj => ?_⟩⟩, by omega, fun i hil j f hj => ?_⟩
      · obtain ⟨h1, h2, _⟩ := hC' i hil
        have h3 := h2 j (by omega)
        have hadd : ∀ b o i, (⟨b, o, none⟩ : Addr).add i = ⟨b, o + i, none⟩ := by intro b o i; unfold Addr.add; split <;> simp_all
        rw [hadd, hadd] at h3
        rw [h3]
        simp [List.getD, List.getElem?_eq_getElem (show j < (C i).length by omega)]
      · obtain ⟨h1, _, h2⟩ := hC' i hil
        obtain ⟨h3, m', y, h4⟩ := h2 j f hj
        exact ⟨m', y, by simpa [List.getD, List.getElem?_eq_getElem h3] using h4⟩
/-- A cell that reads as a number. -/
theorem cell_nat {t : TypeId} {k : IntKind} {m : Nat} {v : Value} {y : DataW H × List MemPlace} (hk : k.signed = false) (ht : P.underlying t = some (.int k))
    (h : DataW.trod enc P w 0 (fun _ => true) true m t [v] = some y) : ∃ n : Nat, v = .int k (n : Int) ∧ n < 2 ^ k.bits := by
  obtain ⟨z, hz, _, hw⟩ := DataW.trod_int ht h
  obtain rfl : v = .int k z := by simpa using hz
  have : 0 ≤ z ∧ z < 2 ^ k.bits := by
    cases k <;> simp [IntKind.signed] at hk <;> simp [Lit.wf, IntKind.min, IntKind.max, IntKind.bits, IntKind.signed] at hw ⊢ <;> omega
  refine ⟨z.toNat, by rw [Int.toNat_of_nonneg this.1], ?_⟩
  have h2 := this.2
  have : ((2 ^ k.bits : Nat) : Int) = 2 ^ k.bits := by simp
  omega
theorem cell_int {t : TypeId} {m : Nat} {v : Value} {y : DataW H × List MemPlace} (ht : P.underlying t = some (.int .i64))
    (h : DataW.trod enc P w 0 (fun _ => true) true m t [v] = some y) : ∃ z : Int, v = .int .i64 z ∧ -9223372036854775808 ≤ z ∧ z ≤ 9223372036854775807 := by
  obtain ⟨z, hz, _, hw⟩ := DataW.trod_int ht h
  refine ⟨z, by simpa using hz, ?_⟩
  simp [Lit.wf, IntKind.min, IntKind.max, IntKind.bits, IntKind.signed] at hw
  omega
/-- A cell that reads as bytes. -/
theorem cell_bytes {t e : TypeId} {m : Nat} {v : Value} {y : DataW H × List MemPlace} (ht : P.underlying t = some (.slice e)) (he : P.underlying e = some (.int .u8)) (hc : P.cellsOf e = 1)
    (h : DataW.trod enc P w 0 (fun _ => true) true m t [v] = some y) : ∃ l : List UInt8, Sl w v (bytes l) ∧ l.length ≤ maxLen := by
  rcases open_ints ht he hc h with ⟨hcs, _⟩ | ⟨x, l, c, zs, hcs, _, hl, hm, hz, _, hcell, hwz⟩
  · obtain rfl : v = .slice none 0 0 := by simpa using hcs
    exact ⟨[], Sl.nil _ _ _, by simp⟩
  · obtain rfl : v = .slice (some x) l c := by simpa using hcs
    simp only [if_true] at hz
    have hlen : (zs.take l).length = l := by simp; omega
    refine ⟨(zs.take l).map fun z => UInt8.ofNat z.toNat, ?_, by rw [List.length_map, hlen]; omega⟩
    rw [← bytes_of_ints _ (fun z hzm => hwz z (List.mem_of_mem_take hzm))]
    refine ⟨some x, c, by rw [List.length_map, hlen], by rw [List.length_map, hlen]; omega, ?_⟩
    by_cases h0 : l = 0
    · left; subst h0; simp
    · right
      obtain ⟨b, off, sp⟩ := x
      have h1 := hcell 0 (by omega)
      have hsp : sp = none := by simpa [Addr.add] using World.cell?_spot h1
      subst hsp
      have hadd : ∀ i, (⟨b, off, none⟩ : Addr).add i = ⟨b, off + i, none⟩ := by intro i; unfold Addr.add; split <;> simp_all
      refine ⟨b, off, rfl, ?_, fun i hi => ?_⟩
      · rw [hadd] at h1; exact cell_block_lt h1
      · simp only [List.length_map] at hi
        rw [hlen] at hi
        have := hcell i (by omega)
        rw [hadd] at this
        rw [this]
        simp [List.getD, List.getElem?_eq_getElem (show i < zs.length by omega)]
end
end Go.Proofs.Ytiemgmbjhllmbaa
end
section
set_option linter.unusedVariables false
namespace Go.Proofs.Ytiemgmbjhllmbaa
open Go.RowKit
theorem flatten_length {k : Nat} : ∀ {rs : List (List Value)}, (∀ r ∈ rs, r.length = k) → rs.flatten.length = rs.length * k
  | [], _ => by simp
  | r :: rs, h => by
    rw [List.flatten_cons, List.length_append, h r (by simp), flatten_length (rs := rs) (fun x hx => h x (by simp [hx])), List.length_cons, Nat.add_mul]; omega
theorem flatten_get {k : Nat} : ∀ {rs : List (List Value)}, (∀ r ∈ rs, r.length = k) → ∀ (i : Nat) (hi : i < rs.length) (j : Nat) (hj : j < rs[i].length), rs.flatten[i * k + j]? = some rs[i][j]
  | r :: rs, h, 0, hi, j, hj => by
    have := h r (by simp)
    simp at hj ⊢
    rw [List.getElem?_append_left hj, List.getElem?_eq_getElem hj]
  | r :: rs, h, i + 1, hi, j, hj => by
    have hr := h r (by simp)
    have ih := flatten_get (rs := rs) (fun x hx => h x (by simp [hx])) i (by simpa using hi) j (by simpa using hj)
    rw [List.flatten_cons, List.getElem?_append_right (by rw [hr, Nat.add_mul]; omega), hr, show (i + 1) * k + j - k = i * k + j by rw [Nat.add_mul]; omega]
    simpa using ih
/-- v is a slice of the call's own (blocks from base on) with the rows rs, of k cells each. -/
def OwnR (w : World) (base : Nat) (e : TypeId) (k : Nat) (v : Value) (rs : List (List Value)) : Prop :=
  (∀ r ∈ rs, r.length = k) ∧
  ((v = .slice none 0 0 ∧ rs = []) ∨
   ∃ g cap cur, v = .slice (some ⟨g, 0, none⟩) rs.length cap ∧ base ≤ g ∧ w.heap[g]? = some (.cells cur e (0, 0)) ∧ rs.length ≤ cap ∧ cap ≤ maxLen ∧ cap * k ≤ cur.size ∧ cur.toList.take (rs.length * k) = rs.flatten)
section
variable {w w' : World} {base base' k : Nat} {e : TypeId} {v : Value} {rs : List (List Value)}
theorem OwnR.nil (w : World) (base : Nat) (e : TypeId) (k : Nat) : OwnR w base e k (.slice none 0 0) [] := ⟨by simp, .inl ⟨rfl, rfl⟩⟩
theorem OwnR.mono (h : OwnR w base e k v rs) (hb : base' ≤ base) : OwnR w base' e k v rs :=
  ⟨h.1, h.2.imp id fun ⟨g, cap, cur, h1, h2, h3⟩ => ⟨g, cap, cur, h1, Nat.le_trans hb h2, h3⟩⟩
theorem OwnR.lt (h : OwnR w base e k v rs) : ∀ j, v.ownBlock = some j → base ≤ j ∧ j < w.heap.size := by
  intro j hj
  rcases h.2 with ⟨rfl, _⟩ | ⟨g, cap, cur, rfl, hb, hg, _⟩
  · cases hj
  · injection hj with hj
    subst hj
    exact ⟨hb, (Array.getElem?_eq_some_iff.1 hg).1⟩
theorem OwnR.block (h : OwnR w base e k v rs) (hb : ∀ j, v.ownBlock = some j → w'.heap[j]? = w.heap[j]?) : OwnR w' base e k v rs := by
  refine ⟨h.1, ?_⟩
  rcases h.2 with hn | ⟨g, cap, cur, rfl, h1, h2, rest⟩
  · exact .inl hn
  · exact .inr ⟨g, cap, cur, rfl, h1, (hb g rfl).trans h2, rest⟩
theorem OwnR.below (h : OwnR w base e k v rs) (hg : Below w.heap.size w w') : OwnR w' base e k v rs := h.block fun j hj => hg.block j (h.lt j hj).2
theorem OwnR.shape (h : OwnR w base e k v rs) : ∃ a cap, v = .slice a rs.length cap := by
  rcases h.2 with ⟨rfl, rfl⟩ | ⟨g, cap, cur, rfl, _⟩
  · exact ⟨none, 0, rfl⟩
  · exact ⟨_, cap, rfl⟩
theorem OwnR.formN (h : OwnR w base e k v rs) (hn : 0 < rs.length) : ∃ g cap, v = .slice (some ⟨g, 0, none⟩) rs.length cap ∧ base ≤ g ∧ g < w.heap.size ∧ (∀ i, w.frozen? ⟨g, i, none⟩ = false) ∧
    ∀ (i : Nat) (hi : i < rs.length) (j : Nat) (hj : j < rs[i].length), w.cell? ⟨g, i * k + j, none⟩ = some rs[i][j] := by
  rcases h.2 with ⟨rfl, rfl⟩ | ⟨g, cap, cur, rfl, hb, hg, h1, h2, h3, h4⟩
  · cases hn
  · refine ⟨g, cap, rfl, hb, (Array.getElem?_eq_some_iff.1 hg).1, fun i => frozen_of_row w g i cur e hg, fun i hi j hj => ?_⟩
    have hk := h.1 _ (List.getElem_mem hi)
    have hlt : i * k + j < rs.length * k := by
      have : (i + 1) * k ≤ rs.length * k := Nat.mul_le_mul_right _ hi
      rw [Nat.add_mul] at this
      omega
    have := flatten_get h.1 i hi j hj
    rw [← h4, List.getElem?_take, if_pos hlt] at this
    rw [cell_of_row w g _ cur e (0, 0) hg]
    simpa using this
theorem OwnR.rows (h : OwnR w base e k v rs) : Rows w v rs.length k (fun i j => (rs.getD i []).getD j (.bool false)) := by
  rcases h.2 with ⟨rfl, rfl⟩ | ⟨g0, cap0, cur0, rfl, _, _, hc0, _⟩
  · exact ⟨none, 0, rfl, Nat.le_refl _, .inl rfl⟩
  · refine ⟨_, cap0, rfl, hc0, ?_⟩
    by_cases hn : rs.length = 0
    · exact .inl hn
    · right
      obtain ⟨g, cap, he, hb, hlt, _, hcell⟩ := h.formN (by omega)
      injection he with e1 e2 e3
      injection e1 with e1
      injection e1 with e1
      subst e1
      refine ⟨g0, 0, rfl, hlt, fun i hi j hj => ?_⟩
      have hk := h.1 _ (List.getElem_mem hi)
      rw [Nat.zero_add, hcell i hi j (by omega)]
      simp [List.getElem?_eq_getElem hi, List.getElem?_eq_getElem (show j < rs[i].length by omega)]
theorem OwnR.lit (w : World) (e : TypeId) (k : Nat) (rs : List (List Value)) (cs : Array Value) (hc : cs.toList = rs.flatten) (hk : ∀ r ∈ rs, r.length = k) (hm : rs.length ≤ maxLen) (hb : base ≤ w.heap.size) :
    OwnR (w.alloc (.cells cs e)) base e k (.slice (some ⟨w.heap.size, 0, none⟩) rs.length rs.length) rs := by
  have hl := flatten_length hk
  have hs : cs.size = rs.length * k := by rw [← hl, ← hc]; simp
  exact ⟨hk, .inr ⟨w.heap.size, rs.length, cs, rfl, hb, heap_alloc_new w _, Nat.le_refl _, hm, by omega, by rw [hc, ← hl]; exact List.take_length⟩⟩
end
section
variable {P : Program}
/-- append(s, rows...), s the call's own. -/
theorem run_append_rows (w : World) (base : Nat) (t ty e : TypeId) (i : TypeInfo) (z : Value) (k bytes : Nat) (ht : P.underlying t = some (.slice e)) (hi : P.info? e = some i) (hz : i.zero = some z)
    (hsize : i.size = k) (hby : i.bytes = bytes) (hzs : z.cells.size = k)
    (v y : Value) (rs news : List (List Value)) (hown : OwnR w base e k v rs)
    (R : Nat → Nat → Value) (hy : Rows w y news.length k R) (hn : ∀ (i : Nat) (h : i < news.length), news[i].length = k ∧ ∀ (j : Nat) (hj : j < news[i].length), news[i][j] = R i j)
    (h1 : ∀ r ∈ news, ∀ u ∈ r, u.oneCell' = true)
    (h63 : rs.length + news.length ≤ maxLen) (hbytes : (rs.length + news.length) * bytes ≤ 140737488355328) (hbase : base ≤ w.heap.size) :
    ∃ v' w', (Builtin.append_ #[t, t] ty #[v, y]).run P w = .ok v' w' ∧ OwnR w' base e k v' (rs ++ news) ∧ w.grownBy w' v.ownBlock ∧ (v'.ownBlock = v.ownBlock ∨ ∃ j, v'.ownBlock = some j ∧ w.heap.size ≤ j) ∧
      (0 < news.length → (∃ g cap, v = .slice (some ⟨g, 0, none⟩) rs.length cap ∧ rs.length + news.length ≤ cap ∧ v' = .slice (some ⟨g, 0, none⟩) (rs.length + news.length) cap) ∨
        ((∀ a n cap, v = .slice a n cap → cap < rs.length + news.length) ∧ w.grownBy w' none ∧ ∃ j, v'.ownBlock = some j ∧ w.heap.size ≤ j)) := by
  subst hsize
  subst hby
  have hnk : ∀ r ∈ news, r.length = i.size := by
    intro r hr
    obtain ⟨n, hn', rfl⟩ := List.getElem_of_mem hr
    exact (hn n hn').1
  have hk' : ∀ r ∈ rs ++ news, r.length = i.size := fun r hr => (List.mem_append.1 hr).elim (hown.1 r) (hnk r)
  have hfl := flatten_length hnk
  have hfr := flatten_length hown.1
  obtain ⟨a, c, rfl, hcap, hy⟩ := hy
  rcases Nat.eq_zero_or_pos news.length with h0 | hpos
  · obtain rfl : news = [] := List.eq_nil_of_length_eq_zero h0
    refine ⟨v, w, ?_, by simpa using hown, ⟨rfl, rfl, rfl, Nat.le_refl _, fun _ _ _ => rfl⟩, .inl rfl, fun h => absurd h (by decide)⟩
    rcases hown.2 with ⟨rfl, rfl⟩ | ⟨g, cap, cur, rfl, _, _, hnc, _⟩
    · cases a <;> simp [Builtin.append_, run_underlying ht, sizeOf, typeInfo, hi, Builtin.lenOf, Builtin.firstCells, loadCells, loadCellsFrom]
    · cases a <;> simp [Builtin.append_, run_underlying ht, sizeOf, typeInfo, hi, Builtin.lenOf, Builtin.firstCells, hnc, storeCells, loadCells, loadCellsFrom]
  obtain ⟨B, o, rfl, hB, hcell⟩ := hy.resolve_left (by omega)
  have hnews : ∀ j u, news.flatten[j]? = some u → w.cell? ((⟨B, o, none⟩ : Addr).add j) = some u := by
    intro j u hu
    have hj : j < news.flatten.length := (List.getElem?_eq_some_iff.1 hu).1
    have hkpos : 0 < i.size := by
      rcases Nat.eq_zero_or_pos i.size with h | h
      · rw [hfl, h] at hj; simp at hj
      · exact h
    have hq : j / i.size < news.length := by rw [hfl] at hj; exact Nat.div_lt_of_lt_mul (by rw [Nat.mul_comm]; exact hj)
    have hm : j % i.size < i.size := Nat.mod_lt _ hkpos
    have hd : j / i.size * i.size + j % i.size = j := by rw [Nat.mul_comm]; exact Nat.div_add_mod j i.size
    obtain ⟨e1, e2⟩ := hn _ hq
    have hg := flatten_get hnk (j / i.size) hq (j % i.size) (by rw [e1]; exact hm)
    rw [hd, hu] at hg
    injection hg with hg
    rw [addr_add, ← hd, ← Nat.add_assoc, hcell _ hq _ hm, hg, e2]
  have h1' : ∀ u ∈ news.flatten, u.oneCell' = true := fun u hu => by
    obtain ⟨r, hr, hu⟩ := List.mem_flatten.1 hu
    exact h1 r hr u hu
  have hlen : ((rs ++ news).flatten).length = (rs ++ news).length * i.size := flatten_length hk'
  have h63' : (rs ++ news).length ≤ maxLen := by simpa using h63
  have hmx : maxLen ≤ 9223372036854775807 := by decide
  -- a new array
  have grown : ∀ (old : Nat), old < rs.length + news.length → ∀ row : Option Nat,
      OwnR (w.drew.alloc (.cells (rs.flatten.toArray ++ news.flatten.toArray ++ Builtin.zeroCells z.cells (grownCap w (rs.length + news.length) old e - (rs.length + news.length))) e)) base e i.size
        (.slice (some ⟨w.heap.size, 0, none⟩) (rs.length + news.length) (grownCap w (rs.length + news.length) old e)) (rs ++ news) ∧
      w.grownBy (w.drew.alloc (.cells (rs.flatten.toArray ++ news.flatten.toArray ++ Builtin.zeroCells z.cells (grownCap w (rs.length + news.length) old e - (rs.length + news.length))) e)) row := by
    intro old ho row
    have hge := grownCap_ge w (rs.length + news.length) old e
    refine ⟨⟨hk', .inr ⟨w.heap.size, _, _, by rw [List.length_append], hbase, heap_alloc_new w.drew _, by rw [List.length_append]; exact hge, grownCap_le_maxLen w _ old e h63, ?_, ?_⟩⟩, ⟨rfl, rfl, rfl, by simp, fun k hk _ => heap_alloc_old w.drew _ hk⟩⟩
    · simp only [Array.size_append, List.size_toArray, size_zeroCells, hzs, hfl, hfr, ← Nat.add_mul]
      exact Nat.mul_le_mul_right _ (by omega)
    · simp only [Array.toList_append, List.append_assoc]
      rw [← List.append_assoc, ← hlen, List.flatten_append]
      exact List.take_left
  rcases hown.2 with ⟨rfl, rfl⟩ | ⟨g, cap, cur, rfl, hbg, hg, hnc, hcm, hcs, htake⟩
  · have hr := run_append_nil (P := P) w t ty e i z ht hi hz ⟨B, o, none⟩ news.length c news.flatten hfl hnews hpos (by simp at h63; omega) (by simp at hbytes; omega)
    have hgr := grown 0 (by omega) (Value.ownBlock (.slice none 0 0))
    have hgn := (grown 0 (by omega) none).2
    simp only [List.length_nil, Nat.zero_add, List.nil_append, List.flatten_nil, Array.empty_append] at hgr hgn ⊢
    exact ⟨_, _, hr, hgr.1, hgr.2, .inr ⟨_, rfl, Nat.le_refl _⟩, fun _ => .inr ⟨fun a n cap e => by injection e with _ _ e; omega, hgn, _, rfl, Nat.le_refl _⟩⟩
  · by_cases hroom : rs.length + news.length ≤ cap
    · have hfit : rs.length * i.size + news.flatten.length ≤ cur.size := by
        rw [hfl, ← Nat.add_mul]; exact Nat.le_trans (Nat.mul_le_mul_right _ hroom) hcs
      have hr := run_append_room (P := P) w t ty e i ht hi g rs.length cap cur hg ⟨B, o, none⟩ news.length c news.flatten hfl hnews h1' hroom hfit
      refine ⟨_, _, hr, ⟨hk', .inr ⟨g, cap, _, by rw [List.length_append], hbg, setRow_heap w g cur _ e _ hg, by rw [List.length_append]; exact hroom, hcm, ?_, ?_⟩⟩, ⟨rfl, rfl, rfl, by simp, fun k _ hk => setRow_other w g k _ (fun e => hk (by simp [Value.ownBlock, e]))⟩, .inl rfl, fun _ => .inl ⟨g, cap, rfl, hroom, rfl⟩⟩
      · simp only [List.size_toArray, List.length_append, List.length_take, List.length_drop, Array.length_toList]
        omega
      · rw [htake, ← hlen, List.flatten_append]
        exact List.take_left
    · have holds : ∀ j u, rs.flatten[j]? = some u → w.cell? ((⟨g, 0, none⟩ : Addr).add j) = some u := by
        intro j u hu
        have hj : j < rs.flatten.length := (List.getElem?_eq_some_iff.1 hu).1
        rw [addr_add, Nat.zero_add, cell_of_row w g j cur e (0, 0) hg]
        rw [← htake, List.getElem?_take, if_pos (by omega)] at hu
        simpa using hu
      have hr := run_append_grow (P := P) w t ty e i z ht hi hz ⟨g, 0, none⟩ rs.length cap rs.flatten hfr holds ⟨B, o, none⟩ news.length c news.flatten hfl hnews (by omega) (by omega) (growslice_fits (by omega) hbytes)
      have hgr := grown cap (by omega) (Value.ownBlock (.slice (some ⟨g, 0, none⟩) rs.length cap))
      exact ⟨_, _, hr, hgr.1, hgr.2, .inr ⟨_, rfl, Nat.le_refl _⟩, fun _ => .inr ⟨fun a n cp e => by injection e with _ _ e; omega, (grown cap (by omega) none).2, _, rfl, Nat.le_refl _⟩⟩
end
end Go.Proofs.Ytiemgmbjhllmbaa
end
