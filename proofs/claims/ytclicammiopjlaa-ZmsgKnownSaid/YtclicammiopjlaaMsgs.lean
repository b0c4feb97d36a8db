/-
  Messages and their lines, as the statements take them.
-/
import Derived.Test.YtclicammiopjlaaRowsOwn
import Derived.Test.YtclicammiopjlaaRdBack
import Derived.Test.YtclicammiopjlaaTurn
set_option linter.unusedVariables false
namespace Go.Proofs.Ytclicammiopjlaa
open Go.RowKit

structure LineD where
  e : Nat
  b : List UInt8
structure MsgD where
  kind : Nat
  epoch : Nat
  current : Nat
  at_ : Int
  commit : Int
  ls : List LineD
instance : Inhabited LineD := ⟨⟨0, []⟩⟩
def LineC (w : World) (R : Nat → Value) (x : LineD) : Prop := R 0 = .int .u64 (x.e : Int) ∧ Sl w (R 1) (bytes x.b) ∧ x.e < 2 ^ 64
def Lines (w : World) (v : Value) (ls : List LineD) : Prop := ∃ R, Rows w v ls.length 2 R ∧ ∀ i (h : i < ls.length), LineC w (R i) ls[i]
def MsgOk (m : MsgD) : Prop := m.kind < 256 ∧ m.epoch < 2 ^ 64 ∧ m.current < 2 ^ 64 ∧ (-9223372036854775808 ≤ m.at_ ∧ m.at_ ≤ 9223372036854775807) ∧ (-9223372036854775808 ≤ m.commit ∧ m.commit ≤ 9223372036854775807)
def msgCells (m : MsgD) (lv : Value) : Array Value := #[.int .u8 (m.kind : Int), .int .u64 (m.epoch : Int), .int .u64 (m.current : Int), .int .i64 m.at_, .int .i64 m.commit, lv]

theorem Lines.below {w w' : World} {v : Value} {ls : List LineD} (h : Lines w v ls) (hg : Gr w w') : Lines w' v ls := by
  obtain ⟨R, h1, h2⟩ := h
  exact ⟨R, h1.below hg, fun i hi => ⟨(h2 i hi).1, (h2 i hi).2.1.below hg, (h2 i hi).2.2⟩⟩
theorem Lines.shape {w : World} {v : Value} {ls : List LineD} (h : Lines w v ls) : ∃ a cap, v = .slice a ls.length cap := by
  obtain ⟨R, ⟨a, cap, e, _⟩, _⟩ := h; exact ⟨a, cap, e⟩
theorem Lines.nil (w : World) : Lines w (.slice none 0 0) [] := ⟨fun _ _ => .bool false, ⟨none, 0, rfl, Nat.le_refl _, .inl rfl⟩, fun i hi => absurd hi (Nat.not_lt_zero _)⟩
/-- One of them. -/
theorem Lines.row {w : World} {a : Option Addr} {len cap : Nat} {ls : List LineD} (h : Lines w (.slice a len cap) ls) (k : Nat) (hk : k < ls.length) :
    ∃ B o ba bc, a = some ⟨B, o, none⟩ ∧ B < w.heap.size ∧ w.cell? ⟨B, o + k * 2, none⟩ = some (.int .u64 (ls[k].e : Int)) ∧ w.cell? ⟨B, o + k * 2 + 1, none⟩ = some (.slice ba ls[k].b.length bc) ∧
      Sl w (.slice ba ls[k].b.length bc) (bytes ls[k].b) ∧ ls[k].e < 2 ^ 64 := by
  obtain ⟨R, ⟨a', cap', he, _, hr⟩, hc⟩ := h
  injection he with e1 e2 e3
  subst e1
  obtain ⟨B, o, rfl, hB, hcell⟩ := hr.resolve_left (by omega)
  obtain ⟨h0, h1, h2⟩ := hc k hk
  obtain ⟨ba, bc, e3'⟩ := h1.oneCells
  rw [show (bytes ls[k].b).length = ls[k].b.length from by simp [bytes]] at e3'
  have g0 := hcell k hk 0 (by decide)
  have g1 := hcell k hk 1 (by decide)
  rw [h0] at g0; rw [e3'] at g1 h1
  exact ⟨B, o, ba, bc, rfl, hB, g0, g1, h1, h2⟩

section
open Go.ChangeShapes Go.WideShapes Go.ChangeAt Go.Deep
variable {H : Type} {enc : TypeId × Value → H} {P : Program} {w : World}
/-- A cell that reads as a slice of structs of one-cell fields. -/
theorem cell_rows {t e : TypeId} {fs : Array Field} {mm : Nat} {v : Value} {y : DataW H × List MemPlace} (ht : P.underlying t = some (.slice e)) (he : P.underlying e = some (.struct fs))
    (hone : oneCellFields P fs = true) (hC : P.cellsOf e = fs.size) (hpos : 0 < fs.size)
    (hf : DataW.trod enc P w 0 (fun _ => true) true mm t [v] = some y) :
    ∃ (len : Nat) (R : Nat → Nat → Value), Rows w v len fs.size R ∧ len ≤ maxLen ∧
      ∀ i, i < len → ∀ (j : Nat) (f : Field), fs[j]? = some f → ∃ m y, DataW.trod enc P w 0 (fun _ => true) true m f.type [R i j] = some y := by
  rcases Go.Deep.open_slice ht hf with ⟨hcs, _⟩ | ⟨x, len, cap, m, n, D, Pl, hcs, _, hl, hm, hmm, _, hi⟩
  · obtain rfl : v = .slice none 0 0 := by simpa using hcs
    exact ⟨0, fun _ _ => .bool false, ⟨none, 0, rfl, Nat.le_refl _, .inl rfl⟩, Nat.zero_le _, fun i hi => absurd hi (Nat.not_lt_zero _)⟩
  · obtain rfl : v = .slice (some x) len cap := by simpa using hcs
    simp only [if_true] at hmm
    have each : ∀ i, i < len → ∃ cs' : List Value, cs'.length = fs.size ∧ (∀ j (h : j < cs'.length), w.cell? ((x.add (i * fs.size)).add j) = some cs'[j]) ∧
        ∀ (j : Nat) (f : Field), fs[j]? = some f → ∃ (h : j < cs'.length) (m : Nat) (y : _), DataW.trod enc P w 0 (fun _ => true) true m f.type [cs'[j]] = some y := by
      intro i hil
      obtain ⟨cs', hc, ht'⟩ := hi i (by omega)
      rw [hC] at hc
      obtain ⟨ys, n', hn', hy, hlen, hyl, hff⟩ := DataW.trod_struct he ht'
      obtain ⟨_, hcl, hat⟩ := World.cells?_some hc
      refine ⟨cs', hcl, fun j hj => ?_, fun j f hj => ?_⟩
      · rw [hat j (by omega), List.getElem?_eq_getElem hj]
      · obtain ⟨ho, hk⟩ := hone_of hone j f hj
        have hjl : j < fs.size := (Array.getElem?_eq_some_iff.1 hj).1
        have h1 := hff j f hj
        rw [ho, hk, List.drop_eq_getElem_cons (by omega)] at h1
        refine ⟨by omega, n', ys[j]'(by omega), ?_⟩
        rw [List.getElem?_eq_getElem (by omega)] at h1
        exact h1
    by_cases h0 : len = 0
    · subst h0
      exact ⟨0, fun _ _ => .bool false, ⟨_, _, rfl, by omega, .inl rfl⟩, Nat.zero_le _, fun i hi => absurd hi (Nat.not_lt_zero _)⟩
    · obtain ⟨b, off, sp⟩ := x
      have hsp : sp = none ∧ b < w.heap.size := by
        obtain ⟨cs', hl', hcell, _⟩ := each 0 (by omega)
        have h1 := hcell 0 (by omega)
        have h2 : sp = none := by simpa [Addr.add] using World.cell?_spot h1
        subst h2
        rw [addr_add, addr_add] at h1
        exact ⟨rfl, cell_block_lt h1⟩
      obtain ⟨rfl, hlt⟩ := hsp
      obtain ⟨C, hC'⟩ := Go.Deep.choose_lt each
      refine ⟨len, fun i j => (C i).getD j (.bool false), ⟨_, _, rfl, hl, .inr ⟨b, off, rfl, hlt, fun i hil j hj => ?_⟩⟩, by omega, fun i hil j f hj => ?_⟩
      · obtain ⟨h1, h2, _⟩ := hC' i hil
        have h3 := h2 j (by omega)
        rw [addr_add, addr_add] at h3
        rw [h3]
        simp [List.getD, List.getElem?_eq_getElem (show j < (C i).length by omega)]
      · obtain ⟨h1, _, h2⟩ := hC' i hil
        obtain ⟨h3, m', y, h4⟩ := h2 j f hj
        exact ⟨m', y, by simpa [List.getD, List.getElem?_eq_getElem h3] using h4⟩
/-- A struct of one-cell fields, by value. -/
theorem open_struct1 {r : Reach} {b0 : Nat} {t : TypeId} {fs : Array Field} {v : Value} {d : DataW H} {ps : List MemPlace} (ht : P.underlying t = some (.struct fs)) (hone : oneCellFields P fs = true) (hct : P.cellsOf t = fs.size)
    (hval : Value.okWide P w r b0 t v) (hd : DataW.Trod enc P w 0 (fun _ => true) true t v d ps) :
    ∃ cs : Array Value, v = .agg cs ∧ cs.size = fs.size ∧ ∀ (j : Nat) (f : Field), fs[j]? = some f → ∃ u m y, cs[j]? = some u ∧ DataW.trod enc P w 0 (fun _ => true) true m f.type [u] = some y := by
  simp only [Value.okWide, ht] at hval
  obtain ⟨cs, rfl, hsz, _⟩ := hval
  obtain ⟨fuel, hf⟩ := hd
  obtain ⟨ys, n', hn', hy, hlen, hyl, hff⟩ := DataW.trod_struct ht hf
  simp only [Value.cells] at hlen hff
  refine ⟨cs, rfl, by simpa [hct] using hlen, fun j f hj => ?_⟩
  obtain ⟨ho, hk⟩ := hone_of hone j f hj
  have hjl : j < fs.size := (Array.getElem?_eq_some_iff.1 hj).1
  have hl : cs.toList.length = fs.size := by rw [hlen, hct]
  have h1 := hff j f hj
  rw [ho, hk, List.drop_eq_getElem_cons (by omega), List.getElem?_eq_getElem (by omega)] at h1
  exact ⟨cs.toList[j], n', ys[j]'(by omega), by simp [show j < cs.size by simpa using (show j < cs.toList.length by omega)], h1⟩
end
theorem open_lines {H : Type} {enc : TypeId × Value → H} {w : World} {mm : Nat} {v : Value} {y : DataW H × List MemPlace} (hf : DataW.trod enc Try.prog w 0 (fun _ => true) true mm 23 [v] = some y) :
    ∃ ls : List LineD, Lines w v ls ∧ ls.length ≤ maxLen ∧ ∀ x ∈ ls, x.b.length ≤ maxLen := by
  obtain ⟨len, R, hR, hl, hc⟩ := cell_rows Try.underlying23 Try.underlying37 (by kernel_rfl) (by kernel_rfl) (by decide) hf
  have each : ∀ i, i < len → ∃ x : LineD, LineC w (R i) x ∧ x.b.length ≤ maxLen := by
    intro i hi
    obtain ⟨m0, y0, g0⟩ := hc i hi 0 _ rfl
    obtain ⟨m1, y1, g1⟩ := hc i hi 1 _ rfl
    obtain ⟨n0, e0, l0⟩ := cell_nat rfl Try.underlying22 g0
    obtain ⟨b, s1, hb⟩ := cell_bytes Try.underlying27 Try.underlying5 (by kernel_rfl) g1
    exact ⟨⟨n0, b⟩, ⟨e0, s1, l0⟩, hb⟩
  obtain ⟨X, hX⟩ := Go.Deep.choose_lt each
  refine ⟨(List.range len).map X, ⟨R, by simpa using hR, fun i hi => ?_⟩, by simpa using hl, fun x hx => ?_⟩
  · have hi' : i < len := by simpa using hi
    simpa using (hX i hi').1
  · obtain ⟨i, hi, rfl⟩ := List.mem_map.1 hx
    exact (hX i (by simpa using hi)).2
/-- An argument that is a message. -/
theorem open_msg {H : Type} {enc : TypeId × Value → H} {w : World} {r : Reach} {b0 : Nat} {v : Value} {d : DataW H} {ps : List MemPlace}
    (hval : Value.okWide Try.prog w r b0 25 v) (hd : DataW.Trod enc Try.prog w 0 (fun _ => true) true 25 v d ps) :
    ∃ (m : MsgD) (lv : Value), v = .agg (msgCells m lv) ∧ Lines w lv m.ls ∧ MsgOk m ∧ m.ls.length ≤ maxLen ∧ ∀ x ∈ m.ls, x.b.length ≤ maxLen := by
  obtain ⟨cs, rfl, hsz, hc⟩ := open_struct1 Try.underlying25 (by kernel_rfl) (by kernel_rfl) hval hd
  obtain ⟨u0, m0, y0, e0, g0⟩ := hc 0 _ rfl
  obtain ⟨u1, m1, y1, e1, g1⟩ := hc 1 _ rfl
  obtain ⟨u2, m2, y2, e2, g2⟩ := hc 2 _ rfl
  obtain ⟨u3, m3, y3, e3, g3⟩ := hc 3 _ rfl
  obtain ⟨u4, m4, y4, e4, g4⟩ := hc 4 _ rfl
  obtain ⟨u5, m5, y5, e5, g5⟩ := hc 5 _ rfl
  obtain ⟨n0, rfl, l0⟩ := cell_nat rfl Try.underlying5 g0
  obtain ⟨n1, rfl, l1⟩ := cell_nat rfl Try.underlying22 g1
  obtain ⟨n2, rfl, l2⟩ := cell_nat rfl Try.underlying22 g2
  obtain ⟨z3, rfl, l3⟩ := cell_int Try.underlying3 g3
  obtain ⟨z4, rfl, l4⟩ := cell_int Try.underlying3 g4
  obtain ⟨ls, hls, hlen, hb⟩ := open_lines g5
  refine ⟨⟨n0, n1, n2, z3, z4, ls⟩, u5, ?_, hls, ⟨l0, l1, l2, l3, l4⟩, hlen, hb⟩
  congr 1
  have h6 : cs.size = 6 := hsz
  apply Array.ext
  · rw [h6]; rfl
  · intro i hi1 hi2
    have hi : i = 0 ∨ i = 1 ∨ i = 2 ∨ i = 3 ∨ i = 4 ∨ i = 5 := by omega
    rcases hi with rfl | rfl | rfl | rfl | rfl | rfl
    · simpa [msgCells] using Array.getElem?_eq_some_iff.1 e0 |>.2
    · simpa [msgCells] using Array.getElem?_eq_some_iff.1 e1 |>.2
    · simpa [msgCells] using Array.getElem?_eq_some_iff.1 e2 |>.2
    · simpa [msgCells] using Array.getElem?_eq_some_iff.1 e3 |>.2
    · simpa [msgCells] using Array.getElem?_eq_some_iff.1 e4 |>.2
    · simpa [msgCells] using Array.getElem?_eq_some_iff.1 e5 |>.2
end Go.Proofs.Ytclicammiopjlaa
