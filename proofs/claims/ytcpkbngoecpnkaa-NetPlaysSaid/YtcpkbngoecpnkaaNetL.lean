/-
  Letters and acts as the laws read them.
-/
import Derived.Test.YtcpkbngoecpnkaaNet9
import Derived.Test.YtcpkbngoecpnkaaCells
set_option linter.unusedVariables false
namespace Go.Proofs.Ytcpkbngoecpnkaa
open Go.RowKit

instance : Inhabited LetD := ⟨zl⟩
theorem rows_at {w : World} {a : Option Addr} {n len cap k : Nat} {R : Nat → Nat → Value} (h : Rows w (.slice a len cap) n k R) (i : Nat) (hi : i < n) :
    ∃ B o, a = some ⟨B, o, none⟩ ∧ B < w.heap.size ∧ ∀ j, j < k → w.cell? ⟨B, o + i * k + j, none⟩ = some (R i j) := by
  obtain ⟨a', cap', he, _, hr⟩ := h
  injection he with e1 e2 e3
  subst e1
  obtain ⟨B, o, rfl, hB, hcell⟩ := hr.resolve_left (by omega)
  exact ⟨B, o, rfl, hB, fun j hj => hcell i hi j hj⟩
/-- v reads as the letters ls. -/
def Lets (w : World) (v : Value) (ls : List LetD) : Prop :=
  ∃ R, Rows w v ls.length 5 R ∧ ∀ i (h : i < ls.length), R i 0 = .int .i64 (ls[i]'h).src.1 ∧ R i 1 = .int .i64 (ls[i]'h).src.2 ∧ R i 2 = .int .i64 (ls[i]'h).dst.1 ∧ R i 3 = .int .i64 (ls[i]'h).dst.2 ∧ Sl w (R i 4) (bytes (ls[i]'h).b)
theorem Lets.gr {w w' : World} {v : Value} {ls : List LetD} (h : Lets w v ls) (g : Gr w w') : Lets w' v ls := by
  obtain ⟨R, h1, h2⟩ := h
  exact ⟨R, h1.below g, fun i hi => ⟨(h2 i hi).1, (h2 i hi).2.1, (h2 i hi).2.2.1, (h2 i hi).2.2.2.1, (h2 i hi).2.2.2.2.below g⟩⟩
theorem Lets.shape {w : World} {v : Value} {ls : List LetD} (h : Lets w v ls) : ∃ a cap, v = .slice a ls.length cap := by
  obtain ⟨R, ⟨a, cap, e, _⟩, _⟩ := h; exact ⟨a, cap, e⟩
theorem Lets.at {w : World} {a : Option Addr} {n cap : Nat} {ls : List LetD} (h : Lets w (.slice a n cap) ls) (i : Nat) (hi : i < ls.length) :
    ∃ B o bv, a = some ⟨B, o, none⟩ ∧ B < w.heap.size ∧ w.cell? ⟨B, o + i * 5, none⟩ = some (.int .i64 (ls[i]'hi).src.1) ∧ w.cell? ⟨B, o + i * 5 + 1, none⟩ = some (.int .i64 (ls[i]'hi).src.2) ∧ w.cell? ⟨B, o + i * 5 + 2, none⟩ = some (.int .i64 (ls[i]'hi).dst.1) ∧
      w.cell? ⟨B, o + i * 5 + 3, none⟩ = some (.int .i64 (ls[i]'hi).dst.2) ∧ w.cell? ⟨B, o + i * 5 + 4, none⟩ = some bv ∧ Sl w bv (bytes (ls[i]'hi).b) := by
  obtain ⟨R, h1, h2⟩ := h
  obtain ⟨e0, e1, e2, e3, e4⟩ := h2 i hi
  obtain ⟨B, o, rfl, hB, hc⟩ := rows_at h1 i hi
  refine ⟨B, o, R i 4, rfl, hB, ?_, ?_, ?_, ?_, hc 4 (by decide), e4⟩
  · rw [← e0]; exact hc 0 (by decide)
  · rw [← e1]; exact hc 1 (by decide)
  · rw [← e2]; exact hc 2 (by decide)
  · rw [← e3]; exact hc 3 (by decide)
theorem LetsR.reads {w : World} {base : Nat} {v : Value} {ps : List (LetD × Value)} (h : LetsR w base v ps) : Lets w v (ps.map Prod.fst) := by
  obtain ⟨a, cap, e⟩ := h.shape
  refine ⟨fun i j => ((ps.map rowP).getD i []).getD j (.bool false), ?_, fun i hi => ?_⟩
  · have := h.rows.rows
    rw [List.length_map] at this ⊢
    exact this
  · have hi' : i < ps.length := by simpa using hi
    have hr : (ps.map rowP).getD i [] = rowP (ps[i]'hi') := by
      rw [List.getD_eq_getElem?_getD, List.getElem?_map, List.getElem?_eq_getElem hi']; rfl
    have hm : (ps.map Prod.fst)[i] = (ps[i]'hi').1 := by simp
    simp only [hm, hr]
    exact ⟨rfl, rfl, rfl, rfl, (h.own _ (List.getElem_mem hi')).sl⟩
/-- One letter in a row of its own. -/
theorem Lets.one {w : World} {Y : Nat} {l : LetD} {bv : Value} (h : CellsAt w Y #[.int .i64 l.src.1, .int .i64 l.src.2, .int .i64 l.dst.1, .int .i64 l.dst.2, bv] 35) (hb : Sl w bv (bytes l.b)) : Lets w (.slice (some ⟨Y, 0, none⟩) 1 1) [l] := by
  refine ⟨fun _ j => (letRow l bv).getD j (.bool false), ⟨_, 1, rfl, Nat.le_refl _, .inr ⟨Y, 0, rfl, h.lt, fun i hi j hj => ?_⟩⟩, fun i hi => ?_⟩
  · obtain rfl : i = 0 := by simpa using hi
    have := h.cell j
    simp only [Nat.zero_mul, Nat.zero_add]
    rw [this]
    have hj5 : j < (letRow l bv).length := by simpa [letRow] using hj
    show (letRow l bv).toArray[j]? = _
    simp [List.getElem?_eq_getElem hj5]
  · obtain rfl : i = 0 := by simpa using hi
    exact ⟨rfl, rfl, rfl, rfl, hb⟩
/-- A cut of one letter. -/
theorem Lets.sub {w : World} {B o n c c' : Nat} {ls : List LetD} (h : Lets w (.slice (some ⟨B, o, none⟩) n c) ls) (k : Nat) (hk : k < ls.length) (hc : 1 ≤ c') : Lets w (.slice (some ⟨B, o + k * 5, none⟩) 1 c') [ls[k]'hk] := by
  obtain ⟨R, h1, h2⟩ := h
  obtain ⟨B', o', e, hB, hcell⟩ := rows_at h1 k hk
  injection e with e
  injection e with e1 e2
  subst e1 e2
  refine ⟨fun _ j => R k j, ⟨_, c', rfl, hc, .inr ⟨B, o + k * 5, rfl, hB, fun i hi j hj => ?_⟩⟩, fun i hi => ?_⟩
  · obtain rfl : i = 0 := by simpa using hi
    rw [Nat.zero_mul, Nat.add_zero]
    exact hcell j hj
  · obtain rfl : i = 0 := by simpa using hi
    exact h2 k hk
/-- An act. -/
structure ActD where
  op : Nat
  i : Int
  l : LetD
instance : Inhabited ActD := ⟨⟨0, 0, zl⟩⟩
def ActOk (a : ActD) : Prop := a.op < 256 ∧ -9223372036854775808 ≤ a.i ∧ a.i ≤ 9223372036854775807 ∧ LetOk a.l
/-- v reads as the acts. -/
def Acts (w : World) (v : Value) (xs : List ActD) : Prop :=
  ∃ R, Rows w v xs.length 7 R ∧ ∀ i (h : i < xs.length), ActOk (xs[i]'h) ∧ R i 0 = .int .u8 ((xs[i]'h).op : Int) ∧ R i 1 = .int .i64 (xs[i]'h).i ∧ R i 2 = .int .i64 (xs[i]'h).l.src.1 ∧ R i 3 = .int .i64 (xs[i]'h).l.src.2 ∧ R i 4 = .int .i64 (xs[i]'h).l.dst.1 ∧ R i 5 = .int .i64 (xs[i]'h).l.dst.2 ∧ Sl w (R i 6) (bytes (xs[i]'h).l.b)
theorem Acts.gr {w w' : World} {v : Value} {xs : List ActD} (h : Acts w v xs) (g : Gr w w') : Acts w' v xs := by
  obtain ⟨R, h1, h2⟩ := h
  exact ⟨R, h1.below g, fun i hi => by obtain ⟨e0, e1, e2, e3, e4, e5, e6, e7⟩ := h2 i hi; exact ⟨e0, e1, e2, e3, e4, e5, e6, e7.below g⟩⟩
theorem Acts.shape {w : World} {v : Value} {xs : List ActD} (h : Acts w v xs) : ∃ a cap, v = .slice a xs.length cap := by
  obtain ⟨R, ⟨a, cap, e, _⟩, _⟩ := h; exact ⟨a, cap, e⟩
theorem Acts.at {w : World} {a : Option Addr} {n cap : Nat} {xs : List ActD} (h : Acts w (.slice a n cap) xs) (i : Nat) (hi : i < xs.length) :
    ∃ B o bv, a = some ⟨B, o, none⟩ ∧ B < w.heap.size ∧ (∀ j, bv.ownBlock = some j → j < w.heap.size ∨ (xs[i]'hi).l.b = []) ∧ w.cell? ⟨B, o + i * 7, none⟩ = some (.int .u8 ((xs[i]'hi).op : Int)) ∧ w.cell? ⟨B, o + i * 7 + 1, none⟩ = some (.int .i64 (xs[i]'hi).i) ∧ w.cell? ⟨B, o + i * 7 + 2, none⟩ = some (.int .i64 (xs[i]'hi).l.src.1) ∧
      w.cell? ⟨B, o + i * 7 + 3, none⟩ = some (.int .i64 (xs[i]'hi).l.src.2) ∧ w.cell? ⟨B, o + i * 7 + 4, none⟩ = some (.int .i64 (xs[i]'hi).l.dst.1) ∧ w.cell? ⟨B, o + i * 7 + 5, none⟩ = some (.int .i64 (xs[i]'hi).l.dst.2) ∧ w.cell? ⟨B, o + i * 7 + 6, none⟩ = some bv ∧
      Sl w bv (bytes (xs[i]'hi).l.b) ∧ ActOk (xs[i]'hi) := by
  obtain ⟨R, h1, h2⟩ := h
  obtain ⟨e0, e1, e2, e3, e4, e5, e6, e7⟩ := h2 i hi
  obtain ⟨B, o, rfl, hB, hc⟩ := rows_at h1 i hi
  refine ⟨B, o, R i 6, rfl, hB, fun j hj => ?_, ?_, ?_, ?_, ?_, ?_, ?_, hc 6 (by decide), e7, e0⟩
  · by_cases hn : (xs[i]'hi).l.b = []
    · exact .inr hn
    · obtain ⟨b', hb1, hb2⟩ := e7.ownBlock_lt (by simpa [bytes] using hn)
      rw [hb1] at hj
      injection hj with hj
      exact .inl (hj ▸ hb2)
  · rw [← e1]; exact hc 0 (by decide)
  · rw [← e2]; exact hc 1 (by decide)
  · rw [← e3]; exact hc 2 (by decide)
  · rw [← e4]; exact hc 3 (by decide)
  · rw [← e5]; exact hc 4 (by decide)
  · rw [← e6]; exact hc 5 (by decide)
section
open Go.ChangeShapes Go.WideShapes Go.ChangeAt Go.Deep
variable {H : Type} {enc : TypeId × Value → H} {w : World}
theorem cell_i64 {t : TypeId} {m : Nat} {v : Value} {y : DataW H × List MemPlace} (ht : Try.prog.underlying t = some (.int .i64)) (h : DataW.trod enc Try.prog w 0 (fun _ => true) true m t [v] = some y) :
    ∃ a : Int, v = .int .i64 a ∧ -9223372036854775808 ≤ a ∧ a ≤ 9223372036854775807 := by
  obtain ⟨a, rfl, h2⟩ := cell_int ht h
  exact ⟨a, rfl, h2⟩
theorem open_acts {r : Reach} {b0 : Nat} {v : Value} {d : DataW H} {ps : List MemPlace} (hval : Value.okWide Try.prog w r b0 22 v) (hd : DataW.Trod enc Try.prog w 0 (fun _ => true) true 22 v d ps) : ∃ l : List ActD, Acts w v l ∧ l.length ≤ maxLen := by
  obtain ⟨len, R, hR, hl, hc⟩ := open_rowsK (k := 7) Try.underlying22 (by kernel_rfl) (by decide) hval hd
  have each : ∀ i, i < len → ∃ x : ActD, ActOk x ∧ R i 0 = .int .u8 (x.op : Int) ∧ R i 1 = .int .i64 x.i ∧ R i 2 = .int .i64 x.l.src.1 ∧ R i 3 = .int .i64 x.l.src.2 ∧ R i 4 = .int .i64 x.l.dst.1 ∧ R i 5 = .int .i64 x.l.dst.2 ∧ Sl w (R i 6) (bytes x.l.b) := fun i hi => by
    obtain ⟨m', y', h'⟩ := hc i hi
    obtain ⟨m0, y0, g0⟩ := trod_at Try.underlying37 h' 0 _ rfl
    obtain ⟨m1, y1, g1⟩ := trod_at Try.underlying37 h' 1 _ rfl
    obtain ⟨m2, y2, g2⟩ := trod_at Try.underlying37 h' 2 _ rfl
    have g2' : DataW.trod enc Try.prog w 0 (fun _ => true) true m2 35 [R i 2, R i 3, R i 4, R i 5, R i 6] = some y2 := g2
    obtain ⟨k0, z0, f0⟩ := trod_at Try.underlying35 g2' 0 _ rfl
    obtain ⟨k1, z1, f1⟩ := trod_at Try.underlying35 g2' 1 _ rfl
    obtain ⟨k2, z2, f2⟩ := trod_at Try.underlying35 g2' 2 _ rfl
    have f0' : DataW.trod enc Try.prog w 0 (fun _ => true) true k0 33 [R i 2, R i 3] = some z0 := f0
    have f1' : DataW.trod enc Try.prog w 0 (fun _ => true) true k1 33 [R i 4, R i 5] = some z1 := f1
    obtain ⟨_, _, a0⟩ := trod_at Try.underlying33 f0' 0 _ rfl
    obtain ⟨_, _, a1⟩ := trod_at Try.underlying33 f0' 1 _ rfl
    obtain ⟨_, _, b0⟩ := trod_at Try.underlying33 f1' 0 _ rfl
    obtain ⟨_, _, b1⟩ := trod_at Try.underlying33 f1' 1 _ rfl
    obtain ⟨n0, e0, l0⟩ := cell_nat (v := R i 0) (k := .u8) rfl Try.underlying5 g0
    obtain ⟨n1, e1, l1, u1⟩ := cell_int (v := R i 1) Try.underlying3 g1
    obtain ⟨n2, e2, l2, u2⟩ := cell_int (v := R i 2) Try.underlying3 a0
    obtain ⟨n3, e3, l3, u3⟩ := cell_int (v := R i 3) Try.underlying3 a1
    obtain ⟨n4, e4, l4, u4⟩ := cell_int (v := R i 4) Try.underlying3 b0
    obtain ⟨n5, e5, l5, u5⟩ := cell_int (v := R i 5) Try.underlying3 b1
    obtain ⟨bs, hbs, _⟩ := cell_bytes (v := R i 6) Try.underlying23 Try.underlying5 (by kernel_rfl) f2
    exact ⟨⟨n0, n1, ⟨(n2, n3), (n4, n5), bs⟩⟩, ⟨l0, l1, u1, ⟨l2, u2, l3, u3⟩, l4, u4, l5, u5⟩, e0, e1, e2, e3, e4, e5, hbs⟩
  obtain ⟨X, hX⟩ := Go.Deep.choose_lt each
  refine ⟨(List.range len).map X, ⟨R, by simpa using hR, fun i hi => ?_⟩, by simpa using hl⟩
  have hi' : i < len := by simpa using hi
  simpa using hX i hi'
end
end Go.Proofs.Ytcpkbngoecpnkaa
