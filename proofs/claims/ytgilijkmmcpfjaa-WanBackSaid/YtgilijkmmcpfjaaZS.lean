/-
  Messages and their lines, as the statements take them.
  kinds: what a kind of messages has.
  zmsg.may: may a message be?
-/
import Derived.Test.YtgilijkmmcpfjaaZD
import Derived.Test.YtgilijkmmcpfjaaZB
import Derived.Test.YtgilijkmmcpfjaaZA
import Derived.Test.YtgilijkmmcpfjaaZMaps
import Derived.Test.YtgilijkmmcpfjaaZEnKinds
import Derived.Test.YtgilijkmmcpfjaaZC
import Derived.Test.YtgilijkmmcpfjaaZLateTail
import Derived.WalkLawsBesides
import Derived.WalkSpells
import Derived.Outline
section
set_option linter.unusedVariables false
set_option maxRecDepth 100000
namespace Go.Proofs.Ytgilijkmmcpfjaa
open Go.RowKit
structure LineD where
  e : Nat
  b : List UInt8
structure MsgD where
  kind : Nat
  epoch : Nat
  current : Nat
  at_ : Int
  commit : Int
  ls : List LineD
instance : Inhabited LineD := ⟨⟨0, []⟩⟩
def LineC (w : World) (R : Nat → Value) (x : LineD) : Prop := R 0 = .int .u64 (x.e : Int) ∧ Sl w (R 1) (bytes x.b) ∧ x.e < 2 ^ 64
def Lines (w : World) (v : Value) (ls : List LineD) : Prop := ∃ R, Rows w v ls.length 2 R ∧ ∀ i (h : i < ls.length), LineC w (R i) ls[i]
def MsgOk (m : MsgD) : Prop := m.kind < 256 ∧ m.epoch < 2 ^ 64 ∧ m.current < 2 ^ 64 ∧ (-9223372036854775808 ≤ m.at_ ∧ m.at_ ≤ 9223372036854775807) ∧ (-9223372036854775808 ≤ m.commit ∧ m.commit ≤ 9223372036854775807)
def msgCells (m : MsgD) (lv : Value) : Array Value := #[.int .u8 (m.kind : Int), .int .u64 (m.epoch : Int), .int .u64 (m.current : Int), .int .i64 m.at_, .int .i64 m.commit, lv]
theorem Lines.below {w w' : World} {v : Value} {ls : List LineD} (h : Lines w v ls) (hg : Gr w w') : Lines w' v ls := by
  obtain ⟨R, h1, h2⟩ := h
  exact ⟨R, h1.below hg, fun i hi => ⟨(h2 i hi).1, (h2 i hi).2.1.below hg, (h2 i hi).2.2⟩⟩
theorem Lines.shape {w : World} {v : Value} {ls : List LineD} (h : Lines w v ls) : ∃ a cap, v = .slice a ls.length cap := by
  obtain ⟨R, ⟨a, cap, e, _⟩, _⟩ := h; exact ⟨a, cap, e⟩
theorem Lines.nil (w : World) : Lines w (.slice none 0 0) [] := ⟨fun _ _ => .bool false, ⟨none, 0, rfl, Nat.le_refl _, .inl rfl⟩, fun i hi => absurd hi (Nat.not_lt_zero _)⟩
/-- One of them. -/
theorem Lines.row {w : World} {a : Option Addr} {len cap : Nat} {ls : List LineD} (h : Lines w (.slice a len cap) ls) (k : Nat) (hk : k < ls.length) :
    ∃ B o ba bc, a = some ⟨B, o, none⟩ ∧ B < w.heap.size ∧ w.cell? ⟨B, o + k * 2, none⟩ = some (.int .u64 (ls[k].e : Int)) ∧ w.cell? ⟨B, o + k * 2 + 1, none⟩ = some (.slice ba ls[k].b.length bc) ∧
      Sl w (.slice ba ls[k].b.length bc) (bytes ls[k].b) ∧ ls[k].e < 2 ^ 64 := by
  obtain ⟨R, ⟨a', cap', he, _, hr⟩, hc⟩ := h
  injection he with e1 e2 e3
  subst e1
  obtain ⟨B, o, rfl, hB, hcell⟩ := hr.resolve_left (by omega)
  obtain ⟨h0, h1, h2⟩ := hc k hk
  obtain ⟨ba, bc, e3'⟩ := h1.oneCells
  rw [show (bytes ls[k].b).length = ls[k].b.length from by simp [bytes]] at e3'
  have g0 := hcell k hk 0 (by decide)
  have g1 := hcell k hk 1 (by decide)
  rw [h0] at g0; rw [e3'] at g1 h1
  exact ⟨B, o, ba, bc, rfl, hB, g0, g1, h1, h2⟩
section
open Go.ChangeShapes Go.WideShapes Go.ChangeAt Go.Deep
variable {H : Type} {enc : TypeId × Value → H} {P : Program} {w : World}
/-- A cell that reads as a slice of structs of one-cell fields. -/
theorem cell_rows {t e : TypeId} {fs : Array Field} {mm : Nat} {v : Value} {y : DataW H × List MemPlace} (ht : P.underlying t = some (.slice e)) (he : P.underlying e = some (.struct fs))
    (hone : oneCellFields P fs = true) (hC : P.cellsOf e = fs.size) (hpos : 0 < fs.size)
    (hf : DataW.trod enc P w 0 (fun _ => true) true mm t [v] = some y) :
    ∃ (len : Nat) (R : Nat → Nat → Value), Rows w v len fs.size R ∧ len ≤ maxLen ∧
      ∀ i, i < len → ∀ (j : Nat) (f : Field), fs[j]? = some f → ∃ m y, DataW.trod enc P w 0 (fun _ => true) true m f.type [R i j] = some y := by
  rcases Go.Deep.open_slice ht hf with ⟨hcs, _⟩ | ⟨x, len, cap, m, n, D, Pl, hcs, _, hl, hm, hmm, _, hi⟩
  · obtain rfl : v = .slice none 0 0 := by simpa using hcs
    exact ⟨0, fun _ _ => .bool false, ⟨none, 0, rfl, Nat.le_refl _, .inl rfl⟩, Nat.zero_le _, fun i hi => absurd hi (Nat.not_lt_zero _)⟩
  · obtain rfl : v = .slice (some x) len cap := by simpa using hcs
    simp only [if_true] at hmm
    have each : ∀ i, i < len → ∃ cs' : List Value, cs'.length = fs.size ∧ (∀ j (h : j < cs'.length), w.cell? ((x.add (i * fs.size)).add j) = some cs'[j]) ∧
        ∀ (j : Nat) (f : Field), fs[j]? = some f → ∃ (h : j < cs'.length) (m : Nat) (y : _), DataW.trod enc P w 0 (fun _ => true) true m f.type [cs'[j]] = some y := by
      intro i hil
      obtain ⟨cs', hc, ht'⟩ := hi i (by omega)
      rw [hC] at hc
      obtain ⟨ys, n', hn', hy, hlen, hyl, hff⟩ := DataW.trod_struct he ht'
      obtain ⟨_, hcl, hat⟩ := World.cells?_some hc
      refine ⟨cs', hcl, fun j hj => ?_, fun j f hj => ?_⟩
      · rw [hat j (by omega), List.getElem?_eq_getElem hj]
      · obtain ⟨ho, hk⟩ := hone_of hone j f hj
        have hjl : j < fs.size := (Array.getElem?_eq_some_iff.1 hj).1
        have h1 := hff j f hj
        rw [ho, hk, List.drop_eq_getElem_cons (by omega)] at h1
        refine ⟨by omega, n', ys[j]'(by omega), ?_⟩
        rw [List.getElem?_eq_getElem (by omega)] at h1
        exact h1
    by_cases h0 : len = 0
    · subst h0
      exact ⟨0, fun _ _ => .bool false, ⟨_, _, rfl, by omega, .inl rfl⟩, Nat.zero_le _, fun i hi => absurd hi (Nat.not_lt_zero _)⟩
    · obtain ⟨b, off, sp⟩ := x
      have hsp : sp = none ∧ b < w.heap.size := by
        obtain ⟨cs', hl', hcell, _⟩ := each 0 (by omega)
        have h1 := hcell 0 (by omega)
        have h2 : sp = none := by simpa [Addr.add] using World.cell?_spot h1
        subst h2
        rw [addr_add, addr_add] at h1
        exact ⟨rfl, cell_block_lt h1⟩
      obtain ⟨rfl, hlt⟩ := hsp
      obtain ⟨C, hC'⟩ := Go.Deep.choose_lt each
      refine ⟨len, fun i j => (C i).getD j (.bool false), ⟨_, _, rfl, hl, .inr ⟨b, off, rfl, hlt, fun i hil j hj => ?_⟩⟩, by omega, fun i hil j f hj => ?_⟩
      · obtain ⟨h1, h2, _⟩ := hC' i hil
        have h3 := h2 j (by omega)
        rw [addr_add, addr_add] at h3
        rw [h3]
        simp [List.getD, List.getElem?_eq_getElem (show j < (C i).length by omega)]
      · obtain ⟨h1, _, h2⟩ := hC' i hil
        obtain ⟨h3, m', y, h4⟩ := h2 j f hj
        exact ⟨m', y, by simpa [List.getD, List.getElem?_eq_getElem h3] using h4⟩
/-- A struct of one-cell fields, by value. -/
theorem open_struct1 {r : Reach} {b0 : Nat} {t : TypeId} {fs : Array Field} {v : Value} {d : DataW H} {ps : List MemPlace} (ht : P.underlying t = some (.struct fs)) (hone : oneCellFields P fs = true) (hct : P.cellsOf t = fs.size)
    (hval : Value.okWide P w r b0 t v) (hd : DataW.Trod enc P w 0 (fun _ => true) true t v d ps) :
    ∃ cs : Array Value, v = .agg cs ∧ cs.size = fs.size ∧ ∀ (j : Nat) (f : Field), fs[j]? = some f → ∃ u m y, cs[j]? = some u ∧ DataW.trod enc P w 0 (fun _ => true) true m f.type [u] = some y := by
  simp only [Value.okWide, ht] at hval
  obtain ⟨cs, rfl, hsz, _⟩ := hval
  obtain ⟨fuel, hf⟩ := hd
  obtain ⟨ys, n', hn', hy, hlen, hyl, hff⟩ := DataW.trod_struct ht hf
  simp only [Value.cells] at hlen hff
  refine ⟨cs, rfl, by simpa [hct] using hlen, fun j f hj => ?_⟩
  obtain ⟨ho, hk⟩ := hone_of hone j f hj
  have hjl : j < fs.size := (Array.getElem?_eq_some_iff.1 hj).1
  have hl : cs.toList.length = fs.size := by rw [hlen, hct]
  have h1 := hff j f hj
  rw [ho, hk, List.drop_eq_getElem_cons (by omega), List.getElem?_eq_getElem (by omega)] at h1
  exact ⟨cs.toList[j], n', ys[j]'(by omega), by simp [show j < cs.size by simpa using (show j < cs.toList.length by omega)], h1⟩
end
theorem open_lines {H : Type} {enc : TypeId × Value → H} {w : World} {mm : Nat} {v : Value} {y : DataW H × List MemPlace} (hf : DataW.trod enc Try.prog w 0 (fun _ => true) true mm 48 [v] = some y) :
    ∃ ls : List LineD, Lines w v ls ∧ ls.length ≤ maxLen ∧ ∀ x ∈ ls, x.b.length ≤ maxLen := by
  obtain ⟨len, R, hR, hl, hc⟩ := cell_rows Try.underlying48 Try.underlying83 (by kernel_rfl) (by kernel_rfl) (by decide) hf
  have each : ∀ i, i < len → ∃ x : LineD, LineC w (R i) x ∧ x.b.length ≤ maxLen := by
    intro i hi
    obtain ⟨m0, y0, g0⟩ := hc i hi 0 _ rfl
    obtain ⟨m1, y1, g1⟩ := hc i hi 1 _ rfl
    obtain ⟨n0, e0, l0⟩ := cell_nat rfl Try.underlying24 g0
    obtain ⟨b, s1, hb⟩ := cell_bytes Try.underlying28 Try.underlying5 (by kernel_rfl) g1
    exact ⟨⟨n0, b⟩, ⟨e0, s1, l0⟩, hb⟩
  obtain ⟨X, hX⟩ := Go.Deep.choose_lt each
  refine ⟨(List.range len).map X, ⟨R, by simpa using hR, fun i hi => ?_⟩, by simpa using hl, fun x hx => ?_⟩
  · have hi' : i < len := by simpa using hi
    simpa using (hX i hi').1
  · obtain ⟨i, hi, rfl⟩ := List.mem_map.1 hx
    exact (hX i (by simpa using hi)).2
/-- An argument that is a message. -/
theorem open_msg {H : Type} {enc : TypeId × Value → H} {w : World} {r : Reach} {b0 : Nat} {v : Value} {d : DataW H} {ps : List MemPlace}
    (hval : Value.okWide Try.prog w r b0 50 v) (hd : DataW.Trod enc Try.prog w 0 (fun _ => true) true 50 v d ps) :
    ∃ (m : MsgD) (lv : Value), v = .agg (msgCells m lv) ∧ Lines w lv m.ls ∧ MsgOk m ∧ m.ls.length ≤ maxLen ∧ ∀ x ∈ m.ls, x.b.length ≤ maxLen := by
  obtain ⟨cs, rfl, hsz, hc⟩ := open_struct1 Try.underlying50 (by kernel_rfl) (by kernel_rfl) hval hd
  obtain ⟨u0, m0, y0, e0, g0⟩ := hc 0 _ rfl
  obtain ⟨u1, m1, y1, e1, g1⟩ := hc 1 _ rfl
  obtain ⟨u2, m2, y2, e2, g2⟩ := hc 2 _ rfl
  obtain ⟨u3, m3, y3, e3, g3⟩ := hc 3 _ rfl
  obtain ⟨u4, m4, y4, e4, g4⟩ := hc 4 _ rfl
  obtain ⟨u5, m5, y5, e5, g5⟩ := hc 5 _ rfl
  obtain ⟨n0, rfl, l0⟩ := cell_nat rfl Try.underlying5 g0
  obtain ⟨n1, rfl, l1⟩ := cell_nat rfl Try.underlying24 g1
  obtain ⟨n2, rfl, l2⟩ := cell_nat rfl Try.underlying24 g2
  obtain ⟨z3, rfl, l3⟩ := cell_int Try.underlying3 g3
  obtain ⟨z4, rfl, l4⟩ := cell_int Try.underlying3 g4
  obtain ⟨ls, hls, hlen, hb⟩ := open_lines g5
  refine ⟨⟨n0, n1, n2, z3, z4, ls⟩, u5, ?_, hls, ⟨l0, l1, l2, l3, l4⟩, hlen, hb⟩
  congr 1
  have h6 : cs.size = 6 := hsz
  apply Array.ext
  · rw [h6]; rfl
  · intro i hi1 hi2
    have hi : i = 0 ∨ i = 1 ∨ i = 2 ∨ i = 3 ∨ i = 4 ∨ i = 5 := by omega
    rcases hi with rfl | rfl | rfl | rfl | rfl | rfl
    · simpa [msgCells] using Array.getElem?_eq_some_iff.1 e0 |>.2
    · simpa [msgCells] using Array.getElem?_eq_some_iff.1 e1 |>.2
    · simpa [msgCells] using Array.getElem?_eq_some_iff.1 e2 |>.2
    · simpa [msgCells] using Array.getElem?_eq_some_iff.1 e3 |>.2
    · simpa [msgCells] using Array.getElem?_eq_some_iff.1 e4 |>.2
    · simpa [msgCells] using Array.getElem?_eq_some_iff.1 e5 |>.2
end Go.Proofs.Ytgilijkmmcpfjaa
end
section
set_option linter.unusedVariables false
set_option maxRecDepth 100000
namespace Go.Proofs.Ytgilijkmmcpfjaa
open Go.RowKit
open Go.Maps (Keyed keyOf_int_mk int_keyed)
def zbit (x : Bool) : UInt8 := if x then 1 else 0
theorem zbit_inj {a b : Bool} (h : zbit a = zbit b) : a = b := by cases a <;> cases b <;> first | rfl | (simp [zbit] at h)
def zhasD (a b c d : Bool) : DataW Unit := .lit (.string [zbit a, zbit b, zbit c, zbit d])
def zhasA (a b c d : Bool) : Value := .agg #[.bool a, .bool b, .bool c, .bool d]
def zR0 (v : Value) : Option (DataW Unit × List MemPlace) :=
  match v with
  | .agg cs => match cs.toList with
    | [.bool a, .bool b, .bool c, .bool d] => some (zhasD a b c d, [])
    | _ => none
  | _ => none
theorem zR0_mk (a b c d : Bool) : zR0 (zhasA a b c d) = some (zhasD a b c d, []) := rfl
theorem zR0_inv {v : Value} {a b c d : Bool} {ps : List MemPlace} (h : zR0 v = some (zhasD a b c d, ps)) : v = zhasA a b c d := by
  unfold zR0 at h
  split at h
  · rename_i cs
    split at h
    · rename_i a' b' c' d' hcs
      injection h with h
      injection h with h _
      unfold zhasD at h
      injection h with h
      injection h with h
      injection h with h1 h
      injection h with h2 h
      injection h with h3 h
      injection h with h4 h
      obtain rfl := zbit_inj h1
      obtain rfl := zbit_inj h2
      obtain rfl := zbit_inj h3
      obtain rfl := zbit_inj h4
      unfold zhasA
      congr 1
      exact Array.toList_inj.1 hcs
    · cases h
  · cases h
structure zHasV where
  current : Bool
  at_ : Bool
  commit : Bool
  lines : Bool
  ok : Bool
def zkindV (n : Nat) : zHasV := ⟨n == 2, n == 5 || n == 6, n == 5, n == 2 || n == 4 || n == 5, decide (1 ≤ n) && decide (n ≤ 6)⟩
def zkindA (n : Nat) : Value := zhasA (zkindV n).current (zkindV n).at_ (zkindV n).commit (zkindV n).lines
def zKindMap (w : World) (g : Nat) : Prop := ∃ G, MapO w 5 zR0 g 6 G ∧ ∀ n : Nat, n < 256 → G (.int .u8 (n : Int)) = if (zkindV n).ok then some (zhasD (zkindV n).current (zkindV n).at_ (zkindV n).commit (zkindV n).lines) else none
theorem zKindMap.below {w w' : World} {g : Nat} (h : zKindMap w g) (hg : Gr w w') : zKindMap w' g := by
  obtain ⟨G, h1, h2⟩ := h; exact ⟨G, h1.below hg, h2⟩
theorem zK5 : Keyed Try.prog 5 := int_keyed Try.underlying5
theorem zkey5 (n : Nat) (hn : n < 256) : keyOf Try.prog 5 (.int .u8 (n : Int)) = some (.int .u8 (n : Int)) := by
  refine keyOf_int_mk Try.underlying5 ?_
  simp [Lit.wf, IntKind.min, IntKind.max, IntKind.bits, IntKind.signed]; omega
theorem zKindMap.look {w : World} {g : Nat} (h : zKindMap w g) (n : Nat) (hn : n < 256) : (Instr.lookup 115 (.map (some g)) (.int .u8 (n : Int)) true).run Try.prog w = .ok (.tuple #[zkindA n, .bool (zkindV n).ok]) w := by
  obtain ⟨G, h1, h2⟩ := h
  obtain ⟨e1, e2⟩ := MapO.look w zK5 Try.underlying115 (z := zhasA false false false false) (by rfl) h1 (zkey5 n hn)
  have h3 := h2 n hn
  cases hk : (zkindV n).ok with
  | true =>
    rw [hk, if_pos rfl] at h3
    obtain ⟨v, ps, hr, hrun⟩ := e2 _ h3
    rw [hrun, zR0_inv hr]
    rfl
  | false =>
    rw [hk, if_neg (by decide)] at h3
    rw [e1 h3]
    have hn6 : n = 0 ∨ 6 < n := by
      simp [zkindV] at hk; omega
    have : zkindA n = zhasA false false false false := by
      unfold zkindA zkindV
      rcases hn6 with rfl | hn6
      · rfl
      · have e2 : (n == 2) = false := by simp; omega
        have e4 : (n == 4) = false := by simp; omega
        have e5 : (n == 5) = false := by simp; omega
        have e6 : (n == 6) = false := by simp; omega
        simp only [e2, e4, e5, e6]; rfl
    rw [this]
theorem zkinds_any (w : World) : Calls Try.prog 84 #[] w fun e w' => ∃ g, e = .returned (.map (some g)) ∧ zKindMap w' g ∧ Gr w w' := by
  have m0 := run_makeMap' 115 w
  have o0 := MapO.made w 5 zR0
  have g0 : Gr w (w.alloc (.map #[] 0)) := (Gr.refl w).alloc _
  generalize w.alloc (.map #[] 0) = w0 at *
  obtain ⟨w1, f1, r1, o1, a1, b1, g1⟩ := MapO.update w0 (d := zhasD false false false false) (ps := []) zK5 Try.underlying115 o0 (by decide) (show keyOf Try.prog 5 (.int .u8 1) = some (.int .u8 1) from zkey5 1 (by decide)) (zR0_mk false false false false)
  obtain ⟨w2, f2, r2, o2, a2, b2, g2⟩ := MapO.update w1 (d := zhasD true false false true) (ps := []) zK5 Try.underlying115 o1 (by decide) (show keyOf Try.prog 5 (.int .u8 2) = some (.int .u8 2) from zkey5 2 (by decide)) (zR0_mk true false false true)
  obtain ⟨w3, f3, r3, o3, a3, b3, g3⟩ := MapO.update w2 (d := zhasD false false false false) (ps := []) zK5 Try.underlying115 o2 (by decide) (show keyOf Try.prog 5 (.int .u8 3) = some (.int .u8 3) from zkey5 3 (by decide)) (zR0_mk false false false false)
  obtain ⟨w4, f4, r4, o4, a4, b4, g4⟩ := MapO.update w3 (d := zhasD false false false true) (ps := []) zK5 Try.underlying115 o3 (by decide) (show keyOf Try.prog 5 (.int .u8 4) = some (.int .u8 4) from zkey5 4 (by decide)) (zR0_mk false false false true)
  obtain ⟨w5, f5, r5, o5, a5, b5, g5⟩ := MapO.update w4 (d := zhasD false true true true) (ps := []) zK5 Try.underlying115 o4 (by decide) (show keyOf Try.prog 5 (.int .u8 5) = some (.int .u8 5) from zkey5 5 (by decide)) (zR0_mk false true true true)
  obtain ⟨w6, f6, r6, o6, a6, b6, g6⟩ := MapO.update w5 (d := zhasD false true false false) (ps := []) zK5 Try.underlying115 o5 (by decide) (show keyOf Try.prog 5 (.int .u8 6) = some (.int .u8 6) from zkey5 6 (by decide)) (zR0_mk false true false false)
  have hgr : Gr w w6 := by
    have s0 := g0.size
    have gg : w0.grownBy w6 (some w.heap.size) := grownBy_trans (grownBy_trans (grownBy_trans (grownBy_trans (grownBy_trans g1 g2) g3) g4) g5) g6
    exact Below.trans g0 (grownBy_below gg s0 (by intro k hk; injection hk with hk; omega))
  have hkm : zKindMap w6 w.heap.size := by
    refine ⟨f6, o6, fun n hn => ?_⟩
    have ne : ∀ k : Nat, n ≠ k → Lit.int .u8 (n : Int) ≠ .int .u8 (k : Int) := fun k hk e => hk (by injection e with _ e; exact_mod_cast e)
    rcases Nat.lt_or_ge 6 n with h | h
    · rw [b6 _ (ne 6 (by omega)), b5 _ (ne 5 (by omega)), b4 _ (ne 4 (by omega)), b3 _ (ne 3 (by omega)), b2 _ (ne 2 (by omega)), b1 _ (ne 1 (by omega))]
      have : (zkindV n).ok = false := by simp [zkindV]; omega
      rw [this]; rfl
    · have : n = 0 ∨ n = 1 ∨ n = 2 ∨ n = 3 ∨ n = 4 ∨ n = 5 ∨ n = 6 := by omega
      rcases this with rfl | rfl | rfl | rfl | rfl | rfl | rfl
      · rw [b6 _ (ne 6 (by omega)), b5 _ (ne 5 (by omega)), b4 _ (ne 4 (by omega)), b3 _ (ne 3 (by omega)), b2 _ (ne 2 (by omega)), b1 _ (ne 1 (by omega))]; rfl
      · rw [b6 _ (ne 6 (by omega)), b5 _ (ne 5 (by omega)), b4 _ (ne 4 (by omega)), b3 _ (ne 3 (by omega)), b2 _ (ne 2 (by omega))]; exact a1
      · rw [b6 _ (ne 6 (by omega)), b5 _ (ne 5 (by omega)), b4 _ (ne 4 (by omega)), b3 _ (ne 3 (by omega))]; exact a2
      · rw [b6 _ (ne 6 (by omega)), b5 _ (ne 5 (by omega)), b4 _ (ne 4 (by omega))]; exact a3
      · rw [b6 _ (ne 6 (by omega)), b5 _ (ne 5 (by omega))]; exact a4
      · rw [b6 _ (ne 6 (by omega))]; exact a5
      · exact a6
  unfold zhasA at r1 r2 r3 r4 r5 r6
  have HG := Lib.hid hgr
  have HK := Lib.hid hkm
  clear hgr hkm o0 o1 o2 o3 o4 o5 o6 a1 a2 a3 a4 a5 a6 b1 b2 b3 b4 b5 b6 g0 g1 g2 g3 g4 g5 g6
  go_enter Try.func84, Try.ntmps84
  go_wp2
  go_ret
  exact ⟨_, rfl, HK.out, HG.out⟩
end Go.Proofs.Ytgilijkmmcpfjaa
end
section
set_option linter.unusedVariables false
set_option maxRecDepth 100000
namespace Go.Proofs.Ytgilijkmmcpfjaa
open Go.RowKit
def lineV (x : LineD) : Bool := decide (1 ≤ x.e) && decide (x.e ≤ 281474976710656) && decide (1 ≤ x.b.length) && decide (x.b.length ≤ 4096)
def withinV (n : Int) (h : Bool) : Bool := n == 0 || (h && decide (0 < n) && decide (n ≤ 256))
def mayV (m : MsgD) : Bool :=
  (zkindV m.kind).ok && decide (1 ≤ m.epoch) && decide (m.epoch ≤ 281474976710656) && (m.current == 0 || ((zkindV m.kind).current && decide (m.current ≤ m.epoch))) &&
    withinV m.at_ (zkindV m.kind).at_ && withinV m.commit (zkindV m.kind).commit && withinV m.ls.length (zkindV m.kind).lines && m.ls.all lineV
theorem line_any (w : World) (x : LineD) (ba : Option Addr) (bc : Nat) (he : x.e < 2 ^ 64) :
    Calls Try.prog 85 #[.agg #[.int .u64 (x.e : Int), .slice ba x.b.length bc]] w fun e w' => e = .returned (.bool (!lineV x)) ∧ Gr w w' := by
  have key : ∀ b : Bool, (!lineV x) = b → Ending.returned (.bool b) = .returned (.bool (!lineV x)) := fun b h => by rw [h]
  have KEY := Lib.hid key
  clear key
  obtain ⟨n, hn⟩ : ∃ n, n = x.b.length := ⟨_, rfl⟩
  have HN := Lib.hid hn
  rw [← hn]
  clear hn
  obtain ⟨ep, hep⟩ : ∃ ep, ep = x.e := ⟨_, rfl⟩
  have HE := Lib.hid hep
  rw [← hep] at he ⊢
  clear hep
  have hl : lineV x = (decide (1 ≤ ep) && decide (ep ≤ 281474976710656) && decide (1 ≤ n) && decide (n ≤ 4096)) := by unfold lineV; rw [HN.out, HE.out]
  have HL := Lib.hid hl
  clear hl
  by_cases h1 : ep < 1
  · have hv : lineV x = false := by rw [HL.out]; simp; omega
    have HV := Lib.hid hv
    clear hv
    go_enter Try.func85, Try.ntmps85
    go_wp2
    go_ret
    exact ⟨KEY.out _ (by rw [HV.out]; first | rfl | (simp; omega)), (Gr.refl w).alloc _⟩
  by_cases h2 : 281474976710656 < ep
  · have hv : lineV x = false := by rw [HL.out]; simp; omega
    have HV := Lib.hid hv
    clear hv
    go_enter Try.func85, Try.ntmps85
    go_wp2
    go_ret
    exact ⟨KEY.out _ (by rw [HV.out]; first | rfl | (simp; omega)), (Gr.refl w).alloc _⟩
  by_cases h3 : n < 1
  · have hv : lineV x = false := by rw [HL.out]; simp; omega
    have HV := Lib.hid hv
    clear hv
    go_enter Try.func85, Try.ntmps85
    go_wp2
    go_ret
    exact ⟨KEY.out _ (by rw [HV.out]; first | rfl | (simp; omega)), (Gr.refl w).alloc _⟩
  by_cases h4 : 4096 < n
  · have hv : lineV x = false := by rw [HL.out]; simp; omega
    have HV := Lib.hid hv
    clear hv
    go_enter Try.func85, Try.ntmps85
    go_wp2
    go_ret
    exact ⟨KEY.out _ (by rw [HV.out]; first | rfl | (simp; omega)), (Gr.refl w).alloc _⟩
  · have hv : lineV x = true := by rw [HL.out]; simp; omega
    have HV := Lib.hid hv
    clear hv
    go_enter Try.func85, Try.ntmps85
    go_wp2
    go_ret
    exact ⟨KEY.out _ (by rw [HV.out]; first | rfl | (simp; omega)), (Gr.refl w).alloc _⟩
theorem within_any (w : World) (n : Int) (h : Bool) : Calls Try.prog 86 #[.int .i64 n, .bool h] w fun e w' => e = .returned (.bool (withinV n h)) ∧ w' = w := by
  have key : ∀ b : Bool, withinV n h = b → Ending.returned (.bool b) = .returned (.bool (withinV n h)) := fun b h => by rw [h]
  have KEY := Lib.hid key
  clear key
  by_cases h0 : n = 0
  · have hb : (n == 0) = true := by simp [h0]
    go_enter Try.func86, Try.ntmps86
    go_wp2
    go_ret
    exact ⟨KEY.out _ (by unfold withinV; simp [h0]), rfl⟩
  have hb : (n == 0) = false := by simp [h0]
  cases h with
  | false =>
    go_enter Try.func86, Try.ntmps86
    go_wp2
    go_ret
    exact ⟨KEY.out _ (by unfold withinV; simp [h0]), rfl⟩
  | true =>
    by_cases h1 : 0 < n
    · by_cases h2 : n ≤ 256
      · go_enter Try.func86, Try.ntmps86
        go_wp2
        go_ret
        exact ⟨KEY.out _ (by unfold withinV; simp [h1, h2]), rfl⟩
      · go_enter Try.func86, Try.ntmps86
        go_wp2
        go_ret
        exact ⟨KEY.out _ (by unfold withinV; simp [h0]; intros; omega), rfl⟩
    · go_enter Try.func86, Try.ntmps86
      go_wp2
      go_ret
      exact ⟨KEY.out _ (by unfold withinV; simp [h0]; intros; omega), rfl⟩
theorem enters_line (args : Array Value) (W : World) : (callFunc 85 args).run Try.prog W = .ok (.enter 85 args) W := by simp [go_sem]
set_option maxHeartbeats 400000 in
theorem zindex_any (w : World) (lv : Value) (ls : List LineD) (h : Lines w lv ls) (hl : ls.length ≤ maxLen) :
    Calls Try.prog 103 #[lv, .func (.func 85) #[] #[]] w fun e w' => (∃ z : Int, e = .returned (.int .i64 z) ∧ decide (0 ≤ z) = !ls.all lineV) ∧ Gr w w' := by
  obtain ⟨a, cap, rfl⟩ := h.shape
  have hm : maxLen ≤ 9223372036854775807 := by decide
  have H := Lib.hid h
  have hm63 : ls.length ≤ 9223372036854775807 := Nat.le_trans hl hm
  clear h hl hm
  go_enter Try.func103, Try.ntmps103
  go_wp2
  go_loopw [5, 8] (fun s5 i wr => ∃ k : Nat, k ≤ ls.length ∧ i = .int .i64 k ∧ (∀ x ∈ ls.take k, lineV x = true) ∧ Gr w wr) (fun _ i _ => ls.length - (intOf i).toNat)
  case atStart => exact ⟨0, Nat.zero_le _, rfl, by simp, Gr.refl w⟩
  case round =>
    obtain ⟨k, hk, rfl, hall, br⟩ := hrel
    obtain ⟨wo, rfl⟩ : ∃ wo : World, wo = wr := ⟨_, rfl⟩
    have HALL := Lib.hid hall
    clear hall
    by_cases hlt : k < ls.length
    · obtain ⟨B, o, ba, bc, rfl, hB, c0, c1, hs, he⟩ := H.out.row k hlt
      have d0 := (br.cell (p := ⟨B, o + k * 2, none⟩) hB).trans c0
      have d1 := (br.cell (p := ⟨B, o + k * 2 + 1, none⟩) hB).trans c1
      obtain ⟨x, hx⟩ : ∃ x, x = ls[k] := ⟨_, rfl⟩
      rw [← hx] at d0 d1 he
      have HX := Lib.hid hx
      have i1 : (0 : Int) ≤ (k : Int) := by omega
      have i2 : (k : Int) < (ls.length : Int) := by omega
      clear hx c0 c1 hs
      go_wp2_with fail
      refine (line_any _ x ba bc he).mono ?_
      rintro e w2 ⟨rfl, g2⟩
      have b2 := Gr.trans br g2
      cases hv : lineV x with
      | false =>
        have hno : ls.all lineV = false := by
          rw [List.all_eq_false]
          exact ⟨ls[k], List.getElem_mem hlt, by rw [← HX.out, hv]; decide⟩
        have HNO := Lib.hid hno
        clear hno
        go_wp2
        go_ret
        exact ⟨⟨_, rfl, by rw [HNO.out]; simp⟩, b2⟩
      | true =>
        go_wp2
        go_roundw
        case rel =>
          refine ⟨k + 1, by omega, by go_num, fun y hy => ?_, b2⟩
          rw [List.take_add_one, List.getElem?_eq_getElem hlt] at hy
          rcases List.mem_append.1 hy with hy | hy
          · exact HALL.out y hy
          · have : y = ls[k] := by simpa using hy
            rw [this, ← HX.out, hv]
        case measure => simp [intOf]; omega
    · have hno : ls.all lineV = true := by
        rw [List.all_eq_true]
        intro y hy
        exact HALL.out y (by rw [List.take_of_length_le (by omega)]; exact hy)
      have HNO := Lib.hid hno
      clear hno
      go_wp2
      go_ret
      exact ⟨⟨_, rfl, by rw [HNO.out]; rfl⟩, br⟩
theorem zcontains_any (w : World) (lv : Value) (ls : List LineD) (h : Lines w lv ls) (hl : ls.length ≤ maxLen) :
    Calls Try.prog 87 #[lv, .func (.func 85) #[] #[]] w fun e w' => e = .returned (.bool (!ls.all lineV)) ∧ Gr w w' := by
  have h' := h
  obtain ⟨a, cap, rfl⟩ := h'.shape
  go_enter Try.func87, Try.ntmps87
  go_wp2_with fail
  refine (zindex_any _ _ ls h hl).mono ?_
  rintro e w2 ⟨⟨z, rfl, hz⟩, g2⟩
  have HZ := Lib.hid hz
  clear hz
  go_wp2
  go_ret
  exact ⟨by rw [← HZ.out]; rfl, g2⟩
end Go.Proofs.Ytgilijkmmcpfjaa
end
