/-
  zmsg.Get, the plain part: what is read of a reader; lines of the call's own.
  zmsg.Get: a message read.
-/
import Derived.Test.YtgilijkmmcpfjaaZZMay
import Derived.Test.YtgilijkmmcpfjaaZEnReadF
import Derived.Test.YtgilijkmmcpfjaaZD
import Derived.Test.YtgilijkmmcpfjaaZB
import Derived.Test.YtgilijkmmcpfjaaZC
section
set_option linter.unusedVariables false
set_option maxRecDepth 100000
namespace Go.Proofs.Ytgilijkmmcpfjaa
open Go.RowKit
/-! ### What is read -/
def rLine (s : RS) : LineD × RS := (⟨(rUint s).1, (rText (rUint s).2).1⟩, (rText (rUint s).2).2)
def rLines : Nat → RS → List LineD × RS
  | 0, s => ([], s)
  | n + 1, s => ((rLines n s).1 ++ [(rLine (rLines n s).2).1], (rLine (rLines n s).2).2)
theorem rLines_length (n : Nat) (s : RS) : (rLines n s).1.length = n := by
  induction n with
  | zero => rfl
  | succ n ih => simp [rLines, ih]
theorem rLine_left (s : RS) : (rLine s).2.1.length ≤ s.1.length := Nat.le_trans (rText_left _) (rUint_left _)
theorem rLines_left (n : Nat) (s : RS) : (rLines n s).2.1.length ≤ s.1.length := by
  induction n with
  | zero => exact Nat.le_refl _
  | succ n ih => exact Nat.le_trans (rLine_left _) ih
theorem rLine_bad (l : List UInt8) : rLine (l, true) = (⟨0, []⟩, (l, true)) := by simp [rLine, rUint_bad, rText_bad]
theorem rLines_bad (n : Nat) (l : List UInt8) : (rLines n (l, true)).2 = (l, true) := by
  induction n with
  | zero => rfl
  | succ n ih => show (rLine (rLines n (l, true)).2).2 = _; rw [ih, rLine_bad]
theorem rLines_more (n k : Nat) (s : RS) : (rLines (n + k) s).2 = (rLines k (rLines n s).2).2 := by
  induction k with
  | zero => rfl
  | succ k ih => show (rLine (rLines (n + k) s).2).2 = (rLine (rLines k (rLines n s).2).2).2; rw [ih]
theorem rLines_head (n : Nat) : ∀ s : RS, rLines (n + 1) s = ((rLine s).1 :: (rLines n (rLine s).2).1, (rLines n (rLine s).2).2) := by
  induction n with
  | zero => intro s; rfl
  | succ n ih =>
    intro s
    show ((rLines (n + 1) s).1 ++ [(rLine (rLines (n + 1) s).2).1], (rLine (rLines (n + 1) s).2).2) = _
    rw [ih s]
    rfl
def r1 (s : RS) : RS := (rByte s).2
def r2 (s : RS) : RS := (rUint (r1 s)).2
def r3 (s : RS) : RS := (rUint (r2 s)).2
def r4 (s : RS) : RS := (rCount 256 (r3 s)).2
def r5 (s : RS) : RS := (rCount 256 (r4 s)).2
def r6 (s : RS) : RS := (rCount 256 (r5 s)).2
def gotN (s : RS) : Nat := (rCount 256 (r5 s)).1
def gotM (s : RS) : MsgD := ⟨(rByte s).1, (rUint (r1 s)).1, (rUint (r2 s)).1, ((rCount 256 (r3 s)).1 : Int), ((rCount 256 (r4 s)).1 : Int), (rLines (gotN s) (r6 s)).1⟩
def gotS (s : RS) : RS := (rLines (gotN s) (r6 s)).2
def zgetV (s : RS) : Bool := decide (rDone (gotS s) = 0) && mayV (gotM s)
theorem rCount_256 (s : RS) : (rCount 256 s).1 ≤ 256 := by
  unfold rCount
  split
  · exact Nat.zero_le _
  · omega
theorem gotN_le (s : RS) : gotN s ≤ 256 := rCount_256 _
theorem r1_left (s : RS) : (r1 s).1.length ≤ s.1.length := rByte_left s
theorem r2_left (s : RS) : (r2 s).1.length ≤ s.1.length := Nat.le_trans (rUint_left _) (r1_left s)
theorem r3_left (s : RS) : (r3 s).1.length ≤ s.1.length := Nat.le_trans (rUint_left _) (r2_left s)
theorem r4_left (s : RS) : (r4 s).1.length ≤ s.1.length := Nat.le_trans (rCount_left _ _) (r3_left s)
theorem r5_left (s : RS) : (r5 s).1.length ≤ s.1.length := Nat.le_trans (rCount_left _ _) (r4_left s)
theorem r6_left (s : RS) : (r6 s).1.length ≤ s.1.length := Nat.le_trans (rCount_left _ _) (r5_left s)
theorem gotM_ok (s : RS) : MsgOk (gotM s) := by
  have h1 := rByte_lt s
  have h2 := rUint_lt (r1 s)
  have h3 := rUint_lt (r2 s)
  have h4 := rCount_256 (r3 s)
  have h5 := rCount_256 (r4 s)
  refine ⟨h1, h2, h3, ⟨?_, ?_⟩, ⟨?_, ?_⟩⟩
  · show (-9223372036854775808 : Int) ≤ ((rCount 256 (r3 s)).1 : Int); omega
  · show ((rCount 256 (r3 s)).1 : Int) ≤ 9223372036854775807; omega
  · show (-9223372036854775808 : Int) ≤ ((rCount 256 (r4 s)).1 : Int); omega
  · show ((rCount 256 (r4 s)).1 : Int) ≤ 9223372036854775807; omega
theorem gotM_len (s : RS) : (gotM s).ls.length = gotN s := rLines_length _ _
/-! ### Lines of the call's own -/
/-- The lines that a call made: rows in a block from B on; their texts in others. -/
def LinesR (w : World) (B : Nat) (lv : Value) (ls : List LineD) : Prop :=
  ∃ rs : List (List Value), OwnR w B 83 2 lv rs ∧ rs.length = ls.length ∧
    ∀ (i : Nat) (h : i < ls.length), ∃ vb, rs[i]? = some [.int .u64 (ls[i].e : Int), vb] ∧ Own w B 5 vb (bytes ls[i].b) ∧ (∀ k, vb.ownBlock = some k → lv.ownBlock ≠ some k) ∧ ls[i].e < 2 ^ 64
theorem LinesR.nil (w : World) (B : Nat) : LinesR w B (.slice none 0 0) [] := ⟨[], OwnR.nil w B 83 2, rfl, fun i h => absurd h (Nat.not_lt_zero _)⟩
theorem Own.lt' {w : World} {base : Nat} {e : TypeId} {v : Value} {xs : List Value} (h : Own w base e v xs) (j : Nat) (hj : v.ownBlock = some j) : base ≤ j ∧ j < w.heap.size := World.ownsRow.lt h j hj
theorem Own.block {w w' : World} {base : Nat} {e : TypeId} {v : Value} {xs : List Value} (h : Own w base e v xs) (hb : ∀ j, v.ownBlock = some j → w'.heap[j]? = w.heap[j]?) : Own w' base e v xs := by
  refine ⟨h.1, ?_⟩
  rcases h.2 with hn | ⟨g, cap, cur, rfl, h1, h2, rest⟩
  · exact .inl hn
  · exact .inr ⟨g, cap, cur, rfl, h1, (hb g rfl).trans h2, rest⟩
theorem LinesR.shape {w : World} {B : Nat} {lv : Value} {ls : List LineD} (h : LinesR w B lv ls) : ∃ a cap, lv = .slice a ls.length cap := by
  obtain ⟨rs, h1, h2, _⟩ := h
  rw [← h2]
  exact h1.shape
theorem LinesR.lt {w : World} {B : Nat} {lv : Value} {ls : List LineD} (h : LinesR w B lv ls) : ∀ j, lv.ownBlock = some j → B ≤ j ∧ j < w.heap.size := by
  obtain ⟨rs, h1, _⟩ := h
  exact h1.lt
theorem LinesR.mono {w : World} {B B' : Nat} {lv : Value} {ls : List LineD} (h : LinesR w B lv ls) (hb : B' ≤ B) : LinesR w B' lv ls := by
  obtain ⟨rs, h1, h2, h3⟩ := h
  refine ⟨rs, h1.mono hb, h2, fun i hi => ?_⟩
  obtain ⟨vb, q1, q2, q3⟩ := h3 i hi
  exact ⟨vb, q1, q2.mono hb, q3⟩
theorem LinesR.blocks {w w' : World} {B : Nat} {lv : Value} {ls : List LineD} (h : LinesR w B lv ls) (hb : ∀ j, B ≤ j → j < w.heap.size → w'.heap[j]? = w.heap[j]?) : LinesR w' B lv ls := by
  obtain ⟨rs, h1, h2, h3⟩ := h
  refine ⟨rs, h1.block fun j hj => hb j (h1.lt j hj).1 (h1.lt j hj).2, h2, fun i hi => ?_⟩
  obtain ⟨vb, q1, q2, q3⟩ := h3 i hi
  exact ⟨vb, q1, q2.block fun j hj => hb j (q2.lt' j hj).1 (q2.lt' j hj).2, q3⟩
theorem LinesR.below {w w' : World} {B : Nat} {lv : Value} {ls : List LineD} (h : LinesR w B lv ls) (hg : Gr w w') : LinesR w' B lv ls := h.blocks fun j _ hj => hg.block j hj
theorem LinesR.ch {ρ : Nat → Prop} {w w' : World} {B : Nat} {lv : Value} {ls : List LineD} (h : LinesR w B lv ls) (hg : Ch ρ w w') (hr : ∀ k, ρ k → k < B) : LinesR w' B lv ls :=
  h.blocks fun j h1 h2 => hg.block j h2 fun hk => by have := hr j hk; omega
theorem LinesR.lines {w : World} {B : Nat} {lv : Value} {ls : List LineD} (h : LinesR w B lv ls) : Lines w lv ls := by
  obtain ⟨rs, h1, h2, h3⟩ := h
  refine ⟨_, by rw [← h2]; exact h1.rows, fun i hi => ?_⟩
  obtain ⟨vb, q1, q2, _, q4⟩ := h3 i hi
  have e : rs.getD i [] = [.int .u64 (ls[i].e : Int), vb] := by rw [List.getD_eq_getElem?_getD, q1]; rfl
  unfold LineC
  rw [e]
  exact ⟨rfl, q2.sl, q4⟩
theorem info_line : (Try.prog.info? 83).map (fun i => (i.zero, i.size, i.bytes)) = some (some (.agg #[.int .u64 0, .slice none 0 0]), 2, 32) := by kernel_rfl
/-- One line more. -/
theorem run_append_line (w : World) (B : Nat) (lv y vb : Value) (ls : List LineD) (x : LineD) (hown : LinesR w B lv ls) (R : Nat → Nat → Value) (hy : Rows w y 1 2 R) (h0 : R 0 0 = .int .u64 (x.e : Int)) (h1 : R 0 1 = vb)
    (hv : Own w B 5 vb (bytes x.b)) (hne : ∀ k, vb.ownBlock = some k → lv.ownBlock ≠ some k) (he : x.e < 2 ^ 64) (hl : ls.length ≤ 1000) (hB : B ≤ w.heap.size) :
    ∃ v' w', (Builtin.append_ #[48, 48] 48 #[lv, y]).run Try.prog w = .ok v' w' ∧ LinesR w' B v' (ls ++ [x]) ∧ w.grownBy w' lv.ownBlock ∧
      ((∃ g cap, lv = .slice (some ⟨g, 0, none⟩) ls.length cap ∧ ls.length + 1 ≤ cap ∧ v' = .slice (some ⟨g, 0, none⟩) (ls.length + 1) cap) ∨
        ((∀ a n cap, lv = .slice a n cap → cap < ls.length + 1) ∧ w.grownBy w' none ∧ ∃ j, v'.ownBlock = some j ∧ w.heap.size ≤ j)) := by
  obtain ⟨i0, hi0, hz0, hz1, hz2⟩ := info_parts info_line
  obtain ⟨rs, o1, o2, o3⟩ := hown
  have hvs : ∃ a n c, vb = .slice a n c := by obtain ⟨a, c, e⟩ := hv.shape; exact ⟨a, _, c, e⟩
  obtain ⟨v', w', hr, p1, p2, p3, p4⟩ := run_append_rows (P := Try.prog) w B 48 48 83 i0 _ 2 32 Try.underlying48 hi0 hz0 hz1 hz2 (by rfl) lv y rs [[.int .u64 (x.e : Int), vb]] o1 R hy
    (by
      intro i hi
      obtain rfl : i = 0 := by simp at hi; omega
      refine ⟨rfl, fun j hj => ?_⟩
      match j, hj with
      | 0, _ => exact h0.symm
      | 1, _ => exact h1.symm)
    (by
      intro r hr u hu
      obtain rfl : r = [.int .u64 (x.e : Int), vb] := by simpa using hr
      rcases List.mem_cons.1 hu with rfl | hu
      · rfl
      · obtain rfl : u = vb := by simpa using hu
        obtain ⟨a, n, c, rfl⟩ := hvs
        rfl)
    (by rw [o2]; unfold maxLen; simp; omega) (by rw [o2]; simp; omega) hB
  have hnew : v'.ownBlock = lv.ownBlock ∨ ∃ j, v'.ownBlock = some j ∧ w.heap.size ≤ j := p3
  have keep : ∀ (u : Value) (xs : List Value), Own w B 5 u xs → (∀ k, u.ownBlock = some k → lv.ownBlock ≠ some k) → Own w' B 5 u xs ∧ ∀ k, u.ownBlock = some k → v'.ownBlock ≠ some k := by
    intro u xs hu hun
    refine ⟨hu.block fun j hj => p2.block j (hu.lt' j hj).2 (fun e => hun j hj e.symm), fun k hk e => ?_⟩
    rcases hnew with h | ⟨j, h, hj⟩
    · exact hun k hk (h ▸ e)
    · rw [h] at e
      injection e with e
      have := (hu.lt' k hk).2
      omega
  have hlen : ([[.int .u64 (x.e : Int), vb]] : List (List Value)).length = 1 := rfl
  refine ⟨v', w', hr, ⟨rs ++ [[.int .u64 (x.e : Int), vb]], p1, by simp [o2], fun i hi => ?_⟩, p2, ?_⟩
  · by_cases hlt : i < ls.length
    · obtain ⟨vb', q1, q2, q3, q4⟩ := o3 i hlt
      have k := keep vb' _ q2 q3
      rw [List.getElem_append_left hlt, List.getElem?_append_left (by omega)]
      exact ⟨vb', q1, k.1, k.2, q4⟩
    · obtain rfl : i = ls.length := by simp at hi; omega
      have k := keep vb _ hv hne
      rw [List.getElem_append_right (Nat.le_refl _), List.getElem?_append_right (by omega)]
      refine ⟨vb, ?_, ?_, k.2, ?_⟩
      · simp [o2]
      · simpa using k.1
      · simpa using he
  · have := p4 (by simp)
    rw [o2] at this
    exact this
end Go.Proofs.Ytgilijkmmcpfjaa
end
section
set_option linter.unusedVariables false
set_option maxRecDepth 100000
namespace Go.Proofs.Ytgilijkmmcpfjaa
open Go.RowKit
def zzeroM : Array Value := #[.int .u8 0, .int .u64 0, .int .u64 0, .int .i64 0, .int .i64 0, .slice none 0 0]
def zRetGet (w : World) (s : RS) (e : Ending) (w' : World) : Prop :=
  Gr w w' ∧ if zgetV s then ∃ lv, e = .returned (.tuple #[.agg (msgCells (gotM s) lv), .int .i64 0]) ∧ LinesR w' w.heap.size lv (gotM s).ls else e = .returned (.tuple #[.agg zzeroM, .int .i64 2])
def stL (s : RS) : Nat → RS
  | 0 => s
  | 1 => (rUint s).2
  | _ => (rText (rUint s).2).2
/-- The cells of a message's block. -/
def MsgAt (w : World) (b : Nat) (m : MsgD) (lv : Value) : Prop := w.heap[b]? = some (.cells (msgCells m lv) 50 (0, 0))
theorem MsgAt.cells {w : World} {b : Nat} {m : MsgD} {lv : Value} (h : MsgAt w b m lv) : w.cell? ⟨b, 0, none⟩ = some (.int .u8 (m.kind : Int)) ∧ w.cell? ⟨b, 1, none⟩ = some (.int .u64 (m.epoch : Int)) ∧ w.cell? ⟨b, 2, none⟩ = some (.int .u64 (m.current : Int)) ∧
    w.cell? ⟨b, 3, none⟩ = some (.int .i64 m.at_) ∧ w.cell? ⟨b, 4, none⟩ = some (.int .i64 m.commit) ∧ w.cell? ⟨b, 5, none⟩ = some lv ∧ w.frozen? ⟨b, 5, none⟩ = false := by
  unfold MsgAt at h
  exact ⟨by rw [cell_of_block h]; rfl, by rw [cell_of_block h]; rfl, by rw [cell_of_block h]; rfl, by rw [cell_of_block h]; rfl, by rw [cell_of_block h]; rfl, by rw [cell_of_block h]; rfl, unfrozen_of_block h 5⟩
theorem MsgAt.store {w : World} {b : Nat} {m : MsgD} {lv : Value} (h : MsgAt w b m lv) (v : Value) : MsgAt (w.setCell ⟨b, 5, none⟩ v) b m v := by
  unfold MsgAt
  rw [block_setCell h]
  rfl
theorem MsgAt.block {w w' : World} {b : Nat} {m : MsgD} {lv : Value} (h : MsgAt w b m lv) (he : w'.heap[b]? = w.heap[b]?) : MsgAt w' b m lv := he.trans h
theorem MsgAt.lt {w : World} {b : Nat} {m : MsgD} {lv : Value} (h : MsgAt w b m lv) : b < w.heap.size := block_lt h
theorem setCell_below {B b : Nat} (w : World) (v : Value) (i : Nat) (hb : B ≤ b) : Below B w (w.setCell ⟨b, i, none⟩ v) := (Below.refl B w).setCell hb _
/-- A row of one line, newly made. -/
def OneLine (w : World) (B : Nat) (u : Value) (e : Nat) (v : Value) : Prop := ∃ b cap, u = .slice (some ⟨b, 0, none⟩) 1 cap ∧ 1 ≤ cap ∧ B ≤ b ∧ b < w.heap.size ∧ w.cell? ⟨b, 0, none⟩ = some (.int .u64 (e : Int)) ∧ w.cell? ⟨b, 1, none⟩ = some v
theorem OneLine.block {w w' : World} {B : Nat} {u v : Value} {e : Nat} (h : OneLine w B u e v) (hs : w.heap.size ≤ w'.heap.size) (hb : ∀ j, B ≤ j → j < w.heap.size → w'.heap[j]? = w.heap[j]?) : OneLine w' B u e v := by
  obtain ⟨b, cap, e1, e2, e3, e4, e5, e6⟩ := h
  exact ⟨b, cap, e1, e2, e3, Nat.lt_of_lt_of_le e4 hs, (World.cell?_of_block (a := ⟨b, 0, none⟩) (hb b e3 e4)).trans e5, (World.cell?_of_block (a := ⟨b, 1, none⟩) (hb b e3 e4)).trans e6⟩
theorem OneLine.rows {w : World} {B : Nat} {u v : Value} {e : Nat} (h : OneLine w B u e v) : Rows w u 1 2 (fun _ j => if j = 0 then .int .u64 (e : Int) else v) := by
  obtain ⟨b, cap, e1, e2, e3, e4, e5, e6⟩ := h
  refine ⟨_, cap, e1, e2, .inr ⟨b, 0, rfl, e4, fun i hi j hj => ?_⟩⟩
  obtain rfl : i = 0 := by omega
  rcases (by omega : j = 0 ∨ j = 1) with rfl | rfl
  · simpa using e5
  · simpa using e6
def put6 (w : World) (b : Nat) (u0 u1 u2 u3 u4 u5 : Value) : World := ((((((w.setCell ⟨b, 0, none⟩ u0).setCell ⟨b, 1, none⟩ u1).setCell ⟨b, 2, none⟩ u2).setCell ⟨b, 3, none⟩ u3).setCell ⟨b, 4, none⟩ u4).setCell ⟨b, 5, none⟩ u5)
theorem put6_block {w : World} {b : Nat} (h : w.heap[b]? = some (.cells zzeroM 50 (0, 0))) (u0 u1 u2 u3 u4 u5 : Value) : (put6 w b u0 u1 u2 u3 u4 u5).heap[b]? = some (.cells #[u0, u1, u2, u3, u4, u5] 50 (0, 0)) := by
  unfold put6
  rw [block_setCell (block_setCell (block_setCell (block_setCell (block_setCell (block_setCell h _) _) _) _) _)]
  rfl
theorem put6_grown (w : World) (b : Nat) (u0 u1 u2 u3 u4 u5 : Value) : w.grownBy (put6 w b u0 u1 u2 u3 u4 u5) (some b) :=
  grownBy_trans (grownBy_trans (grownBy_trans (grownBy_trans (grownBy_trans (grownBy_setCell w b 0 u0) (grownBy_setCell _ b 1 u1)) (grownBy_setCell _ b 2 u2)) (grownBy_setCell _ b 3 u3)) (grownBy_setCell _ b 4 u4)) (grownBy_setCell _ b 5 u5)
theorem six_of_block {w : World} {b : Nat} {u0 u1 u2 u3 u4 u5 : Value} (h : w.heap[b]? = some (.cells #[u0, u1, u2, u3, u4, u5] 50 (0, 0))) : w.cell? ⟨b, 0, none⟩ = some u0 ∧ w.cell? ⟨b, 1, none⟩ = some u1 ∧ w.cell? ⟨b, 2, none⟩ = some u2 ∧ w.cell? ⟨b, 3, none⟩ = some u3 ∧ w.cell? ⟨b, 4, none⟩ = some u4 ∧ w.cell? ⟨b, 5, none⟩ = some u5 :=
  ⟨by rw [cell_of_block h]; rfl, by rw [cell_of_block h]; rfl, by rw [cell_of_block h]; rfl, by rw [cell_of_block h]; rfl, by rw [cell_of_block h]; rfl, by rw [cell_of_block h]; rfl⟩
set_option maxHeartbeats 4000000 in
theorem get_any (w : World) (v : Value) (l : List UInt8) (hs : Sl w v (bytes l)) (hl : l.length ≤ 1000000000) :
    Calls Try.prog 17 #[v] w (zRetGet w (l, false)) := by
  obtain ⟨a, cap, rfl, _, _⟩ := hs.bytes
  obtain ⟨s0, hs0⟩ : ∃ s0 : RS, s0 = (l, false) := ⟨_, rfl⟩
  have HS0 := Lib.hid hs0
  have l0 : s0.1.length ≤ 1000000000 := by rw [hs0]; exact hl
  have l1 := Nat.le_trans (r1_left s0) l0
  have l2 := Nat.le_trans (r2_left s0) l0
  have l3 := Nat.le_trans (r3_left s0) l0
  have l4 := Nat.le_trans (r4_left s0) l0
  have l5 := Nat.le_trans (r5_left s0) l0
  have l6 := Nat.le_trans (r6_left s0) l0
  obtain ⟨w1, hw1⟩ : ∃ w1, w1 = w.alloc (.cells zzeroM 50) := ⟨_, rfl⟩
  have g1 : Gr w w1 := by rw [hw1]; exact (Gr.refl w).alloc _
  have hb1 : w1.heap[w.heap.size]? = some (.cells zzeroM 50 (0, 0)) := by rw [hw1]; exact heap_alloc_new w _
  have hz1 : w1.heap.size = w.heap.size + 1 := by rw [hw1]; simp
  have hs1 := hs.below g1
  have HW1 := Lib.hid hw1
  have HB1 := Lib.hid hb1
  clear hw1 hb1 hs hs0
  unfold zzeroM at HW1
  go_enter Try.func17, Try.ntmps17
  go_wp2_with fail
  rw [← HW1.out]
  refine (new2_any _ l _ hs1 hl).mono ?_
  rintro e w2 ⟨g, rfl, hr, b2⟩
  rw [← HS0.out] at hr
  obtain ⟨hg1, hg2⟩ : w1.heap.size ≤ g ∧ g < w2.heap.size := hr.1
  have up : ∀ {a b : World}, w1.heap.size ≤ a.heap.size → a.grownBy b (some g) → Below w1.heap.size a b := fun ha hg => grownBy_below hg ha (fun k hk => by cases hk; exact hg1)
  clear hs1
  go_wp2_with fail
  refine (get_byte _ (Mid w1 w2) g s0 hr l0).mono ?_
  rintro e w3 ⟨rfl, hr3, k3⟩
  have b3 := b2.trans (up b2.size k3)
  have z3 := k3.size
  clear hr k3
  go_wp2_with fail
  refine (get_uint _ (Mid w1 w2) g (r1 s0) hr3 l1).mono ?_
  rintro e w4 ⟨rfl, hr4, k4⟩
  have b4 := b3.trans (up b3.size k4)
  have z4 := k4.size
  clear hr3 k4 b3
  go_wp2_with fail
  refine (get_uint _ (Mid w1 w2) g (r2 s0) hr4 l2).mono ?_
  rintro e w5 ⟨rfl, hr5, k5⟩
  have b5 := b4.trans (up b4.size k5)
  have z5 := k5.size
  clear hr4 k5 b4
  go_wp2_with fail
  refine (get_count _ (Mid w1 w2) g (r3 s0) 256 (by decide) hr5 l3).mono ?_
  rintro e w6 ⟨rfl, hr6, k6⟩
  have b6 := b5.trans (up b5.size k6)
  have z6 := k6.size
  clear hr5 k6 b5
  go_wp2_with fail
  refine (get_count _ (Mid w1 w2) g (r4 s0) 256 (by decide) hr6 l4).mono ?_
  rintro e w7 ⟨rfl, hr7, k7⟩
  have b7 := b6.trans (up b6.size k7)
  have z7 := k7.size
  clear hr6 k7 b6
  have hr7 : Rs w7 (Mid w1 w2) g (r5 s0) := hr7
  obtain ⟨m0, hm0⟩ : ∃ m0 : MsgD, m0 = ⟨(rByte s0).1, (rUint (r1 s0)).1, (rUint (r2 s0)).1, ((rCount 256 (r3 s0)).1 : Int), ((rCount 256 (r4 s0)).1 : Int), []⟩ := ⟨_, rfl⟩
  obtain ⟨w8, hw8⟩ : ∃ w8, w8 = w7.alloc (.cells (msgCells m0 (.slice none 0 0)) 50) := ⟨_, rfl⟩
  have g8 : Gr w7 w8 := by rw [hw8]; exact (Gr.refl w7).alloc _
  have hb8 : MsgAt w8 w7.heap.size m0 (.slice none 0 0) := by unfold MsgAt; rw [hw8]; exact heap_alloc_new w7 _
  have hz8 : w8.heap.size = w7.heap.size + 1 := by rw [hw8]; simp
  have hr8 := Rs.gr hr7 g8
  have b8 := b7.trans (Below.mono g8 b7.size)
  have hbm : w2.heap.size ≤ w7.heap.size := by omega
  have HW8 := Lib.hid hw8
  have HM0 := Lib.hid hm0
  have HB8 := Lib.hid hb8
  rw [hm0] at HW8
  unfold msgCells at HW8
  clear hw8 hm0 hb8 hr7
  go_wp2_with fail
  rw [← HW8.out]
  refine (get_count _ (Mid w1 w2) g (r5 s0) 256 (by decide) hr8 l5).mono ?_
  rintro e w9 ⟨rfl, hr9, k9⟩
  have b9 := b8.trans (up b8.size k9)
  have z9 := k9.size
  have hr9 : Rs w9 (Mid w1 w2) g (r6 s0) := hr9
  have h9 : MsgAt w9 w7.heap.size m0 (.slice none 0 0) := HB8.out.block (k9.block _ HB8.out.lt (fun e => by injection e; omega))
  have hn : (rCount 256 (r5 s0)).1 = gotN s0 := rfl
  have hn256 := gotN_le s0
  rw [hn]
  clear hr8 k9 b8 b7 g8 hn b2
  generalize w7.heap.size = bm at *
  have H9 := Lib.hid h9
  clear h9
  go_wp2_with fail
  go_loopw [21] (fun i wr => ∃ k : Nat, k ≤ gotN s0 ∧ i = .int .i64 k ∧ Rs wr (Mid w1 w2) g (rLines k (r6 s0)).2 ∧ Below w1.heap.size w1 wr ∧ ∃ lv, MsgAt wr bm m0 lv ∧ LinesR wr (bm + 1) lv (rLines k (r6 s0)).1) (fun i _ => gotN s0 - (intOf i).toNat)
  case atStart => exact ⟨0, Nat.zero_le _, rfl, hr9, b9, _, H9.out, LinesR.nil _ _⟩
  case round =>
    clear hr9 b9
    obtain ⟨k, hk, rfl, hr, bW, lv, hm, hlv⟩ := hrel
    obtain ⟨wo, rfl⟩ : ∃ wo : World, wo = wr := ⟨_, rfl⟩
    by_cases hlt : k < gotN s0
    · obtain ⟨a5, c5, rfl⟩ := hlv.shape
      have i1 : (0 : Int) ≤ (k : Int) := by omega
      have i2 : (k : Int) < (gotN s0 : Int) := by omega
      have lk : (rLines k (r6 s0)).2.1.length ≤ 1000000000 := Nat.le_trans (rLines_left _ _) l6
      obtain ⟨sk, hsk⟩ : ∃ sk, sk = (rLines k (r6 s0)).2 := ⟨_, rfl⟩
      obtain ⟨ls, hls⟩ : ∃ ls, ls = (rLines k (r6 s0)).1 := ⟨_, rfl⟩
      have elen : ls.length = k := by rw [hls]; exact rLines_length _ _
      have e1 : (rLines (k + 1) (r6 s0)).1 = ls ++ [(rLine sk).1] := by rw [hls, hsk]; rfl
      have e2 : (rLines (k + 1) (r6 s0)).2 = (rLine sk).2 := by rw [hsk]; rfl
      rw [← hsk] at hr lk
      rw [← hls] at hlv
      have E1 := Lib.hid e1
      have E2 := Lib.hid e2
      have EL := Lib.hid elen
      clear e1 e2
      rw [← hls] at hm
      have cc := hm.cells
      have c5v := cc.2.2.2.2.2.1
      have hbl := hm.lt
      have lu : (rUint sk).2.1.length ≤ 1000000000 := Nat.le_trans (rUint_left _) lk
      have hgW : g < wo.heap.size := hr.lt
      clear cc hsk hls elen
      go_wp2_with fail
      apply wp_region_draw_turnTail 8 (fun j => j = g) (fun j W => Rs W (Mid w1 w2) g (stL sk j)) (.eq _ :: .eq _ :: .eq _ :: .useEq (.int .u64 ((rUint sk).1 : Int)) :: .eq _ :: .use (fun v W => Own W wo.heap.size 5 v (bytes (rText (rUint sk).2).1)) :: .ok (fun u W => ∃ v, u = .agg #[.int .u64 ((rUint sk).1 : Int), v] ∧ Own W wo.heap.size 5 v (bytes (rText (rUint sk).2).1)) :: .ok (fun u W => ∃ v, OneLine W wo.heap.size u (rUint sk).1 v ∧ Own W wo.heap.size 5 v (bytes (rText (rUint sk).2).1)) :: []) (by kernel_rfl) (by kernel_rfl) ⟨fun u w w' hg h => h.block fun j hj => hg.block j (h.lt' j hj).2 (fun e => by have := (h.lt' j hj).1; omega), fun u w w' hg h => by obtain ⟨v, e, h⟩ := h; exact ⟨v, e, h.block fun j hj => hg.block j (h.lt' j hj).2 (fun e => by have := (h.lt' j hj).1; omega)⟩, fun u w w' hg h => by obtain ⟨v, h1, h⟩ := h; exact ⟨v, h1.block hg.size (fun j h1 h2 => hg.block j h2 (fun e => by omega)), h.block fun j hj => hg.block j (h.lt' j hj).2 (fun e => by have := (h.lt' j hj).1; omega)⟩, trivial⟩ (fun j W W' hg h => Rs.gr h hg) (Rs.gr hr (Gr.refl _).drew)
      apply wpT_eq
      · intro W hW _
        unfold opT
        go_simp
        exact resT_eq_mk _ _ _
      simp only [Act.put, pt1, pt2, pt3]
      apply wpT_eq
      · intro W hW _
        have h1 := (hW.cell (p := ⟨bm, 5, none⟩) (by simpa using hbl) (by show ¬ bm = g; omega)).trans ((by simpa using c5v) : wo.drew.cell? ⟨bm, 5, none⟩ = _)
        unfold opT
        go_simp
        exact resT_eq_mk _ _ _
      simp only [Act.put, pt1, pt2, pt3]
      apply wpT_eq
      · intro W hW _
        unfold opT
        go_simp
        exact resT_eq_mk _ _ _
      simp only [Act.put, pt1, pt2, pt3]
      apply wpT_useEq
      · intro W hW hS hs
        unfold opT
        go_simp
        refine resT_call ((get_uint _ (Mid w1 w2) g sk hS lk).mono ?_)
        rintro e W2 ⟨rfl, h2, h3⟩
        exact ⟨_, rfl, ⟨Ch.of_grownBy h3 (fun j hj => by cases hj; rfl), h2⟩, rfl⟩
      simp only [Act.put, pt1, pt2, pt3]
      apply wpT_eq
      · intro W hW _
        unfold opT
        go_simp
        exact resT_eq_mk _ _ _
      simp only [Act.put, pt1, pt2, pt3]
      apply wpT_use
      · intro W hW hS hs
        have hlW : wo.heap.size ≤ W.heap.size := hW.size
        unfold opT
        go_simp
        refine resT_call ((get_text _ (Mid w1 w2) g (rUint sk).2 hS lu).mono ?_)
        rintro e W2 ⟨v, rfl, h1, h2, h3⟩
        exact ⟨_, rfl, ⟨Ch.of_grownBy h3 (fun j hj => by cases hj; rfl), h2⟩, h1.mono hlW⟩
      intro vt
      simp only [Act.put, pt1, pt2, pt3]
      apply wpT_ok
      · intro W hW hs
        have hvt := hs _ (.head _) (by rfl)
        obtain ⟨at', ct', rfl⟩ := Own.shape hvt
        unfold opT
        go_simp
        exact resT_mk (Gr.refl _) ⟨_, rfl, hvt⟩
      intro vb
      simp only [Act.put, pt1, pt2, pt3]
      apply wpT_ok
      · intro W hW hs
        obtain ⟨vt', rfl, hvt⟩ := hs _ (.head _) (by rfl)
        obtain ⟨at', ct', rfl⟩ := hvt.shape
        have hlW : wo.heap.size ≤ W.heap.size := hW.size
        unfold opT
        go_simp
        refine resT_mk ((Gr.refl _).alloc _) ⟨_, ⟨_, 1, rfl, Nat.le_refl _, hlW, by simp, ?_, ?_⟩, hvt.block fun j hj => ((Gr.refl W).alloc _).block j (hvt.lt' j hj).2⟩
        · rw [cell_of_block (heap_alloc_new W _)]; rfl
        · rw [cell_of_block (heap_alloc_new W _)]; rfl
      intro vr
      simp only [Act.put, pt1, pt2, pt3]
      apply wpT_nil
      intro W hW hSW hsAll
      obtain ⟨vx, hrow, hvx⟩ := hsAll _ (.head _)
      have hrW : Rs W (Mid w1 w2) g (rLine sk).2 := hSW
      have hmW : MsgAt W bm m0 (.slice a5 ls.length c5) := hm.block (hW.block bm (by simpa using hbl) (by show ¬ bm = g; omega))
      have hlW : LinesR W (bm + 1) (.slice a5 ls.length c5) ls := (hlv.below (Gr.refl wo).drew).ch hW (fun j hj => by cases hj; omega)
      have hszW : wo.heap.size ≤ W.heap.size := hW.size
      obtain ⟨v', w', hrun, p1, p2, _⟩ := run_append_line W (bm + 1) (.slice a5 ls.length c5) vr vx ls (rLine sk).1 hlW _ hrow.rows rfl rfl (hvx.mono hbl) (fun j hj e => by
        have h1 := (hvx.lt' j hj).1
        have h2 := (hlv.lt j e).2
        omega) (rUint_lt sk) (by rw [EL.out]; omega) (by omega)
      obtain ⟨a6, c6, rfl⟩ := p1.shape
      have hown : ∀ j, (Value.slice a5 ls.length c5).ownBlock = some j → bm + 1 ≤ j := fun j hj => (hlv.lt j hj).1
      have hm' : MsgAt w' bm m0 (.slice a5 ls.length c5) := hmW.block (p2.block bm hmW.lt (fun e => by have := hown bm e.symm; omega))
      have hr' : Rs w' (Mid w1 w2) g (rLine sk).2 := Rd.grown hrW p2 (fun j hj hq => by have := hown j hj; have := hq.2; omega)
      have b1' : Below w1.heap.size w1 w' := ((bW.drew).trans (hW.below bW.size (fun j hj => by cases hj; exact hg1))).trans (grownBy_below p2 (by have := bW.size; omega) (fun j hj => by have := hown j hj; omega))
      have cw := hm'.cells
      have c5' := cw.2.2.2.2.2.1
      have f5' := cw.2.2.2.2.2.2
      have q1 : MsgAt (w'.setCell ⟨bm, 5, none⟩ (.slice a6 (ls ++ [(rLine sk).1]).length c6)) bm m0 (.slice a6 (ls ++ [(rLine sk).1]).length c6) := hm'.store _
      have q2 : Rs (w'.setCell ⟨bm, 5, none⟩ (.slice a6 (ls ++ [(rLine sk).1]).length c6)) (Mid w1 w2) g (rLine sk).2 := Rd.grown hr' (grownBy_setCell w' bm 5 _) (fun j hj hq => by cases hj; have := hq.2; omega)
      have q3 := p1.ch (Ch.of_grownBy (ρ := fun j => j = bm) (grownBy_setCell w' bm 5 (.slice a6 (ls ++ [(rLine sk).1]).length c6)) (fun j hj => by cases hj; rfl)) (fun j hj => by cases hj; omega)
      have q4 := b1'.trans (setCell_below (B := w1.heap.size) (b := bm) w' (.slice a6 (ls ++ [(rLine sk).1]).length c6) 5 (by omega))
      have hl1 : (ls ++ [(rLine sk).1]).length = ls.length + 1 := by simp
      rw [hl1] at q1 q2 q3 q4
      rw [← E1.out] at q3
      rw [← E2.out] at q2
      have Q1 := Lib.hid q1
      have Q2 := Lib.hid q2
      have Q3 := Lib.hid q3
      have Q4 := Lib.hid q4
      have HRUN := Lib.hid hrun
      clear q1 q2 q3 q4 hrun cw hm' hr' b1' p1 p2 hown hlW hmW hrW hrow hvx hsAll hSW hm hlv hr bW
      simp only [List.drop_succ_cons, List.drop_zero]
      refine wpList_run_append HRUN.out rfl _ _ rfl rfl rfl ?_
      clear HRUN
      simp only [Act.put, pt1, pt2, pt3]
      go_wp2_with fail
      go_roundw
      case rel => exact ⟨k + 1, by omega, by go_num, Q2.out, Q4.out, _, Q1.out, Q3.out⟩
      case measure => simp [intOf]; omega
    · obtain rfl : k = gotN s0 := by omega
      have hfin : (rLines (gotN s0) (r6 s0)).2 = gotS s0 := rfl
      have lfin : (gotS s0).1.length ≤ 1000000000 := Nat.le_trans (rLines_left _ _) l6
      have hls : (rLines (gotN s0) (r6 s0)).1 = (gotM s0).ls := rfl
      rw [hfin] at hr
      rw [hls] at hlv
      have hlen := hlv.shape
      rw [gotM_len] at hlen
      obtain ⟨a5, c5, rfl⟩ := hlen
      have hcells : msgCells m0 (.slice a5 (gotN s0) c5) = msgCells (gotM s0) (.slice a5 (gotN s0) c5) := by rw [HM0.out]; rfl
      have hm2 : MsgAt wo bm (gotM s0) (.slice a5 (gotN s0) c5) := by unfold MsgAt at hm ⊢; rw [← hcells]; exact hm
      have hz : wo.heap[w.heap.size]? = some (.cells zzeroM 50 (0, 0)) := (bW.block _ (by omega)).trans HB1.out
      have hG : Gr w wo := g1.trans (Below.mono bW (by omega))
      have cc := hm2.cells
      obtain ⟨c0, c1, c2, c3, c4, c5v, _⟩ := cc
      have cz : ∀ j u, zzeroM[j]? = some u → wo.cell? ⟨w.heap.size, j, none⟩ = some u ∧ wo.frozen? ⟨w.heap.size, j, none⟩ = false := fun j u hu => ⟨by rw [cell_of_block hz]; exact hu, unfrozen_of_block hz j⟩
      obtain ⟨z0, y0⟩ := cz 0 _ rfl
      obtain ⟨z1, y1⟩ := cz 1 _ rfl
      obtain ⟨z2, y2⟩ := cz 2 _ rfl
      obtain ⟨z3, y3⟩ := cz 3 _ rfl
      obtain ⟨z4, y4⟩ := cz 4 _ rfl
      obtain ⟨z5, y5⟩ := cz 5 _ rfl
      have HBM := Lib.hid hm2.lt
      have HZ := Lib.hid hz
      have HG := Lib.hid hG
      have HLV := Lib.hid hlv
      clear hm hm2 hcells hz hG cz hlv hlt bW
      by_cases hd : rDone (gotS s0) = 0
      · have hlines : Lines wo (.slice a5 (gotN s0) c5) (gotM s0).ls := HLV.out.lines
        have hok := gotM_ok s0
        have hlen : (gotM s0).ls.length ≤ maxLen := by rw [gotM_len]; unfold maxLen; omega
        have hmsg : (.agg #[.int .u8 ((gotM s0).kind : Int), .int .u64 ((gotM s0).epoch : Int), .int .u64 ((gotM s0).current : Int), .int .i64 (gotM s0).at_, .int .i64 (gotM s0).commit, .slice a5 (gotN s0) c5] : Value) = .agg (msgCells (gotM s0) (.slice a5 (gotN s0) c5)) := rfl
        have HLI := Lib.hid hlines
        have HOK := Lib.hid hok
        have HLE := Lib.hid hlen
        have HMS := Lib.hid hmsg
        have HD := Lib.hid hd
        clear hlines hok hlen hmsg hd
        cases hmay : mayV (gotM s0) with
        | false =>
          have hV' : zgetV (l, false) = false := by rw [← HS0.out]; simp [zgetV, hmay]
          have HV := Lib.hid hV'
          have HMAY := Lib.hid hmay
          clear hV' hmay
          go_wp2_with fail
          refine (get_done _ (Mid w1 w2) g (gotS s0) hr lfin).mono ?_
          rintro e w' ⟨rfl, rfl⟩
          rw [HD.out]
          go_wp2_with fail
          rw [HMS.out]
          refine (zmay_any _ _ _ HLI.out HOK.out HLE.out).mono ?_
          rintro e wn ⟨rfl, gn⟩
          rw [HMAY.out]
          have hzn := (gn.block _ (block_lt HZ.out)).trans HZ.out
          replace z0 := (gn.cell (p := ⟨w.heap.size, 0, none⟩) (block_lt HZ.out)).trans z0
          replace z1 := (gn.cell (p := ⟨w.heap.size, 1, none⟩) (block_lt HZ.out)).trans z1
          replace z2 := (gn.cell (p := ⟨w.heap.size, 2, none⟩) (block_lt HZ.out)).trans z2
          replace z3 := (gn.cell (p := ⟨w.heap.size, 3, none⟩) (block_lt HZ.out)).trans z3
          replace z4 := (gn.cell (p := ⟨w.heap.size, 4, none⟩) (block_lt HZ.out)).trans z4
          replace z5 := (gn.cell (p := ⟨w.heap.size, 5, none⟩) (block_lt HZ.out)).trans z5
          replace y0 := unfrozen_of_block hzn 0
          replace y1 := unfrozen_of_block hzn 1
          replace y2 := unfrozen_of_block hzn 2
          replace y3 := unfrozen_of_block hzn 3
          replace y4 := unfrozen_of_block hzn 4
          replace y5 := unfrozen_of_block hzn 5
          have HZN := Lib.hid hzn
          clear hzn
          have hGn : Gr w wn := HG.out.trans gn
          have HGN := Lib.hid hGn
          clear hGn gn
          go_wp2_with fail
          have hblk := put6_block HZN.out (.int .u8 0) (.int .u64 0) (.int .u64 0) (.int .i64 0) (.int .i64 0) (.slice none 0 0)
          have hgr := put6_grown wn w.heap.size (.int .u8 0) (.int .u64 0) (.int .u64 0) (.int .i64 0) (.int .i64 0) (.slice none 0 0)
          unfold put6 at hblk hgr
          generalize (((((wn.setCell ⟨w.heap.size, 0, none⟩ (.int .u8 0)).setCell ⟨w.heap.size, 1, none⟩ (.int .u64 0)).setCell ⟨w.heap.size, 2, none⟩ (.int .u64 0)).setCell ⟨w.heap.size, 3, none⟩ (.int .i64 0)).setCell ⟨w.heap.size, 4, none⟩ (.int .i64 0)).setCell ⟨w.heap.size, 5, none⟩ (.slice none 0 0) = wf at *
          obtain ⟨s0', s1', s2', s3', s4', s5'⟩ := six_of_block hblk
          refine bodyPost_ret (v := .tuple #[.agg zzeroM, .int .i64 2]) ?_ rfl ⟨Below.trans (show Below w.heap.size w wn from HGN.out) (grownBy_below hgr HGN.out.size (fun k hk => by cases hk; exact Nat.le_refl _)), ?_⟩
          · unfold zzeroM
            simp [results, Try.f17, go_sem, s0', s1', s2', s3', s4', s5']
          · rw [HV.out]; rfl
        | true =>
          have hV' : zgetV (l, false) = true := by rw [← HS0.out]; simp [zgetV, hmay, HD.out]
          have HV := Lib.hid hV'
          have HMAY := Lib.hid hmay
          clear hV' hmay
          go_wp2_with fail
          refine (get_done _ (Mid w1 w2) g (gotS s0) hr lfin).mono ?_
          rintro e w' ⟨rfl, rfl⟩
          rw [HD.out]
          go_wp2_with fail
          rw [HMS.out]
          refine (zmay_any _ _ _ HLI.out HOK.out HLE.out).mono ?_
          rintro e wn ⟨rfl, gn⟩
          rw [HMAY.out]
          have hzn := (gn.block _ (block_lt HZ.out)).trans HZ.out
          replace z0 := (gn.cell (p := ⟨w.heap.size, 0, none⟩) (block_lt HZ.out)).trans z0
          replace z1 := (gn.cell (p := ⟨w.heap.size, 1, none⟩) (block_lt HZ.out)).trans z1
          replace z2 := (gn.cell (p := ⟨w.heap.size, 2, none⟩) (block_lt HZ.out)).trans z2
          replace z3 := (gn.cell (p := ⟨w.heap.size, 3, none⟩) (block_lt HZ.out)).trans z3
          replace z4 := (gn.cell (p := ⟨w.heap.size, 4, none⟩) (block_lt HZ.out)).trans z4
          replace z5 := (gn.cell (p := ⟨w.heap.size, 5, none⟩) (block_lt HZ.out)).trans z5
          replace y0 := unfrozen_of_block hzn 0
          replace y1 := unfrozen_of_block hzn 1
          replace y2 := unfrozen_of_block hzn 2
          replace y3 := unfrozen_of_block hzn 3
          replace y4 := unfrozen_of_block hzn 4
          replace y5 := unfrozen_of_block hzn 5
          have hbmlt : bm < wo.heap.size := HBM.out
          replace c0 := (gn.cell (p := ⟨bm, 0, none⟩) hbmlt).trans c0
          replace c1 := (gn.cell (p := ⟨bm, 1, none⟩) hbmlt).trans c1
          replace c2 := (gn.cell (p := ⟨bm, 2, none⟩) hbmlt).trans c2
          replace c3 := (gn.cell (p := ⟨bm, 3, none⟩) hbmlt).trans c3
          replace c4 := (gn.cell (p := ⟨bm, 4, none⟩) hbmlt).trans c4
          replace c5v := (gn.cell (p := ⟨bm, 5, none⟩) hbmlt).trans c5v
          have HZN := Lib.hid hzn
          clear hzn
          have hGn : Gr w wn := HG.out.trans gn
          have HGN := Lib.hid hGn
          have hlvn := HLV.out.below gn
          have HLVN := Lib.hid hlvn
          clear hGn gn hlvn
          go_wp2_with fail
          have hblk := put6_block HZN.out (.int .u8 ((gotM s0).kind : Int)) (.int .u64 ((gotM s0).epoch : Int)) (.int .u64 ((gotM s0).current : Int)) (.int .i64 (gotM s0).at_) (.int .i64 (gotM s0).commit) (.slice a5 (gotN s0) c5)
          have hgr := put6_grown wn w.heap.size (.int .u8 ((gotM s0).kind : Int)) (.int .u64 ((gotM s0).epoch : Int)) (.int .u64 ((gotM s0).current : Int)) (.int .i64 (gotM s0).at_) (.int .i64 (gotM s0).commit) (.slice a5 (gotN s0) c5)
          unfold put6 at hblk hgr
          generalize (((((wn.setCell ⟨w.heap.size, 0, none⟩ (.int .u8 ((gotM s0).kind : Int))).setCell ⟨w.heap.size, 1, none⟩ (.int .u64 ((gotM s0).epoch : Int))).setCell ⟨w.heap.size, 2, none⟩ (.int .u64 ((gotM s0).current : Int))).setCell ⟨w.heap.size, 3, none⟩ (.int .i64 (gotM s0).at_)).setCell ⟨w.heap.size, 4, none⟩ (.int .i64 (gotM s0).commit)).setCell ⟨w.heap.size, 5, none⟩ (.slice a5 (gotN s0) c5) = wf at *
          obtain ⟨s0', s1', s2', s3', s4', s5'⟩ := six_of_block hblk
          refine bodyPost_ret (v := .tuple #[.agg (msgCells (gotM s0) (.slice a5 (gotN s0) c5)), .int .i64 0]) ?_ rfl ⟨Below.trans (show Below w.heap.size w wn from HGN.out) (grownBy_below hgr HGN.out.size (fun k hk => by cases hk; exact Nat.le_refl _)), ?_⟩
          · unfold msgCells
            simp [results, Try.f17, go_sem, s0', s1', s2', s3', s4', s5']
          · rw [HV.out, if_pos rfl]
            have hb : w.heap.size ≤ bm + 1 := by omega
            rw [← HS0.out]
            exact ⟨_, rfl, (HLVN.out.ch (Ch.of_grownBy (ρ := fun j => j = w.heap.size) hgr (fun k hk => by cases hk; rfl)) (fun j hj => by cases hj; omega)).mono hb⟩
      · have hV : zgetV s0 = false := by simp [zgetV, hd]
        have hd2 : rDone (gotS s0) = 2 := by unfold rDone at hd ⊢; split at hd <;> simp_all
        have hV' : zgetV (l, false) = false := by rw [← HS0.out]; exact hV
        have HV := Lib.hid hV'
        clear hV hV' hd
        go_wp2_with fail
        refine (get_done _ (Mid w1 w2) g (gotS s0) hr lfin).mono ?_
        rintro e w' ⟨rfl, rfl⟩
        rw [hd2]
        go_wp2_with fail
        have hblk := put6_block HZ.out (.int .u8 0) (.int .u64 0) (.int .u64 0) (.int .i64 0) (.int .i64 0) (.slice none 0 0)
        have hgr := put6_grown wo w.heap.size (.int .u8 0) (.int .u64 0) (.int .u64 0) (.int .i64 0) (.int .i64 0) (.slice none 0 0)
        unfold put6 at hblk hgr
        generalize (((((wo.setCell ⟨w.heap.size, 0, none⟩ (.int .u8 0)).setCell ⟨w.heap.size, 1, none⟩ (.int .u64 0)).setCell ⟨w.heap.size, 2, none⟩ (.int .u64 0)).setCell ⟨w.heap.size, 3, none⟩ (.int .i64 0)).setCell ⟨w.heap.size, 4, none⟩ (.int .i64 0)).setCell ⟨w.heap.size, 5, none⟩ (.slice none 0 0) = wf at *
        obtain ⟨s0', s1', s2', s3', s4', s5'⟩ := six_of_block hblk
        refine bodyPost_ret (v := .tuple #[.agg zzeroM, .int .i64 2]) ?_ rfl ⟨Below.trans (show Below w.heap.size w wo from HG.out) (grownBy_below hgr HG.out.size (fun k hk => by cases hk; exact Nat.le_refl _)), ?_⟩
        · unfold zzeroM
          simp [results, Try.f17, go_sem, s0', s1', s2', s3', s4', s5']
        · rw [HV.out]; rfl
end Go.Proofs.Ytgilijkmmcpfjaa
end
