/-
  zmsg.Get, the plain part: what is read of a reader; lines of the call's own.
-/
import Derived.Test.YtclicammiopjlaaPut
import Derived.Test.YtclicammiopjlaaRowsOwn
import Derived.Test.YtclicammiopjlaaRdBack
import Derived.Test.YtclicammiopjlaaRdNil
set_option linter.unusedVariables false
namespace Go.Proofs.Ytclicammiopjlaa
open Go.RowKit

/-! ### What is read -/
def rLine (s : RS) : LineD × RS := (⟨(rUint s).1, (rText (rUint s).2).1⟩, (rText (rUint s).2).2)
def rLines : Nat → RS → List LineD × RS
  | 0, s => ([], s)
  | n + 1, s => ((rLines n s).1 ++ [(rLine (rLines n s).2).1], (rLine (rLines n s).2).2)
theorem rLines_length (n : Nat) (s : RS) : (rLines n s).1.length = n := by
  induction n with
  | zero => rfl
  | succ n ih => simp [rLines, ih]
theorem rLine_left (s : RS) : (rLine s).2.1.length ≤ s.1.length := Nat.le_trans (rText_left _) (rUint_left _)
theorem rLines_left (n : Nat) (s : RS) : (rLines n s).2.1.length ≤ s.1.length := by
  induction n with
  | zero => exact Nat.le_refl _
  | succ n ih => exact Nat.le_trans (rLine_left _) ih
theorem rLine_bad (l : List UInt8) : rLine (l, true) = (⟨0, []⟩, (l, true)) := by simp [rLine, rUint_bad, rText_bad]
theorem rLines_bad (n : Nat) (l : List UInt8) : (rLines n (l, true)).2 = (l, true) := by
  induction n with
  | zero => rfl
  | succ n ih => show (rLine (rLines n (l, true)).2).2 = _; rw [ih, rLine_bad]
theorem rLines_more (n k : Nat) (s : RS) : (rLines (n + k) s).2 = (rLines k (rLines n s).2).2 := by
  induction k with
  | zero => rfl
  | succ k ih => show (rLine (rLines (n + k) s).2).2 = (rLine (rLines k (rLines n s).2).2).2; rw [ih]
theorem rLines_head (n : Nat) : ∀ s : RS, rLines (n + 1) s = ((rLine s).1 :: (rLines n (rLine s).2).1, (rLines n (rLine s).2).2) := by
  induction n with
  | zero => intro s; rfl
  | succ n ih =>
    intro s
    show ((rLines (n + 1) s).1 ++ [(rLine (rLines (n + 1) s).2).1], (rLine (rLines (n + 1) s).2).2) = _
    rw [ih s]
    rfl

def r1 (s : RS) : RS := (rByte s).2
def r2 (s : RS) : RS := (rUint (r1 s)).2
def r3 (s : RS) : RS := (rUint (r2 s)).2
def r4 (s : RS) : RS := (rCount 256 (r3 s)).2
def r5 (s : RS) : RS := (rCount 256 (r4 s)).2
def r6 (s : RS) : RS := (rCount 256 (r5 s)).2
def gotN (s : RS) : Nat := (rCount 256 (r5 s)).1
def gotM (s : RS) : MsgD := ⟨(rByte s).1, (rUint (r1 s)).1, (rUint (r2 s)).1, ((rCount 256 (r3 s)).1 : Int), ((rCount 256 (r4 s)).1 : Int), (rLines (gotN s) (r6 s)).1⟩
def gotS (s : RS) : RS := (rLines (gotN s) (r6 s)).2
def getV (s : RS) : Bool := decide (rDone (gotS s) = 0) && mayV (gotM s)
theorem rCount_256 (s : RS) : (rCount 256 s).1 ≤ 256 := by
  unfold rCount
  split
  · exact Nat.zero_le _
  · omega
theorem gotN_le (s : RS) : gotN s ≤ 256 := rCount_256 _
theorem r1_left (s : RS) : (r1 s).1.length ≤ s.1.length := rByte_left s
theorem r2_left (s : RS) : (r2 s).1.length ≤ s.1.length := Nat.le_trans (rUint_left _) (r1_left s)
theorem r3_left (s : RS) : (r3 s).1.length ≤ s.1.length := Nat.le_trans (rUint_left _) (r2_left s)
theorem r4_left (s : RS) : (r4 s).1.length ≤ s.1.length := Nat.le_trans (rCount_left _ _) (r3_left s)
theorem r5_left (s : RS) : (r5 s).1.length ≤ s.1.length := Nat.le_trans (rCount_left _ _) (r4_left s)
theorem r6_left (s : RS) : (r6 s).1.length ≤ s.1.length := Nat.le_trans (rCount_left _ _) (r5_left s)
theorem gotM_ok (s : RS) : MsgOk (gotM s) := by
  have h1 := rByte_lt s
  have h2 := rUint_lt (r1 s)
  have h3 := rUint_lt (r2 s)
  have h4 := rCount_256 (r3 s)
  have h5 := rCount_256 (r4 s)
  refine ⟨h1, h2, h3, ⟨?_, ?_⟩, ⟨?_, ?_⟩⟩
  · show (-9223372036854775808 : Int) ≤ ((rCount 256 (r3 s)).1 : Int); omega
  · show ((rCount 256 (r3 s)).1 : Int) ≤ 9223372036854775807; omega
  · show (-9223372036854775808 : Int) ≤ ((rCount 256 (r4 s)).1 : Int); omega
  · show ((rCount 256 (r4 s)).1 : Int) ≤ 9223372036854775807; omega
theorem gotM_len (s : RS) : (gotM s).ls.length = gotN s := rLines_length _ _

/-! ### Lines of the call's own -/
/-- The lines that a call made: rows in a block from B on; their texts in others. -/
def LinesR (w : World) (B : Nat) (lv : Value) (ls : List LineD) : Prop :=
  ∃ rs : List (List Value), OwnR w B 37 2 lv rs ∧ rs.length = ls.length ∧
    ∀ (i : Nat) (h : i < ls.length), ∃ vb, rs[i]? = some [.int .u64 (ls[i].e : Int), vb] ∧ Own w B 5 vb (bytes ls[i].b) ∧ (∀ k, vb.ownBlock = some k → lv.ownBlock ≠ some k) ∧ ls[i].e < 2 ^ 64
theorem LinesR.nil (w : World) (B : Nat) : LinesR w B (.slice none 0 0) [] := ⟨[], OwnR.nil w B 37 2, rfl, fun i h => absurd h (Nat.not_lt_zero _)⟩
theorem Own.lt' {w : World} {base : Nat} {e : TypeId} {v : Value} {xs : List Value} (h : Own w base e v xs) (j : Nat) (hj : v.ownBlock = some j) : base ≤ j ∧ j < w.heap.size := World.ownsRow.lt h j hj
theorem Own.block {w w' : World} {base : Nat} {e : TypeId} {v : Value} {xs : List Value} (h : Own w base e v xs) (hb : ∀ j, v.ownBlock = some j → w'.heap[j]? = w.heap[j]?) : Own w' base e v xs := by
  refine ⟨h.1, ?_⟩
  rcases h.2 with hn | ⟨g, cap, cur, rfl, h1, h2, rest⟩
  · exact .inl hn
  · exact .inr ⟨g, cap, cur, rfl, h1, (hb g rfl).trans h2, rest⟩
theorem LinesR.shape {w : World} {B : Nat} {lv : Value} {ls : List LineD} (h : LinesR w B lv ls) : ∃ a cap, lv = .slice a ls.length cap := by
  obtain ⟨rs, h1, h2, _⟩ := h
  rw [← h2]
  exact h1.shape
theorem LinesR.lt {w : World} {B : Nat} {lv : Value} {ls : List LineD} (h : LinesR w B lv ls) : ∀ j, lv.ownBlock = some j → B ≤ j ∧ j < w.heap.size := by
  obtain ⟨rs, h1, _⟩ := h
  exact h1.lt
theorem LinesR.mono {w : World} {B B' : Nat} {lv : Value} {ls : List LineD} (h : LinesR w B lv ls) (hb : B' ≤ B) : LinesR w B' lv ls := by
  obtain ⟨rs, h1, h2, h3⟩ := h
  refine ⟨rs, h1.mono hb, h2, fun i hi => ?_⟩
  obtain ⟨vb, q1, q2, q3⟩ := h3 i hi
  exact ⟨vb, q1, q2.mono hb, q3⟩
theorem LinesR.blocks {w w' : World} {B : Nat} {lv : Value} {ls : List LineD} (h : LinesR w B lv ls) (hb : ∀ j, B ≤ j → j < w.heap.size → w'.heap[j]? = w.heap[j]?) : LinesR w' B lv ls := by
  obtain ⟨rs, h1, h2, h3⟩ := h
  refine ⟨rs, h1.block fun j hj => hb j (h1.lt j hj).1 (h1.lt j hj).2, h2, fun i hi => ?_⟩
  obtain ⟨vb, q1, q2, q3⟩ := h3 i hi
  exact ⟨vb, q1, q2.block fun j hj => hb j (q2.lt' j hj).1 (q2.lt' j hj).2, q3⟩
theorem LinesR.below {w w' : World} {B : Nat} {lv : Value} {ls : List LineD} (h : LinesR w B lv ls) (hg : Gr w w') : LinesR w' B lv ls := h.blocks fun j _ hj => hg.block j hj
theorem LinesR.ch {ρ : Nat → Prop} {w w' : World} {B : Nat} {lv : Value} {ls : List LineD} (h : LinesR w B lv ls) (hg : Ch ρ w w') (hr : ∀ k, ρ k → k < B) : LinesR w' B lv ls :=
  h.blocks fun j h1 h2 => hg.block j h2 fun hk => by have := hr j hk; omega
theorem LinesR.lines {w : World} {B : Nat} {lv : Value} {ls : List LineD} (h : LinesR w B lv ls) : Lines w lv ls := by
  obtain ⟨rs, h1, h2, h3⟩ := h
  refine ⟨_, by rw [← h2]; exact h1.rows, fun i hi => ?_⟩
  obtain ⟨vb, q1, q2, _, q4⟩ := h3 i hi
  have e : rs.getD i [] = [.int .u64 (ls[i].e : Int), vb] := by rw [List.getD_eq_getElem?_getD, q1]; rfl
  unfold LineC
  rw [e]
  exact ⟨rfl, q2.sl, q4⟩

theorem info_line : (Try.prog.info? 37).map (fun i => (i.zero, i.size, i.bytes)) = some (some (.agg #[.int .u64 0, .slice none 0 0]), 2, 32) := by kernel_rfl
/-- One line more. -/
theorem run_append_line (w : World) (B : Nat) (lv y vb : Value) (ls : List LineD) (x : LineD) (hown : LinesR w B lv ls) (R : Nat → Nat → Value) (hy : Rows w y 1 2 R) (h0 : R 0 0 = .int .u64 (x.e : Int)) (h1 : R 0 1 = vb)
    (hv : Own w B 5 vb (bytes x.b)) (hne : ∀ k, vb.ownBlock = some k → lv.ownBlock ≠ some k) (he : x.e < 2 ^ 64) (hl : ls.length ≤ 1000) (hB : B ≤ w.heap.size) :
    ∃ v' w', (Builtin.append_ #[23, 23] 23 #[lv, y]).run Try.prog w = .ok v' w' ∧ LinesR w' B v' (ls ++ [x]) ∧ w.grownBy w' lv.ownBlock ∧
      ((∃ g cap, lv = .slice (some ⟨g, 0, none⟩) ls.length cap ∧ ls.length + 1 ≤ cap ∧ v' = .slice (some ⟨g, 0, none⟩) (ls.length + 1) cap) ∨
        ((∀ a n cap, lv = .slice a n cap → cap < ls.length + 1) ∧ w.grownBy w' none ∧ ∃ j, v'.ownBlock = some j ∧ w.heap.size ≤ j)) := by
  obtain ⟨i0, hi0, hz0, hz1, hz2⟩ := info_parts info_line
  obtain ⟨rs, o1, o2, o3⟩ := hown
  have hvs : ∃ a n c, vb = .slice a n c := by obtain ⟨a, c, e⟩ := hv.shape; exact ⟨a, _, c, e⟩
  obtain ⟨v', w', hr, p1, p2, p3, p4⟩ := run_append_rows (P := Try.prog) w B 23 23 37 i0 _ 2 32 Try.underlying23 hi0 hz0 hz1 hz2 (by rfl) lv y rs [[.int .u64 (x.e : Int), vb]] o1 R hy
    (by
      intro i hi
      obtain rfl : i = 0 := by simp at hi; omega
      refine ⟨rfl, fun j hj => ?_⟩
      match j, hj with
      | 0, _ => exact h0.symm
      | 1, _ => exact h1.symm)
    (by
      intro r hr u hu
      obtain rfl : r = [.int .u64 (x.e : Int), vb] := by simpa using hr
      rcases List.mem_cons.1 hu with rfl | hu
      · rfl
      · obtain rfl : u = vb := by simpa using hu
        obtain ⟨a, n, c, rfl⟩ := hvs
        rfl)
    (by rw [o2]; unfold maxLen; simp; omega) (by rw [o2]; simp; omega) hB
  have hnew : v'.ownBlock = lv.ownBlock ∨ ∃ j, v'.ownBlock = some j ∧ w.heap.size ≤ j := p3
  have keep : ∀ (u : Value) (xs : List Value), Own w B 5 u xs → (∀ k, u.ownBlock = some k → lv.ownBlock ≠ some k) → Own w' B 5 u xs ∧ ∀ k, u.ownBlock = some k → v'.ownBlock ≠ some k := by
    intro u xs hu hun
    refine ⟨hu.block fun j hj => p2.block j (hu.lt' j hj).2 (fun e => hun j hj e.symm), fun k hk e => ?_⟩
    rcases hnew with h | ⟨j, h, hj⟩
    · exact hun k hk (h ▸ e)
    · rw [h] at e
      injection e with e
      have := (hu.lt' k hk).2
      omega
  have hlen : ([[.int .u64 (x.e : Int), vb]] : List (List Value)).length = 1 := rfl
  refine ⟨v', w', hr, ⟨rs ++ [[.int .u64 (x.e : Int), vb]], p1, by simp [o2], fun i hi => ?_⟩, p2, ?_⟩
  · by_cases hlt : i < ls.length
    · obtain ⟨vb', q1, q2, q3, q4⟩ := o3 i hlt
      have k := keep vb' _ q2 q3
      rw [List.getElem_append_left hlt, List.getElem?_append_left (by omega)]
      exact ⟨vb', q1, k.1, k.2, q4⟩
    · obtain rfl : i = ls.length := by simp at hi; omega
      have k := keep vb _ hv hne
      rw [List.getElem_append_right (Nat.le_refl _), List.getElem?_append_right (by omega)]
      refine ⟨vb, ?_, ?_, k.2, ?_⟩
      · simp [o2]
      · simpa using k.1
      · simpa using he
  · have := p4 (by simp)
    rw [o2] at this
    exact this

/-! ### A reader all of whose memory is known to be new, and bounded -/
/-- The blocks of a reader that was made in w, up to w1. -/
abbrev Mid (w w1 : World) : Nat → Prop := fun k => w.heap.size ≤ k ∧ k < w1.heap.size
def RetReader2 (w : World) (l : List UInt8) (en : Ending) (w' : World) : Prop := ∃ g, en = .returned (.pointer (some ⟨g, 0, none⟩)) ∧ Rs w' (Mid w w') g (l, false) ∧ Below w.heap.size w w'
set_option maxHeartbeats 400000 in
theorem new2_any (v : Value) (l : List UInt8) (w : World) (hs : Sl w v (bytes l)) (hl : l.length ≤ 1000000000) :
    Calls Try.prog 24 #[v] w (RetReader2 w l) := by
  go_enter Try.func24, Try.ntmps24
  go_wp2_with fail
  refine (clone_any _ l _ hs (by omega)).mono ?_
  rintro e w1 ⟨v1, rfl, hown1, hb1⟩
  obtain ⟨a1, c1, rfl⟩ := hown1.shape
  go_wp2
  go_ret
  have hs1 := hown1.sl.below ((Below.refl _ _).alloc (Nat.le_refl _) (.cells #[.slice a1 (bytes l).length c1, .bool false] 69))
  refine ⟨w1.heap.size, rfl, ⟨⟨hb1.size, by simp⟩, _, heap_alloc_new w1 _, hs1, ?_, fun k hk => ⟨hown1.ownBlock_ge k hk, ?_⟩⟩, hb1.alloc hb1.size _⟩
  · intro h
    have := (World.ownsRow.lt hown1 _ h).2
    omega
  · have := (World.ownsRow.lt hown1 _ hk).2
    simp
    omega
end Go.Proofs.Ytclicammiopjlaa
