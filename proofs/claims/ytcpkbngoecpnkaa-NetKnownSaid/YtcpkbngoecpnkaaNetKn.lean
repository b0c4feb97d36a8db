/-
  The net of NetKnown, as it goes on.
-/
import Derived.Test.YtcpkbngoecpnkaaNetK
import Derived.Lib.SmallJoins
set_option linter.unusedVariables false
namespace Go.Proofs.Ytcpkbngoecpnkaa
open Go.RowKit

abbrev S31 : List Int := [3, 1]
def xl (bs : List UInt8) : LetD := ⟨(0, 0), (1, 0), bs⟩
theorem xl_ok (bs : List UInt8) : LetOk (xl bs) := by
  unfold LetOk AdOk xl
  simp
/-- Bytes of a constant text: the row bears a mark behind its last cell. -/
def MarkAt (W : World) (I : Nat) (bs : List UInt8) : Prop := W.heap[I]? = some (.cells (bytes bs).toArray 5 (3, 4))
theorem MarkAt.lt {W : World} {I : Nat} {bs : List UInt8} (h : MarkAt W I bs) : I < W.heap.size := (Array.getElem?_eq_some_iff.1 h).1
theorem MarkAt.gr {W W' : World} {I : Nat} {bs : List UInt8} (h : MarkAt W I bs) (g : Gr W W') : MarkAt W' I bs := (g.block _ h.lt).trans h
theorem MarkAt.ch {W W' : World} {ρ : Nat → Prop} {I : Nat} {bs : List UInt8} (h : MarkAt W I bs) (g : Ch ρ W W') (hn : ¬ ρ I) : MarkAt W' I bs := (g.block _ h.lt hn).trans h
theorem MarkAt.cell {W : World} {I : Nat} {bs : List UInt8} (h : MarkAt W I bs) (j : Nat) : W.cell? ⟨I, j, none⟩ = (bytes bs).toArray[j]? := by unfold MarkAt at h; simp [World.cell?, h]
theorem MarkAt.frozen {W : World} {I : Nat} {bs : List UInt8} (h : MarkAt W I bs) : W.frozen? ⟨I, 0, none⟩ = false := by
  unfold MarkAt at h
  simp [World.frozen?, h]
/-- The net is empty. -/
def K0 (w W : World) (N M c : Nat) : Prop := ∃ lv, NetIs W w.heap.size N M c lv [] S31 (fun _ => false) ∧ Gr w W
/-- The net is empty, and bytes beside it. -/
def K0s (w W : World) (N M c : Nat) (bv : Value) (bs : List UInt8) : Prop := ∃ lv, NetIs W w.heap.size N M c lv [] S31 (fun _ => false) ∧ Gr w W ∧ Sl W bv (bytes bs) ∧ ∀ j, bv.ownBlock = some j → lv.ownBlock ≠ some j
section
variable {w W W' : World} {N M c : Nat}
theorem K0.go (h : K0 w W N M c) (g : Gr W W') : K0 w W' N M c := by
  obtain ⟨lv, h1, h2⟩ := h
  exact ⟨lv, h1.gr g, Below.trans h2 (g.mono h2.size)⟩
theorem K0.below (h : K0 w W N M c) : Gr w W := by obtain ⟨lv, h1, h2⟩ := h; exact h2
theorem K0.fresh (h : K0 w W N M c) (g : Gr W W') {bv : Value} {bs : List UInt8} (hs : Sl W' bv (bytes bs)) (hf : ∀ j, bv.ownBlock = some j → W.heap.size ≤ j) : K0s w W' N M c bv bs := by
  obtain ⟨lv, h1, h2⟩ := h
  exact ⟨lv, h1.gr g, Below.trans h2 (g.mono h2.size), hs, fresh_ne h1 hf⟩
theorem K0s.send {bv : Value} {l : LetD} (h : K0s w W N M c bv l.b) (hl : l.b.length ≤ 140737488355328) (hz : sendE S31 0 l = 1) :
    Calls Try.prog 10 #[.pointer (some ⟨N, 0, Option.none⟩), letV l bv] W fun e w' => e = .returned (.int .i64 1) ∧ K0 w w' N M c := by
  obtain ⟨lv, h1, h2, h3, h4⟩ := h
  refine (send_w h1 rfl l bv h3 hl (fun _ => h4) (z := 1) (ls' := []) hz rfl).mono ?_
  rintro e w' ⟨rfl, lv1, ps1, k1, k2, k3, k4⟩
  obtain rfl : ps1 = [] := by cases ps1 with | nil => rfl | cons a b => cases k2
  exact ⟨rfl, lv1, k1, below_ch h2 h1 k3⟩
theorem K0.cut (h : K0 w W N M c) (hc : c < 1000) (a b : AdD) (ha : AdOk a) (hb : AdOk b) (hl : linkV S31 a b = false) :
    Calls Try.prog 16 #[.pointer (some ⟨N, 0, Option.none⟩), adV a, adV b] W fun e w' => e = .returned (.int .i64 1) ∧ K0 w w' N M (c + 1) := by
  obtain ⟨lv, h1, h2⟩ := h
  refine (cut_any h1 (by omega) a b ha hb).mono ?_
  rintro e w' ⟨rfl, k1, k3⟩
  rw [hl] at k1
  exact ⟨by unfold turnE; rw [hl]; rfl, lv, k1, below_ch h2 h1 k3⟩
theorem K0.heal (h : K0 w W N M c) (hc : c < 1000) (a b : AdD) (ha : AdOk a) (hb : AdOk b) (hl : linkV S31 a b = false) :
    Calls Try.prog 19 #[.pointer (some ⟨N, 0, Option.none⟩), adV a, adV b] W fun e w' => e = .returned (.int .i64 1) ∧ K0 w w' N M (c + 1) := by
  obtain ⟨lv, h1, h2⟩ := h
  refine (heal_any h1 (by omega) a b ha hb).mono ?_
  rintro e w' ⟨rfl, k1, k3⟩
  rw [hl] at k1
  exact ⟨by unfold turnE; rw [hl]; rfl, lv, k1, below_ch h2 h1 k3⟩
theorem K0.len (h : K0 w W N M c) : Calls Try.prog 14 #[.pointer (some ⟨N, 0, Option.none⟩)] W fun e w' => e = .returned (.int .i64 0) ∧ w' = W := by
  obtain ⟨lv, h1, h2⟩ := h
  exact len_w h1 rfl
/-- The net, the bytes I that were sent and the letter X of them. -/
def K2 (w W : World) (N M c I X : Nat) (bs : List UInt8) (ls : List LetD) : Prop :=
  ∃ lv ps, NetIs W w.heap.size N M c lv ps S31 (fun _ => false) ∧ ps.map Prod.fst = ls ∧ ¬ netB N M lv I ∧ ¬ netB N M lv X ∧ MarkAt W I bs ∧
    CellsAt W X #[.int .i64 0, .int .i64 0, .int .i64 1, .int .i64 0, .slice (some ⟨I, 0, Option.none⟩) 3 3] 35 ∧ Gr w W
/-- And no letter of it bears the bytes I. -/
def K1 (w W : World) (N M c I X : Nat) (bs : List UInt8) (ls : List LetD) : Prop :=
  ∃ lv ps, NetIs W w.heap.size N M c lv ps S31 (fun _ => false) ∧ ps.map Prod.fst = ls ∧ ¬ netB N M lv I ∧ ¬ netB N M lv X ∧ MarkAt W I bs ∧
    CellsAt W X #[.int .i64 0, .int .i64 0, .int .i64 1, .int .i64 0, .slice (some ⟨I, 0, Option.none⟩) 3 3] 35 ∧ Gr w W ∧ ∀ p ∈ ps, ∀ j, p.2.ownBlock = some j → j ≠ I
variable {I X : Nat} {bs : List UInt8} {ls : List LetD}
theorem K1.two (h : K1 w W N M c I X bs ls) : K2 w W N M c I X bs ls := by
  obtain ⟨lv, ps, h1, h2, h3, h4, h5, h6, h7, h8⟩ := h
  exact ⟨lv, ps, h1, h2, h3, h4, h5, h6, h7⟩
theorem K2.cells (h : K2 w W N M c I X bs ls) : MarkAt W I bs ∧ CellsAt W X #[.int .i64 0, .int .i64 0, .int .i64 1, .int .i64 0, .slice (some ⟨I, 0, Option.none⟩) 3 3] 35 := by
  obtain ⟨lv, ps, h1, h2, h3, h4, h5, h6, h7⟩ := h; exact ⟨h5, h6⟩
theorem K2.below (h : K2 w W N M c I X bs ls) : Gr w W := by obtain ⟨lv, ps, h1, h2, h3, h4, h5, h6, h7⟩ := h; exact h7
theorem K2.go (h : K2 w W N M c I X bs ls) (g : Gr W W') : K2 w W' N M c I X bs ls := by
  obtain ⟨lv, ps, h1, h2, h3, h4, h5, h6, h7⟩ := h
  exact ⟨lv, ps, h1.gr g, h2, h3, h4, h5.gr g, h6.gr g, Below.trans h7 (g.mono h7.size)⟩
theorem K0.start (h : K0 w W N M c) (g : Gr W W') (hI : MarkAt W' I bs) (hX : CellsAt W' X #[.int .i64 0, .int .i64 0, .int .i64 1, .int .i64 0, .slice (some ⟨I, 0, Option.none⟩) 3 3] 35) (lI : W.heap.size ≤ I) (lX : W.heap.size ≤ X) : K1 w W' N M c I X bs [] := by
  obtain ⟨lv, h1, h2⟩ := h
  exact ⟨lv, [], h1.gr g, rfl, fresh_nb h1 lI, fresh_nb h1 lX, hI, hX, Below.trans h2 (g.mono h2.size), fun p hp => by cases hp⟩
theorem sl_of {W : World} {I : Nat} {bs : List UInt8} (h : MarkAt W I bs) (h3 : bs.length = 3) : Sl W (.slice (some ⟨I, 0, Option.none⟩) 3 3) (bytes bs) := by
  refine ⟨_, 3, by rw [bytes_length, h3], by rw [bytes_length, h3]; exact Nat.le_refl _, .inr ⟨I, 0, rfl, h.lt, fun k hk => ?_⟩⟩
  rw [Nat.zero_add]
  have := h.cell k
  rw [this]
  simp [List.getElem?_eq_getElem hk]
theorem K1.send (h : K1 w W N M c I X bs ls) (h3 : bs.length = 3) (hn : ls.length < 4096) :
    Calls Try.prog 10 #[.pointer (some ⟨N, 0, Option.none⟩), letV (xl bs) (.slice (some ⟨I, 0, Option.none⟩) 3 3)] W fun e w' => e = .returned (.int .i64 0) ∧ K1 w w' N M c I X bs (ls ++ [xl bs]) := by
  obtain ⟨lv, ps, h1, h2, hI, hX, h5, h6, h7, h8⟩ := h
  have hz : sendE S31 ps.length (xl bs) = 0 := by
    unfold sendE
    rw [show linkV S31 (xl bs).src (xl bs).dst = true from rfl, if_neg (by decide), if_neg (by show ¬ 2097152 < bs.length; omega), if_neg (by rw [← List.length_map Prod.fst, h2]; omega)]
  have hs := send_any5 h1 (xl bs) (.slice (some ⟨I, 0, Option.none⟩) 3 3) (sl_of h5 h3) (by show bs.length ≤ _; omega) (fun _ j hj e => hI (.inr (.inr (by have e9 : some I = some j := hj; rw [e9]; exact e))))
  rw [hz] at hs
  refine hs.mono ?_
  rintro e w' ⟨rfl, lv1, ps1, k1, k2, k3, k4, k5⟩
  rw [if_pos rfl, h2] at k2
  have lI := h5.lt
  have lX := h6.lt
  refine ⟨rfl, lv1, ps1, k1, k2, netB_step k4 lI hI, netB_step k4 lX hX, h5.ch k3 hI, h6.ch k3 hX, below_ch h7 h1 k3, fun p hp j hj e => ?_⟩
  rcases k5 p hp with h9 | h9
  · exact h8 p h9 j hj e
  · have := h9 j hj; omega
theorem K2.send_full (h : K2 w W N M c I X bs ls) (h3 : bs.length = 3) (hn : 4096 ≤ ls.length) :
    Calls Try.prog 10 #[.pointer (some ⟨N, 0, Option.none⟩), letV (xl bs) (.slice (some ⟨I, 0, Option.none⟩) 3 3)] W fun e w' => e = .returned (.int .i64 4) ∧ K2 w w' N M c I X bs ls := by
  obtain ⟨lv, ps, h1, h2, hI, hX, h5, h6, h7⟩ := h
  have hz : sendE S31 ls.length (xl bs) = 4 := by
    unfold sendE
    rw [show linkV S31 (xl bs).src (xl bs).dst = true from rfl, if_neg (by decide), if_neg (by show ¬ 2097152 < bs.length; omega), if_pos hn]
  refine (send_w h1 h2 (xl bs) (.slice (some ⟨I, 0, Option.none⟩) 3 3) (sl_of h5 h3) (by show bs.length ≤ _; omega) (fun _ j hj e => hI (.inr (.inr (by have e9 : some I = some j := hj; rw [e9]; exact e)))) (z := 4) (ls' := ls) hz (by rw [if_neg (by decide)])).mono ?_
  rintro e w' ⟨rfl, lv1, ps1, k1, k2, k3, k4⟩
  exact ⟨rfl, lv1, ps1, k1, k2, netB_step k4 h5.lt hI, netB_step k4 h6.lt hX, h5.ch k3 hI, h6.ch k3 hX, below_ch h7 h1 k3⟩
theorem K2.did (hI : MarkAt W I bs) {lv : Value} {ps : List (LetD × Value)} {ls' : List LetD} (h1 : NetIs W w.heap.size N M c lv ps S31 (fun _ => false)) (nI : ¬ netB N M lv I) (nX : ¬ netB N M lv X)
    (hX : CellsAt W X #[.int .i64 0, .int .i64 0, .int .i64 1, .int .i64 0, .slice (some ⟨I, 0, Option.none⟩) 3 3] 35) (h7 : Gr w W) (hd : Did W w.heap.size N M c lv S31 (fun _ => false) ls' W') : K2 w W' N M c I X bs ls' := by
  obtain ⟨lv1, ps1, k1, k2, k3, k4⟩ := hd
  exact ⟨lv1, ps1, k1, k2, netB_step k4 hI.lt nI, netB_step k4 hX.lt nX, hI.ch k3 nI, hX.ch k3 nX, below_ch h7 h1 k3⟩
theorem K2.double (h : K2 w W N M c I X bs ls) (i : Int) (hlet : ∀ l ∈ ls, l.b.length ≤ 2097152) {z : Int} {ls' : List LetD} (hz : doubleE ls.length i = z) (hls : (if z = 0 then ls ++ (ls[i.toNat]?).toList else ls) = ls') :
    Calls Try.prog 28 #[.pointer (some ⟨N, 0, Option.none⟩), .int .i64 i] W fun e w' => e = .returned (.int .i64 z) ∧ K2 w w' N M c I X bs ls' := by
  obtain ⟨lv, ps, h1, h2, hI, hX, h5, h6, h7⟩ := h
  refine (double_w h1 h2 i hlet hz hls).mono ?_
  rintro e w' ⟨rfl, hd⟩
  exact ⟨rfl, K2.did h5 h1 hI hX h6 h7 hd⟩
theorem K2.drop (h : K2 w W N M c I X bs ls) (i : Int) {z : Int} {ls' : List LetD} (hz : mayV i ls.length = z) (hls : (if z = 0 then ls.eraseIdx i.toNat else ls) = ls') :
    Calls Try.prog 29 #[.pointer (some ⟨N, 0, Option.none⟩), .int .i64 i] W fun e w' => e = .returned (.int .i64 z) ∧ K2 w w' N M c I X bs ls' := by
  obtain ⟨lv, ps, h1, h2, hI, hX, h5, h6, h7⟩ := h
  refine (drop_w h1 h2 i hz hls).mono ?_
  rintro e w' ⟨rfl, hd⟩
  exact ⟨rfl, K2.did h5 h1 hI hX h6 h7 hd⟩
theorem K2.take (h : K2 w W N M c I X bs ls) (l : LetD) (tl : List LetD) (e0 : ls = l :: tl) (hok : ∀ x ∈ ls, LetOk x) :
    Calls Try.prog 12 #[.pointer (some ⟨N, 0, Option.none⟩), .int .i64 0] W fun e w' => ∃ bv, e = .returned (.tuple #[letV l bv, .int .i64 0]) ∧ Sl w' bv (bytes l.b) ∧ K2 w w' N M c I X bs tl := by
  obtain ⟨lv, ps, h1, h2, hI, hX, h5, h6, h7⟩ := h
  have h0 : mayV 0 (l :: tl).length = 0 := by unfold mayV; rw [if_neg (by omega), if_neg (by simp)]
  refine (take_w h1 h2 hok 0 (r := (l, 0, tl)) (by rw [e0]; unfold takeV; rw [if_pos h0]; simp [cutsV])).mono ?_
  rintro e w' ⟨bv, rfl, ho, hd⟩
  exact ⟨bv, rfl, ho.sl, K2.did h5 h1 hI hX h6 h7 hd⟩
/-- The bytes that were sent are written. -/
theorem K1.store (h : K1 w W N M c I X [97, 98, 99] ls) (hw : w.heap.size ≤ I) : K2 w (W.setCell ⟨I, 0, Option.none⟩ (.int .u8 122)) N M c I X [122, 98, 99] ls := by
  obtain ⟨lv, ps, h1, h2, hI, hX, h5, h6, h7, h8⟩ := h
  have gs := ch_setCell W I 0 (.int .u8 122)
  have hne : X ≠ I := fun e => by rw [e] at h6; cases cells_type h5 h6
  refine ⟨lv, ps, h1.apart h5 gs h8, h2, hI, hX, ?_, h6.ch gs hne, Below.trans h7 (gs.below h7.size (fun k hk => by have e : k = I := hk; omega))⟩
  have := Go.Joins.block_setCell (i := 0) h5 (.int .u8 122)
  exact this
/-- All letters, copied. -/
theorem K2.letters (h : K2 w W N M c I X bs ls) (hlet : ∀ l ∈ ls, l.b.length ≤ 2097152) :
    Calls Try.prog 18 #[.pointer (some ⟨N, 0, Option.none⟩)] W fun e w' => ∃ v ps', e = .returned v ∧ LetsR w' W.heap.size v ps' ∧ ps'.map Prod.fst = ls ∧ Gr W w' := by
  obtain ⟨lv, ps, h1, h2, hI, hX, h5, h6, h7⟩ := h
  exact letters_w h1 h2 hlet
/-- Newer bytes are written. -/
theorem K2.write (h : K2 w W N M c I X bs ls) (g : Gr W W') {J : Nat} {cs : Array Value} (hJ : W'.heap[J]? = some (.cells cs 5 (0, 0))) (hl : W.heap.size ≤ J) (i : Nat) (v : Value) : K2 w (W'.setCell ⟨J, i, Option.none⟩ v) N M c I X bs ls := by
  obtain ⟨lv, ps, h1, h2, hI, hX, h5, h6, h7⟩ := h
  have gs := ch_setCell W' J i v
  have lI := h5.lt
  have lX := h6.lt
  have hw := h7.size
  refine ⟨lv, ps, (h1.gr g).apart hJ gs (fun p hp j hj e => by have := ((h1.lets.own p hp).ltB j hj).2; omega), h2, hI, hX, (h5.gr g).ch gs (fun e => by have e9 : I = J := e; omega), (h6.gr g).ch gs (fun e => by have e9 : X = J := e; omega),
    Below.trans (Below.trans h7 (g.mono hw)) (gs.below (Nat.le_trans hw g.size) (fun k hk => by have e : k = J := hk; omega))⟩
end
end Go.Proofs.Ytcpkbngoecpnkaa
