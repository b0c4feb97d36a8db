/-
  Rows of messages, as the known examples write them.
-/
import Derived.Test.YtclicammiopjlaaTells
import Derived.Test.YtclicammiopjlaaPutOwn
import Derived.Test.YtclicammiopjlaaRdRef
set_option linter.unusedVariables false
namespace Go.Proofs.Ytclicammiopjlaa
open Go.RowKit

def RowsOf (w : World) : List (List Value) → List MsgD → Prop
  | [], [] => True
  | r :: rs, d :: ds => (∃ lv, r = (msgCells d lv).toList ∧ Lines w lv d.ls) ∧ RowsOf w rs ds
  | _, _ => False
theorem RowsOf.gr {w w' : World} (g : Gr w w') : ∀ {rs : List (List Value)} {ds : List MsgD}, RowsOf w rs ds → RowsOf w' rs ds
  | [], [], _ => trivial
  | r :: rs, d :: ds, h => ⟨by obtain ⟨lv, e, hl⟩ := h.1; exact ⟨lv, e, hl.below g⟩, RowsOf.gr g h.2⟩
  | [], d :: ds, h => h.elim
  | r :: rs, [], h => h.elim
theorem RowsOf.len {w : World} : ∀ {rs : List (List Value)} {ds : List MsgD}, RowsOf w rs ds → rs.length = ds.length ∧ ∀ r ∈ rs, r.length = 6
  | [], [], _ => ⟨rfl, by simp⟩
  | r :: rs, d :: ds, h => by
    obtain ⟨⟨lv, rfl, _⟩, h2⟩ := h
    have := RowsOf.len h2
    refine ⟨by simp [this.1], fun x hx => ?_⟩
    rcases List.mem_cons.1 hx with rfl | hx
    · rfl
    · exact this.2 x hx
  | [], d :: ds, h => h.elim
  | r :: rs, [], h => h.elim
theorem RowsOf.get {w : World} : ∀ {rs : List (List Value)} {ds : List MsgD}, RowsOf w rs ds → ∀ (i : Nat) (hi : i < ds.length), ∃ lv, rs[i]? = some (msgCells ds[i] lv).toList ∧ Lines w lv ds[i].ls
  | r :: rs, d :: ds, h, 0, _ => by obtain ⟨⟨lv, rfl, hl⟩, _⟩ := h; exact ⟨lv, rfl, hl⟩
  | r :: rs, d :: ds, h, i + 1, hi => by
    have := RowsOf.get h.2 i (by simpa using hi)
    simpa using this
  | [], [], _, i, hi => absurd hi (Nat.not_lt_zero _)
  | [], d :: ds, h, _, _ => h.elim
  | r :: rs, [], h, _, _ => h.elim
/-- A slice of messages, written out. -/
def MsgRows (w : World) (v : Value) (ds : List MsgD) : Prop := ∃ b cs rs, v = .slice (some ⟨b, 0, none⟩) ds.length ds.length ∧ w.heap[b]? = some (.cells cs 25 (0, 0)) ∧ cs.toList = rs.flatten ∧ RowsOf w rs ds
theorem MsgRows.gr {w w' : World} {v : Value} {ds : List MsgD} (h : MsgRows w v ds) (g : Gr w w') : MsgRows w' v ds := by
  obtain ⟨b, cs, rs, h1, h2, h3, h4⟩ := h
  exact ⟨b, cs, rs, h1, (g.block b (block_lt h2)).trans h2, h3, h4.gr g⟩
theorem MsgRows.shape {w : World} {v : Value} {ds : List MsgD} (h : MsgRows w v ds) : ∃ b, v = .slice (some ⟨b, 0, none⟩) ds.length ds.length := by
  obtain ⟨b, _, _, e, _⟩ := h; exact ⟨b, e⟩
theorem MsgRows.row {w : World} {b : Nat} {ds : List MsgD} (h : MsgRows w (.slice (some ⟨b, 0, none⟩) ds.length ds.length) ds) (k : Nat) (hk : k < ds.length) :
    ∃ a c, Lines w (.slice a ds[k].ls.length c) ds[k].ls ∧ w.cell? ⟨b, k * 6, none⟩ = some (.int .u8 (ds[k].kind : Int)) ∧ w.cell? ⟨b, k * 6 + 1, none⟩ = some (.int .u64 (ds[k].epoch : Int)) ∧ w.cell? ⟨b, k * 6 + 2, none⟩ = some (.int .u64 (ds[k].current : Int)) ∧
      w.cell? ⟨b, k * 6 + 3, none⟩ = some (.int .i64 ds[k].at_) ∧ w.cell? ⟨b, k * 6 + 4, none⟩ = some (.int .i64 ds[k].commit) ∧ w.cell? ⟨b, k * 6 + 5, none⟩ = some (.slice a ds[k].ls.length c) ∧ b < w.heap.size := by
  obtain ⟨b', cs, rs, h1, h2, h3, h4⟩ := h
  injection h1 with h1
  injection h1 with h1
  injection h1 with h1
  subst h1
  obtain ⟨hlen, h6⟩ := h4.len
  obtain ⟨lv, hr, hl⟩ := h4.get k hk
  obtain ⟨a, c, rfl⟩ := hl.shape
  have hk' : k < rs.length := by omega
  have hrow : rs[k] = (msgCells ds[k] (.slice a ds[k].ls.length c)).toList := by
    rw [List.getElem?_eq_getElem hk'] at hr
    exact Option.some.inj hr
  have hc : ∀ (j : Nat) (hj : j < 6) (u : Value), (msgCells ds[k] (.slice a ds[k].ls.length c)).toList[j]? = some u → w.cell? ⟨b, k * 6 + j, none⟩ = some u := fun j hj u hu => by
    have hjl : j < rs[k].length := by rw [h6 _ (List.getElem_mem hk')]; exact hj
    have := flatten_get (k := 6) h6 k hk' j hjl
    rw [cell_of_block h2, ← Array.getElem?_toList, h3, this, ← hu, ← hrow, List.getElem?_eq_getElem hjl]
  exact ⟨a, c, hl, hc 0 (by decide) _ rfl, hc 1 (by decide) _ rfl, hc 2 (by decide) _ rfl, hc 3 (by decide) _ rfl, hc 4 (by decide) _ rfl, hc 5 (by decide) _ rfl, block_lt h2⟩

def zb (n : Nat) : List UInt8 := List.replicate n 0
theorem zb_length (n : Nat) : (zb n).length = n := List.length_replicate
theorem bad_last (b : List UInt8) (h : b.length = 4097) : mayV ⟨4, 3, 0, 0, 0, [⟨1, b⟩]⟩ = false := by simp [mayV, kindV, withinV, lineV, h]
theorem good_last (b : List UInt8) (h : b.length = 4096) : mayV ⟨4, 1, 0, 0, 0, [⟨281474976710656, b⟩]⟩ = true := by simp [mayV, kindV, withinV, lineV, h]
def lD : LineD := ⟨1, [7]⟩
def badD : List MsgD := [⟨0, 0, 0, 0, 0, []⟩, ⟨7, 1, 0, 0, 0, []⟩, ⟨1, 0, 0, 0, 0, []⟩, ⟨1, 281474976710657, 0, 0, 0, []⟩, ⟨1, 3, 0, 1, 0, []⟩, ⟨1, 3, 0, 0, 0, [lD]⟩, ⟨3, 3, 0, 0, 1, []⟩, ⟨2, 3, 4, 0, 0, []⟩, ⟨2, 3, 0, 1, 0, []⟩, ⟨4, 3, 1, 0, 0, []⟩, ⟨5, 3, 0, -1, 0, []⟩, ⟨5, 3, 0, 257, 0, []⟩,
  ⟨5, 3, 0, 0, 257, []⟩, ⟨6, 3, 0, 0, 0, [lD]⟩, ⟨4, 3, 0, 0, 0, [⟨0, []⟩]⟩, ⟨4, 3, 0, 0, 0, [⟨1, []⟩]⟩, ⟨4, 3, 0, 0, 0, [⟨1, zb 4097⟩]⟩]
def goodD : List MsgD := [⟨3, 281474976710656, 0, 0, 0, []⟩, ⟨2, 3, 3, 0, 0, [lD]⟩, ⟨4, 3, 0, 0, 0, [lD]⟩, ⟨5, 3, 0, 256, 256, [lD]⟩, ⟨6, 3, 0, 256, 0, []⟩, ⟨4, 1, 0, 0, 0, [⟨281474976710656, zb 4096⟩]⟩]
theorem badD_all : ∀ d ∈ badD, mayV d = false ∧ MsgOk d ∧ d.ls.length ≤ maxLen := by
  intro d hd
  simp only [badD, List.mem_cons, List.not_mem_nil, or_false] at hd
  rcases hd with rfl | rfl | rfl | rfl | rfl | rfl | rfl | rfl | rfl | rfl | rfl | rfl | rfl | rfl | rfl | rfl | rfl
  rotate_left 16
  · exact ⟨bad_last _ (zb_length _), ⟨by decide, by decide, by decide, by decide, by decide⟩, by show 1 ≤ maxLen; decide⟩
  all_goals exact ⟨by decide, by unfold MsgOk; decide, by decide⟩
theorem goodD_all : ∀ d ∈ goodD, mayV d = true ∧ MsgOk d ∧ d.ls.length ≤ maxLen := by
  intro d hd
  simp only [goodD, List.mem_cons, List.not_mem_nil, or_false] at hd
  rcases hd with rfl | rfl | rfl | rfl | rfl | rfl
  rotate_left 5
  · exact ⟨good_last _ (zb_length _), ⟨by decide, by decide, by decide, by decide, by decide⟩, by show 1 ≤ maxLen; decide⟩
  all_goals exact ⟨by decide, by unfold MsgOk; decide, by decide⟩
def staD : MsgD := ⟨1, 3, 0, 0, 0, []⟩
theorem staD_may : mayV staD = true := by decide
theorem staD_ok : MsgOk staD := by unfold MsgOk; decide
theorem staD_len : (putV staD).length = 41 := by decide
theorem staD_0 : (putV staD)[0]? = some 1 := by decide
theorem staD_8 : (putV staD)[8]? = some 3 := by decide
theorem staD_bad : getV ((putV staD).set 0 7, false) = false := by decide +kernel
theorem putown_yes (w : World) (m : MsgD) (lv : Value) (hl : Lines w lv m.ls) (hok : MsgOk m) (hlen : m.ls.length ≤ maxLen) (hm : mayV m = true) :
    Calls Try.prog 10 #[.agg (msgCells m lv)] w fun e w' => ∃ v, e = .returned (.tuple #[v, .int .i64 0]) ∧ OwnE w.heap.size w' v (putV m) ∧ Gr w w' := by
  refine (putown_any w m lv hl hok hlen).mono ?_
  rintro e w' ⟨g, h⟩
  rw [if_pos hm] at h
  obtain ⟨v, rfl, hs⟩ := h
  exact ⟨v, rfl, hs, g⟩
/-- make([]Line, 1). -/
theorem make_line (w : World) : ∃ w', (Instr.makeSlice 23 (.int .i64 1) (.int .i64 1)).run Try.prog w = .ok (.slice (some ⟨w.heap.size, 0, none⟩) 1 1) w' ∧ Lines w' (.slice (some ⟨w.heap.size, 0, none⟩) 1 1) [⟨0, []⟩] ∧ Gr w w' := by
  obtain ⟨i0, hi0, hz0, hz1, hz2⟩ := info_parts info_line
  obtain ⟨w', h1, h2, h3⟩ := run_make_full (P := Try.prog) w w.heap.size 23 37 i0 _ 2 Try.underlying23 hi0 hz0 hz1 .i64 .i64 1 (by rw [hz2]; omega) (by unfold maxLen; omega) (Nat.le_refl _)
  refine ⟨w', h1, ?_, grownBy_below h3 (Nat.le_refl _) (by intro k hk; cases hk)⟩
  obtain ⟨hl, h2⟩ := h2
  rcases h2 with ⟨h2, _⟩ | ⟨g, cap, cur, he, _, hh, _, _, hcs, hcur⟩
  · cases h2
  · injection he with e1 e2 e3
    injection e1 with e1
    injection e1 with e4 _
    subst e3 e4
    have hget : ∀ i, i < 2 → cur[i]? = (madeCells (Value.agg #[.int .u64 0, .slice none 0 0]).cells 2)[i]? := by
      intro i hi
      have h4 : cur.toList[i]? = (cur.toList.take (1 * 2))[i]? := by rw [List.getElem?_take_of_lt (by omega)]
      rw [← Array.getElem?_toList, h4, hcur, Array.getElem?_toList]
    refine ⟨fun _ j => if j = 0 then .int .u64 0 else .slice none 0 0, ⟨_, 1, rfl, Nat.le_refl _, .inr ⟨_, 0, rfl, block_lt hh, fun i hi j hj => ?_⟩⟩, fun i hi => ?_⟩
    · obtain rfl : i = 0 := by simp at hi; omega
      rw [cell_of_block hh]
      rcases (by omega : j = 0 ∨ j = 1) with rfl | rfl
      · rw [show (0 + 0 * 2 + 0 : Nat) = 0 from rfl, hget 0 (by decide)]; simp [madeCells, Value.cells]
      · rw [show (0 + 0 * 2 + 1 : Nat) = 1 from rfl, hget 1 (by decide)]; simp [madeCells, Value.cells]
    · obtain rfl : i = 0 := by simp at hi; omega
      exact ⟨rfl, Sl.nil _ _ _, by simp⟩
end Go.Proofs.Ytclicammiopjlaa
