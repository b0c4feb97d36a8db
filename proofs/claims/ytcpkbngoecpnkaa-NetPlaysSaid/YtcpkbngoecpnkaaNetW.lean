/-
  The net's methods by the lists of letters.
-/
import Derived.Test.YtcpkbngoecpnkaaNetM
set_option linter.unusedVariables false
namespace Go.Proofs.Ytcpkbngoecpnkaa
open Go.RowKit

theorem Own.cells5 {w : World} {B : Nat} {e : TypeId} {v : Value} {xs : List Value} (h : Own w B e v xs) : ∀ j, v.ownBlock = some j → B ≤ j ∧ ∃ cs, w.heap[j]? = some (.cells cs e (0, 0)) := by
  intro j hj
  rcases h.2 with ⟨rfl, _⟩ | ⟨g, cap, cur, rfl, h1, h2, _⟩
  · cases hj
  · injection hj with hj
    subst hj
    exact ⟨h1, cur, h2⟩
theorem own_ne {w : World} {B B' : Nat} {v lv : Value} {xs : List Value} {ps : List (LetD × Value)} (h : Own w B 5 v xs) (hl : LetsR w B' lv ps) : ∀ j, v.ownBlock = some j → lv.ownBlock ≠ some j := fun j hj e => by
  obtain ⟨_, cs, h1⟩ := h.cells5 j hj
  obtain ⟨cs', h2⟩ := hl.cells j e
  cases cells_type h1 h2
/-- A block that is none of the net's stays none of it. -/
theorem netB_step {N M X : Nat} {lv lv' : Value} {W : World} (hf : ∀ j, lv'.ownBlock = some j → lv.ownBlock = some j ∨ W.heap.size ≤ j) (hX : X < W.heap.size) (hn : ¬ netB N M lv X) : ¬ netB N M lv' X := fun h => by
  rcases h with h | h | h
  · exact hn (.inl h)
  · exact hn (.inr (.inl h))
  · rcases hf _ h with h | h
    · exact hn (.inr (.inr h))
    · omega
theorem NetIs.monoB {w : World} {base base' N M n : Nat} {lv : Value} {ps : List (LetD × Value)} {sizes : List Int} {cut : AdD × AdD → Bool} (h : NetIs w base N M n lv ps sizes cut) (hb : base' ≤ base) : NetIs w base' N M n lv ps sizes cut := by
  obtain ⟨sv, h1, h2⟩ := h.obj
  exact ⟨⟨sv, h1, h2.mono hb⟩, ⟨h.lets.rows.mono hb, fun p hp => (h.lets.own p hp).mono hb⟩, h.map, Nat.le_trans hb h.bN, Nat.le_trans hb h.bM, h.szs, h.len⟩
section
variable {w : World} {base N M n : Nat} {lv : Value} {ps : List (LetD × Value)} {sizes : List Int} {cut : AdD × AdD → Bool} {ls ls' : List LetD} {z : Int}
theorem len_eq (hm : ps.map Prod.fst = ls) : ps.length = ls.length := by rw [← hm, List.length_map]
theorem mem_of {Q : LetD → Prop} (hm : ps.map Prod.fst = ls) (h : ∀ l ∈ ls, Q l) : ∀ p ∈ ps, Q p.1 := fun p hp => h _ (by rw [← hm]; exact List.mem_map_of_mem hp)
theorem send_w (h : NetIs w base N M n lv ps sizes cut) (hm : ps.map Prod.fst = ls) (l : LetD) (bv : Value) (hb : Sl w bv (bytes l.b)) (hl : l.b.length ≤ 140737488355328) (hne : l.b ≠ [] → ∀ j, bv.ownBlock = some j → lv.ownBlock ≠ some j) (hz : sendE sizes ls.length l = z) (hls : (if z = 0 then ls ++ [l] else ls) = ls') :
    Calls Try.prog 10 #[.pointer (some ⟨N, 0, Option.none⟩), letV l bv] w fun e w' => e = .returned (.int .i64 z) ∧ Did w base N M n lv sizes cut ls' w' := by
  have := send_any h l bv hb hl hne
  rw [len_eq hm, hz, hm, hls] at this
  exact this
theorem double_w (h : NetIs w base N M n lv ps sizes cut) (hm : ps.map Prod.fst = ls) (i : Int) (hlet : ∀ l ∈ ls, l.b.length ≤ 2097152) (hz : doubleE ls.length i = z) (hls : (if z = 0 then ls ++ (ls[i.toNat]?).toList else ls) = ls') :
    Calls Try.prog 28 #[.pointer (some ⟨N, 0, Option.none⟩), .int .i64 i] w fun e w' => e = .returned (.int .i64 z) ∧ Did w base N M n lv sizes cut ls' w' := by
  have := double_any h i (mem_of (Q := fun l => l.b.length ≤ 2097152) hm hlet)
  rw [len_eq hm, hz, hm, hls] at this
  exact this
theorem drop_w (h : NetIs w base N M n lv ps sizes cut) (hm : ps.map Prod.fst = ls) (i : Int) (hz : mayV i ls.length = z) (hls : (if z = 0 then ls.eraseIdx i.toNat else ls) = ls') :
    Calls Try.prog 29 #[.pointer (some ⟨N, 0, Option.none⟩), .int .i64 i] w fun e w' => e = .returned (.int .i64 z) ∧ Did w base N M n lv sizes cut ls' w' := by
  have := drop_any h i
  rw [len_eq hm, hz, hm, hls] at this
  exact this
theorem hold_w (h : NetIs w base N M n lv ps sizes cut) (hm : ps.map Prod.fst = ls) (i : Int) (hz : mayV i ls.length = z) (hls : holdL ls i = ls') :
    Calls Try.prog 11 #[.pointer (some ⟨N, 0, Option.none⟩), .int .i64 i] w fun e w' => e = .returned (.int .i64 z) ∧ Did w base N M n lv sizes cut ls' w' := by
  have := hold_any h i
  rw [len_eq hm, hz, hm, hls] at this
  exact this
theorem take_w (h : NetIs w base N M n lv ps sizes cut) (hm : ps.map Prod.fst = ls) (hok : ∀ l ∈ ls, LetOk l) (i : Int) {r : LetD × Int × List LetD} (hr : takeV sizes cut ls i = r) :
    Calls Try.prog 12 #[.pointer (some ⟨N, 0, Option.none⟩), .int .i64 i] w fun e w' => ∃ bv, e = .returned (.tuple #[letV r.1 bv, .int .i64 r.2.1]) ∧ Own w' base 5 bv (bytes r.1.b) ∧ Did w base N M n lv sizes cut r.2.2 w' := by
  have := take_any h (mem_of (Q := LetOk) hm hok) i
  rw [hm, hr] at this
  exact this
theorem len_w (h : NetIs w base N M n lv ps sizes cut) (hm : ps.map Prod.fst = ls) : Calls Try.prog 14 #[.pointer (some ⟨N, 0, Option.none⟩)] w fun e w' => e = .returned (.int .i64 (ls.length : Int)) ∧ w' = w := by
  have := len_any h
  rw [len_eq hm] at this
  exact this
theorem letters_w (h : NetIs w base N M n lv ps sizes cut) (hm : ps.map Prod.fst = ls) (hlet : ∀ l ∈ ls, l.b.length ≤ 2097152) :
    Calls Try.prog 18 #[.pointer (some ⟨N, 0, Option.none⟩)] w fun e w' => ∃ v ps', e = .returned v ∧ LetsR w' w.heap.size v ps' ∧ ps'.map Prod.fst = ls ∧ Gr w w' := by
  have := letters_any h (mem_of (Q := fun l => l.b.length ≤ 2097152) hm hlet)
  rw [hm] at this
  exact this
end
theorem bytes_fresh {w w' : World} {src dst e : TypeId} {l : List UInt8} {v : Value} (hs : Try.prog.underlying src = some .string) (hd : Try.prog.underlying dst = some (.slice e)) (he : Try.prog.underlying e = some (.int .u8)) (h : (convert src dst (.string ⟨l.toArray⟩)).run Try.prog w = .ok v w') :
    ∀ j, v.ownBlock = some j → w.heap.size ≤ j := by
  rw [Lib.run_convert_string_bytes (P := Try.prog) w src dst e ⟨l.toArray⟩ hs hd he] at h
  injection h with h1 h2
  subst h1
  intro j hj
  have e : some w.heap.size = some j := hj
  injection e with e
  omega
set_option maxHeartbeats 1000000 in
/-- letter(a, b, c, d, s) -/
theorem letter_any (w : World) (a b c d : Int) (l : List UInt8) :
    Calls Try.prog 27 #[.int .i64 a, .int .i64 b, .int .i64 c, .int .i64 d, .string ⟨l.toArray⟩] w fun e w' => ∃ bv, e = .returned (letV ⟨(a, b), (c, d), l⟩ bv) ∧ Sl w' bv (bytes l) ∧ (∀ j, bv.ownBlock = some j → w.heap.size ≤ j) ∧ Gr w w' := by
  obtain ⟨wz, hwz⟩ : ∃ wz, wz = w.alloc (.cells #[.int .i64 0, .int .i64 0, .int .i64 0, .int .i64 0, .slice none 0 0] 35) := ⟨_, rfl⟩
  have cz : CellsAt wz w.heap.size #[.int .i64 0, .int .i64 0, .int .i64 0, .int .i64 0, .slice none 0 0] 35 := by rw [hwz]; exact CellsAt.new _ _ _
  have gz : Gr w wz := by rw [hwz]; exact (Gr.refl w).alloc _
  obtain ⟨v, w1, hr, hs1, hb1⟩ := run_bytes_sl (P := Try.prog) wz 9 23 5 l Try.underlying9 Try.underlying23 Try.underlying5
  have hfr := bytes_fresh Try.underlying9 Try.underlying23 Try.underlying5 hr
  obtain ⟨av, cv, rfl, _⟩ := hs1.bytes
  have C1 := Lib.hid (cz.gr hb1)
  have S1 := Lib.hid hs1
  have G1 := Lib.hid (Gr.trans gz hb1)
  have GZ := Lib.hid gz
  have HF := Lib.hid hfr
  rw [hwz] at hr
  clear cz hs1 hb1 hfr gz
  unfold letV
  go_enter Try.func27, Try.ntmps27
  go_wp2_with (refine wpList_store_all 35 _ _ rfl rfl rfl rfl C1.out (by kernel_rfl) rfl (by simp; exact ⟨rfl, rfl, rfl, rfl, rfl⟩) ?_; intro w5 f1 f2)
  (try simp only [Exit.inBlock, Exit.then])
  have gW : Gr w w5 := Below.trans G1.out (f2.below G1.out.size (fun k hk => by have e : k = w.heap.size := hk; omega))
  have hs5 : Sl w5 (.slice av l.length cv) (bytes l) := Sl.ch S1.out f2 (fun j hj e => by
    have e9 : j = w.heap.size := e
    have h1 := HF.out j hj
    rw [hwz] at h1
    simp at h1
    omega)
  refine bodyPost_ret (v := .agg #[.int .i64 a, .int .i64 b, .int .i64 c, .int .i64 d, .slice av l.length cv]) ?_ rfl ⟨_, rfl, hs5, fun j hj => Nat.le_trans GZ.out.size (HF.out j hj), gW⟩
  have m0 := f1.cell 0
  have m1 := f1.cell 1
  have m2 := f1.cell 2
  have m3 := f1.cell 3
  have m4 := f1.cell 4
  simp only [List.getElem?_toArray, List.getElem?_cons_zero, List.getElem?_cons_succ] at m0 m1 m2 m3 m4
  simp [results, Try.f27, go_sem, m0, m1, m2, m3, m4]
end Go.Proofs.Ytcpkbngoecpnkaa
