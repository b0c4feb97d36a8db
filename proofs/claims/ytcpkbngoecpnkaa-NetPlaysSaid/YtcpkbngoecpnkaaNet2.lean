/-
  Package net: own, may, Len.
-/
import Derived.Test.YtcpkbngoecpnkaaNetO
set_option linter.unusedVariables false
namespace Go.Proofs.Ytcpkbngoecpnkaa
open Go.RowKit

theorem oneSl {v : Value} (h : ∃ a n c, v = .slice a n c) : v.oneCell' = true := by obtain ⟨a, n, c, rfl⟩ := h; rfl
set_option maxHeartbeats 1000000 in
/-- own: a copy of a letter with bytes of its own. -/
theorem own_any (w : World) (l : LetD) (bv : Value) (h : Sl w bv (bytes l.b)) (hl : l.b.length ≤ 140737488355328) :
    Calls Try.prog 34 #[letV l bv] w fun e w' => ∃ bv', e = .returned (letV l bv') ∧ Own w' w.heap.size 5 bv' (bytes l.b) ∧ Gr w w' := by
  obtain ⟨⟨a1, a2⟩, ⟨b1, b2⟩, b⟩ := l
  obtain ⟨ab, cb, rfl, _⟩ := h.bytes
  obtain ⟨w0, hw0⟩ : ∃ w0, w0 = (w.alloc (.cells #[.int .i64 a1, .int .i64 a2, .int .i64 b1, .int .i64 b2, .slice ab b.length cb] 35)).alloc (.cells #[.int .i64 0, .int .i64 0, .int .i64 0, .int .i64 0, .slice none 0 0] 35) := ⟨_, rfl⟩
  have g0 : Gr w w0 := by rw [hw0]; exact ((Gr.refl w).alloc _).alloc _
  have cA : CellsAt w0 w.heap.size #[.int .i64 a1, .int .i64 a2, .int .i64 b1, .int .i64 b2, .slice ab b.length cb] 35 := by rw [hw0]; exact (CellsAt.new _ _ _).gr ((Gr.refl _).alloc _)
  have cR : CellsAt w0 (w.heap.size + 1) #[.int .i64 0, .int .i64 0, .int .i64 0, .int .i64 0, .slice none 0 0] 35 := by rw [hw0]; exact CellsAt.newAt (w.alloc (.cells #[.int .i64 a1, .int .i64 a2, .int .i64 b1, .int .i64 b2, .slice ab b.length cb] 35)) _ _ (by simp)
  have s0 := h.below g0
  have S0 := Lib.hid s0
  have HL := Lib.hid hl
  have G0 := Lib.hid g0
  have CA := Lib.hid cA
  have CR := Lib.hid cR
  have HW := Lib.hid hw0
  clear h s0 hl g0 cA cR hw0
  unfold letV
  go_enter Try.func34, Try.ntmps34
  go_wp2_with fail
  simp only [← HW.out]
  refine (clone_any _ b w0 S0.out HL.out).mono ?_
  rintro e w2 ⟨v2, rfl, ho, hb⟩
  have hb2 : Gr w0 w2 := hb
  have c1 := CA.out.gr hb2
  have c2 := CR.out.gr hb2
  obtain ⟨a2', n2', c2', ev2⟩ := ho.sh
  have k0 := c1.cell 0
  have k1 := c1.cell 1
  have k2 := c1.cell 2
  have k3 := c1.cell 3
  have k4 := c1.cell 4
  have k5 := c1.frozen 4
  have C3 := Lib.hid (c1.set 4 v2)
  have C4 : Hid (CellsAt (w2.setCell ⟨w.heap.size, 4, none⟩ v2) (w.heap.size + 1) #[.int .i64 0, .int .i64 0, .int .i64 0, .int .i64 0, .slice none 0 0] 35) := Lib.hid (c2.ch (ch_setCell w2 w.heap.size 4 v2) (by omega))
  have G2 := Lib.hid (Gr.trans G0.out hb2)
  have C1 := Lib.hid c1
  have HO := Lib.hid (ho.mono (base' := w.heap.size) G0.out.size)
  rw [ev2] at C3 C4 HO ⊢
  clear hb hb2 ho c1 c2 ev2
  go_wp2_with (refine wpList_store_all 35 _ _ rfl rfl rfl rfl C4.out (by kernel_rfl) rfl (by simp; exact ⟨rfl, rfl, rfl, rfl, rfl⟩) ?_; intro w5 f1 f2)
  (try simp only [Exit.inBlock, Exit.then])
  have hkb : Kb w2 w5 := Kb.trans (Kb.ch (ch_setCell w2 w.heap.size 4 _) (fun j cs t fr hj hc => by
    have e : j = w.heap.size := hj
    subst e
    rw [cells_type hc C1.out]
    exact ⟨by decide, by decide⟩)) (Kb.ch f2 (fun j cs t fr hj hc => by
    have e : j = w.heap.size + 1 := hj
    subst e
    rw [cells_type hc C4.out]
    exact ⟨by decide, by decide⟩))
  refine bodyPost_ret (v := .agg #[.int .i64 a1, .int .i64 a2, .int .i64 b1, .int .i64 b2, .slice a2' n2' c2']) ?_ rfl
    ⟨.slice a2' n2' c2', rfl, HO.out.kb (.inl rfl) hkb, Below.trans G2.out (Below.trans ((ch_setCell w2 w.heap.size 4 _).below G2.out.size (fun k hk => by have e : k = w.heap.size := hk; omega)) (f2.below (by simp [World.setCell]; exact G2.out.size) (fun k hk => by have e : k = w.heap.size + 1 := hk; omega)))⟩
  have m0 := f1.cell 0
  have m1 := f1.cell 1
  have m2 := f1.cell 2
  have m3 := f1.cell 3
  have m4 := f1.cell 4
  simp only [List.getElem?_toArray, List.getElem?_cons_zero, List.getElem?_cons_succ] at m0 m1 m2 m3 m4
  simp [results, Try.f34, go_sem, m0, m1, m2, m3, m4]

def mayV (i : Int) (n : Nat) : Int := if i < 0 then 1 else if (n : Int) ≤ i then 1 else 0
set_option maxHeartbeats 1000000 in
/-- (*Net).may -/
theorem may_any {w : World} {base N M n : Nat} {lv : Value} {ps : List (LetD × Value)} {sizes : List Int} {cut : AdD × AdD → Bool} (h : NetIs w base N M n lv ps sizes cut) (i : Int) :
    Calls Try.prog 35 #[.pointer (some ⟨N, 0, Option.none⟩), .int .i64 i] w fun e w' => e = .returned (.int .i64 (mayV i ps.length)) ∧ w' = w := by
  obtain ⟨sv, hN, _⟩ := h.obj
  have c1 := hN.cell 1
  obtain ⟨a, cap, rfl⟩ := h.lets.shape
  obtain ⟨L, hL⟩ : ∃ L, L = ps.length := ⟨_, rfl⟩
  rw [← hL] at c1 ⊢
  clear hL hN h
  by_cases h1 : i < 0
  · rw [show mayV i L = 1 by simp [mayV, h1]]
    go_enter Try.func35, Try.ntmps35
    go_wp2
    go_ret
    exact ⟨rfl, rfl⟩
  · by_cases h2 : (L : Int) ≤ i
    · rw [show mayV i L = 1 by simp [mayV, h2]]
      go_enter Try.func35, Try.ntmps35
      go_wp2
      go_ret
      exact ⟨rfl, rfl⟩
    · rw [show mayV i L = 0 by simp [mayV, h1, h2]]
      go_enter Try.func35, Try.ntmps35
      go_wp2
      go_ret
      exact ⟨rfl, rfl⟩
/-- (*Net).Len -/
theorem len_any {w : World} {base N M n : Nat} {lv : Value} {ps : List (LetD × Value)} {sizes : List Int} {cut : AdD × AdD → Bool} (h : NetIs w base N M n lv ps sizes cut) :
    Calls Try.prog 14 #[.pointer (some ⟨N, 0, Option.none⟩)] w fun e w' => e = .returned (.int .i64 (ps.length : Int)) ∧ w' = w := by
  obtain ⟨sv, hN, _⟩ := h.obj
  have c1 := hN.cell 1
  obtain ⟨a, cap, rfl⟩ := h.lets.shape
  obtain ⟨L, hL⟩ : ∃ L, L = ps.length := ⟨_, rfl⟩
  rw [← hL] at c1 ⊢
  clear hL hN h
  go_enter Try.func14, Try.ntmps14
  go_wp2
  go_ret
  exact ⟨rfl, rfl⟩
end Go.Proofs.Ytcpkbngoecpnkaa
