/-
  A net beside bytes that are written; methods of no net at all.
-/
import Derived.Test.YtcpkbngoecpnkaaNetG
set_option linter.unusedVariables false
namespace Go.Proofs.Ytcpkbngoecpnkaa
open Go.RowKit

/-- Bytes beside the net were written. -/
theorem NetIs.apart {W W' : World} {base N M n I : Nat} {lv : Value} {ps : List (LetD × Value)} {sizes : List Int} {cut : AdD × AdD → Bool} {cs : Array Value} {fr : Nat × Nat} (h : NetIs W base N M n lv ps sizes cut) (hI : W.heap[I]? = some (.cells cs 5 fr))
    (hc : Ch (fun j => j = I) W W') (hp : ∀ p ∈ ps, ∀ j, p.2.ownBlock = some j → j ≠ I) : NetIs W' base N M n lv ps sizes cut := by
  obtain ⟨sv, h1, h2⟩ := h.obj
  obtain ⟨f, h3, h4⟩ := h.map
  have keep : ∀ j, j < W.heap.size → j ≠ I → W'.heap[j]? = W.heap[j]? := fun j hj hn => hc.block j hj hn
  have hN : N ≠ I := fun e => by rw [← e] at hI; cases cells_type h1 hI
  have hM : M ≠ I := fun e => by
    obtain ⟨D, ⟨es, clock, e1, _⟩, _⟩ := h3
    rw [e, hI] at e1
    cases e1
  refine ⟨⟨sv, h1.block (keep N h.ltN hN), h2.blockT fun j cs' fr' hj _ => keep j (Array.getElem?_eq_some_iff.1 hj).1 (fun e => by rw [e] at hj; cases cells_type hj hI)⟩,
    ⟨h.lets.rows.block fun j hj => keep j (h.lets.lt j hj).2 (fun e => by obtain ⟨cs', h9⟩ := h.lets.cells j hj; rw [e] at h9; cases cells_type h9 hI), fun p hpm => (h.lets.own p hpm).blockT fun j cs' fr' hj hown => keep j (Array.getElem?_eq_some_iff.1 hj).1 (hp p hpm j hown)⟩,
    ⟨f, h3.block (keep M h.ltM hM), h4⟩, h.bN, h.bM, h.szs, h.len⟩
theorem Own.ltB {w : World} {B : Nat} {v : Value} {e : TypeId} {xs : List Value} (h : Own w B e v xs) : ∀ j, v.ownBlock = some j → B ≤ j ∧ j < w.heap.size := fun j hj => World.ownsRow.lt h j hj
/-! ### No net -/
theorem nil_send (w : World) (l : Value) (h5 : ∃ a b c d e, l = .agg #[a, b, c, d, e]) : Calls Try.prog 10 #[.pointer Option.none, l] w fun e w' => e = .returned (.int .i64 8) ∧ Gr w w' := by
  obtain ⟨a, b, c, d, e, rfl⟩ := h5
  go_enter Try.func10, Try.ntmps10
  go_wp2
  go_ret
  exact ⟨rfl, (Gr.refl w).alloc _⟩
theorem nil_len (w : World) : Calls Try.prog 14 #[.pointer Option.none] w fun e w' => e = .returned (.int .i64 0) ∧ w' = w := by
  go_enter Try.func14, Try.ntmps14
  go_wp2
  go_ret
  exact ⟨rfl, rfl⟩
theorem nil_letters (w : World) : Calls Try.prog 18 #[.pointer Option.none] w fun e w' => e = .returned (.slice Option.none 0 0) ∧ w' = w := by
  go_enter Try.func18, Try.ntmps18
  go_wp2
  go_ret
  exact ⟨rfl, rfl⟩
theorem nil_may (w : World) (i : Int) : Calls Try.prog 35 #[.pointer Option.none, .int .i64 i] w fun e w' => e = .returned (.int .i64 8) ∧ w' = w := by
  go_enter Try.func35, Try.ntmps35
  go_wp2
  go_ret
  exact ⟨rfl, rfl⟩
theorem nil_drop (w : World) (i : Int) : Calls Try.prog 29 #[.pointer Option.none, .int .i64 i] w fun e w' => e = .returned (.int .i64 8) ∧ w' = w := by
  go_enter Try.func29, Try.ntmps29
  go_wp2_with fail
  refine (nil_may w i).mono ?_
  rintro e w' ⟨rfl, hw⟩
  subst w'
  go_wp2
  go_ret
  exact ⟨rfl, rfl⟩
theorem nil_double (w : World) (i : Int) : Calls Try.prog 28 #[.pointer Option.none, .int .i64 i] w fun e w' => e = .returned (.int .i64 8) ∧ w' = w := by
  go_enter Try.func28, Try.ntmps28
  go_wp2_with fail
  refine (nil_may w i).mono ?_
  rintro e w' ⟨rfl, hw⟩
  subst w'
  go_wp2
  go_ret
  exact ⟨rfl, rfl⟩
theorem nil_hold (w : World) (i : Int) : Calls Try.prog 11 #[.pointer Option.none, .int .i64 i] w fun e w' => e = .returned (.int .i64 8) ∧ w' = w := by
  go_enter Try.func11, Try.ntmps11
  go_wp2_with fail
  refine (nil_may w i).mono ?_
  rintro e w' ⟨rfl, hw⟩
  subst w'
  go_wp2
  go_ret
  exact ⟨rfl, rfl⟩
theorem nil_take (w : World) (i : Int) : Calls Try.prog 12 #[.pointer Option.none, .int .i64 i] w fun e w' => e = .returned (.tuple #[.agg #[.int .i64 0, .int .i64 0, .int .i64 0, .int .i64 0, .slice Option.none 0 0], .int .i64 8]) ∧ Gr w w' := by
  go_enter Try.func12, Try.ntmps12
  go_wp2_with fail
  refine (nil_may _ i).mono ?_
  rintro e w' ⟨rfl, hw⟩
  subst w'
  go_wp2_with fail
  (try simp only [Exit.inBlock, Exit.then])
  refine bodyPost_ret (v := .tuple #[.agg #[.int .i64 0, .int .i64 0, .int .i64 0, .int .i64 0, .slice none 0 0], .int .i64 8]) ?_ rfl ⟨rfl, (Gr.refl w).alloc _⟩
  simp [results, Try.f12, go_sem]
theorem nil_turn (w : World) (a b : AdD) (v : Bool) : Calls Try.prog 37 #[.pointer Option.none, adV a, adV b, .bool v] w fun e w' => e = .returned (.int .i64 8) ∧ Gr w w' := by
  unfold adV
  go_enter Try.func37, Try.ntmps37
  go_wp2
  go_ret
  exact ⟨rfl, ((Gr.refl w).alloc _).alloc _⟩
theorem nil_cut (w : World) (a b : AdD) : Calls Try.prog 16 #[.pointer Option.none, adV a, adV b] w fun e w' => e = .returned (.int .i64 8) ∧ Gr w w' := by
  have h := fun W => nil_turn W a b true
  unfold adV at h ⊢
  go_enter Try.func16, Try.ntmps16
  go_wp2_with fail
  refine (h _).mono ?_
  rintro e w' ⟨rfl, g⟩
  have G := Lib.hid (Gr.trans (((Gr.refl w).alloc _).alloc _) g)
  clear g h
  go_wp2
  go_ret
  exact ⟨rfl, G.out⟩
theorem nil_heal (w : World) (a b : AdD) : Calls Try.prog 19 #[.pointer Option.none, adV a, adV b] w fun e w' => e = .returned (.int .i64 8) ∧ Gr w w' := by
  have h := fun W => nil_turn W a b false
  unfold adV at h ⊢
  go_enter Try.func19, Try.ntmps19
  go_wp2_with fail
  refine (h _).mono ?_
  rintro e w' ⟨rfl, g⟩
  have G := Lib.hid (Gr.trans (((Gr.refl w).alloc _).alloc _) g)
  clear g h
  go_wp2
  go_ret
  exact ⟨rfl, G.out⟩
theorem nil_cuts (w : World) (a b : AdD) : Calls Try.prog 17 #[.pointer Option.none, adV a, adV b] w fun e w' => e = .returned (.bool false) ∧ Gr w w' := by
  unfold adV
  go_enter Try.func17, Try.ntmps17
  go_wp2
  go_ret
  exact ⟨rfl, ((Gr.refl w).alloc _).alloc _⟩
end Go.Proofs.Ytcpkbngoecpnkaa
