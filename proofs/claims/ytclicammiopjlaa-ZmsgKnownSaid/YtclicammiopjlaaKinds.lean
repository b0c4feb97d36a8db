/-
  kinds: what a kind of messages has.
-/
import Derived.Test.YtclicammiopjlaaMsgs
import Derived.Test.YtclicammiopjlaaMaps
set_option linter.unusedVariables false
namespace Go.Proofs.Ytclicammiopjlaa
open Go.RowKit
open Go.Maps (Keyed keyOf_int_mk int_keyed)

def bit (x : Bool) : UInt8 := if x then 1 else 0
theorem bit_inj {a b : Bool} (h : bit a = bit b) : a = b := by cases a <;> cases b <;> first | rfl | (simp [bit] at h)
def hasD (a b c d : Bool) : DataW Unit := .lit (.string [bit a, bit b, bit c, bit d])
def hasA (a b c d : Bool) : Value := .agg #[.bool a, .bool b, .bool c, .bool d]
def R0 (v : Value) : Option (DataW Unit × List MemPlace) :=
  match v with
  | .agg cs => match cs.toList with
    | [.bool a, .bool b, .bool c, .bool d] => some (hasD a b c d, [])
    | _ => none
  | _ => none
theorem R0_mk (a b c d : Bool) : R0 (hasA a b c d) = some (hasD a b c d, []) := rfl
theorem R0_inv {v : Value} {a b c d : Bool} {ps : List MemPlace} (h : R0 v = some (hasD a b c d, ps)) : v = hasA a b c d := by
  unfold R0 at h
  split at h
  · rename_i cs
    split at h
    · rename_i a' b' c' d' hcs
      injection h with h
      injection h with h _
      unfold hasD at h
      injection h with h
      injection h with h
      injection h with h1 h
      injection h with h2 h
      injection h with h3 h
      injection h with h4 h
      obtain rfl := bit_inj h1
      obtain rfl := bit_inj h2
      obtain rfl := bit_inj h3
      obtain rfl := bit_inj h4
      unfold hasA
      congr 1
      exact Array.toList_inj.1 hcs
    · cases h
  · cases h

structure HasV where
  current : Bool
  at_ : Bool
  commit : Bool
  lines : Bool
  ok : Bool
def kindV (n : Nat) : HasV := ⟨n == 2, n == 5 || n == 6, n == 5, n == 2 || n == 4 || n == 5, decide (1 ≤ n) && decide (n ≤ 6)⟩
def kindA (n : Nat) : Value := hasA (kindV n).current (kindV n).at_ (kindV n).commit (kindV n).lines
def KindMap (w : World) (g : Nat) : Prop := ∃ G, MapO w 5 R0 g 6 G ∧ ∀ n : Nat, n < 256 → G (.int .u8 (n : Int)) = if (kindV n).ok then some (hasD (kindV n).current (kindV n).at_ (kindV n).commit (kindV n).lines) else none
theorem KindMap.below {w w' : World} {g : Nat} (h : KindMap w g) (hg : Gr w w') : KindMap w' g := by
  obtain ⟨G, h1, h2⟩ := h; exact ⟨G, h1.below hg, h2⟩
theorem K5 : Keyed Try.prog 5 := int_keyed Try.underlying5
theorem key5 (n : Nat) (hn : n < 256) : keyOf Try.prog 5 (.int .u8 (n : Int)) = some (.int .u8 (n : Int)) := by
  refine keyOf_int_mk Try.underlying5 ?_
  simp [Lit.wf, IntKind.min, IntKind.max, IntKind.bits, IntKind.signed]; omega
theorem KindMap.look {w : World} {g : Nat} (h : KindMap w g) (n : Nat) (hn : n < 256) : (Instr.lookup 63 (.map (some g)) (.int .u8 (n : Int)) true).run Try.prog w = .ok (.tuple #[kindA n, .bool (kindV n).ok]) w := by
  obtain ⟨G, h1, h2⟩ := h
  obtain ⟨e1, e2⟩ := MapO.look w K5 Try.underlying63 (z := hasA false false false false) (by rfl) h1 (key5 n hn)
  have h3 := h2 n hn
  cases hk : (kindV n).ok with
  | true =>
    rw [hk, if_pos rfl] at h3
    obtain ⟨v, ps, hr, hrun⟩ := e2 _ h3
    rw [hrun, R0_inv hr]
    rfl
  | false =>
    rw [hk, if_neg (by decide)] at h3
    rw [e1 h3]
    have hn6 : n = 0 ∨ 6 < n := by
      simp [kindV] at hk; omega
    have : kindA n = hasA false false false false := by
      unfold kindA kindV
      rcases hn6 with rfl | hn6
      · rfl
      · have e2 : (n == 2) = false := by simp; omega
        have e4 : (n == 4) = false := by simp; omega
        have e5 : (n == 5) = false := by simp; omega
        have e6 : (n == 6) = false := by simp; omega
        simp only [e2, e4, e5, e6]; rfl
    rw [this]

theorem run_makeMap' (t : TypeId) (w : World) : (Instr.makeMap t none).run Try.prog w = .ok (.map (some w.heap.size)) (w.alloc (.map #[] 0)) := rfl
theorem kinds_any (w : World) : Calls Try.prog 37 #[] w fun e w' => ∃ g, e = .returned (.map (some g)) ∧ KindMap w' g ∧ Gr w w' := by
  have m0 := run_makeMap' 63 w
  have o0 := MapO.made w 5 R0
  have g0 : Gr w (w.alloc (.map #[] 0)) := (Gr.refl w).alloc _
  generalize w.alloc (.map #[] 0) = w0 at *
  obtain ⟨w1, f1, r1, o1, a1, b1, g1⟩ := MapO.update w0 (d := hasD false false false false) (ps := []) K5 Try.underlying63 o0 (by decide) (show keyOf Try.prog 5 (.int .u8 1) = some (.int .u8 1) from key5 1 (by decide)) (R0_mk false false false false)
  obtain ⟨w2, f2, r2, o2, a2, b2, g2⟩ := MapO.update w1 (d := hasD true false false true) (ps := []) K5 Try.underlying63 o1 (by decide) (show keyOf Try.prog 5 (.int .u8 2) = some (.int .u8 2) from key5 2 (by decide)) (R0_mk true false false true)
  obtain ⟨w3, f3, r3, o3, a3, b3, g3⟩ := MapO.update w2 (d := hasD false false false false) (ps := []) K5 Try.underlying63 o2 (by decide) (show keyOf Try.prog 5 (.int .u8 3) = some (.int .u8 3) from key5 3 (by decide)) (R0_mk false false false false)
  obtain ⟨w4, f4, r4, o4, a4, b4, g4⟩ := MapO.update w3 (d := hasD false false false true) (ps := []) K5 Try.underlying63 o3 (by decide) (show keyOf Try.prog 5 (.int .u8 4) = some (.int .u8 4) from key5 4 (by decide)) (R0_mk false false false true)
  obtain ⟨w5, f5, r5, o5, a5, b5, g5⟩ := MapO.update w4 (d := hasD false true true true) (ps := []) K5 Try.underlying63 o4 (by decide) (show keyOf Try.prog 5 (.int .u8 5) = some (.int .u8 5) from key5 5 (by decide)) (R0_mk false true true true)
  obtain ⟨w6, f6, r6, o6, a6, b6, g6⟩ := MapO.update w5 (d := hasD false true false false) (ps := []) K5 Try.underlying63 o5 (by decide) (show keyOf Try.prog 5 (.int .u8 6) = some (.int .u8 6) from key5 6 (by decide)) (R0_mk false true false false)
  have hgr : Gr w w6 := by
    have s0 := g0.size
    have gg : w0.grownBy w6 (some w.heap.size) := grownBy_trans (grownBy_trans (grownBy_trans (grownBy_trans (grownBy_trans g1 g2) g3) g4) g5) g6
    exact Below.trans g0 (grownBy_below gg s0 (by intro k hk; injection hk with hk; omega))
  have hkm : KindMap w6 w.heap.size := by
    refine ⟨f6, o6, fun n hn => ?_⟩
    have ne : ∀ k : Nat, n ≠ k → Lit.int .u8 (n : Int) ≠ .int .u8 (k : Int) := fun k hk e => hk (by injection e with _ e; exact_mod_cast e)
    rcases Nat.lt_or_ge 6 n with h | h
    · rw [b6 _ (ne 6 (by omega)), b5 _ (ne 5 (by omega)), b4 _ (ne 4 (by omega)), b3 _ (ne 3 (by omega)), b2 _ (ne 2 (by omega)), b1 _ (ne 1 (by omega))]
      have : (kindV n).ok = false := by simp [kindV]; omega
      rw [this]; rfl
    · have : n = 0 ∨ n = 1 ∨ n = 2 ∨ n = 3 ∨ n = 4 ∨ n = 5 ∨ n = 6 := by omega
      rcases this with rfl | rfl | rfl | rfl | rfl | rfl | rfl
      · rw [b6 _ (ne 6 (by omega)), b5 _ (ne 5 (by omega)), b4 _ (ne 4 (by omega)), b3 _ (ne 3 (by omega)), b2 _ (ne 2 (by omega)), b1 _ (ne 1 (by omega))]; rfl
      · rw [b6 _ (ne 6 (by omega)), b5 _ (ne 5 (by omega)), b4 _ (ne 4 (by omega)), b3 _ (ne 3 (by omega)), b2 _ (ne 2 (by omega))]; exact a1
      · rw [b6 _ (ne 6 (by omega)), b5 _ (ne 5 (by omega)), b4 _ (ne 4 (by omega)), b3 _ (ne 3 (by omega))]; exact a2
      · rw [b6 _ (ne 6 (by omega)), b5 _ (ne 5 (by omega)), b4 _ (ne 4 (by omega))]; exact a3
      · rw [b6 _ (ne 6 (by omega)), b5 _ (ne 5 (by omega))]; exact a4
      · rw [b6 _ (ne 6 (by omega))]; exact a5
      · exact a6
  unfold hasA at r1 r2 r3 r4 r5 r6
  have HG := Lib.hid hgr
  have HK := Lib.hid hkm
  clear hgr hkm o0 o1 o2 o3 o4 o5 o6 a1 a2 a3 a4 a5 a6 b1 b2 b3 b4 b5 b6 g0 g1 g2 g3 g4 g5 g6
  go_enter Try.func37, Try.ntmps37
  go_wp2
  go_ret
  exact ⟨_, rfl, HK.out, HG.out⟩
end Go.Proofs.Ytclicammiopjlaa
