/-
  The state of a net: what its object says, by lists and functions.
-/
import Derived.Test.YtcpkbngoecpnkaaRows
import Derived.Test.YtcpkbngoecpnkaaRowsOwn
import Derived.Test.YtcpkbngoecpnkaaMaps
import Derived.Test.YtcpkbngoecpnkaaArr
import Derived.Test.YtcpkbngoecpnkaaTurnTail
import Derived.DeepKeys4
set_option linter.unusedVariables false
namespace Go.Proofs.Ytcpkbngoecpnkaa
open Go.RowKit
open Go.Maps (Keyed)

abbrev AdD := Int × Int
def adV (a : AdD) : Value := .agg #[.int .i64 a.1, .int .i64 a.2]
def AdOk (a : AdD) : Prop := -9223372036854775808 ≤ a.1 ∧ a.1 ≤ 9223372036854775807 ∧ -9223372036854775808 ≤ a.2 ∧ a.2 ≤ 9223372036854775807
/-- A letter. -/
structure LetD where
  src : AdD
  dst : AdD
  b : List UInt8
deriving DecidableEq
def letRow (l : LetD) (bv : Value) : List Value := [.int .i64 l.src.1, .int .i64 l.src.2, .int .i64 l.dst.1, .int .i64 l.dst.2, bv]
def letV (l : LetD) (bv : Value) : Value := .agg #[.int .i64 l.src.1, .int .i64 l.src.2, .int .i64 l.dst.1, .int .i64 l.dst.2, bv]
def LetOk (l : LetD) : Prop := AdOk l.src ∧ AdOk l.dst
def lessV (b a : AdD) : Bool := decide (b.1 < a.1) || decide (b.1 = a.1) && decide (b.2 < a.2)
def keyV (a b : AdD) : AdD × AdD := if lessV b a then (b, a) else (a, b)
def hasV (sizes : List Int) (a : AdD) : Bool := decide (0 ≤ a.1) && decide (a.1 < sizes.length) && decide (0 ≤ a.2) && decide (a.2 < sizes.getD a.1.toNat 0)
def linkV (sizes : List Int) (a b : AdD) : Bool := hasV sizes a && hasV sizes b && decide (a ≠ b)
theorem lessV_total {a b : AdD} (h1 : lessV a b = false) (h2 : lessV b a = false) : a = b := by
  obtain ⟨a1, a2⟩ := a
  obtain ⟨b1, b2⟩ := b
  simp [lessV] at h1 h2
  have e : a1 = b1 := by omega
  have := h1.2 e
  have := h2.2 e.symm
  rw [e, show a2 = b2 by omega]
theorem lessV_anti {a b : AdD} (h1 : lessV a b = true) : lessV b a = false := by
  obtain ⟨a1, a2⟩ := a
  obtain ⟨b1, b2⟩ := b
  simp [lessV] at h1 ⊢
  omega
theorem keyV_comm (a b : AdD) : keyV a b = keyV b a := by
  unfold keyV
  cases h1 : lessV b a <;> cases h2 : lessV a b
  · rw [lessV_total h1 h2]
  · rfl
  · rfl
  · rw [lessV_anti h1] at h2; cases h2
theorem keyV_eq {a b c d : AdD} : keyV a b = keyV c d ↔ (a = c ∧ b = d) ∨ (a = d ∧ b = c) := by
  constructor
  · unfold keyV
    intro h
    split at h <;> split at h <;> simp only [Prod.mk.injEq] at h <;> obtain ⟨e1, e2⟩ := h <;> subst e1 e2 <;> simp
  · rintro (⟨rfl, rfl⟩ | ⟨rfl, rfl⟩)
    · rfl
    · exact keyV_comm _ _
theorem linkV_comm (s : List Int) (a b : AdD) : linkV s a b = linkV s b a := by
  unfold linkV
  rw [Bool.and_comm (hasV s a), show decide (a ≠ b) = decide (b ≠ a) from decide_eq_decide.2 ⟨Ne.symm, Ne.symm⟩]
/-- The map's key. -/
def keyA (p : AdD × AdD) : Value := .agg #[.int .i64 p.1.1, .int .i64 p.1.2, .int .i64 p.2.1, .int .i64 p.2.2]
def KeyOk (p : AdD × AdD) : Prop := AdOk p.1 ∧ AdOk p.2
theorem keyV_ok {a b : AdD} (ha : AdOk a) (hb : AdOk b) : KeyOk (keyV a b) := by
  unfold keyV
  split
  · exact ⟨hb, ha⟩
  · exact ⟨ha, hb⟩
theorem lit_ok {x : Int} (h1 : -9223372036854775808 ≤ x) (h2 : x ≤ 9223372036854775807) : (Lit.int .i64 x).wf = true := by
  simp [Lit.wf, IntKind.min, IntKind.max, IntKind.signed, IntKind.bits]
  omega
theorem keyLaw : Keyed Try.prog 70 := Keyed.of_law (deep_law_laid (by kernel_rfl) (m := 4) (by omega) (by decide +kernel) (by kernel_rfl) (by kernel_rfl))
def descOf : TypeDesc → Option (List (Nat × Nat) × Bool)
  | .struct fs => some (fs.toList.map (fun f => (f.type, f.offset)), fs.all (·.name != "_"))
  | _ => none
theorem kl_int (d : Nat) {x : Int} (h : (Lit.int .i64 x).wf = true) : Try.prog.keyLits (d + 1) 3 [.int .i64 x] = some [.int .i64 x] := by
  have hu : Try.prog.underlying 3 = some (.int .i64) := by kernel_rfl
  simp [Program.keyLits, hu, h]
theorem kl_addr (d : Nat) {x y : Int} (hx : (Lit.int .i64 x).wf = true) (hy : (Lit.int .i64 y).wf = true) : Try.prog.keyLits (d + 1 + 1) 33 [.int .i64 x, .int .i64 y] = some [.int .i64 x, .int .i64 y] := by
  have h0 : (Try.prog.underlying 33).bind descOf = some ([(3, 0), (3, 1)], true) := by kernel_rfl
  have h3 : Try.prog.cellsOf 33 = 2 := by kernel_rfl
  obtain ⟨fs, hu, h2, h1⟩ : ∃ fs, Try.prog.underlying 33 = some (.struct fs) ∧ fs.toList.map (fun f => (f.type, f.offset)) = [(3, 0), (3, 1)] ∧ fs.all (·.name != "_") = true := by
    cases h : Try.prog.underlying 33 with
    | none => rw [h] at h0; cases h0
    | some d =>
      rw [h] at h0
      cases d <;> simp [descOf] at h0
      exact ⟨_, rfl, h0.1, by simpa using h0.2⟩
  have h4 : Try.prog.cellsOf 3 = 1 := by kernel_rfl
  have key : ∀ l : List Field, l.map (fun f => (f.type, f.offset)) = [(3, 0), (3, 1)] → (l.mapM fun f => Try.prog.keyLits (d + 1) f.type (([Value.int .i64 x, .int .i64 y].drop f.offset).take (Try.prog.cellsOf f.type))) = some [[.int .i64 x], [.int .i64 y]] := by
    intro l hl
    obtain ⟨f, g, rfl⟩ : ∃ f g, l = [f, g] := by
      have h5 : l.length = 2 := by simpa using congrArg List.length hl
      rcases l with _ | ⟨f, _ | ⟨g, _ | ⟨_, _⟩⟩⟩
      · simp at h5
      · simp at h5
      · exact ⟨f, g, rfl⟩
      · simp at h5
    simp only [List.map_cons, List.map_nil, List.cons.injEq, Prod.mk.injEq, and_true] at hl
    obtain ⟨⟨e1, e2⟩, e3, e4⟩ := hl
    simp [e1, e2, e3, e4, h4, kl_int d hx, kl_int d hy]
  unfold Program.keyLits
  simp only [hu, h3, h1, List.length_cons, List.length_nil, and_true, if_true]
  rw [key _ h2]
  rfl
def keyL (p : AdD × AdD) : Lit := .string (keyBytes [.int .i64 p.1.1, .int .i64 p.1.2, .int .i64 p.2.1, .int .i64 p.2.2])
theorem key_some {p : AdD × AdD} (h : KeyOk p) : keyOf Try.prog 70 (keyA p) = some (keyL p) := by
  obtain ⟨⟨a1, a2, a3, a4⟩, b1, b2, b3, b4⟩ := h
  have e1 := lit_ok a1 a2
  have e2 := lit_ok a3 a4
  have e3 := lit_ok b1 b2
  have e4 := lit_ok b3 b4
  have hu : Try.prog.underlying 70 = some (.array 2 33) := by kernel_rfl
  have hs : ∃ d, Try.prog.types.size + 1 = d + 1 + 1 + 1 := ⟨95, by kernel_rfl⟩
  obtain ⟨d, hd⟩ := hs
  have hk : Try.prog.keyType 70 = true := by kernel_rfl
  have hc : Try.prog.cellsOf 70 = 4 := by kernel_rfl
  have hc2 : Try.prog.cellsOf 33 = 2 := by kernel_rfl
  unfold keyOf
  simp only [hu, hk, Bool.true_and]
  have hf : (keyA p).formed Try.prog 70 = true := by
    unfold keyA Value.formed
    simp only [hu, hc]
    rfl
  rw [hf, if_pos rfl, hd]
  unfold Program.keyLits
  have hl : (keyA p).cells.toList = [.int .i64 p.1.1, .int .i64 p.1.2, .int .i64 p.2.1, .int .i64 p.2.2] := rfl
  simp only [hu, hc, hl, List.length_cons, List.length_nil, if_true, hc2]
  have r2 : (List.range 2).mapM (fun i => Try.prog.keyLits (d + 1 + 1) 33 (([Value.int .i64 p.1.1, .int .i64 p.1.2, .int .i64 p.2.1, .int .i64 p.2.2].drop (i * 2)).take 2)) = some [[.int .i64 p.1.1, .int .i64 p.1.2], [.int .i64 p.2.1, .int .i64 p.2.2]] := by
    rw [show List.range 2 = [0, 1] from rfl]
    simp [kl_addr d e1 e2, kl_addr d e3 e4]
  rw [r2]
  rfl
theorem keyL_inj {p q : AdD × AdD} (hp : KeyOk p) (hq : KeyOk q) (h : keyL p = keyL q) : p = q := by
  have e := keyLaw.inj (key_some hp) (by rw [h]; exact key_some hq)
  simp only [keyA, Value.agg.injEq, Array.mk.injEq, List.cons.injEq, Value.int.injEq, true_and, and_true] at e
  obtain ⟨⟨a, b⟩, c, d⟩ := p
  obtain ⟨⟨a', b'⟩, c', d'⟩ := q
  simp only at e
  obtain ⟨rfl, rfl, rfl, rfl⟩ := e
  rfl
end Go.Proofs.Ytcpkbngoecpnkaa
