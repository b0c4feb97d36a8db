/-
  Of the document: plain: of an entry what its kind has.
  Of the document: plain, of writes, ends of sessions, items.
-/
import Derived.Test.YtpcpijecibiibaaGreatZRMay
import Derived.Test.YtpcpijecibiibaaGreatZK
import Derived.Test.YtpcpijecibiibaaGreatZEnBig
section
set_option linter.unusedVariables false
set_option linter.unusedSimpArgs false
set_option maxRecDepth 100000
namespace Go.Proofs.YtpcpijecibiibaaGreat
open Go.RowKit
section
variable {P : Program} {W w' : World} {o : Oper} {a : Act} {ops : Array Oper}
theorem opT_build {R : World → World → Prop} {V : Sp} (t : TypeId) (parts : Array (Nat × Operand)) (ho : o.op = .build t parts) (hgd : o.guard = none) {cells : Array Value} (hf : P.built t (parts.map fun (i, x) => (i, a.eval x)).toList = some cells) (h : R W W ∧ V (.agg cells) W) : opT P R ops o a W V := by
  unfold opT
  rw [if_pos (by simp [Region.wanted, hgd])]
  unfold execOp
  simp only [ho, Sem.run_bind, run_build W t _ cells hf, Result.andThen_ok]
  exact h
end
/-- What the document asks of an entry's own parts, but place, region, frontier. -/
def condX (x : EntD) : Bool := match x.kind with
  | 1 => maySess x.osite && mayOp x.op
  | 3 => maySess x.osite
  | 4 => mayItem x.item
  | _ => true
def refPlain (x : EntD) : EntD × Bool := if kindK x.kind then (plainX x, condX x) else (zeroX, false)
def RetPlain (w : World) (x : EntD) (e : Ending) (w' : World) : Prop := ∃ q, e = .returned (.tuple #[.agg (entCells (refPlain x).1 q).toArray, .bool (refPlain x).2]) ∧ EntP Any w' (refPlain x).1 q ∧ Gr w w'
theorem retPlain_mk {w w' : World} {x : EntD} (y : EntD) (b : Bool) (q : EntV) (E : List Value) (h : refPlain x = (y, b)) (hE : E = entCells y q) (hp : EntP Any w' y q) (g : Gr w w') : RetPlain w x (.returned (.tuple #[.agg E.toArray, .bool b])) w' := ⟨q, by rw [h, hE], by rw [h]; exact hp, g⟩
theorem OpP.zero (P : Nat → Prop) (w : World) : OpP P w zeroO (.slice none 0 0) (.slice none 0 0) := OpP.of (SlP.nil _ _ _ _) (OpsP.nil _ _ _ _)
theorem built_1 (z1 : Int) (z2 : Int) (z3 : Int) (z4 : Int) (z5 : Int) (s6 : ByteArray) (a7 : Option Addr) (n7 : Nat) (c7 : Nat) (z8 : Int) (b9 : Bool) (b10 : Bool) (a11 : Option Addr) (n11 : Nat) (c11 : Nat) : Tryz.prog.built 44 [(0, .int .u8 1), (1, .int .u32 z1), (2, .int .u32 z2), (3, .agg #[.int .i64 z3, .int .u32 z4]), (4, .agg #[.int .u8 z5, .string s6, .slice a7 n7 c7, .int .i64 z8, .bool b9, .bool b10, .slice a11 n11 c11])] = some #[.int .u8 1, .int .u32 z1, .int .u32 z2, .int .i64 z3, .int .u32 z4, .int .u8 z5, .string s6, .slice a7 n7 c7, .int .i64 z8, .bool b9, .bool b10, .slice a11 n11 c11, .int .i64 0, .int .u64 0, .int .i64 0, .int .u64 0, .slice none 0 0, .slice none 0 0, .int .u32 0, .int .i64 0, .int .i64 0, .int .u64 0, .slice none 0 0] := by kernel_rfl
theorem built_2 (z1 : Int) (z2 : Int) : Tryz.prog.built 44 [(0, .int .u8 2), (1, .int .u32 z1), (2, .int .u32 z2)] = some #[.int .u8 2, .int .u32 z1, .int .u32 z2, .int .i64 0, .int .u32 0, .int .u8 0, .string ⟨#[]⟩, .slice none 0 0, .int .i64 0, .bool false, .bool false, .slice none 0 0, .int .i64 0, .int .u64 0, .int .i64 0, .int .u64 0, .slice none 0 0, .slice none 0 0, .int .u32 0, .int .i64 0, .int .i64 0, .int .u64 0, .slice none 0 0] := by kernel_rfl
theorem built_3 (z1 : Int) (z2 : Int) (z3 : Int) (z4 : Int) : Tryz.prog.built 44 [(0, .int .u8 3), (1, .int .u32 z1), (2, .int .u32 z2), (3, .agg #[.int .i64 z3, .int .u32 z4])] = some #[.int .u8 3, .int .u32 z1, .int .u32 z2, .int .i64 z3, .int .u32 z4, .int .u8 0, .string ⟨#[]⟩, .slice none 0 0, .int .i64 0, .bool false, .bool false, .slice none 0 0, .int .i64 0, .int .u64 0, .int .i64 0, .int .u64 0, .slice none 0 0, .slice none 0 0, .int .u32 0, .int .i64 0, .int .i64 0, .int .u64 0, .slice none 0 0] := by kernel_rfl
theorem built_4 (z12 : Int) (z13 : Int) (z14 : Int) (z15 : Int) (a16 : Option Addr) (n16 : Nat) (c16 : Nat) (a17 : Option Addr) (n17 : Nat) (c17 : Nat) (z18 : Int) : Tryz.prog.built 44 [(0, .int .u8 4), (5, .agg #[.int .i64 z12, .int .u64 z13, .int .i64 z14, .int .u64 z15, .slice a16 n16 c16, .slice a17 n17 c17, .int .u32 z18])] = some #[.int .u8 4, .int .u32 0, .int .u32 0, .int .i64 0, .int .u32 0, .int .u8 0, .string ⟨#[]⟩, .slice none 0 0, .int .i64 0, .bool false, .bool false, .slice none 0 0, .int .i64 z12, .int .u64 z13, .int .i64 z14, .int .u64 z15, .slice a16 n16 c16, .slice a17 n17 c17, .int .u32 z18, .int .i64 0, .int .i64 0, .int .u64 0, .slice none 0 0] := by kernel_rfl
theorem built_5 (z20 : Int) (z21 : Int) (a22 : Option Addr) (n22 : Nat) (c22 : Nat) : Tryz.prog.built 44 [(0, .int .u8 5), (7, .int .i64 z20), (8, .int .u64 z21), (9, .slice a22 n22 c22)] = some #[.int .u8 5, .int .u32 0, .int .u32 0, .int .i64 0, .int .u32 0, .int .u8 0, .string ⟨#[]⟩, .slice none 0 0, .int .i64 0, .bool false, .bool false, .slice none 0 0, .int .i64 0, .int .u64 0, .int .i64 0, .int .u64 0, .slice none 0 0, .slice none 0 0, .int .u32 0, .int .i64 0, .int .i64 z20, .int .u64 z21, .slice a22 n22 c22] := by kernel_rfl
theorem built_6 (z20 : Int) (z21 : Int) : Tryz.prog.built 44 [(0, .int .u8 6), (7, .int .i64 z20), (8, .int .u64 z21)] = some #[.int .u8 6, .int .u32 0, .int .u32 0, .int .i64 0, .int .u32 0, .int .u8 0, .string ⟨#[]⟩, .slice none 0 0, .int .i64 0, .bool false, .bool false, .slice none 0 0, .int .i64 0, .int .u64 0, .int .i64 0, .int .u64 0, .slice none 0 0, .slice none 0 0, .int .u32 0, .int .i64 0, .int .i64 z20, .int .u64 z21, .slice none 0 0] := by kernel_rfl
theorem built_7 (z20 : Int) : Tryz.prog.built 44 [(0, .int .u8 7), (7, .int .i64 z20)] = some #[.int .u8 7, .int .u32 0, .int .u32 0, .int .i64 0, .int .u32 0, .int .u8 0, .string ⟨#[]⟩, .slice none 0 0, .int .i64 0, .bool false, .bool false, .slice none 0 0, .int .i64 0, .int .u64 0, .int .i64 0, .int .u64 0, .slice none 0 0, .slice none 0 0, .int .u32 0, .int .i64 0, .int .i64 z20, .int .u64 0, .slice none 0 0] := by kernel_rfl
theorem built_8 (z19 : Int) (z20 : Int) : Tryz.prog.built 44 [(0, .int .u8 8), (6, .int .i64 z19), (7, .int .i64 z20)] = some #[.int .u8 8, .int .u32 0, .int .u32 0, .int .i64 0, .int .u32 0, .int .u8 0, .string ⟨#[]⟩, .slice none 0 0, .int .i64 0, .bool false, .bool false, .slice none 0 0, .int .i64 0, .int .u64 0, .int .i64 0, .int .u64 0, .slice none 0 0, .slice none 0 0, .int .u32 0, .int .i64 z19, .int .i64 z20, .int .u64 0, .slice none 0 0] := by kernel_rfl
theorem built_9 (z19 : Int) (z20 : Int) (z21 : Int) (a22 : Option Addr) (n22 : Nat) (c22 : Nat) : Tryz.prog.built 44 [(0, .int .u8 9), (6, .int .i64 z19), (7, .int .i64 z20), (8, .int .u64 z21), (9, .slice a22 n22 c22)] = some #[.int .u8 9, .int .u32 0, .int .u32 0, .int .i64 0, .int .u32 0, .int .u8 0, .string ⟨#[]⟩, .slice none 0 0, .int .i64 0, .bool false, .bool false, .slice none 0 0, .int .i64 0, .int .u64 0, .int .i64 0, .int .u64 0, .slice none 0 0, .slice none 0 0, .int .u32 0, .int .i64 z19, .int .i64 z20, .int .u64 z21, .slice a22 n22 c22] := by kernel_rfl
end Go.Proofs.YtpcpijecibiibaaGreat
end
section
set_option linter.unusedVariables false
set_option linter.unusedSimpArgs false
set_option maxRecDepth 100000
namespace Go.Proofs.YtpcpijecibiibaaGreat
open Go.RowKit
def stP (a b : List Value) : Nat → List Value
  | 0 => a
  | _ => b
end Go.Proofs.YtpcpijecibiibaaGreat
end
