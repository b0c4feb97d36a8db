/-
  EntryKnown: what is known of entries holds.
-/
import Derived.Test.YtiemgmbjhllmbaaYEK1
import Derived.Test.YtiemgmbjhllmbaaYEK2
import Derived.Test.YtiemgmbjhllmbaaYETells2
import Derived.Lib.SlBytesConst
set_option linter.unusedVariables false
set_option linter.unusedSimpArgs false
set_option maxRecDepth 100000
namespace Go.Proofs.Ytiemgmbjhllmbaa
open Go.RowKit
theorem eb_ses : Try.prog.built 25 [(0, .int .i64 2), (1, .int .u32 9)] = some #[.int .i64 2, .int .u32 9] := by kernel_rfl
theorem eb_node (bd : Nat) : Try.prog.built 28 [(0, .slice (some ⟨bd, 0, none⟩) 64 64), (1, .int .u32 4294967295), (2, .int .u32 2), (3, .int .u32 3), (4, .agg #[.int .i64 2, .int .u32 9]), (5, .int .u64 18446744073709551615), (6, .int .u64 5), (7, .int .u64 6)] = some #[.slice (some ⟨bd, 0, none⟩) 64 64, .int .u32 4294967295, .int .u32 2, .int .u32 3, .int .i64 2, .int .u32 9, .int .u64 18446744073709551615, .int .u64 5, .int .u64 6] := by kernel_rfl
theorem eb_effA (bd : Nat) : Try.prog.built 31 [(0, .string ⟨#[47, 97]⟩), (2, .agg #[.slice (some ⟨bd, 0, none⟩) 64 64, .int .u32 4294967295, .int .u32 2, .int .u32 3, .int .i64 2, .int .u32 9, .int .u64 18446744073709551615, .int .u64 5, .int .u64 6])] = some #[.string ⟨#[47, 97]⟩, .bool false, .slice (some ⟨bd, 0, none⟩) 64 64, .int .u32 4294967295, .int .u32 2, .int .u32 3, .int .i64 2, .int .u32 9, .int .u64 18446744073709551615, .int .u64 5, .int .u64 6] := by kernel_rfl
theorem eb_effO (bd : Nat) : Try.prog.built 31 [(0, .string ⟨#[47, 97]⟩), (1, .bool true), (2, .agg #[.slice (some ⟨bd, 0, none⟩) 64 64, .int .u32 4294967295, .int .u32 2, .int .u32 3, .int .i64 2, .int .u32 9, .int .u64 18446744073709551615, .int .u64 5, .int .u64 6])] = some #[.string ⟨#[47, 97]⟩, .bool true, .slice (some ⟨bd, 0, none⟩) 64 64, .int .u32 4294967295, .int .u32 2, .int .u32 3, .int .i64 2, .int .u32 9, .int .u64 18446744073709551615, .int .u64 5, .int .u64 6] := by kernel_rfl
theorem eb_effB : Try.prog.built 31 [(0, .string ⟨#[47, 98]⟩), (1, .bool true)] = some #[.string ⟨#[47, 98]⟩, .bool true, .slice none 0 0, .int .u32 0, .int .u32 0, .int .u32 0, .int .i64 0, .int .u32 0, .int .u64 0, .int .u64 0, .int .u64 0] := by kernel_rfl
theorem eb_item (bs be : Nat) : Try.prog.built 34 [(0, .int .i64 2), (1, .int .u64 4), (2, .int .i64 3), (3, .int .u64 7), (4, .slice (some ⟨bs, 0, none⟩) 3 3), (5, .slice (some ⟨be, 0, none⟩) 2 2)] = some #[.int .i64 2, .int .u64 4, .int .i64 3, .int .u64 7, .slice (some ⟨bs, 0, none⟩) 3 3, .slice (some ⟨be, 0, none⟩) 2 2, .int .u32 0] := by kernel_rfl
theorem eb_op1 (bx : Nat) : Try.prog.built 37 [(0, .int .u8 1), (1, .string ⟨#[47, 97]⟩), (2, .slice (some ⟨bx, 0, none⟩) 1 1), (4, .bool true), (5, .bool true), (3, .int .i64 (Int.negSucc 4))] = some #[.int .u8 1, .string ⟨#[47, 97]⟩, .slice (some ⟨bx, 0, none⟩) 1 1, .int .i64 (Int.negSucc 4), .bool true, .bool true, .slice none 0 0] := by kernel_rfl
theorem eb_op2 : Try.prog.built 37 [(0, .int .u8 5), (1, .string ⟨#[47, 98]⟩)] = some #[.int .u8 5, .string ⟨#[47, 98]⟩, .slice none 0 0, .int .i64 0, .bool false, .bool false, .slice none 0 0] := by kernel_rfl
theorem eb_ops (bp : Nat) : Try.prog.built 37 [(0, .int .u8 7), (3, .int .i64 (Int.negSucc 0)), (6, .slice (some ⟨bp, 0, none⟩) 2 2)] = some #[.int .u8 7, .string ⟨#[]⟩, .slice none 0 0, .int .i64 (Int.negSucc 0), .bool false, .bool false, .slice (some ⟨bp, 0, none⟩) 2 2] := by kernel_rfl
theorem ekTyN : RowTy Try.prog 28 9 := ⟨⟨_, Try.underlying28⟩, by kernel_rfl⟩
theorem ekTyEF : RowTy Try.prog 31 11 := ⟨⟨_, Try.underlying31⟩, by kernel_rfl⟩
theorem ekTyI : RowTy Try.prog 34 7 := ⟨⟨_, Try.underlying34⟩, by kernel_rfl⟩
theorem ekElEF : ElemTy Try.prog 32 31 11 := ⟨Try.underlying32, by kernel_rfl, by kernel_rfl, by decide⟩
theorem ekElO : ElemTy Try.prog 35 37 7 := ⟨Try.underlying35, by kernel_rfl, by kernel_rfl, by decide⟩
theorem ekElE : ElemTy Try.prog 40 39 23 := ⟨Try.underlying40, by kernel_rfl, by kernel_rfl, by decide⟩
section
variable {P : Program} {W w' : World} {o : Oper} {a : Act} {ops : Array Oper}
theorem wpList_buildRowsAt {rest : List Oper} {Q : Exit → Act → World → Prop} {t e : TypeId} {k : Nat} (et : ElemTy P t e k) (len : Nat) (parts : Array (Nat × Operand)) (ho : o.op = .buildSlice t len parts) (hgd : o.guard = none) (d : Option Tmp) (hd : o.dst = d) (Es : List (List Value)) (hlen : len = Es.length) (hk : ∀ E ∈ Es, E.length = k) (hpos : 0 < Es.length) (hsm : Es.length * k ≤ 2 ^ 24) (g : Nat) (hg : W.heap.size = g)
    (hp : (parts.map fun (i, x) => (i, a.eval x)).toList = (Es.zipIdx 0).map fun x => (x.2, .agg x.1.toArray))
    (h : wpList P ops Q rest (a.put d (.slice (some ⟨g, 0, none⟩) len len)) (W.alloc (.cells Es.flatten.toArray e))) : wpList P ops Q (o :: rest) a W := by
  subst hg
  exact wpList_buildRows et len parts ho hgd d hd Es hlen hk hpos hsm hp h
theorem wpList_buildRowsTo {rest : List Oper} {Q : Exit → Act → World → Prop} {t e : TypeId} {k : Nat} (et : ElemTy P t e k) (len : Nat) (parts : Array (Nat × Operand)) (ho : o.op = .buildSlice t len parts) (hgd : o.guard = none) (d : Option Tmp) (hd : o.dst = d) (Es : List (List Value)) (hlen : len = Es.length) (hk : ∀ E ∈ Es, E.length = k) (hpos : 0 < Es.length) (hsm : Es.length * k ≤ 2 ^ 24) (g : Nat) (hg : W.heap.size = g)
    (hp : (parts.map fun (i, x) => (i, a.eval x)).toList = (Es.zipIdx 0).map fun x => (x.2, .agg x.1.toArray))
    (h : ∀ W', Hid (W' = W.alloc (.cells Es.flatten.toArray e)) → wpList P ops Q rest (a.put d (.slice (some ⟨g, 0, none⟩) len len)) W') : wpList P ops Q (o :: rest) a W := by
  subst hg
  exact wpList_buildRows et len parts ho hgd d hd Es hlen hk hpos hsm hp (h _ (Lib.hid rfl))
end
theorem ch_setCell' (w : World) (b i : Nat) (v : Value) : Ch (fun j => j = b) w (w.setCell ⟨b, i, none⟩ v) := Ch.of_grownBy (grownBy_setCell w b i v) (fun k hk => by cases hk; rfl)
theorem CellsAt.newAt' (w : World) (cs : List Value) (t : TypeId) {B : Nat} (hB : B = w.heap.size) : CellsAt (w.alloc (.cells cs.toArray t)) B cs t := by rw [hB]; exact CellsAt.new w cs t
theorem run_make_by (w : World) (n : Nat) (hn : n ≤ 10000) :
    ∃ w', (Instr.makeSlice 22 (.int .i64 (n : Int)) (.int .i64 (n : Int))).run Try.prog w = .ok (.slice (some ⟨w.heap.size, 0, none⟩) n n) w' ∧
      Own w' w.heap.size 5 (.slice (some ⟨w.heap.size, 0, none⟩) n n) (bytes (List.replicate n 0)) ∧ Below w.heap.size w w' := by
  obtain ⟨i0, hi0, hz0, hz1, hz2⟩ := info_parts info_u8
  obtain ⟨w', h1, h2, h3⟩ := run_make_full (P := Try.prog) w w.heap.size 22 5 i0 _ 1 Try.underlying22 hi0 hz0 hz1 .i64 .i64 n (by rw [hz2]; omega) (by unfold maxLen; omega) (Nat.le_refl _)
  refine ⟨w', h1, ?_, grownBy_below h3 (Nat.le_refl _) (by intro k hk; cases hk)⟩
  have e : (madeCells (Value.int .u8 0).cells (n * 1)).toList = bytes (List.replicate n 0) := by
    have := toList_madeCells_one (.int .u8 0) (n * 1)
    rw [Nat.mul_one] at this ⊢
    have e2 : (Value.int .u8 0).cells = #[.int .u8 0] := rfl
    rw [e2, this]
    simp [bytes, byte]
  rw [e] at h2
  unfold Own
  rw [bytes_length, List.length_replicate]
  exact h2
theorem eg0 (bp : Nat) : Try.prog.built 39 [(0, .int .u8 1), (1, .int .u32 4294967295), (2, .int .u32 2), (3, .agg #[.int .i64 1, .int .u32 3]), (4, .agg #[.int .u8 7, .string ⟨#[]⟩, .slice none 0 0, .int .i64 (Int.negSucc 0), .bool false, .bool false, .slice (some ⟨bp, 0, none⟩) 2 2])] = some (entCells gX0 { zeroQ with pv := .slice (some ⟨bp, 0, none⟩) 2 2 }).toArray := by kernel_rfl
theorem eg1 : Try.prog.built 39 [(0, .int .u8 2), (1, .int .u32 1), (2, .int .u32 2)] = some (entCells gX1 zeroQ).toArray := by kernel_rfl
theorem eg2 : Try.prog.built 39 [(0, .int .u8 3), (1, .int .u32 1), (2, .int .u32 2), (3, .agg #[.int .i64 0, .int .u32 3])] = some (entCells gX2 zeroQ).toArray := by kernel_rfl
theorem eg3 (bs be : Nat) : Try.prog.built 39 [(0, .int .u8 4), (5, .agg #[.int .i64 2, .int .u64 4, .int .i64 3, .int .u64 7, .slice (some ⟨bs, 0, none⟩) 3 3, .slice (some ⟨be, 0, none⟩) 2 2, .int .u32 0])] = some (entCells gX3 { zeroQ with sv := .slice (some ⟨bs, 0, none⟩) 3 3, ev := .slice (some ⟨be, 0, none⟩) 2 2 }).toArray := by kernel_rfl
theorem eg4 : Try.prog.built 39 [(0, .int .u8 4), (5, .agg #[.int .i64 0, .int .u64 0, .int .i64 (Int.negSucc 0), .int .u64 0, .slice none 0 0, .slice none 0 0, .int .u32 5])] = some (entCells gX4 zeroQ).toArray := by kernel_rfl
theorem eg5 (bf : Nat) : Try.prog.built 39 [(0, .int .u8 5), (7, .int .i64 3), (8, .int .u64 9223372036854775808), (9, .slice (some ⟨bf, 0, none⟩) 2 2)] = some (entCells gX5 { zeroQ with fv := .slice (some ⟨bf, 0, none⟩) 2 2 }).toArray := by kernel_rfl
theorem eg6 : Try.prog.built 39 [(0, .int .u8 6), (8, .int .u64 2)] = some (entCells gX6 zeroQ).toArray := by kernel_rfl
theorem eg7 : Try.prog.built 39 [(0, .int .u8 7)] = some (entCells gX7 zeroQ).toArray := by kernel_rfl
theorem eg8 : Try.prog.built 39 [(0, .int .u8 8), (6, .int .i64 2), (7, .int .i64 1)] = some (entCells gX8 zeroQ).toArray := by kernel_rfl
theorem eg9 (bf : Nat) : Try.prog.built 39 [(0, .int .u8 9), (6, .int .i64 1), (8, .int .u64 4), (9, .slice (some ⟨bf, 0, none⟩) 1 1)] = some (entCells gX9 { zeroQ with fv := .slice (some ⟨bf, 0, none⟩) 1 1 }).toArray := by kernel_rfl
theorem eb_s13 : Try.prog.built 25 [(0, .int .i64 1), (1, .int .u32 3)] = some #[.int .i64 1, .int .u32 3] := by kernel_rfl
theorem eb_s03 : Try.prog.built 25 [(1, .int .u32 3)] = some #[.int .i64 0, .int .u32 3] := by kernel_rfl
theorem eb_i5 : Try.prog.built 34 [(2, .int .i64 (Int.negSucc 0)), (6, .int .u32 5)] = some #[.int .i64 0, .int .u64 0, .int .i64 (Int.negSucc 0), .int .u64 0, .slice none 0 0, .slice none 0 0, .int .u32 5] := by kernel_rfl
theorem eh0 : Try.prog.built 39 [] = some (entCells bX0 zeroQ).toArray := by kernel_rfl
theorem eh1 : Try.prog.built 39 [(0, .int .u8 10)] = some (entCells bX1 zeroQ).toArray := by kernel_rfl
theorem eh2 : Try.prog.built 39 [(0, .int .u8 8), (6, .int .i64 3)] = some (entCells bX2 zeroQ).toArray := by kernel_rfl
theorem eh3 : Try.prog.built 39 [(0, .int .u8 8), (6, .int .i64 (Int.negSucc 0))] = some (entCells bX3 zeroQ).toArray := by kernel_rfl
theorem eh4 : Try.prog.built 39 [(0, .int .u8 7), (7, .int .i64 4)] = some (entCells bX4 zeroQ).toArray := by kernel_rfl
theorem eh5 : Try.prog.built 39 [(0, .int .u8 7), (7, .int .i64 (Int.negSucc 0))] = some (entCells bX5 zeroQ).toArray := by kernel_rfl
theorem eh6 (b : Nat) : Try.prog.built 39 [(0, .int .u8 6), (8, .int .u64 1), (9, .slice (some ⟨b, 0, none⟩) 1 1)] = some (entCells bX6 { zeroQ with fv := .slice (some ⟨b, 0, none⟩) 1 1 }).toArray := by kernel_rfl
theorem eh7 : Try.prog.built 39 [(0, .int .u8 2), (3, .agg #[.int .i64 0, .int .u32 1])] = some (entCells bX7 zeroQ).toArray := by kernel_rfl
theorem eh8 : Try.prog.built 39 [(0, .int .u8 3), (3, .agg #[.int .i64 3, .int .u32 1])] = some (entCells bX8 zeroQ).toArray := by kernel_rfl
theorem eh9 (b : Nat) : Try.prog.built 39 [(0, .int .u8 5), (9, .slice (some ⟨b, 0, none⟩) 4 4)] = some (entCells bX9 { zeroQ with fv := .slice (some ⟨b, 0, none⟩) 4 4 }).toArray := by kernel_rfl
theorem eh10 : Try.prog.built 39 [(0, .int .u8 1), (4, .agg (opCells kOpL.h (.slice none 0 0) (.slice none 0 0)).toArray)] = some (entCells bX10 zeroQ).toArray := by kernel_rfl
theorem eh11 (b : Nat) : Try.prog.built 39 [(0, .int .u8 1), (4, .agg (opCells kOpD.h (.slice (some ⟨b, 0, none⟩) 65 65) (.slice none 0 0)).toArray)] = some (entCells bX11 { zeroQ with dv := .slice (some ⟨b, 0, none⟩) 65 65 }).toArray := by kernel_rfl
theorem eh12 (b : Nat) : Try.prog.built 39 [(0, .int .u8 1), (4, .agg (opCells kOpP.h (.slice none 0 0) (.slice (some ⟨b, 0, none⟩) 7 7)).toArray)] = some (entCells bX12 { zeroQ with pv := .slice (some ⟨b, 0, none⟩) 7 7 }).toArray := by kernel_rfl
theorem eh13 (b : Nat) : Try.prog.built 39 [(0, .int .u8 1), (4, .agg (opCells kOpN.h (.slice none 0 0) (.slice (some ⟨b, 0, none⟩) 1 1)).toArray)] = some (entCells bX13 { zeroQ with pv := .slice (some ⟨b, 0, none⟩) 1 1 }).toArray := by kernel_rfl
theorem eh14 : Try.prog.built 39 [(0, .int .u8 1), (6, .int .i64 1)] = some (entCells bX14 zeroQ).toArray := by kernel_rfl
theorem eh15 (bs bm : Nat) : Try.prog.built 39 [(0, .int .u8 4), (5, .agg #[.int .i64 2, .int .u64 4, .int .i64 3, .int .u64 7, .slice (some ⟨bs, 0, none⟩) 3 3, .slice (some ⟨bm, 0, none⟩) 17 17, .int .u32 0])] = some (entCells bX15 { zeroQ with sv := .slice (some ⟨bs, 0, none⟩) 3 3, ev := .slice (some ⟨bm, 0, none⟩) 17 17 }).toArray := by kernel_rfl
theorem eh16 (bs bq : Nat) : Try.prog.built 39 [(0, .int .u8 4), (5, .agg #[.int .i64 2, .int .u64 4, .int .i64 3, .int .u64 7, .slice (some ⟨bs, 0, none⟩) 3 3, .slice (some ⟨bq, 0, none⟩) 1 1, .int .u32 0])] = some (entCells bX16 { zeroQ with sv := .slice (some ⟨bs, 0, none⟩) 3 3, ev := .slice (some ⟨bq, 0, none⟩) 1 1 }).toArray := by kernel_rfl
theorem eh17 : Try.prog.built 39 [(0, .int .u8 4), (5, .agg #[.int .i64 3, .int .u64 0, .int .i64 0, .int .u64 0, .slice none 0 0, .slice none 0 0, .int .u32 0])] = some (entCells bX17 zeroQ).toArray := by kernel_rfl
theorem eh18 : Try.prog.built 39 [(0, .int .u8 4), (5, .agg #[.int .i64 256, .int .u64 0, .int .i64 0, .int .u64 0, .slice none 0 0, .slice none 0 0, .int .u32 0])] = some (entCells bX18 zeroQ).toArray := by kernel_rfl
theorem eh19 : Try.prog.built 39 [(0, .int .u8 2), (5, .agg #[.int .i64 256, .int .u64 0, .int .i64 0, .int .u64 0, .slice none 0 0, .slice none 0 0, .int .u32 0])] = some (entCells bX19 zeroQ).toArray := by kernel_rfl
theorem eh20 : Try.prog.built 39 [(0, .int .u8 4), (5, .agg #[.int .i64 0, .int .u64 0, .int .i64 (Int.negSucc 1), .int .u64 0, .slice none 0 0, .slice none 0 0, .int .u32 0])] = some (entCells bX20 zeroQ).toArray := by kernel_rfl
theorem eh_s01 : Try.prog.built 25 [(1, .int .u32 1)] = some #[.int .i64 0, .int .u32 1] := by kernel_rfl
theorem eh_s31 : Try.prog.built 25 [(0, .int .i64 3), (1, .int .u32 1)] = some #[.int .i64 3, .int .u32 1] := by kernel_rfl
theorem eh_i3 : Try.prog.built 34 [(0, .int .i64 3)] = some #[.int .i64 3, .int .u64 0, .int .i64 0, .int .u64 0, .slice none 0 0, .slice none 0 0, .int .u32 0] := by kernel_rfl
theorem eh_i256 : Try.prog.built 34 [(0, .int .i64 256)] = some #[.int .i64 256, .int .u64 0, .int .i64 0, .int .u64 0, .slice none 0 0, .slice none 0 0, .int .u32 0] := by kernel_rfl
theorem eh_i2 : Try.prog.built 34 [(2, .int .i64 (Int.negSucc 1))] = some #[.int .i64 0, .int .u64 0, .int .i64 (Int.negSucc 1), .int .u64 0, .slice none 0 0, .slice none 0 0, .int .u32 0] := by kernel_rfl
theorem eh_oL : Try.prog.built 37 [(1, .string ⟨kLong.toArray⟩)] = some (opCells kOpL.h (.slice none 0 0) (.slice none 0 0)).toArray := by kernel_rfl
theorem eh_oD (b : Nat) : Try.prog.built 37 [(2, .slice (some ⟨b, 0, none⟩) 65 65)] = some (opCells kOpD.h (.slice (some ⟨b, 0, none⟩) 65 65) (.slice none 0 0)).toArray := by kernel_rfl
theorem eh_oP (b : Nat) : Try.prog.built 37 [(6, .slice (some ⟨b, 0, none⟩) 7 7)] = some (opCells kOpP.h (.slice none 0 0) (.slice (some ⟨b, 0, none⟩) 7 7)).toArray := by kernel_rfl
theorem eh_o0 (b : Nat) : Try.prog.built 37 [(6, .slice (some ⟨b, 0, none⟩) 1 1)] = some (opCells kOp0.h (.slice none 0 0) (.slice (some ⟨b, 0, none⟩) 1 1)).toArray := by kernel_rfl
theorem eh_oN (b : Nat) : Try.prog.built 37 [(6, .slice (some ⟨b, 0, none⟩) 1 1)] = some (opCells kOpN.h (.slice none 0 0) (.slice (some ⟨b, 0, none⟩) 1 1)).toArray := by kernel_rfl
def WE (x : EntD) : Value → World → Prop := fun v W => ∃ q, v = .agg (entCells x q).toArray ∧ EntP Any W x q
theorem WE.mono (x : EntD) : ∀ v W W', Gr W W' → WE x v W → WE x v W' := fun _ _ _ g ⟨q, e, h⟩ => ⟨q, e, h.gr g⟩
def WN (l : List Nat) (n : Nat) : Value → World → Prop := fun v W => ∃ b, v = .slice (some ⟨b, 0, none⟩) n n ∧ Sl W v (nums l)
theorem WN.mono (l : List Nat) (n : Nat) : ∀ v W W', Gr W W' → WN l n v W → WN l n v W' := fun _ _ _ g ⟨b, e, h⟩ => ⟨b, e, h.below g⟩
def WO (os : List OpD) (n : Nat) : Value → World → Prop := fun v W => ∃ b, v = .slice (some ⟨b, 0, none⟩) n n ∧ OpsP Any W v os
theorem WO.mono (os : List OpD) (n : Nat) : ∀ v W W', Gr W W' → WO os n v W → WO os n v W' := fun _ _ _ g ⟨b, e, h⟩ => ⟨b, e, h.gr g⟩
def WP (o : OpD) (os : List OpD) (n : Nat) : Value → World → Prop := fun v W => ∃ b, v = .agg (opCells o.h (.slice none 0 0) (.slice (some ⟨b, 0, none⟩) n n)).toArray ∧ OpsP Any W (.slice (some ⟨b, 0, none⟩) n n) os
theorem WP.mono (o : OpD) (os : List OpD) (n : Nat) : ∀ v W W', Gr W W' → WP o os n v W → WP o os n v W' := fun _ _ _ g ⟨b, e, h⟩ => ⟨b, e, h.gr g⟩
def WB : Value → World → Prop := fun v W => ∃ b, v = .slice (some ⟨b, 0, none⟩) 21 21 ∧ EntsP Any W v badE
theorem WB.mono : ∀ v W W', Gr W W' → WB v W → WB v W' := fun _ _ _ g ⟨b, e, h⟩ => ⟨b, e, h.gr g⟩
set_option maxHeartbeats 20000000 in
theorem known_walk (w : World) : Calls Try.prog 3 #[] w fun e w' => e = .returned (.bool true) ∧ Below w.heap.size w w' := by
  go_enter Try.func3, Try.ntmps3
  obtain ⟨w1, m1, oD, gD⟩ := run_make_by w 64 (by decide)
  have OD := Lib.hid oD
  have GD : Hid (Gr w w1) := Lib.hid gD
  obtain ⟨bd, hbd⟩ : ∃ b, b = w.heap.size := ⟨_, rfl⟩
  have HBD := Lib.hid hbd
  rw [← hbd] at m1 OD
  replace m1 : (Instr.makeSlice 22 (.int .i64 64) (.int .i64 64)).run Try.prog w = .ok (.slice (some ⟨bd, 0, none⟩) 64 64) w1 := m1
  have q1 := eb_ses
  have q2 := eb_node bd
  clear oD gD hbd
  go_upto_region 2 with fail
  clear m1 q1 q2
  obtain ⟨bn, hbn⟩ : ∃ b, b = w1.heap.size := ⟨_, rfl⟩
  obtain ⟨Nl, hNl⟩ : ∃ l : List Value, l = [.slice (some ⟨bd, 0, none⟩) 64 64, .int .u32 4294967295, .int .u32 2, .int .u32 3, .int .i64 2, .int .u32 9, .int .u64 18446744073709551615, .int .u64 5, .int .u64 6] := ⟨_, rfl⟩
  obtain ⟨w2, hw2⟩ : ∃ w2, w2 = w1.alloc (.cells Nl.toArray 28) := ⟨_, rfl⟩
  rw [← hNl, ← hw2, ← hbn]
  have KN : Hid (∀ W, Gr w2 W → CellsAt W bn Nl 28) := Lib.hid fun W hW => CellsAt.gr (by rw [hw2, hbn]; exact CellsAt.new _ _ _) hW
  have NL : Hid (Nl.length = 9) := Lib.hid (by rw [hNl]; rfl)
  have G2 : Hid (Gr w w2) := Lib.hid (by rw [hw2]; exact Gr.trans GD.out ((Gr.refl w1).alloc _))
  have SD : Hid (∀ W, Gr w2 W → Sl W (.slice (some ⟨bd, 0, none⟩) 64 64) (bytes (List.replicate 64 0))) := Lib.hid fun W hW => OD.out.sl.below (Gr.trans (by rw [hw2]; exact (Gr.refl w1).alloc _) hW)
  obtain ⟨A1, hA1⟩ : ∃ l : List Value, l = [.string ⟨#[47, 97]⟩, .bool false, .slice (some ⟨bd, 0, none⟩) 64 64, .int .u32 4294967295, .int .u32 2, .int .u32 3, .int .i64 2, .int .u32 9, .int .u64 18446744073709551615, .int .u64 5, .int .u64 6] := ⟨_, rfl⟩
  obtain ⟨B1, hB1⟩ : ∃ l : List Value, l = [.string ⟨#[47, 98]⟩, .bool true, .slice none 0 0, .int .u32 0, .int .u32 0, .int .u32 0, .int .i64 0, .int .u32 0, .int .u64 0, .int .u64 0, .int .u64 0] := ⟨_, rfl⟩
  have q1 : Hid (Try.prog.built 31 [(0, .string ⟨#[47, 97]⟩), (2, .agg Nl.toArray)] = some A1.toArray) := Lib.hid (by rw [hNl, hA1]; exact eb_effA bd)
  have q2 : Hid (Try.prog.built 31 [(0, .string ⟨#[47, 98]⟩), (1, .bool true)] = some B1.toArray) := Lib.hid (by rw [hB1]; exact eb_effB)
  obtain ⟨bs, hbs⟩ : ∃ b, b = w2.heap.size := ⟨_, rfl⟩
  obtain ⟨Il, hIl⟩ : ∃ l : List Value, l = [.int .i64 2, .int .u64 4, .int .i64 3, .int .u64 7, .slice (some ⟨w2.heap.size, 0, none⟩) 3 3, .slice (some ⟨(w2.heap.size + 1), 0, none⟩) 2 2, .int .u32 0] := ⟨_, rfl⟩
  have q3 : Hid (Try.prog.built 34 [(0, .int .i64 2), (1, .int .u64 4), (2, .int .i64 3), (3, .int .u64 7), (4, .slice (some ⟨w2.heap.size, 0, none⟩) 3 3), (5, .slice (some ⟨w2.heap.size + 1, 0, none⟩) 2 2)] = some Il.toArray) := Lib.hid (by rw [hIl]; exact eb_item w2.heap.size (w2.heap.size + 1))
  have HK2 : Hid (∀ E ∈ [A1, B1], E.length = 11) := Lib.hid fun E hE => by
    rcases List.mem_cons.1 hE with rfl | hE
    · rw [hA1]; rfl
    · rw [List.mem_singleton.1 hE, hB1]; rfl
  have IL : Hid (Il.length = 7 ∧ oneAll Il) := Lib.hid (by rw [hIl]; exact ⟨rfl, rfl⟩)
  have HA1 := Lib.hid hA1
  have HB1 := Lib.hid hB1
  have HIl := Lib.hid hIl
  have HNl := Lib.hid hNl
  clear hw2 hbn hA1 hB1 hIl hNl hbs OD GD HBD
  go_upto_region 3 with (first | (refine wpList_loadE ekTyN _ rfl rfl rfl (KN.out _ ((Gr.refl _).alloc _)) NL.out ?_) | (refine wpList_buildTo rfl 31 _ rfl (some 28) rfl A1.toArray ?_ ?_; · (simp only [List.map_toArray, List.map_cons, List.map_nil]; exact q1.out)) | (refine wpList_buildTo rfl 31 _ rfl (some 29) rfl B1.toArray ?_ ?_; · (simp only [List.map_toArray, List.map_cons, List.map_nil]; exact q2.out)) | (refine wpList_buildTo rfl 34 _ rfl (some 31) rfl Il.toArray ?_ ?_; · (simp only [List.map_toArray, List.map_cons, List.map_nil]; exact q3.out)) | (refine wpList_buildRowsTo ekElEF 2 _ rfl rfl (some 30) rfl [A1, B1] rfl HK2.out (Nat.succ_pos _) ?_ (w2.heap.size + 1) ?_ ?_ ?_; (· (show 2 * 11 ≤ 2 ^ 24; decide)); (· simp); (· (simp only [List.map_toArray, List.map_cons, List.map_nil]; rfl)); intro wB hwB) | (refine wpList_storeE ekTyI _ _ rfl rfl rfl rfl (CellsAt.newAt' _ _ _ ?_) IL.out.1 rfl IL.out.2 ?_; · simp) | fail)
  intro w3 k3 c3
  go_upto_region 3 with fail
  obtain ⟨bi, hbi⟩ : ∃ b, b = wB.heap.size := ⟨_, rfl⟩
  rw [← hbi] at k3 c3 ⊢
  obtain ⟨be, hbe⟩ : ∃ b, b = w2.heap.size + 1 := ⟨_, rfl⟩
  obtain ⟨bs, hbs⟩ : ∃ b, b = w2.heap.size := ⟨_, rfl⟩
  have gB : Gr w2 wB := by rw [hwB.out]; exact ((Gr.refl w2).alloc _).alloc _
  have gB3 : Gr wB w3 := Below.trans ((Gr.refl wB).alloc _) (c3.below ((Gr.refl wB).alloc _).size (fun k hk => by have h1 : k = bi := hk; omega))
  have g3 : Gr w2 w3 := Gr.trans gB gB3
  have SU : Hid (∀ W, Gr w3 W → Sl W (.slice (some ⟨bs, 0, none⟩) 3 3) (nums [1, 2, 3])) := Lib.hid fun W hW => by
    have h1 : Sl (w2.alloc (.cells #[.int .u64 1, .int .u64 2, .int .u64 3] 26)) (.slice (some ⟨w2.heap.size, 0, none⟩) 3 3) (nums [1, 2, 3]) := Sl.new w2 [.int .u64 1, .int .u64 2, .int .u64 3] _ _ 3 3 rfl (by decide)
    rw [← hbs] at h1
    have g4 : Gr (w2.alloc (.cells #[.int .u64 1, .int .u64 2, .int .u64 3] 26)) wB := by rw [hwB.out]; exact (Gr.refl _).alloc _
    exact h1.below (Gr.trans (Gr.trans g4 gB3) hW)
  have EF : Hid (∀ W, Gr w3 W → EffsP Any W (.slice (some ⟨be, 0, none⟩) 2 2) [kEffA, kEffB]) := Lib.hid fun W hW => by
    have h1 := effs_new Any (w2.alloc (.cells #[.int .u64 1, .int .u64 2, .int .u64 3] 26)) trivial [(kEffA, .slice (some ⟨bd, 0, none⟩) 64 64), (kEffB, .slice none 0 0)] (fun p hp => by
      rcases List.mem_cons.1 hp with rfl | hp
      · exact (SD.out _ ((Gr.refl _).alloc _)).any
      · rw [List.mem_singleton.1 hp]; exact SlP.nil _ _ _ _)
    have e1 : (w2.alloc (.cells #[.int .u64 1, .int .u64 2, .int .u64 3] 26)).heap.size = be := by rw [hbe]; simp
    rw [e1] at h1
    have e2 : A1 = effCells kEffA (.slice (some ⟨bd, 0, none⟩) 64 64) := by rw [HA1.out]; rfl
    have e3 : B1 = effCells kEffB (.slice none 0 0) := by rw [HB1.out]; rfl
    have h2 : EffsP Any wB (.slice (some ⟨be, 0, none⟩) 2 2) [kEffA, kEffB] := by rw [hwB.out, e2, e3]; exact h1
    exact (h2.gr gB3).gr hW
  have KI : Hid (∀ W, Gr w3 W → CellsAt W bi Il 34) := Lib.hid fun W hW => k3.gr hW
  have G3 : Hid (Gr w w3) := Lib.hid (Gr.trans G2.out g3)
  replace KN : Hid (∀ W, Gr w3 W → CellsAt W bn Nl 28) := Lib.hid fun W hW => KN.out W (Gr.trans g3 hW)
  replace SD : Hid (∀ W, Gr w3 W → Sl W (.slice (some ⟨bd, 0, none⟩) 64 64) (bytes (List.replicate 64 0))) := Lib.hid fun W hW => SD.out W (Gr.trans g3 hW)
  replace HIl : Hid (Il = [.int .i64 2, .int .u64 4, .int .i64 3, .int .u64 7, .slice (some ⟨bs, 0, none⟩) 3 3, .slice (some ⟨be, 0, none⟩) 2 2, .int .u32 0]) := Lib.hid (by rw [HIl.out, hbe, hbs])
  rw [← hbe, ← hbs]
  clear q1 q2 q3 hwB k3 c3 gB g3 gB3 hbi hbe hbs HK2 G2
  obtain ⟨O1, hO1⟩ : ∃ l : List Value, l = [.int .u8 1, .string ⟨#[47, 97]⟩, .slice (some ⟨w3.heap.size, 0, none⟩) 1 1, .int .i64 (Int.negSucc 4), .bool true, .bool true, .slice none 0 0] := ⟨_, rfl⟩
  obtain ⟨O2, hO2⟩ : ∃ l : List Value, l = [.int .u8 5, .string ⟨#[47, 98]⟩, .slice none 0 0, .int .i64 0, .bool false, .bool false, .slice none 0 0] := ⟨_, rfl⟩
  obtain ⟨Ol, hOl⟩ : ∃ l : List Value, l = [.int .u8 7, .string ⟨#[]⟩, .slice none 0 0, .int .i64 (Int.negSucc 0), .bool false, .bool false, .slice (some ⟨w3.heap.size + 1, 0, none⟩) 2 2] := ⟨_, rfl⟩
  have q1 : Hid (Try.prog.built 37 [(0, .int .u8 1), (1, .string ⟨#[47, 97]⟩), (2, .slice (some ⟨w3.heap.size, 0, none⟩) 1 1), (4, .bool true), (5, .bool true), (3, .int .i64 (Int.negSucc 4))] = some O1.toArray) := Lib.hid (by rw [hO1]; exact eb_op1 w3.heap.size)
  have q2 : Hid (Try.prog.built 37 [(0, .int .u8 5), (1, .string ⟨#[47, 98]⟩)] = some O2.toArray) := Lib.hid (by rw [hO2]; exact eb_op2)
  have q3 : Hid (Try.prog.built 37 [(0, .int .u8 7), (3, .int .i64 (Int.negSucc 0)), (6, .slice (some ⟨w3.heap.size + 1, 0, none⟩) 2 2)] = some Ol.toArray) := Lib.hid (by rw [hOl]; exact eb_ops (w3.heap.size + 1))
  have HK2 : Hid (∀ E ∈ [O1, O2], E.length = 7) := Lib.hid fun E hE => by
    rcases List.mem_cons.1 hE with rfl | hE
    · rw [hO1]; rfl
    · rw [List.mem_singleton.1 hE, hO2]; rfl
  have OL : Hid (Ol.length = 7 ∧ oneAll Ol) := Lib.hid (by rw [hOl]; exact ⟨rfl, rfl⟩)
  have HO1 := Lib.hid hO1
  have HO2 := Lib.hid hO2
  have HOl := Lib.hid hOl
  have cq : (convert 22 22 (.slice (some ⟨w3.heap.size, 0, none⟩) 1 1)).run Try.prog (w3.alloc (.cells #[.int .u8 120] 5)) = .ok (.slice (some ⟨w3.heap.size, 0, none⟩) 1 1) (w3.alloc (.cells #[.int .u8 120] 5 (1, 2))) := Go.Lib.run_convert_bytes_const (P := Try.prog) w3 22 5 #[.int .u8 120] 1 1 Try.underlying22 Try.underlying5
  clear hO1 hO2 hOl
  go_upto_region 4 with (first | (refine wpList_buildTo rfl 37 _ rfl (some 34) rfl O1.toArray ?_ ?_; · (simp only [List.map_toArray, List.map_cons, List.map_nil]; exact q1.out)) | (refine wpList_buildTo rfl 37 _ rfl (some 35) rfl O2.toArray ?_ ?_; · (simp only [List.map_toArray, List.map_cons, List.map_nil]; exact q2.out)) | (refine wpList_buildTo rfl 37 _ rfl (some 37) rfl Ol.toArray ?_ ?_; · (simp only [List.map_toArray, List.map_cons, List.map_nil]; exact q3.out)) | (refine wpList_buildRowsTo ekElO 2 _ rfl rfl (some 36) rfl [O1, O2] rfl HK2.out (Nat.succ_pos _) ?_ (w3.heap.size + 1) ?_ ?_ ?_; (· (show 2 * 7 ≤ 2 ^ 24; decide)); (· simp); (· (simp only [List.map_toArray, List.map_cons, List.map_nil]; rfl)); intro wB hwB) | (refine wpList_storeE opTy _ _ rfl rfl rfl rfl (CellsAt.newAt' _ _ _ ?_) OL.out.1 rfl OL.out.2 ?_; · simp) | fail)
  intro w4 k4 c4
  go_upto_region 4 with fail
  obtain ⟨bo, hbo⟩ : ∃ b, b = wB.heap.size := ⟨_, rfl⟩
  rw [← hbo] at k4 c4 ⊢
  obtain ⟨bp, hbp⟩ : ∃ b, b = w3.heap.size + 1 := ⟨_, rfl⟩
  obtain ⟨bx, hbx⟩ : ∃ b, b = w3.heap.size := ⟨_, rfl⟩
  have gX : Gr w3 (w3.alloc (.cells #[.int .u8 120] 5 (1, 2))) := (Gr.refl w3).alloc _
  have gXB : Gr (w3.alloc (.cells #[.int .u8 120] 5 (1, 2))) wB := by rw [hwB.out]; exact (Gr.refl _).alloc _
  have gB4 : Gr wB w4 := Below.trans ((Gr.refl wB).alloc _) (c4.below ((Gr.refl wB).alloc _).size (fun k hk => by have h1 : k = bo := hk; omega))
  have g4 : Gr w3 w4 := Gr.trans (Gr.trans gX gXB) gB4
  have OPS : Hid (∀ W, Gr w4 W → OpsP Any W (.slice (some ⟨bp, 0, none⟩) 2 2) [kOp1, kOp2]) := Lib.hid fun W hW => by
    have hx : Sl (w3.alloc (.cells #[.int .u8 120] 5 (1, 2))) (.slice (some ⟨w3.heap.size, 0, none⟩) 1 1) (bytes [120]) := Sl.new w3 [.int .u8 120] _ (1, 2) 1 1 rfl (by decide)
    have h1 := ops_new (w3.alloc (.cells #[.int .u8 120] 5 (1, 2))) [(kOp1, .slice (some ⟨w3.heap.size, 0, none⟩) 1 1, .slice none 0 0), (kOp2, .slice none 0 0, .slice none 0 0)] (fun p hp => by
      rcases List.mem_cons.1 hp with rfl | hp
      · exact OpP.of hx.any (OpsP.nil _ _ _ _)
      · rw [List.mem_singleton.1 hp]; exact OpP.of (SlP.nil _ _ _ _) (OpsP.nil _ _ _ _))
    have e1 : (w3.alloc (.cells #[.int .u8 120] 5 (1, 2))).heap.size = bp := by rw [hbp]; simp
    rw [e1] at h1
    have e2 : O1 = opCells kOp1.h (.slice (some ⟨w3.heap.size, 0, none⟩) 1 1) (.slice none 0 0) := by rw [HO1.out]; rfl
    have e3 : O2 = opCells kOp2.h (.slice none 0 0) (.slice none 0 0) := by rw [HO2.out]; rfl
    have h2 : OpsP Any wB (.slice (some ⟨bp, 0, none⟩) 2 2) [kOp1, kOp2] := by rw [hwB.out, e2, e3]; exact h1
    exact (h2.gr gB4).gr hW
  have KO : Hid (∀ W, Gr w4 W → CellsAt W bo Ol 37) := Lib.hid fun W hW => k4.gr hW
  have G4 : Hid (Gr w w4) := Lib.hid (Gr.trans G3.out g4)
  have G34 : Hid (Gr w3 w4) := Lib.hid g4
  replace KI : Hid (∀ W, Gr w4 W → CellsAt W bi Il 34) := Lib.hid fun W hW => KI.out W (Gr.trans g4 hW)
  replace KN : Hid (∀ W, Gr w4 W → CellsAt W bn Nl 28) := Lib.hid fun W hW => KN.out W (Gr.trans g4 hW)
  replace HOl : Hid (Ol = [.int .u8 7, .string ⟨#[]⟩, .slice none 0 0, .int .i64 (Int.negSucc 0), .bool false, .bool false, .slice (some ⟨bp, 0, none⟩) 2 2]) := Lib.hid (by rw [HOl.out, hbp])
  rw [← hbp, ← hbx]
  clear q1 q2 q3 cq hwB k4 c4 gX gXB gB4 g4 hbo hbp hbx HK2 G3
  obtain ⟨E0, hE0⟩ : ∃ l : List Value, l = entCells gX0 { zeroQ with pv := .slice (some ⟨bp, 0, none⟩) 2 2 } := ⟨_, rfl⟩
  obtain ⟨E1, hE1⟩ : ∃ l : List Value, l = entCells gX1 zeroQ := ⟨_, rfl⟩
  obtain ⟨E2, hE2⟩ : ∃ l : List Value, l = entCells gX2 zeroQ := ⟨_, rfl⟩
  obtain ⟨E3, hE3⟩ : ∃ l : List Value, l = entCells gX3 { zeroQ with sv := .slice (some ⟨bs, 0, none⟩) 3 3, ev := .slice (some ⟨be, 0, none⟩) 2 2 } := ⟨_, rfl⟩
  obtain ⟨E4, hE4⟩ : ∃ l : List Value, l = entCells gX4 zeroQ := ⟨_, rfl⟩
  obtain ⟨E5, hE5⟩ : ∃ l : List Value, l = entCells gX5 { zeroQ with fv := .slice (some ⟨w4.heap.size, 0, none⟩) 2 2 } := ⟨_, rfl⟩
  obtain ⟨E6, hE6⟩ : ∃ l : List Value, l = entCells gX6 zeroQ := ⟨_, rfl⟩
  obtain ⟨E7, hE7⟩ : ∃ l : List Value, l = entCells gX7 zeroQ := ⟨_, rfl⟩
  obtain ⟨E8, hE8⟩ : ∃ l : List Value, l = entCells gX8 zeroQ := ⟨_, rfl⟩
  obtain ⟨E9, hE9⟩ : ∃ l : List Value, l = entCells gX9 { zeroQ with fv := .slice (some ⟨w4.heap.size + 1, 0, none⟩) 1 1 } := ⟨_, rfl⟩
  have bu200 : Hid (Try.prog.built 39 [(0, .int .u8 1), (1, .int .u32 4294967295), (2, .int .u32 2), (3, .agg #[.int .i64 1, .int .u32 3]), (4, .agg Ol.toArray)] = some E0.toArray) := Lib.hid (by rw [hE0, HOl.out]; exact eg0 bp)
  have bu201 : Hid (Try.prog.built 39 [(0, .int .u8 2), (1, .int .u32 1), (2, .int .u32 2)] = some E1.toArray) := Lib.hid (by rw [hE1]; exact eg1 )
  have bu202 : Hid (Try.prog.built 39 [(0, .int .u8 3), (1, .int .u32 1), (2, .int .u32 2), (3, .agg #[.int .i64 0, .int .u32 3])] = some E2.toArray) := Lib.hid (by rw [hE2]; exact eg2 )
  have bu203 : Hid (Try.prog.built 39 [(0, .int .u8 4), (5, .agg Il.toArray)] = some E3.toArray) := Lib.hid (by rw [hE3, HIl.out]; exact eg3 bs be)
  have bu204 : Hid (Try.prog.built 39 [(0, .int .u8 4), (5, .agg #[.int .i64 0, .int .u64 0, .int .i64 (Int.negSucc 0), .int .u64 0, .slice none 0 0, .slice none 0 0, .int .u32 5])] = some E4.toArray) := Lib.hid (by rw [hE4]; exact eg4 )
  have bu205 : Hid (Try.prog.built 39 [(0, .int .u8 5), (7, .int .i64 3), (8, .int .u64 9223372036854775808), (9, .slice (some ⟨w4.heap.size, 0, none⟩) 2 2)] = some E5.toArray) := Lib.hid (by rw [hE5]; exact eg5 w4.heap.size)
  have bu206 : Hid (Try.prog.built 39 [(0, .int .u8 6), (8, .int .u64 2)] = some E6.toArray) := Lib.hid (by rw [hE6]; exact eg6 )
  have bu207 : Hid (Try.prog.built 39 [(0, .int .u8 7)] = some E7.toArray) := Lib.hid (by rw [hE7]; exact eg7 )
  have bu208 : Hid (Try.prog.built 39 [(0, .int .u8 8), (6, .int .i64 2), (7, .int .i64 1)] = some E8.toArray) := Lib.hid (by rw [hE8]; exact eg8 )
  have bu209 : Hid (Try.prog.built 39 [(0, .int .u8 9), (6, .int .i64 1), (8, .int .u64 4), (9, .slice (some ⟨w4.heap.size + 1, 0, none⟩) 1 1)] = some E9.toArray) := Lib.hid (by rw [hE9]; exact eg9 (w4.heap.size + 1))
  have HKE : Hid (∀ E ∈ [E0, E1, E2, E3, E4, E5, E6, E7, E8, E9], E.length = 23) := Lib.hid fun E hE => by
    simp only [List.mem_cons, List.not_mem_nil, or_false] at hE
    rcases hE with rfl | rfl | rfl | rfl | rfl | rfl | rfl | rfl | rfl | rfl
    · rw [hE0]; rfl
    · rw [hE1]; rfl
    · rw [hE2]; rfl
    · rw [hE3]; rfl
    · rw [hE4]; rfl
    · rw [hE5]; rfl
    · rw [hE6]; rfl
    · rw [hE7]; rfl
    · rw [hE8]; rfl
    · rw [hE9]; rfl
  have HE0 := Lib.hid hE0
  have HE1 := Lib.hid hE1
  have HE2 := Lib.hid hE2
  have HE3 := Lib.hid hE3
  have HE4 := Lib.hid hE4
  have HE5 := Lib.hid hE5
  have HE6 := Lib.hid hE6
  have HE7 := Lib.hid hE7
  have HE8 := Lib.hid hE8
  have HE9 := Lib.hid hE9
  clear hE0 hE1 hE2 hE3 hE4 hE5 hE6 hE7 hE8 hE9
  have m1 := eb_s13
  have m2 := eb_s03
  have m3 := eb_i5
  go_upto_region 5 with (first | (refine wpList_loadE opTy _ rfl rfl rfl (KO.out _ (Gr.refl _)) OL.out.1 ?_) | (refine wpList_loadE ekTyI _ rfl rfl rfl (KI.out _ (Gr.refl _)) IL.out.1 ?_) | (refine wpList_buildTo rfl 39 _ rfl (some 40) rfl E0.toArray ?_ ?_; · (simp only [List.map_toArray, List.map_cons, List.map_nil]; exact bu200.out)) | (refine wpList_buildTo rfl 39 _ rfl (some 41) rfl E1.toArray ?_ ?_; · (simp only [List.map_toArray, List.map_cons, List.map_nil]; exact bu201.out)) | (refine wpList_buildTo rfl 39 _ rfl (some 43) rfl E2.toArray ?_ ?_; · (simp only [List.map_toArray, List.map_cons, List.map_nil]; exact bu202.out)) | (refine wpList_buildTo rfl 39 _ rfl (some 45) rfl E3.toArray ?_ ?_; · (simp only [List.map_toArray, List.map_cons, List.map_nil]; exact bu203.out)) | (refine wpList_buildTo rfl 39 _ rfl (some 47) rfl E4.toArray ?_ ?_; · (simp only [List.map_toArray, List.map_cons, List.map_nil]; exact bu204.out)) | (refine wpList_buildTo rfl 39 _ rfl (some 49) rfl E5.toArray ?_ ?_; · (simp only [List.map_toArray, List.map_cons, List.map_nil]; exact bu205.out)) | (refine wpList_buildTo rfl 39 _ rfl (some 50) rfl E6.toArray ?_ ?_; · (simp only [List.map_toArray, List.map_cons, List.map_nil]; exact bu206.out)) | (refine wpList_buildTo rfl 39 _ rfl (some 51) rfl E7.toArray ?_ ?_; · (simp only [List.map_toArray, List.map_cons, List.map_nil]; exact bu207.out)) | (refine wpList_buildTo rfl 39 _ rfl (some 52) rfl E8.toArray ?_ ?_; · (simp only [List.map_toArray, List.map_cons, List.map_nil]; exact bu208.out)) | (refine wpList_buildTo rfl 39 _ rfl (some 54) rfl E9.toArray ?_ ?_; · (simp only [List.map_toArray, List.map_cons, List.map_nil]; exact bu209.out)) | (refine wpList_buildRowsTo ekElE 10 _ rfl rfl (some 55) rfl [E0, E1, E2, E3, E4, E5, E6, E7, E8, E9] rfl HKE.out (Nat.succ_pos _) ?_ (w4.heap.size + 1 + 1) ?_ ?_ ?_; (· (show 10 * 23 ≤ 2 ^ 24; decide)); (· simp); (· (simp only [List.map_toArray, List.map_cons, List.map_nil]; rfl)); intro wG hwG) | fail)
  obtain ⟨bg, hbg⟩ : ∃ b, b = w4.heap.size + 1 + 1 := ⟨_, rfl⟩
  have gA : Gr w4 (w4.alloc (.cells #[.int .u64 1, .int .u64 0] 26)) := (Gr.refl w4).alloc _
  have gAB : Gr w4 ((w4.alloc (.cells #[.int .u64 1, .int .u64 0] 26)).alloc (.cells #[.int .u64 5] 26)) := gA.alloc _
  have gG : Gr w4 wG := by rw [hwG.out]; exact gAB.alloc _
  have GOOD : Hid (∀ W, Gr wG W → EntsP Any W (.slice (some ⟨bg, 0, none⟩) 10 10) goodE) := Lib.hid fun W hW => by
    have s1 : Sl (w4.alloc (.cells #[.int .u64 1, .int .u64 0] 26)) (.slice (some ⟨w4.heap.size, 0, none⟩) 2 2) (nums [1, 0]) := Sl.new w4 [.int .u64 1, .int .u64 0] _ _ 2 2 rfl (by decide)
    have s2 : Sl ((w4.alloc (.cells #[.int .u64 1, .int .u64 0] 26)).alloc (.cells #[.int .u64 5] 26)) (.slice (some ⟨(w4.alloc (.cells #[.int .u64 1, .int .u64 0] 26)).heap.size, 0, none⟩) 1 1) (nums [5]) := Sl.new (w4.alloc (.cells #[.int .u64 1, .int .u64 0] 26)) [.int .u64 5] _ _ 1 1 rfl (by decide)
    have e1 : (w4.alloc (.cells #[.int .u64 1, .int .u64 0] 26)).heap.size = w4.heap.size + 1 := by simp
    rw [e1] at s2
    have s1' := s1.below ((Gr.refl _).alloc (.cells #[.int .u64 5] 26))
    have h1 := ents_new ((w4.alloc (.cells #[.int .u64 1, .int .u64 0] 26)).alloc (.cells #[.int .u64 5] 26)) [(gX0, { zeroQ with pv := .slice (some ⟨bp, 0, none⟩) 2 2 }), (gX1, zeroQ), (gX2, zeroQ), (gX3, { zeroQ with sv := .slice (some ⟨bs, 0, none⟩) 3 3, ev := .slice (some ⟨be, 0, none⟩) 2 2 }), (gX4, zeroQ), (gX5, { zeroQ with fv := .slice (some ⟨w4.heap.size, 0, none⟩) 2 2 }), (gX6, zeroQ), (gX7, zeroQ), (gX8, zeroQ), (gX9, { zeroQ with fv := .slice (some ⟨w4.heap.size + 1, 0, none⟩) 1 1 })] (fun p hp => by
      simp only [List.mem_cons, List.not_mem_nil, or_false] at hp
      rcases hp with rfl | rfl | rfl | rfl | rfl | rfl | rfl | rfl | rfl | rfl
      · exact ⟨OpP.of (SlP.nil _ _ _ _) (OPS.out _ gAB), ⟨SlP.nil _ _ _ _, EffsP.nil _ _ _ _⟩, SlP.nil _ _ _ _⟩
      · exact ⟨OpP.of (SlP.nil _ _ _ _) (OpsP.nil _ _ _ _), ⟨SlP.nil _ _ _ _, EffsP.nil _ _ _ _⟩, SlP.nil _ _ _ _⟩
      · exact ⟨OpP.of (SlP.nil _ _ _ _) (OpsP.nil _ _ _ _), ⟨SlP.nil _ _ _ _, EffsP.nil _ _ _ _⟩, SlP.nil _ _ _ _⟩
      · exact ⟨OpP.of (SlP.nil _ _ _ _) (OpsP.nil _ _ _ _), ⟨(SU.out _ (Gr.trans G34.out gAB)).any, EF.out _ (Gr.trans G34.out gAB)⟩, SlP.nil _ _ _ _⟩
      · exact ⟨OpP.of (SlP.nil _ _ _ _) (OpsP.nil _ _ _ _), ⟨SlP.nil _ _ _ _, EffsP.nil _ _ _ _⟩, SlP.nil _ _ _ _⟩
      · exact ⟨OpP.of (SlP.nil _ _ _ _) (OpsP.nil _ _ _ _), ⟨SlP.nil _ _ _ _, EffsP.nil _ _ _ _⟩, s1'.any⟩
      · exact ⟨OpP.of (SlP.nil _ _ _ _) (OpsP.nil _ _ _ _), ⟨SlP.nil _ _ _ _, EffsP.nil _ _ _ _⟩, SlP.nil _ _ _ _⟩
      · exact ⟨OpP.of (SlP.nil _ _ _ _) (OpsP.nil _ _ _ _), ⟨SlP.nil _ _ _ _, EffsP.nil _ _ _ _⟩, SlP.nil _ _ _ _⟩
      · exact ⟨OpP.of (SlP.nil _ _ _ _) (OpsP.nil _ _ _ _), ⟨SlP.nil _ _ _ _, EffsP.nil _ _ _ _⟩, SlP.nil _ _ _ _⟩
      · exact ⟨OpP.of (SlP.nil _ _ _ _) (OpsP.nil _ _ _ _), ⟨SlP.nil _ _ _ _, EffsP.nil _ _ _ _⟩, s2.any⟩)
    have e2 : ((w4.alloc (.cells #[.int .u64 1, .int .u64 0] 26)).alloc (.cells #[.int .u64 5] 26)).heap.size = bg := by rw [hbg]; simp
    rw [e2] at h1
    have h2 : EntsP Any wG (.slice (some ⟨bg, 0, none⟩) 10 10) goodE := by rw [hwG.out, HE0.out, HE1.out, HE2.out, HE3.out, HE4.out, HE5.out, HE6.out, HE7.out, HE8.out, HE9.out]; exact h1
    exact h2.gr hW
  have GG : Hid (Gr w wG) := Lib.hid (Gr.trans G4.out gG)
  have G4G : Hid (Gr w4 wG) := Lib.hid gG
  rw [← hbg]
  clear hwG hbg gA gAB gG m1 m2 m3 bu200 HE0 bu201 HE1 bu202 HE2 bu203 HE3 bu204 HE4 bu205 HE5 bu206 HE6 bu207 HE7 bu208 HE8 bu209 HE9
  go_wp2_with fail
  go_loopw [5] (fun s5 wr => ∃ k : Nat, k ≤ 10 ∧ s5 = .int .i64 k ∧ Gr wG wr) (fun s5 _ => 10 - (intOf s5).toNat)
  case atStart => exact ⟨0, Nat.zero_le _, rfl, Gr.refl _⟩
  case round =>
    obtain ⟨k, hk, rfl, hG⟩ := hrel
    obtain ⟨wo, rfl⟩ : ∃ wo : World, wo = wr := ⟨_, rfl⟩
    have GO := Lib.hid hG
    clear hG
    by_cases hlt : k < 10
    · as_aux_lemma =>
      have hk2 : k < goodE.length := hlt
      obtain ⟨B, o, c, q, hv, hBw, hpe, hcf⟩ := (GOOD.out wo GO.out).at k hk2
      injection hv with e1 e2 e3
      injection e1 with e1
      injection e1 with e1 e4
      subst e1 e4
      rw [Nat.zero_add] at hcf
      obtain ⟨x, hx⟩ : ∃ x, x = goodE[k] := ⟨_, rfl⟩
      have hmem : x ∈ goodE := by rw [hx]; exact List.getElem_mem hk2
      rw [← hx] at hpe hcf
      have hrow := goodE_row x hmem
      have hmay := goodE_may x hmem
      have hput : putV x = (tellB x, 0) := by rw [putV_may hrow.1 hrow.2.1.fit (by decide) hmay.1, if_neg (by have := hmay.2.1; omega)]
      have hget : getV (tellB x) = (x, 0) := getV_tell hrow.1 hmay.1 hmay.2.1
      have EPX : Hid (EntP Any wo x q) := Lib.hid hpe
      have ROWX := Lib.hid hrow
      have FLAT := Lib.hid hmay.2.2
      obtain ⟨L, hL⟩ : ∃ L, L = tellB x := ⟨_, rfl⟩
      rw [← hL] at hput hget
      have LL : Hid (L.length ≤ 1000000000) := Lib.hid (by rw [hL]; have := hmay.2.1; omega)
      have PUTX : Hid (∀ V, Gr wo V → Calls Try.prog 4 #[.agg (entCells x q).toArray] V fun e W' => ∃ v, e = .returned (.tuple #[v, .int .i64 0]) ∧ Sl W' v (bytes L) ∧ Gr V W') := Lib.hid fun V hV => (put_any V x q (hpe.gr hV) hrow.1 hrow.2.1).mono fun e W' h => by
        unfold RetPut at h
        rw [hput] at h
        exact h
      have GETX : Hid (∀ V v, Sl V v (bytes L) → Calls Try.prog 5 #[v] V fun e W' => ∃ q2, e = .returned (.tuple #[.agg (entCells x q2).toArray, .int .i64 0]) ∧ EntP Any W' x q2 ∧ Gr V W') := Lib.hid fun V v hs => (get_any V v L hs LL.out).mono fun e W' ⟨q2, h1, h2, h3⟩ => by
        rw [hget] at h1 h2
        exact ⟨q2, h1, h2.mono (fun _ _ => trivial), h3⟩
      have SAMEX : Hid (∀ V q2, Gr wo V → EntP Any V x q2 → Calls Try.prog 6 #[.agg (entCells x q2).toArray, .agg (entCells x q).toArray] V fun e W' => e = .returned (.bool true) ∧ Gr V W') := Lib.hid fun V q2 hV h2 => (ent_says V x x q2 q h2 (EPX.out.gr hV) ROWX.out.2.2 ROWX.out.2.2).mono fun e W' ⟨z, h1, h3, h4⟩ => ⟨by rw [h1, h3.2 ⟨rfl, FLAT.out⟩], h4⟩
      obtain ⟨E, hE⟩ : ∃ E, E = entCells x q := ⟨_, rfl⟩
      have EN : Hid (E.length = 23) := Lib.hid (by rw [hE]; rfl)
      rw [← hE] at PUTX SAMEX hcf
      have CR : Hid (∀ V, Gr wo V → CellsFrom V bg (k * 23) E) := Lib.hid fun V hV => hcf.gr hV hBw
      have i1 : (0 : Int) ≤ (k : Int) := by omega
      have i2 : (k : Int) < 10 := by omega
      have HLT := Lib.hid hlt
      clear e2 e3 hpe hcf hE hL hput hget hrow hmay hmem hx hBw hk2 hlt hk GOOD
      go_wp2_with (first | (refine wpList_loadAt entTy _ rfl rfl rfl (CR.out _ (Gr.refl _)) EN.out ?_) | fail)
      refine (PUTX.out wo (Gr.refl _)).mono ?_
      rintro en w6 ⟨v6, rfl, s6, g6⟩
      obtain ⟨a6, c6, hv6⟩ := s6.oneCells
      rw [bytes_length] at hv6
      subst hv6
      have S6 := Lib.hid s6
      have G6 := Lib.hid g6
      clear s6 g6 PUTX
      go_wp2_with fail
      refine (GETX.out w6 _ S6.out).mono ?_
      rintro en w7 ⟨q2, rfl, p7, g7⟩
      have SM : Hid (∀ V, Gr w7 V → Calls Try.prog 6 #[.agg (entCells x q2).toArray, .agg E.toArray] V fun e W' => e = .returned (.bool true) ∧ Gr V W') := Lib.hid fun V hV => SAMEX.out V q2 (Gr.trans (Gr.trans G6.out g7) hV) (p7.gr hV)
      obtain ⟨E2, hE2⟩ : ∃ E, E = entCells x q2 := ⟨_, rfl⟩
      have EN2 : Hid (E2.length = 23 ∧ oneAll E2) := Lib.hid (by rw [hE2]; exact ⟨rfl, p7.one⟩)
      rw [← hE2] at SM ⊢
      have G7 := Lib.hid (Gr.trans G6.out g7)
      clear p7 g7 hE2 G6 S6 GETX SAMEX
      go_upto_region 10 with (first | (refine wpList_storeE entTy _ _ rfl rfl rfl rfl (CellsAt.newAt' _ _ _ ?_) EN2.out.1 rfl EN2.out.2 ?_; · simp) | fail)
      intro w8 k8 c8
      have g78 : Gr w7 w8 := Below.trans ((Gr.refl w7).alloc _) (c8.below ((Gr.refl w7).alloc _).size (fun k hk => by have h1 : k = w7.heap.size := hk; omega))
      obtain ⟨b8, hb8⟩ : ∃ b, b = w7.heap.size := ⟨_, rfl⟩
      rw [← hb8] at k8 ⊢
      have K8 := Lib.hid k8
      have G8 := Lib.hid (Gr.trans G7.out g78)
      have G78 := Lib.hid g78
      clear k8 c8 g78 hb8
      go_upto_region 10 with fail
      have GD := Lib.hid ((Gr.refl w8).drew)
      apply wp_region_draw_grow (.eq _ :: .eq _ :: .eq _ :: .eq _ :: .eq _ :: .eq _ :: .eq _ :: .eq _ :: .eq _ :: .eq _ :: .eq _ :: .eq _ :: .eq _ :: .eq _ :: .eq _ :: []) (by kernel_rfl) (by kernel_rfl) trivial
      iterate 7
       apply wpG_eq
       · intro W hW hs
         unfold opG
         go_simp
         first | exact resG_eq_mk _ _ _ | rfl
       simp only [Act.put, pt1, pt2, pt3]
      apply wpG_eq
      · intro W hW hs
        refine opG_loadE entTy _ rfl (by rfl) rfl (K8.out.gr (GD.out.trans hW)) EN2.out.1 ?_
        rfl
      simp only [Act.put, pt1, pt2, pt3]
      iterate 3
       apply wpG_eq
       · intro W hW hs
         unfold opG
         go_simp
         first | exact resG_eq_mk _ _ _ | rfl
       simp only [Act.put, pt1, pt2, pt3]
      apply wpG_eq
      · intro W hW hs
        refine opG_loadAt entTy _ rfl (by rfl) rfl (CR.out W (Gr.trans G8.out (GD.out.trans hW))) EN.out ?_
        rfl
      simp only [Act.put, pt1, pt2, pt3]
      apply wpG_eq
      · intro W hW hs
        unfold opG
        go_simp
        refine resG_call ((SM.out W (Gr.trans G78.out (GD.out.trans hW))).mono ?_)
        rintro e W2 ⟨rfl, hb⟩
        exact ⟨_, rfl, hb, rfl⟩
      simp only [Act.put, pt1, pt2, pt3]
      iterate 2
       apply wpG_eq
       · intro W hW hs
         unfold opG
         go_simp
         first | exact resG_eq_mk _ _ _ | rfl
       simp only [Act.put, pt1, pt2, pt3]
      apply wpG_nil
      intro w9 hW9 hsAll
      clear hsAll
      have G9 := Lib.hid (Gr.trans GO.out (Gr.trans G8.out (GD.out.trans hW9)))
      have kw : wrap64 ((k : Int) + 1) = (k : Int) + 1 := by have h3 := HLT.out; unfold wrap64; omega
      clear hW9 GD
      go_wp2
      go_roundw
      case rel => exact ⟨k + 1, by have := HLT.out; omega, by first | go_num | (rw [kw]; rfl), G9.out⟩
      case measure =>
        have h8 := HLT.out
        have h9 : 10 - (k + 1) < 10 - k := by omega
        (try rw [kw])
        clear kw
        simp [intOf]; omega
    · obtain rfl : k = 10 := by omega
      have i2 : ¬ ((10 : Nat) : Int) < 10 := by decide
      clear hk hlt
      obtain ⟨w11, m1, oL, gL⟩ := run_make_by wo 65 (by decide)
      obtain ⟨bL, hbL⟩ : ∃ b, b = wo.heap.size := ⟨_, rfl⟩
      rw [← hbL] at m1 oL
      replace m1 : (Instr.makeSlice 22 (.int .i64 65) (.int .i64 65)).run Try.prog wo = .ok (.slice (some ⟨bL, 0, none⟩) 65 65) w11 := m1
      have OLg := Lib.hid oL
      have G11 : Hid (Gr w4 w11) := Lib.hid (Gr.trans (Gr.trans G4G.out GO.out) gL)
      have GGL : Hid (Gr w w11) := Lib.hid (Gr.trans (Gr.trans GG.out GO.out) gL)
      clear hbL oL gL GOOD GO GG G4G
      go_upto_region 14 with (first | (refine wpList_loadE ekTyI _ rfl rfl rfl (KI.out _ G11.out) IL.out.1 ?_) | (refine wpList_storeE ekTyI _ _ rfl rfl rfl rfl (CellsAt.newAt' _ _ _ ?_) IL.out.1 rfl IL.out.2 ?_; · simp) | fail)
      intro w12 k12 c12
      go_upto_region 14 with fail
      clear m1 i2
      obtain ⟨b11, hb11⟩ : ∃ b, b = w11.heap.size := ⟨_, rfl⟩
      rw [← hb11] at k12 c12 ⊢
      have g12 : Gr w11 w12 := Below.trans ((Gr.refl w11).alloc _) (c12.below ((Gr.refl w11).alloc _).size (fun k hk => by have h1 : k = b11 := hk; omega))
      obtain ⟨w13, m2, eM, gM⟩ := run_make_effs w12 17 (by decide)
      replace m2 : (Instr.makeSlice 32 (.int .i64 17) (.int .i64 17)).run Try.prog w12 = .ok (.slice (some ⟨w12.heap.size, 0, none⟩) 17 17) w13 := m2
      obtain ⟨bm, hbm⟩ : ∃ b, b = w12.heap.size := ⟨_, rfl⟩
      rw [← hbm] at m2 eM
      have K13 := Lib.hid (k12.gr gM)
      have EM := Lib.hid eM
      have G13 : Hid (Gr w11 w13) := Lib.hid (Gr.trans g12 gM)
      have HB11 := Lib.hid hb11
      have HBM : Hid (b11 < bm) := Lib.hid (by rw [hbm]; exact k12.lt)
      have y5 : w13.cell? ⟨b11, 5, none⟩ = some (.slice (some ⟨be, 0, none⟩) 2 2) := by rw [K13.out.cell, HIl.out]; rfl
      have z5 := K13.out.frozen 5
      clear k12 c12 hb11 hbm g12 gM eM
      go_upto_region 15 with fail
      clear m2 y5 z5
      obtain ⟨w14, hw14⟩ : ∃ w', w' = w13.setCell ⟨b11, 5, none⟩ (.slice (some ⟨bm, 0, none⟩) 17 17) := ⟨_, rfl⟩
      rw [← hw14]
      have c14 : Ch (fun k => k = b11) w13 w14 := by rw [hw14]; exact ch_setCell' _ _ _ _
      have K14 : Hid (CellsAt w14 b11 (Il.set 5 (.slice (some ⟨bm, 0, none⟩) 17 17)) 34) := Lib.hid (by rw [hw14]; exact K13.out.set 5 _)
      have G14 : Hid (Gr w11 w14) := Lib.hid (Below.trans G13.out (c14.below G13.out.size (fun k hk => by have h1 : k = b11 := hk; have := HB11.out; omega)))
      have EM4 : Hid (EffsP Any w14 (.slice (some ⟨bm, 0, none⟩) 17 17) (List.replicate 17 zeroE)) := Lib.hid (by
        rw [hw14]
        exact (EM.out.keep (keep_from (grownBy_setCell _ _ _ _) (by have := HBM.out; omega))).mono (fun _ _ => trivial))
      have m3 := KI
      clear hw14 c14 K13 G13 EM HB11 HBM m3
      go_upto_region 16 with (first | (refine wpList_loadE ekTyI _ rfl rfl rfl (KI.out _ (Gr.trans G11.out G14.out)) IL.out.1 ?_) | (refine wpList_storeE ekTyI _ _ rfl rfl rfl rfl (CellsAt.newAt' _ _ _ ?_) IL.out.1 rfl IL.out.2 ?_; · simp) | fail)
      intro w15 k15 c15
      go_upto_region 16 with fail
      obtain ⟨b12, hb12⟩ : ∃ b, b = w14.heap.size := ⟨_, rfl⟩
      rw [← hb12] at k15 c15 ⊢
      have g15 : Gr w14 w15 := Below.trans ((Gr.refl w14).alloc _) (c15.below ((Gr.refl w14).alloc _).size (fun k hk => by have h1 : k = b12 := hk; omega))
      have K15 := Lib.hid k15
      have G15 := Lib.hid g15
      have HB12 := Lib.hid hb12
      obtain ⟨A2, hA2⟩ : ∃ l : List Value, l = [.string ⟨#[47, 97]⟩, .bool true, .slice (some ⟨bd, 0, none⟩) 64 64, .int .u32 4294967295, .int .u32 2, .int .u32 3, .int .i64 2, .int .u32 9, .int .u64 18446744073709551615, .int .u64 5, .int .u64 6] := ⟨_, rfl⟩
      have q1 : Hid (Try.prog.built 31 [(0, .string ⟨#[47, 97]⟩), (1, .bool true), (2, .agg Nl.toArray)] = some A2.toArray) := Lib.hid (by rw [HNl.out, hA2]; exact eb_effO bd)
      have HK2 : Hid (∀ E ∈ [A2], E.length = 11) := Lib.hid fun E hE => by rw [List.mem_singleton.1 hE, hA2]; rfl
      have HA2 := Lib.hid hA2
      have y5 : ∀ V, Gr w15 V → V.cell? ⟨b12, 5, none⟩ = some (.slice (some ⟨be, 0, none⟩) 2 2) ∧ V.frozen? ⟨b12, 5, none⟩ = false := fun V hV => ⟨by rw [(K15.out.gr hV).cell, HIl.out]; rfl, (K15.out.gr hV).frozen 5⟩
      have Y5 := Lib.hid y5
      clear k15 c15 g15 hb12 hA2 y5
      go_upto_region 17 with (first | (refine wpList_loadE ekTyN _ rfl rfl rfl (KN.out _ (Gr.trans G11.out (Gr.trans G14.out G15.out))) NL.out ?_) | (refine wpList_buildTo rfl 31 _ rfl (some 96) rfl A2.toArray ?_ ?_; · (simp only [List.map_toArray, List.map_cons, List.map_nil]; exact q1.out)) | (refine wpList_buildRowsTo ekElEF 1 _ rfl rfl (some 97) rfl [A2] rfl HK2.out (Nat.succ_pos _) ?_ (w15.heap.size) ?_ ?_ ?_; (· (show 1 * 11 ≤ 2 ^ 24; decide)); (· simp); (· (simp only [List.map_toArray, List.map_cons, List.map_nil]; rfl)); intro wO hwO; have y5 := (Y5.out wO (by rw [hwO.out]; exact (Gr.refl _).alloc _)).1; have z5 := (Y5.out wO (by rw [hwO.out]; exact (Gr.refl _).alloc _)).2) | fail)
      clear y5 z5
      obtain ⟨bq, hbq⟩ : ∃ b, b = w15.heap.size := ⟨_, rfl⟩
      rw [← hbq]
      obtain ⟨w16, hw16⟩ : ∃ w', w' = wO.setCell ⟨b12, 5, none⟩ (.slice (some ⟨bq, 0, none⟩) 1 1) := ⟨_, rfl⟩
      rw [← hw16]
      have gO : Gr w15 wO := by rw [hwO.out]; exact (Gr.refl _).alloc _
      have c16 : Ch (fun k => k = b12) wO w16 := by rw [hw16]; exact ch_setCell' _ _ _ _
      have g1416 : Gr w14 w16 := Below.trans (Gr.trans G15.out gO) (c16.below (Gr.trans G15.out gO).size (fun k hk => by have h1 : k = b12 := hk; have := HB12.out; omega))
      have g416 : Gr w4 w16 := Gr.trans G11.out (Gr.trans G14.out g1416)
      obtain ⟨ML, hML⟩ : ∃ l : List Value, l = [.int .i64 2, .int .u64 4, .int .i64 3, .int .u64 7, .slice (some ⟨bs, 0, none⟩) 3 3, .slice (some ⟨bm, 0, none⟩) 17 17, .int .u32 0] := ⟨_, rfl⟩
      obtain ⟨DL, hDL⟩ : ∃ l : List Value, l = [.int .i64 2, .int .u64 4, .int .i64 3, .int .u64 7, .slice (some ⟨bs, 0, none⟩) 3 3, .slice (some ⟨bq, 0, none⟩) 1 1, .int .u32 0] := ⟨_, rfl⟩
      have KM : Hid (∀ V, Gr w16 V → CellsAt V b11 ML 34) := Lib.hid fun V hV => by
        have h := (K14.out.gr g1416).gr hV
        rw [HIl.out] at h
        rw [hML]
        exact h
      have KD : Hid (∀ V, Gr w16 V → CellsAt V b12 DL 34) := Lib.hid fun V hV => by
        have h := (((K15.out.gr gO).set 5 (.slice (some ⟨bq, 0, none⟩) 1 1)))
        rw [← hw16, HIl.out] at h
        rw [hDL]
        exact CellsAt.gr h hV
      have SLL : Hid (∀ V, Gr w16 V → Sl V (.slice (some ⟨bL, 0, none⟩) 65 65) (bytes kLong)) := Lib.hid fun V hV => OLg.out.sl.below (Gr.trans (Gr.trans G14.out g1416) hV)
      have EMR : Hid (∀ V, Gr w16 V → EffsP Any V (.slice (some ⟨bm, 0, none⟩) 17 17) (List.replicate 17 zeroE)) := Lib.hid fun V hV => EM4.out.gr (Gr.trans g1416 hV)
      have EOR : Hid (∀ V, Gr w16 V → EffsP Any V (.slice (some ⟨bq, 0, none⟩) 1 1) [kEffO]) := Lib.hid fun V hV => by
        have hsd := SD.out w14 (Gr.trans G34.out (Gr.trans G11.out G14.out))
        obtain ⟨b', e', hb'⟩ := Sl.ownBlock_lt hsd (fun h => by have := congrArg List.length h; rw [bytes_length] at this; simp at this)
        have e' : bd = b' := by injection e'
        have h1 := effs_new (fun k => k ≠ b12) w15 (by have := HB12.out; have := K15.out.lt; omega) [(kEffO, .slice (some ⟨bd, 0, none⟩) 64 64)] (fun p hp => by
          rw [List.mem_singleton.1 hp]
          exact ⟨SD.out w15 (Gr.trans G34.out (Gr.trans G11.out (Gr.trans G14.out G15.out))), .inr fun k hk => by
            have e9 : some bd = some k := hk
            injection e9 with e9
            have := HB12.out
            rw [← e9]
            omega⟩)
        rw [← hbq] at h1
        have e2 : A2 = effCells kEffO (.slice (some ⟨bd, 0, none⟩) 64 64) := by rw [HA2.out]; rfl
        have h2 : EffsP (fun k => k ≠ b12) wO (.slice (some ⟨bq, 0, none⟩) 1 1) [kEffO] := by rw [hwO.out, e2]; exact h1
        have h3 : EffsP (fun k => k ≠ b12) w16 (.slice (some ⟨bq, 0, none⟩) 1 1) [kEffO] := by rw [hw16]; exact h2.keep (Keep.of_grown (grownBy_setCell _ _ _ _) (fun hb => hb rfl))
        exact (h3.mono (fun _ _ => trivial)).gr hV
      have SUR : Hid (∀ V, Gr w16 V → Sl V (.slice (some ⟨bs, 0, none⟩) 3 3) (nums [1, 2, 3])) := Lib.hid fun V hV => SU.out V (Gr.trans G34.out (Gr.trans g416 hV))
      have MLN : Hid (ML.length = 7) := Lib.hid (by rw [hML]; rfl)
      have DLN : Hid (DL.length = 7) := Lib.hid (by rw [hDL]; rfl)
      have HML := Lib.hid hML
      have HDL := Lib.hid hDL
      have G16 : Hid (Gr w w16) := Lib.hid (Gr.trans GGL.out (Gr.trans G14.out g1416))
      clear hbq hw16 hwO gO c16 g1416 g416 hML hDL HB12 K15 K14 EM4 q1 HK2 HA2 Y5 G15 G14 G11 GGL OLg SD SU KI KN
      have GD := Lib.hid ((Gr.refl w16).drew)
      apply wp_region_draw_grow (.ok (WE bX0) :: .ok (WE bX1) :: .ok (WE bX2) :: .ok (WE bX3) :: .ok (WE bX4) :: .ok (WE bX5) :: .ok (WN [1] 1) :: .ok (WE bX6) :: .eq _ :: .ok (WE bX7) :: .eq _ :: .ok (WE bX8) :: .ok (WN [0, 0, 0, 0] 4) :: .ok (WE bX9) :: .eq _ :: .eq _ :: .eq _ :: .ok (WE bX10) :: .eq _ :: .eq _ :: .ok (WE bX11) :: .ok (WO (List.replicate 7 zeroO) 7) :: .ok (WP kOpP (List.replicate 7 zeroO) 7) :: .ok (WE bX12) :: .ok (WO (List.replicate 1 zeroO) 1) :: .ok (WP kOp0 (List.replicate 1 zeroO) 1) :: .ok (WO [kOp0] 1) :: .ok (WP kOpN ([kOp0]) 1) :: .ok (WE bX13) :: .ok (WE bX14) :: .eq _ :: .ok (WE bX15) :: .eq _ :: .ok (WE bX16) :: .eq _ :: .ok (WE bX17) :: .eq _ :: .ok (WE bX18) :: .eq _ :: .ok (WE bX19) :: .eq _ :: .ok (WE bX20) :: .ok (WB) :: .ok (WB) :: []) (by kernel_rfl) (by kernel_rfl) ⟨(WE.mono bX0), (WE.mono bX1), (WE.mono bX2), (WE.mono bX3), (WE.mono bX4), (WE.mono bX5), (WN.mono [1] 1), (WE.mono bX6), (WE.mono bX7), (WE.mono bX8), (WN.mono [0, 0, 0, 0] 4), (WE.mono bX9), (WE.mono bX10), (WE.mono bX11), (WO.mono (List.replicate 7 zeroO) 7), (WP.mono kOpP (List.replicate 7 zeroO) 7), (WE.mono bX12), (WO.mono (List.replicate 1 zeroO) 1), (WP.mono kOp0 (List.replicate 1 zeroO) 1), (WO.mono [kOp0] 1), (WP.mono kOpN ([kOp0]) 1), (WE.mono bX13), (WE.mono bX14), (WE.mono bX15), (WE.mono bX16), (WE.mono bX17), (WE.mono bX18), (WE.mono bX19), (WE.mono bX20), (WB.mono), (WB.mono), trivial⟩
      apply wpG_ok
      · intro W hW hs
        refine opG_build _ _ rfl rfl (cells := (entCells bX0 zeroQ).toArray) ?_ ⟨_, rfl, ⟨OpP.of (SlP.nil _ _ _ _) (OpsP.nil _ _ _ _), ⟨SlP.nil _ _ _ _, EffsP.nil _ _ _ _⟩, SlP.nil _ _ _ _⟩⟩
        simp only [List.map_toArray, List.map_cons, List.map_nil]
        exact eh0
      intro vv0
      simp only [Act.put, pt1, pt2, pt3]
      apply wpG_ok
      · intro W hW hs
        refine opG_build _ _ rfl rfl (cells := (entCells bX1 zeroQ).toArray) ?_ ⟨_, rfl, ⟨OpP.of (SlP.nil _ _ _ _) (OpsP.nil _ _ _ _), ⟨SlP.nil _ _ _ _, EffsP.nil _ _ _ _⟩, SlP.nil _ _ _ _⟩⟩
        simp only [List.map_toArray, List.map_cons, List.map_nil]
        exact eh1
      intro vv1
      simp only [Act.put, pt1, pt2, pt3]
      apply wpG_ok
      · intro W hW hs
        refine opG_build _ _ rfl rfl (cells := (entCells bX2 zeroQ).toArray) ?_ ⟨_, rfl, ⟨OpP.of (SlP.nil _ _ _ _) (OpsP.nil _ _ _ _), ⟨SlP.nil _ _ _ _, EffsP.nil _ _ _ _⟩, SlP.nil _ _ _ _⟩⟩
        simp only [List.map_toArray, List.map_cons, List.map_nil]
        exact eh2
      intro vv2
      simp only [Act.put, pt1, pt2, pt3]
      apply wpG_ok
      · intro W hW hs
        refine opG_build _ _ rfl rfl (cells := (entCells bX3 zeroQ).toArray) ?_ ⟨_, rfl, ⟨OpP.of (SlP.nil _ _ _ _) (OpsP.nil _ _ _ _), ⟨SlP.nil _ _ _ _, EffsP.nil _ _ _ _⟩, SlP.nil _ _ _ _⟩⟩
        simp only [List.map_toArray, List.map_cons, List.map_nil]
        exact eh3
      intro vv3
      simp only [Act.put, pt1, pt2, pt3]
      apply wpG_ok
      · intro W hW hs
        refine opG_build _ _ rfl rfl (cells := (entCells bX4 zeroQ).toArray) ?_ ⟨_, rfl, ⟨OpP.of (SlP.nil _ _ _ _) (OpsP.nil _ _ _ _), ⟨SlP.nil _ _ _ _, EffsP.nil _ _ _ _⟩, SlP.nil _ _ _ _⟩⟩
        simp only [List.map_toArray, List.map_cons, List.map_nil]
        exact eh4
      intro vv4
      simp only [Act.put, pt1, pt2, pt3]
      apply wpG_ok
      · intro W hW hs
        refine opG_build _ _ rfl rfl (cells := (entCells bX5 zeroQ).toArray) ?_ ⟨_, rfl, ⟨OpP.of (SlP.nil _ _ _ _) (OpsP.nil _ _ _ _), ⟨SlP.nil _ _ _ _, EffsP.nil _ _ _ _⟩, SlP.nil _ _ _ _⟩⟩
        simp only [List.map_toArray, List.map_cons, List.map_nil]
        exact eh5
      intro vv5
      simp only [Act.put, pt1, pt2, pt3]
      apply wpG_ok
      · intro W hW hs
        have hs1 : Hid (WN [1] 1 (.slice (some ⟨W.heap.size, 0, none⟩) 1 1) (W.alloc (.cells #[.int .u64 1] 26))) := Lib.hid ⟨_, rfl, Sl.new W [.int .u64 1] _ _ 1 1 rfl (by decide)⟩
        unfold opG
        go_simp
        exact resG_mk ((Gr.refl W).alloc _) hs1.out
      intro vv6
      simp only [Act.put, pt1, pt2, pt3]
      apply wpG_ok
      · intro W hW hs
        obtain ⟨b, rfl, h9⟩ := hs _ (.head _) (by rfl)
        refine opG_build _ _ rfl rfl (cells := (entCells bX6 { zeroQ with fv := .slice (some ⟨b, 0, none⟩) 1 1 }).toArray) ?_ ⟨_, rfl, ⟨OpP.of (SlP.nil _ _ _ _) (OpsP.nil _ _ _ _), ⟨SlP.nil _ _ _ _, EffsP.nil _ _ _ _⟩, h9.any⟩⟩
        simp only [List.map_toArray, List.map_cons, List.map_nil]
        exact eh6 b
      intro vv7
      simp only [Act.put, pt1, pt2, pt3]
      apply wpG_eq
      · intro W hW hs
        refine opG_build _ _ rfl rfl (cells := #[.int .i64 0, .int .u32 1]) ?_ rfl
        simp only [List.map_toArray, List.map_cons, List.map_nil]
        exact eh_s01
      simp only [Act.put, pt1, pt2, pt3]
      apply wpG_ok
      · intro W hW hs
        refine opG_build _ _ rfl rfl (cells := (entCells bX7 zeroQ).toArray) ?_ ⟨_, rfl, ⟨OpP.of (SlP.nil _ _ _ _) (OpsP.nil _ _ _ _), ⟨SlP.nil _ _ _ _, EffsP.nil _ _ _ _⟩, SlP.nil _ _ _ _⟩⟩
        simp only [List.map_toArray, List.map_cons, List.map_nil]
        exact eh7
      intro vv9
      simp only [Act.put, pt1, pt2, pt3]
      apply wpG_eq
      · intro W hW hs
        refine opG_build _ _ rfl rfl (cells := #[.int .i64 3, .int .u32 1]) ?_ rfl
        simp only [List.map_toArray, List.map_cons, List.map_nil]
        exact eh_s31
      simp only [Act.put, pt1, pt2, pt3]
      apply wpG_ok
      · intro W hW hs
        refine opG_build _ _ rfl rfl (cells := (entCells bX8 zeroQ).toArray) ?_ ⟨_, rfl, ⟨OpP.of (SlP.nil _ _ _ _) (OpsP.nil _ _ _ _), ⟨SlP.nil _ _ _ _, EffsP.nil _ _ _ _⟩, SlP.nil _ _ _ _⟩⟩
        simp only [List.map_toArray, List.map_cons, List.map_nil]
        exact eh8
      intro vv11
      simp only [Act.put, pt1, pt2, pt3]
      apply wpG_ok
      · intro W hW hs
        obtain ⟨wm, hrm, om, gm⟩ := run_make_n W 4 (by decide)
        replace hrm : (Instr.makeSlice 29 (.int .i64 4) (.int .i64 4)).run Try.prog W = .ok (.slice (some ⟨W.heap.size, 0, none⟩) 4 4) wm := hrm
        have OM : Hid (WN [0, 0, 0, 0] 4 (.slice (some ⟨W.heap.size, 0, none⟩) 4 4) wm) := Lib.hid ⟨_, rfl, om.sl⟩
        have GM := Lib.hid gm
        clear om gm
        unfold opG
        go_simp
        exact resG_mk GM.out OM.out
      intro vv12
      simp only [Act.put, pt1, pt2, pt3]
      apply wpG_ok
      · intro W hW hs
        obtain ⟨b, rfl, h9⟩ := hs _ (.head _) (by rfl)
        refine opG_build _ _ rfl rfl (cells := (entCells bX9 { zeroQ with fv := .slice (some ⟨b, 0, none⟩) 4 4 }).toArray) ?_ ⟨_, rfl, ⟨OpP.of (SlP.nil _ _ _ _) (OpsP.nil _ _ _ _), ⟨SlP.nil _ _ _ _, EffsP.nil _ _ _ _⟩, h9.any⟩⟩
        simp only [List.map_toArray, List.map_cons, List.map_nil]
        exact eh9 b
      intro vv13
      simp only [Act.put, pt1, pt2, pt3]
      apply wpG_eq
      · intro W hW hs
        unfold opG
        go_simp
        first | exact resG_eq_mk _ _ _ | rfl
      simp only [Act.put, pt1, pt2, pt3]
      apply wpG_eq
      · intro W hW hs
        have hcv := run_string_sl 22 5 9 Try.underlying22 Try.underlying5 Try.underlying9 (SLL.out W (GD.out.trans hW))
        unfold opG
        go_simp
        first | exact resG_eq_mk _ _ _ | rfl
      simp only [Act.put, pt1, pt2, pt3]
      apply wpG_eq
      · intro W hW hs
        refine opG_build _ _ rfl rfl (cells := (opCells kOpL.h (.slice none 0 0) (.slice none 0 0)).toArray) ?_ rfl
        simp only [List.map_toArray, List.map_cons, List.map_nil]
        exact eh_oL
      simp only [Act.put, pt1, pt2, pt3]
      apply wpG_ok
      · intro W hW hs
        refine opG_build _ _ rfl rfl (cells := (entCells bX10 zeroQ).toArray) ?_ ⟨_, rfl, ⟨OpP.of (SlP.nil _ _ _ _) (OpsP.nil _ _ _ _), ⟨SlP.nil _ _ _ _, EffsP.nil _ _ _ _⟩, SlP.nil _ _ _ _⟩⟩
        simp only [List.map_toArray, List.map_cons, List.map_nil]
        exact eh10
      intro vv17
      simp only [Act.put, pt1, pt2, pt3]
      apply wpG_eq
      · intro W hW hs
        unfold opG
        go_simp
        first | exact resG_eq_mk _ _ _ | rfl
      simp only [Act.put, pt1, pt2, pt3]
      apply wpG_eq
      · intro W hW hs
        refine opG_build _ _ rfl rfl (cells := (opCells kOpD.h (.slice (some ⟨bL, 0, none⟩) 65 65) (.slice none 0 0)).toArray) ?_ rfl
        simp only [List.map_toArray, List.map_cons, List.map_nil]
        exact eh_oD bL
      simp only [Act.put, pt1, pt2, pt3]
      apply wpG_ok
      · intro W hW hs
        refine opG_build _ _ rfl rfl (cells := (entCells bX11 { zeroQ with dv := .slice (some ⟨bL, 0, none⟩) 65 65 }).toArray) ?_ ⟨_, rfl, ⟨OpP.of (SLL.out W (GD.out.trans hW)).any (OpsP.nil _ _ _ _), ⟨SlP.nil _ _ _ _, EffsP.nil _ _ _ _⟩, SlP.nil _ _ _ _⟩⟩
        simp only [List.map_toArray, List.map_cons, List.map_nil]
        exact eh11 bL
      intro vv20
      simp only [Act.put, pt1, pt2, pt3]
      apply wpG_ok
      · intro W hW hs
        obtain ⟨wm, hrm, om, gm⟩ := run_make_ops W 7 (by decide)
        replace hrm : (Instr.makeSlice 35 (.int .i64 7) (.int .i64 7)).run Try.prog W = .ok (.slice (some ⟨W.heap.size, 0, none⟩) 7 7) wm := hrm
        have OM : Hid (WO (List.replicate 7 zeroO) 7 (.slice (some ⟨W.heap.size, 0, none⟩) 7 7) wm) := Lib.hid ⟨_, rfl, om⟩
        have GM := Lib.hid gm
        clear om gm
        unfold opG
        go_simp
        exact resG_mk GM.out OM.out
      intro vv21
      simp only [Act.put, pt1, pt2, pt3]
      apply wpG_ok
      · intro W hW hs
        obtain ⟨b, rfl, h9⟩ := hs _ (.head _) (by rfl)
        refine opG_build _ _ rfl rfl (cells := (opCells kOpP.h (.slice none 0 0) (.slice (some ⟨b, 0, none⟩) 7 7)).toArray) ?_ ⟨_, rfl, h9⟩
        simp only [List.map_toArray, List.map_cons, List.map_nil]
        exact eh_oP b
      intro vv22
      simp only [Act.put, pt1, pt2, pt3]
      apply wpG_ok
      · intro W hW hs
        obtain ⟨b, rfl, h9⟩ := hs _ (.head _) (by rfl)
        refine opG_build _ _ rfl rfl (cells := (entCells bX12 { zeroQ with pv := .slice (some ⟨b, 0, none⟩) 7 7 }).toArray) ?_ ⟨_, rfl, ⟨OpP.of (SlP.nil _ _ _ _) h9, ⟨SlP.nil _ _ _ _, EffsP.nil _ _ _ _⟩, SlP.nil _ _ _ _⟩⟩
        simp only [List.map_toArray, List.map_cons, List.map_nil]
        exact eh12 b
      intro vv23
      simp only [Act.put, pt1, pt2, pt3]
      apply wpG_ok
      · intro W hW hs
        obtain ⟨wm, hrm, om, gm⟩ := run_make_ops W 1 (by decide)
        replace hrm : (Instr.makeSlice 35 (.int .i64 1) (.int .i64 1)).run Try.prog W = .ok (.slice (some ⟨W.heap.size, 0, none⟩) 1 1) wm := hrm
        have OM : Hid (WO (List.replicate 1 zeroO) 1 (.slice (some ⟨W.heap.size, 0, none⟩) 1 1) wm) := Lib.hid ⟨_, rfl, om⟩
        have GM := Lib.hid gm
        clear om gm
        unfold opG
        go_simp
        exact resG_mk GM.out OM.out
      intro vv24
      simp only [Act.put, pt1, pt2, pt3]
      apply wpG_ok
      · intro W hW hs
        obtain ⟨b, rfl, h9⟩ := hs _ (.head _) (by rfl)
        refine opG_build _ _ rfl rfl (cells := (opCells kOp0.h (.slice none 0 0) (.slice (some ⟨b, 0, none⟩) 1 1)).toArray) ?_ ⟨_, rfl, h9⟩
        simp only [List.map_toArray, List.map_cons, List.map_nil]
        exact eh_o0 b
      intro vv25
      simp only [Act.put, pt1, pt2, pt3]
      apply wpG_ok
      · intro W hW hs
        obtain ⟨b, rfl, h9⟩ := hs _ (.head _) (by rfl)
        refine opG_buildRows ekElO 1 _ rfl rfl [opCells kOp0.h (.slice none 0 0) (.slice (some ⟨b, 0, none⟩) 1 1)] rfl (fun E hE => by rw [List.mem_singleton.1 hE]; rfl) (Nat.succ_pos _) (by show 1 * 7 ≤ 2 ^ 24; decide) ?_ ⟨_, rfl, ?_⟩
        · simp only [List.map_toArray, List.map_cons, List.map_nil]; rfl
        · exact ops_new W [(kOp0, .slice none 0 0, .slice (some ⟨b, 0, none⟩) 1 1)] (fun p hp => by rw [List.mem_singleton.1 hp]; exact OpP.of (SlP.nil _ _ _ _) h9)
      intro vv26
      simp only [Act.put, pt1, pt2, pt3]
      apply wpG_ok
      · intro W hW hs
        obtain ⟨b, rfl, h9⟩ := hs _ (.head _) (by rfl)
        refine opG_build _ _ rfl rfl (cells := (opCells kOpN.h (.slice none 0 0) (.slice (some ⟨b, 0, none⟩) 1 1)).toArray) ?_ ⟨_, rfl, h9⟩
        simp only [List.map_toArray, List.map_cons, List.map_nil]
        exact eh_oN b
      intro vv27
      simp only [Act.put, pt1, pt2, pt3]
      apply wpG_ok
      · intro W hW hs
        obtain ⟨b, rfl, h9⟩ := hs _ (.head _) (by rfl)
        refine opG_build _ _ rfl rfl (cells := (entCells bX13 { zeroQ with pv := .slice (some ⟨b, 0, none⟩) 1 1 }).toArray) ?_ ⟨_, rfl, ⟨OpP.of (SlP.nil _ _ _ _) h9, ⟨SlP.nil _ _ _ _, EffsP.nil _ _ _ _⟩, SlP.nil _ _ _ _⟩⟩
        simp only [List.map_toArray, List.map_cons, List.map_nil]
        exact eh13 b
      intro vv28
      simp only [Act.put, pt1, pt2, pt3]
      apply wpG_ok
      · intro W hW hs
        refine opG_build _ _ rfl rfl (cells := (entCells bX14 zeroQ).toArray) ?_ ⟨_, rfl, ⟨OpP.of (SlP.nil _ _ _ _) (OpsP.nil _ _ _ _), ⟨SlP.nil _ _ _ _, EffsP.nil _ _ _ _⟩, SlP.nil _ _ _ _⟩⟩
        simp only [List.map_toArray, List.map_cons, List.map_nil]
        exact eh14
      intro vv29
      simp only [Act.put, pt1, pt2, pt3]
      apply wpG_eq
      · intro W hW hs
        refine opG_loadE ekTyI _ rfl (by rfl) rfl (KM.out W (GD.out.trans hW)) MLN.out ?_
        rfl
      simp only [Act.put, pt1, pt2, pt3]
      apply wpG_ok
      · intro W hW hs
        refine opG_build _ _ rfl rfl (cells := (entCells bX15 { zeroQ with sv := .slice (some ⟨bs, 0, none⟩) 3 3, ev := .slice (some ⟨bm, 0, none⟩) 17 17 }).toArray) ?_ ⟨_, rfl, ⟨OpP.of (SlP.nil _ _ _ _) (OpsP.nil _ _ _ _), ⟨(SUR.out W (GD.out.trans hW)).any, EMR.out W (GD.out.trans hW)⟩, SlP.nil _ _ _ _⟩⟩
        simp only [List.map_toArray, List.map_cons, List.map_nil]
        rw [HML.out]
        exact eh15 bs bm
      intro vv31
      simp only [Act.put, pt1, pt2, pt3]
      apply wpG_eq
      · intro W hW hs
        refine opG_loadE ekTyI _ rfl (by rfl) rfl (KD.out W (GD.out.trans hW)) DLN.out ?_
        rfl
      simp only [Act.put, pt1, pt2, pt3]
      apply wpG_ok
      · intro W hW hs
        refine opG_build _ _ rfl rfl (cells := (entCells bX16 { zeroQ with sv := .slice (some ⟨bs, 0, none⟩) 3 3, ev := .slice (some ⟨bq, 0, none⟩) 1 1 }).toArray) ?_ ⟨_, rfl, ⟨OpP.of (SlP.nil _ _ _ _) (OpsP.nil _ _ _ _), ⟨(SUR.out W (GD.out.trans hW)).any, EOR.out W (GD.out.trans hW)⟩, SlP.nil _ _ _ _⟩⟩
        simp only [List.map_toArray, List.map_cons, List.map_nil]
        rw [HDL.out]
        exact eh16 bs bq
      intro vv33
      simp only [Act.put, pt1, pt2, pt3]
      apply wpG_eq
      · intro W hW hs
        refine opG_build _ _ rfl rfl (cells := #[.int .i64 3, .int .u64 0, .int .i64 0, .int .u64 0, .slice none 0 0, .slice none 0 0, .int .u32 0]) ?_ rfl
        simp only [List.map_toArray, List.map_cons, List.map_nil]
        exact eh_i3
      simp only [Act.put, pt1, pt2, pt3]
      apply wpG_ok
      · intro W hW hs
        refine opG_build _ _ rfl rfl (cells := (entCells bX17 zeroQ).toArray) ?_ ⟨_, rfl, ⟨OpP.of (SlP.nil _ _ _ _) (OpsP.nil _ _ _ _), ⟨SlP.nil _ _ _ _, EffsP.nil _ _ _ _⟩, SlP.nil _ _ _ _⟩⟩
        simp only [List.map_toArray, List.map_cons, List.map_nil]
        exact eh17
      intro vv35
      simp only [Act.put, pt1, pt2, pt3]
      apply wpG_eq
      · intro W hW hs
        refine opG_build _ _ rfl rfl (cells := #[.int .i64 256, .int .u64 0, .int .i64 0, .int .u64 0, .slice none 0 0, .slice none 0 0, .int .u32 0]) ?_ rfl
        simp only [List.map_toArray, List.map_cons, List.map_nil]
        exact eh_i256
      simp only [Act.put, pt1, pt2, pt3]
      apply wpG_ok
      · intro W hW hs
        refine opG_build _ _ rfl rfl (cells := (entCells bX18 zeroQ).toArray) ?_ ⟨_, rfl, ⟨OpP.of (SlP.nil _ _ _ _) (OpsP.nil _ _ _ _), ⟨SlP.nil _ _ _ _, EffsP.nil _ _ _ _⟩, SlP.nil _ _ _ _⟩⟩
        simp only [List.map_toArray, List.map_cons, List.map_nil]
        exact eh18
      intro vv37
      simp only [Act.put, pt1, pt2, pt3]
      apply wpG_eq
      · intro W hW hs
        refine opG_build _ _ rfl rfl (cells := #[.int .i64 256, .int .u64 0, .int .i64 0, .int .u64 0, .slice none 0 0, .slice none 0 0, .int .u32 0]) ?_ rfl
        simp only [List.map_toArray, List.map_cons, List.map_nil]
        exact eh_i256
      simp only [Act.put, pt1, pt2, pt3]
      apply wpG_ok
      · intro W hW hs
        refine opG_build _ _ rfl rfl (cells := (entCells bX19 zeroQ).toArray) ?_ ⟨_, rfl, ⟨OpP.of (SlP.nil _ _ _ _) (OpsP.nil _ _ _ _), ⟨SlP.nil _ _ _ _, EffsP.nil _ _ _ _⟩, SlP.nil _ _ _ _⟩⟩
        simp only [List.map_toArray, List.map_cons, List.map_nil]
        exact eh19
      intro vv39
      simp only [Act.put, pt1, pt2, pt3]
      apply wpG_eq
      · intro W hW hs
        refine opG_build _ _ rfl rfl (cells := #[.int .i64 0, .int .u64 0, .int .i64 (Int.negSucc 1), .int .u64 0, .slice none 0 0, .slice none 0 0, .int .u32 0]) ?_ rfl
        simp only [List.map_toArray, List.map_cons, List.map_nil]
        exact eh_i2
      simp only [Act.put, pt1, pt2, pt3]
      apply wpG_ok
      · intro W hW hs
        refine opG_build _ _ rfl rfl (cells := (entCells bX20 zeroQ).toArray) ?_ ⟨_, rfl, ⟨OpP.of (SlP.nil _ _ _ _) (OpsP.nil _ _ _ _), ⟨SlP.nil _ _ _ _, EffsP.nil _ _ _ _⟩, SlP.nil _ _ _ _⟩⟩
        simp only [List.map_toArray, List.map_cons, List.map_nil]
        exact eh20
      intro vv41
      simp only [Act.put, pt1, pt2, pt3]
      apply wpG_ok
      · intro W hW hs
        obtain ⟨q0, rfl, p0⟩ := hs _ (.tail _ (.tail _ (.tail _ (.tail _ (.tail _ (.tail _ (.tail _ (.tail _ (.tail _ (.tail _ (.tail _ (.tail _ (.tail _ (.tail _ (.tail _ (.tail _ (.tail _ (.tail _ (.tail _ (.tail _ (.tail _ (.tail _ (.tail _ (.tail _ (.tail _ (.tail _ (.tail _ (.tail _ (.head _))))))))))))))))))))))))))))) (by rfl)
        obtain ⟨q1, rfl, p1⟩ := hs _ (.tail _ (.tail _ (.tail _ (.tail _ (.tail _ (.tail _ (.tail _ (.tail _ (.tail _ (.tail _ (.tail _ (.tail _ (.tail _ (.tail _ (.tail _ (.tail _ (.tail _ (.tail _ (.tail _ (.tail _ (.tail _ (.tail _ (.tail _ (.tail _ (.tail _ (.tail _ (.tail _ (.head _)))))))))))))))))))))))))))) (by rfl)
        obtain ⟨q2, rfl, p2⟩ := hs _ (.tail _ (.tail _ (.tail _ (.tail _ (.tail _ (.tail _ (.tail _ (.tail _ (.tail _ (.tail _ (.tail _ (.tail _ (.tail _ (.tail _ (.tail _ (.tail _ (.tail _ (.tail _ (.tail _ (.tail _ (.tail _ (.tail _ (.tail _ (.tail _ (.tail _ (.tail _ (.head _))))))))))))))))))))))))))) (by rfl)
        obtain ⟨q3, rfl, p3⟩ := hs _ (.tail _ (.tail _ (.tail _ (.tail _ (.tail _ (.tail _ (.tail _ (.tail _ (.tail _ (.tail _ (.tail _ (.tail _ (.tail _ (.tail _ (.tail _ (.tail _ (.tail _ (.tail _ (.tail _ (.tail _ (.tail _ (.tail _ (.tail _ (.tail _ (.tail _ (.head _)))))))))))))))))))))))))) (by rfl)
        obtain ⟨q4, rfl, p4⟩ := hs _ (.tail _ (.tail _ (.tail _ (.tail _ (.tail _ (.tail _ (.tail _ (.tail _ (.tail _ (.tail _ (.tail _ (.tail _ (.tail _ (.tail _ (.tail _ (.tail _ (.tail _ (.tail _ (.tail _ (.tail _ (.tail _ (.tail _ (.tail _ (.tail _ (.head _))))))))))))))))))))))))) (by rfl)
        obtain ⟨q5, rfl, p5⟩ := hs _ (.tail _ (.tail _ (.tail _ (.tail _ (.tail _ (.tail _ (.tail _ (.tail _ (.tail _ (.tail _ (.tail _ (.tail _ (.tail _ (.tail _ (.tail _ (.tail _ (.tail _ (.tail _ (.tail _ (.tail _ (.tail _ (.tail _ (.tail _ (.head _)))))))))))))))))))))))) (by rfl)
        obtain ⟨q6, rfl, p6⟩ := hs _ (.tail _ (.tail _ (.tail _ (.tail _ (.tail _ (.tail _ (.tail _ (.tail _ (.tail _ (.tail _ (.tail _ (.tail _ (.tail _ (.tail _ (.tail _ (.tail _ (.tail _ (.tail _ (.tail _ (.tail _ (.tail _ (.head _)))))))))))))))))))))) (by rfl)
        obtain ⟨q7, rfl, p7⟩ := hs _ (.tail _ (.tail _ (.tail _ (.tail _ (.tail _ (.tail _ (.tail _ (.tail _ (.tail _ (.tail _ (.tail _ (.tail _ (.tail _ (.tail _ (.tail _ (.tail _ (.tail _ (.tail _ (.tail _ (.tail _ (.head _))))))))))))))))))))) (by rfl)
        obtain ⟨q8, rfl, p8⟩ := hs _ (.tail _ (.tail _ (.tail _ (.tail _ (.tail _ (.tail _ (.tail _ (.tail _ (.tail _ (.tail _ (.tail _ (.tail _ (.tail _ (.tail _ (.tail _ (.tail _ (.tail _ (.tail _ (.tail _ (.head _)))))))))))))))))))) (by rfl)
        obtain ⟨q9, rfl, p9⟩ := hs _ (.tail _ (.tail _ (.tail _ (.tail _ (.tail _ (.tail _ (.tail _ (.tail _ (.tail _ (.tail _ (.tail _ (.tail _ (.tail _ (.tail _ (.tail _ (.tail _ (.tail _ (.head _)))))))))))))))))) (by rfl)
        obtain ⟨q10, rfl, p10⟩ := hs _ (.tail _ (.tail _ (.tail _ (.tail _ (.tail _ (.tail _ (.tail _ (.tail _ (.tail _ (.tail _ (.tail _ (.tail _ (.tail _ (.tail _ (.tail _ (.tail _ (.head _))))))))))))))))) (by rfl)
        obtain ⟨q11, rfl, p11⟩ := hs _ (.tail _ (.tail _ (.tail _ (.tail _ (.tail _ (.tail _ (.tail _ (.tail _ (.tail _ (.tail _ (.tail _ (.tail _ (.tail _ (.tail _ (.tail _ (.head _)))))))))))))))) (by rfl)
        obtain ⟨q12, rfl, p12⟩ := hs _ (.tail _ (.tail _ (.tail _ (.tail _ (.tail _ (.tail _ (.tail _ (.tail _ (.tail _ (.tail _ (.tail _ (.tail _ (.head _))))))))))))) (by rfl)
        obtain ⟨q13, rfl, p13⟩ := hs _ (.tail _ (.tail _ (.tail _ (.tail _ (.tail _ (.tail _ (.tail _ (.head _)))))))) (by rfl)
        obtain ⟨q14, rfl, p14⟩ := hs _ (.tail _ (.tail _ (.tail _ (.tail _ (.tail _ (.tail _ (.head _))))))) (by rfl)
        obtain ⟨q15, rfl, p15⟩ := hs _ (.tail _ (.tail _ (.tail _ (.tail _ (.tail _ (.head _)))))) (by rfl)
        obtain ⟨q16, rfl, p16⟩ := hs _ (.tail _ (.tail _ (.tail _ (.tail _ (.head _))))) (by rfl)
        obtain ⟨q17, rfl, p17⟩ := hs _ (.tail _ (.tail _ (.tail _ (.head _)))) (by rfl)
        obtain ⟨q18, rfl, p18⟩ := hs _ (.tail _ (.tail _ (.head _))) (by rfl)
        obtain ⟨q19, rfl, p19⟩ := hs _ (.tail _ (.head _)) (by rfl)
        obtain ⟨q20, rfl, p20⟩ := hs _ (.head _) (by rfl)
        refine opG_buildRows ekElE 21 _ rfl rfl [entCells bX0 q0, entCells bX1 q1, entCells bX2 q2, entCells bX3 q3, entCells bX4 q4, entCells bX5 q5, entCells bX6 q6, entCells bX7 q7, entCells bX8 q8, entCells bX9 q9, entCells bX10 q10, entCells bX11 q11, entCells bX12 q12, entCells bX13 q13, entCells bX14 q14, entCells bX15 q15, entCells bX16 q16, entCells bX17 q17, entCells bX18 q18, entCells bX19 q19, entCells bX20 q20] rfl (fun E hE => ?_) (Nat.succ_pos _) (by show 21 * 23 ≤ 2 ^ 24; decide) ?_ ⟨_, rfl, ?_⟩
        · simp only [List.mem_cons, List.not_mem_nil, or_false] at hE
          rcases hE with rfl | rfl | rfl | rfl | rfl | rfl | rfl | rfl | rfl | rfl | rfl | rfl | rfl | rfl | rfl | rfl | rfl | rfl | rfl | rfl | rfl <;> rfl
        · simp only [List.map_toArray, List.map_cons, List.map_nil]; rfl
        · exact ents_new W [(bX0, q0), (bX1, q1), (bX2, q2), (bX3, q3), (bX4, q4), (bX5, q5), (bX6, q6), (bX7, q7), (bX8, q8), (bX9, q9), (bX10, q10), (bX11, q11), (bX12, q12), (bX13, q13), (bX14, q14), (bX15, q15), (bX16, q16), (bX17, q17), (bX18, q18), (bX19, q19), (bX20, q20)] (fun p hp => by
            simp only [List.mem_cons, List.not_mem_nil, or_false] at hp
            rcases hp with rfl | rfl | rfl | rfl | rfl | rfl | rfl | rfl | rfl | rfl | rfl | rfl | rfl | rfl | rfl | rfl | rfl | rfl | rfl | rfl | rfl
            · exact p0
            · exact p1
            · exact p2
            · exact p3
            · exact p4
            · exact p5
            · exact p6
            · exact p7
            · exact p8
            · exact p9
            · exact p10
            · exact p11
            · exact p12
            · exact p13
            · exact p14
            · exact p15
            · exact p16
            · exact p17
            · exact p18
            · exact p19
            · exact p20)
      intro vv42
      simp only [Act.put, pt1, pt2, pt3]
      apply wpG_ok
      · intro W hW hs
        obtain ⟨b, rfl, h9⟩ := hs _ (.head _) (by rfl)
        have HB9 : Hid (WB (.slice (some ⟨b, 0, none⟩) 21 21) W) := Lib.hid ⟨b, rfl, h9⟩
        clear h9 hs
        unfold opG
        go_simp
        exact resG_mk (Gr.refl _) HB9.out
      intro vv43
      simp only [Act.put, pt1, pt2, pt3]
      apply wpG_nil
      intro w17 hW17 hsAll
      obtain ⟨bb, rfl, hbad⟩ := hsAll _ (.head _)
      have BAD : Hid (∀ V, Gr w17 V → EntsP Any V (.slice (some ⟨bb, 0, none⟩) 21 21) badE) := Lib.hid fun V hV => hbad.gr hV
      have G17 := Lib.hid (Gr.trans G16.out (GD.out.trans hW17))
      clear hsAll hbad hW17 GD KM KD SLL EMR EOR SUR G16
      go_wp2_with fail
      go_loopw [14] (fun s14 wr => ∃ k : Nat, k ≤ 21 ∧ s14 = .int .i64 k ∧ Gr w17 wr) (fun s14 _ => 21 - (intOf s14).toNat)
      case atStart => exact ⟨0, Nat.zero_le _, rfl, Gr.refl _⟩
      case round =>
        obtain ⟨k, hk, rfl, hG⟩ := hrel
        obtain ⟨wp, rfl⟩ : ∃ wp : World, wp = wr := ⟨_, rfl⟩
        have GO := Lib.hid hG
        clear hG
        by_cases hlt : k < 21
        · as_aux_lemma =>
          have hk2 : k < badE.length := hlt
          obtain ⟨B, o, c, q, hv, hBw, hpe, hcf⟩ := (BAD.out wp GO.out).at k hk2
          injection hv with e1 e2 e3
          injection e1 with e1
          injection e1 with e1 e4
          subst e1 e4
          rw [Nat.zero_add] at hcf
          obtain ⟨x, hx⟩ : ∃ x, x = badE[k] := ⟨_, rfl⟩
          have hmem : x ∈ badE := by rw [hx]; exact List.getElem_mem hk2
          rw [← hx] at hpe hcf
          have hrow := badE_row x hmem
          have hput := badE_put x hmem
          have PUTX : Hid (∀ V, Gr wp V → Calls Try.prog 4 #[.agg (entCells x q).toArray] V fun e W' => ∃ a c, e = .returned (.tuple #[.slice a 0 c, .int .i64 1]) ∧ Gr V W') := Lib.hid fun V hV => (put_any V x q (hpe.gr hV) hrow.1 hrow.2.1).mono fun e W' h => by
            obtain ⟨v, h1, h2, h3⟩ := h
            rw [hput.1] at h2
            rw [hput.2] at h1
            obtain ⟨a, c, hv⟩ := h2.oneCells
            exact ⟨a, c, by rw [h1, hv]; rfl, h3⟩
          obtain ⟨E, hE⟩ : ∃ E, E = entCells x q := ⟨_, rfl⟩
          have EN : Hid (E.length = 23) := Lib.hid (by rw [hE]; rfl)
          rw [← hE] at PUTX hcf
          have CR : Hid (∀ V, Gr wp V → CellsFrom V bb (k * 23) E) := Lib.hid fun V hV => hcf.gr hV hBw
          have i1 : (0 : Int) ≤ (k : Int) := by omega
          have i2 : (k : Int) < 21 := by omega
          have HLT := Lib.hid hlt
          clear e2 e3 hpe hcf hE hput hrow hmem hx hBw hk2 hlt hk BAD
          go_wp2_with (first | (refine wpList_loadAt entTy _ rfl rfl rfl (CR.out _ (Gr.refl _)) EN.out ?_) | fail)
          refine (PUTX.out wp (Gr.refl _)).mono ?_
          rintro en w6 ⟨a6, c6, rfl, g6⟩
          have G6 := Lib.hid (Gr.trans GO.out g6)
          have kw : wrap64 ((k : Int) + 1) = (k : Int) + 1 := by have h3 := HLT.out; unfold wrap64; omega
          clear g6 PUTX
          go_wp2
          go_roundw
          case rel =>
            first
            | exact ⟨k + 1, by have := HLT.out; omega, by first | go_num | (rw [kw]; rfl), G6.out⟩
            | ((repeat apply Exists.intro); apply And.intro; rotate_left; rfl; exact ⟨k + 1, by have := HLT.out; omega, by first | go_num | (rw [kw]; rfl), G6.out⟩)
          case measure =>
            have h8 := HLT.out
            have h9 : 21 - (k + 1) < 21 - k := by omega
            (try rw [kw])
            clear kw
            simp [intOf]; omega
        · obtain rfl : k = 21 := by omega
          have i2 : ¬ ((21 : Nat) : Int) < 21 := by decide
          have GT := Lib.hid (Gr.trans G17.out (Gr.trans GO.out ((Gr.refl wp).alloc (.cells #[.int .u8 7, .int .u8 0, .int .u8 0, .int .u8 0, .int .u8 0, .int .u8 0, .int .u8 0, .int .u8 0, .int .u8 4] 5))))
          have s1 : Sl (wp.alloc (.cells #[.int .u8 7, .int .u8 0, .int .u8 0, .int .u8 0, .int .u8 0, .int .u8 0, .int .u8 0, .int .u8 0, .int .u8 4] 5)) (.slice (some ⟨wp.heap.size, 0, none⟩) 9 9) (bytes [7, 0, 0, 0, 0, 0, 0, 0, 4]) := Sl.new wp [.int .u8 7, .int .u8 0, .int .u8 0, .int .u8 0, .int .u8 0, .int .u8 0, .int .u8 0, .int .u8 0, .int .u8 4] _ _ 9 9 rfl (by decide)
          have S1 := Lib.hid s1
          clear hlt hk BAD GO G17 s1
          go_wp2_with fail
          clear i2
          refine (get_any _ _ [7, 0, 0, 0, 0, 0, 0, 0, 4] S1.out (by simp)).mono ?_
          rintro en w20 ⟨q20, rfl, p20, g20⟩
          obtain ⟨E20, hE20⟩ : ∃ E, E = entCells (getV [7, 0, 0, 0, 0, 0, 0, 0, 4]).1 q20 := ⟨_, rfl⟩
          have EN20 : Hid (E20.length = 23 ∧ oneAll E20) := Lib.hid (by rw [hE20]; exact ⟨rfl, p20.one⟩)
          rw [← hE20, get_k1]
          replace GT := Lib.hid (Gr.trans GT.out g20)
          clear p20 g20 hE20
          go_upto_region 25 with (first | (refine wpList_storeE entTy _ _ rfl rfl rfl rfl (CellsAt.newAt' _ _ _ ?_) EN20.out.1 rfl EN20.out.2 ?_; · simp) | fail)
          intro w21 k20 c20
          replace GT : Hid (Gr w w21) := Lib.hid (Gr.trans GT.out (Below.trans ((Gr.refl w20).alloc _) (c20.below ((Gr.refl w20).alloc _).size (fun k hk => by have h1 : k = w20.heap.size := hk; omega))))
          clear k20 c20 EN20
          go_wp2_with fail
          have s2 : Sl (w21.alloc (.cells #[.int .u8 0] 5)) (.slice (some ⟨w21.heap.size, 0, none⟩) 1 1) (bytes [0]) := Sl.new w21 [.int .u8 0] _ _ 1 1 rfl (by decide)
          replace GT := Lib.hid (Gr.trans GT.out ((Gr.refl w21).alloc (.cells #[.int .u8 0] 5)))
          refine (get_any _ _ [0] s2 (by simp)).mono ?_
          rintro en w22 ⟨q22, rfl, p22, g22⟩
          obtain ⟨E22, hE22⟩ : ∃ E, E = entCells (getV [0]).1 q22 := ⟨_, rfl⟩
          have EN22 : Hid (E22.length = 23 ∧ oneAll E22) := Lib.hid (by rw [hE22]; exact ⟨rfl, p22.one⟩)
          rw [← hE22, get_k2]
          replace GT := Lib.hid (Gr.trans GT.out g22)
          clear s2 p22 g22 hE22
          go_upto_region 26 with (first | (refine wpList_storeE entTy _ _ rfl rfl rfl rfl (CellsAt.newAt' _ _ _ ?_) EN22.out.1 rfl EN22.out.2 ?_; · simp) | fail)
          intro w23 k22 c22
          replace GT : Hid (Gr w w23) := Lib.hid (Gr.trans GT.out (Below.trans ((Gr.refl w22).alloc _) (c22.below ((Gr.refl w22).alloc _).size (fun k hk => by have h1 : k = w22.heap.size := hk; omega))))
          clear k22 c22 EN22
          obtain ⟨w24, m5, o5, g5⟩ := run_make_by w23 5000 (by decide)
          replace m5 : (Instr.makeSlice 22 (.int .i64 5000) (.int .i64 5000)).run Try.prog w23 = .ok (.slice (some ⟨w23.heap.size, 0, none⟩) 5000 5000) w24 := m5
          have S5 := Lib.hid o5.sl
          replace GT := Lib.hid (Gr.trans GT.out g5)
          clear o5 g5
          go_wp2_with fail
          clear m5
          refine (get_any _ _ (List.replicate 5000 0) S5.out (by simp)).mono ?_
          rintro en w25 ⟨q25, rfl, p25, g25⟩
          obtain ⟨E25, hE25⟩ : ∃ E, E = entCells (getV (List.replicate 5000 0)).1 q25 := ⟨_, rfl⟩
          have EN25 : Hid (E25.length = 23 ∧ oneAll E25) := Lib.hid (by rw [hE25]; exact ⟨rfl, p25.one⟩)
          rw [← hE25, get_k3]
          replace GT := Lib.hid (Gr.trans GT.out g25)
          clear p25 g25 hE25
          go_upto_region 27 with (first | (refine wpList_storeE entTy _ _ rfl rfl rfl rfl (CellsAt.newAt' _ _ _ ?_) EN25.out.1 rfl EN25.out.2 ?_; · simp) | fail)
          intro w26 k25 c25
          replace GT : Hid (Gr w w26) := Lib.hid (Gr.trans GT.out (Below.trans ((Gr.refl w25).alloc _) (c25.below ((Gr.refl w25).alloc _).size (fun k hk => by have h1 : k = w25.heap.size := hk; omega))))
          clear k25 c25 EN25
          go_wp2_with fail
          refine (tells_any _).mono ?_
          rintro en wZ ⟨rfl, gZ⟩
          have GZ := Lib.hid (Gr.trans GT.out gZ)
          clear gZ GT
          go_wp2
          go_ret
          exact ⟨rfl, GZ.out⟩
open Go.ChangeShapes Go.WideShapes Go.ChangeAt Go.RowKit
open Go.ChangeMaps (open_string shut_string)
theorem own_entryKnown : ownKnob Try.prog.godebug = none := by kernel_rfl
theorem laidOut_entryKnown : laidOutB Try.prog = true := by kernel_rfl
set_option maxRecDepth 100000 in
theorem lifted_entryKnown (os : Os) (started : os.Started) (H : Type) (enc : TypeId × Value → H) :
    ReturnsInHanded {} Try.checked os 3 .any (Rows.entryKnownSpec.pre6 enc Try.prog Try.f3 Rows.entryKnownRow.domain false) (Rows.entryKnownSpec.post enc Try.prog Try.f3 false true false false) := by
  refine returnsInHanded_of_change (C := Try.checked) own_entryKnown started (by kernel_rfl) Try.func3
    (ChangeSpec.witness6 (enc := enc) (C := Try.checked) false ⟨#[], #[], []⟩ 8 (by kernel_rfl) (by kernel_rfl) (by kernel_rfl) (by kernel_rfl)) ?_
  intro W base args ds gs before hval0 hW hcnd _
  have hval : ∀ (j : Nat) t v, Try.f3.params[j]? = some t → args[j]? = some v → Value.okWide Try.prog W .any base t v := hval0
  have hW' := hW
  obtain ⟨p, q, hA0, hV, rfl, hfz, hnd⟩ := hW
  have hA : DataW.TrodAll enc Try.prog W 0 (fun _ => true) true Try.f3.params.toList args.toList ds p := hA0
  rw [Try.params3] at hA hval
  obtain ⟨rfl, rfl, rfl⟩ := trodAll_none hA
  obtain ⟨rfl, rfl⟩ := trodVars_none hV
  clear hA0 hval0
  simp only [List.append_nil] at hW'
  refine (known_walk W ).mono fun e W' ⟨he, bel⟩ => ?_
  subst he
  exact ⟨_, rfl, _, _, _, [], _, [], hW', trodAll_mk1 (shut_bool Try.underlying4 _), trodAll_mk0, rfl, bel.frame _, fun h => by cases h⟩
theorem over_entryKnown : Rows.entryKnownRow.holds Try.pinned (OpenSpec.ofChange Rows.entryKnownSpec) :=
  OpenClaim.holds_of_wide 3 Try.f3 rfl rfl rfl rfl rfl rfl rfl ⟨rfl, rfl, rfl, rfl, rfl⟩ rfl rfl rfl rfl rfl (by kernel_rfl) Try.func3 (by kernel_rfl)
    (of_decide_eq_true (by kernel_rfl)) (by unfold Func.isWrapper; first | (rw [if_pos (by decide +kernel)]; kernel_rfl) | (rw [if_neg (by decide +kernel)]; exact ⟨rfl, rfl⟩))
    (fun os started H enc _ => lifted_entryKnown os started H enc)
theorem entryKnown_proved : Rows.EntryKnownSaid := over_entryKnown
#print axioms entryKnown_proved
end Go.Proofs.Ytiemgmbjhllmbaa
