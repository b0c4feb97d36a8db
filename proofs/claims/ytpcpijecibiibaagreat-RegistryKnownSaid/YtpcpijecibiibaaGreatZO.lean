/-
  Of the statements of package entry: tells.
  Of the statements of package entry, plain: what is got.
-/
import Derived.Test.YtpcpijecibiibaaGreatZDRead6
import Derived.Test.YtpcpijecibiibaaGreatZN
section
set_option linter.unusedVariables false
set_option linter.unusedSimpArgs false
set_option maxRecDepth 100000
namespace Go.Proofs.YtpcpijecibiibaaGreat
open Go.RowKit
def tX : EntD := { zeroX with kind := 7, region := 2 }
def tY : EntD := { zeroX with kind := 7, epoch := 1 }
def tL : List UInt8 := [7, 0, 0, 0, 0, 0, 0, 0, 2]
theorem tX_put : (putV tX).1 = tL ∧ (putV tX).2 = 0 := by decide +kernel
theorem tY_put : (putV tY).1 = [] ∧ (putV tY).2 = 1 := by decide +kernel
theorem tL_get : (getV tL).1.kind = 7 ∧ (getV tL).1.region = 2 ∧ (getV tL).2 = 0 := by decide +kernel
theorem t0_get : (getV []).2 = 2 := by decide +kernel
theorem zeroO_op : OpOk zeroO := zeroO_ok
theorem tX_ok : EntOk tX := ⟨by decide, by decide, by decide, by unfold I64 tX zeroX; simp, by decide, zeroO_ok, zeroI_ok, by unfold I64 tX zeroX; simp, by unfold I64 tX; simp, by decide, fun k hk => by simp [tX, zeroX] at hk⟩
theorem tY_ok : EntOk tY := ⟨by decide, by decide, by decide, by unfold I64 tY zeroX; simp, by decide, zeroO_ok, zeroI_ok, by unfold I64 tY zeroX; simp, by unfold I64 tY zeroX; simp, by decide, fun k hk => by simp [tY, zeroX] at hk⟩
theorem bdz (k : Nat) : Bd { zeroX with kind := k } := bd_zero k
theorem tX_bd : Bd tX := by obtain ⟨h1, h2, h3, h4, h5, h6⟩ := bd_zero 7; exact ⟨h1, h2, h3, h4, h5, h6⟩
theorem tY_bd : Bd tY := by obtain ⟨h1, h2, h3, h4, h5, h6⟩ := bd_zero 7; exact ⟨h1, h2, h3, h4, h5, h6⟩
theorem tX_p (w : World) : EntP Any w tX zeroQ := EntP.zero Any w 7
theorem tY_p (w : World) : EntP Any w tY zeroQ := EntP.zero Any w 7
theorem built_tX : Tryz.prog.built 44 [(0, .int .u8 7), (7, .int .i64 2)] = some (entCells tX zeroQ).toArray := by kernel_rfl
theorem built_tY : Tryz.prog.built 44 [(0, .int .u8 7), (8, .int .u64 1)] = some (entCells tY zeroQ).toArray := by kernel_rfl
end Go.Proofs.YtpcpijecibiibaaGreat
end
section
set_option linter.unusedVariables false
namespace Go.Proofs.YtpcpijecibiibaaGreat
open Go.RowKit
theorem zeroX_flat : Flat zeroX.op := fun p hp => by cases hp
theorem zeroX_bd : Bd zeroX := bd_zero 0
theorem getV_all (l : List UInt8) : Flat (getV l).1.op ∧ EntShort (getV l).1 ∧ EntOk (getV l).1 ∧ EntBig (getV l).1 := by
  by_cases h : (getV l).2 = 0
  · obtain ⟨h1, h2, h3, h4⟩ := getV_good h
    exact ⟨mayX_flat h2, mayX_short h2, h1, mayX_big h2⟩
  · rw [getV_bad h]
    exact ⟨zeroX_flat, zeroX_bd.short, zeroX_ok 0 (by decide), zeroX_bd.big⟩
end Go.Proofs.YtpcpijecibiibaaGreat
end
