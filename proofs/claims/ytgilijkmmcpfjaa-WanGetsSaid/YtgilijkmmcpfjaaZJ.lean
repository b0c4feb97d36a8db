/-
  Of the document, plain: how much it reads. No program in sight.
-/
import Derived.Test.YtgilijkmmcpfjaaZH
import Derived.Test.YtgilijkmmcpfjaaZEnBig
import Derived.Test.YtgilijkmmcpfjaaZG
set_option linter.unusedVariables false
namespace Go.Proofs.Ytgilijkmmcpfjaa
open Go.RowKit
theorem rTake_len (n : Nat) (s : RS) : (rTake n s).1.length ≤ s.1.length := by
  show (rdTake n s.1 s.2).length ≤ _
  unfold rdTake
  split
  · exact Nat.zero_le _
  · rw [List.length_take]; omega
theorem rText_len (s : RS) : (rText s).1.length ≤ s.1.length := Nat.le_trans (rTake_len _ _) (rTake_left 4 s)
/-- What reads no more than there is. -/
def Lf {α : Type} (f : RS → α × RS) : Prop := ∀ s, (f s).2.1.length ≤ s.1.length
theorem lf_byte : Lf rByte := rTake_left 1
theorem lf_text : Lf rText := rText_left
theorem lf_uint : Lf rUint := rUint_left
theorem lf_small : Lf rSmall := fun s => left_small s
theorem lf_place : Lf dPlace := lf_byte
theorem lf_flag : Lf dFlag := lf_byte
theorem lf_head : Lf dHead := fun s => Nat.le_trans (lf_flag _) (Nat.le_trans (lf_flag _) (Nat.le_trans (lf_uint _) (Nat.le_trans (lf_text _) (Nat.le_trans (lf_text _) (lf_byte s)))))
theorem lf_count (m : Int) : Lf (rCount m) := fun s => by unfold rCount; split; exact lf_uint s; exact lf_uint s
theorem lf_many {α : Type} {f : RS → α × RS} (h : Lf f) : ∀ n, Lf (dMany f n) := fun n => by
  induction n with
  | zero => exact fun s => Nat.le_refl _
  | succ n ih =>
    intro s
    unfold dMany
    split
    · exact Nat.le_refl _
    · exact Nat.le_trans (ih _) (h s)
theorem lf_list {α : Type} {f : RS → α × RS} (m : Nat) (h : Lf f) : Lf (dList m f) := fun s => Nat.le_trans (lf_many h _ _) (lf_count _ s)
theorem lf_stamp : Lf dStamp := lf_list 3 lf_uint
theorem lf_sess : Lf dSess := fun s => Nat.le_trans (lf_small _) (lf_place s)
theorem lf_op0 : Lf dOp0 := fun s => Nat.le_trans (lf_count _ _) (lf_head s)
theorem lf_op : Lf dOp := fun s => Nat.le_trans (lf_list 6 lf_op0 _) (lf_head s)
theorem lf_node : Lf dNode := fun s => Nat.le_trans (lf_uint _) (Nat.le_trans (lf_uint _) (Nat.le_trans (lf_uint _) (Nat.le_trans (lf_sess _) (Nat.le_trans (lf_small _) (Nat.le_trans (lf_small _) (Nat.le_trans (lf_small _) (lf_text s)))))))
theorem lf_eff : Lf dEff := fun s => by
  unfold dEff
  simp only
  split
  · exact Nat.le_trans (lf_flag _) (lf_text s)
  · exact Nat.le_trans (lf_node _) (Nat.le_trans (lf_flag _) (lf_text s))
theorem lf_i64 : Lf rI64 := lf_uint
theorem lf_item : Lf dItem := fun s => Nat.le_trans (lf_small _) (Nat.le_trans (lf_list 16 lf_eff _) (Nat.le_trans (lf_stamp _) (Nat.le_trans (lf_uint _) (Nat.le_trans (lf_i64 _) (Nat.le_trans (lf_uint _) (lf_place s))))))
theorem lf_val (p : PartK) : ∀ s, (dVal p s).2.1.length ≤ s.1.length := fun s => by
  cases p with
  | client => exact Nat.le_trans (lf_small _) (lf_small s)
  | owner => exact lf_sess s
  | op => exact lf_op s
  | item => exact lf_item s
  | site => exact lf_place s
  | wher => exact lf_i64 s
  | epoch => exact lf_uint s
  | stamp => exact lf_stamp s
end Go.Proofs.Ytgilijkmmcpfjaa
