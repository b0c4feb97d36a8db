/-
  Of the document, plain: how much it reads. No program in sight.
  Of the document, plain: what it reads is small. No program in sight.
-/
import Derived.Test.YtiemgmbjhllmbaaYH
import Derived.Test.YtiemgmbjhllmbaaYEnBig
import Derived.Test.YtiemgmbjhllmbaaYG
section
set_option linter.unusedVariables false
namespace Go.Proofs.Ytiemgmbjhllmbaa
open Go.RowKit
theorem rTake_len (n : Nat) (s : RS) : (rTake n s).1.length ≤ s.1.length := by
  show (rdTake n s.1 s.2).length ≤ _
  unfold rdTake
  split
  · exact Nat.zero_le _
  · rw [List.length_take]; omega
theorem rText_len (s : RS) : (rText s).1.length ≤ s.1.length := Nat.le_trans (rTake_len _ _) (rTake_left 4 s)
/-- What reads no more than there is. -/
def Lf {α : Type} (f : RS → α × RS) : Prop := ∀ s, (f s).2.1.length ≤ s.1.length
theorem lf_byte : Lf rByte := rTake_left 1
theorem lf_text : Lf rText := rText_left
theorem lf_uint : Lf rUint := rUint_left
theorem lf_small : Lf rSmall := fun s => left_small s
theorem lf_place : Lf dPlace := lf_byte
theorem lf_flag : Lf dFlag := lf_byte
theorem lf_head : Lf dHead := fun s => Nat.le_trans (lf_flag _) (Nat.le_trans (lf_flag _) (Nat.le_trans (lf_uint _) (Nat.le_trans (lf_text _) (Nat.le_trans (lf_text _) (lf_byte s)))))
theorem lf_count (m : Int) : Lf (rCount m) := fun s => by unfold rCount; split; exact lf_uint s; exact lf_uint s
theorem lf_many {α : Type} {f : RS → α × RS} (h : Lf f) : ∀ n, Lf (dMany f n) := fun n => by
  induction n with
  | zero => exact fun s => Nat.le_refl _
  | succ n ih =>
    intro s
    unfold dMany
    split
    · exact Nat.le_refl _
    · exact Nat.le_trans (ih _) (h s)
theorem lf_list {α : Type} {f : RS → α × RS} (m : Nat) (h : Lf f) : Lf (dList m f) := fun s => Nat.le_trans (lf_many h _ _) (lf_count _ s)
theorem lf_stamp : Lf dStamp := lf_list 3 lf_uint
theorem lf_sess : Lf dSess := fun s => Nat.le_trans (lf_small _) (lf_place s)
theorem lf_op0 : Lf dOp0 := fun s => Nat.le_trans (lf_count _ _) (lf_head s)
theorem lf_op : Lf dOp := fun s => Nat.le_trans (lf_list 6 lf_op0 _) (lf_head s)
theorem lf_node : Lf dNode := fun s => Nat.le_trans (lf_uint _) (Nat.le_trans (lf_uint _) (Nat.le_trans (lf_uint _) (Nat.le_trans (lf_sess _) (Nat.le_trans (lf_small _) (Nat.le_trans (lf_small _) (Nat.le_trans (lf_small _) (lf_text s)))))))
theorem lf_eff : Lf dEff := fun s => by
  unfold dEff
  simp only
  split
  · exact Nat.le_trans (lf_flag _) (lf_text s)
  · exact Nat.le_trans (lf_node _) (Nat.le_trans (lf_flag _) (lf_text s))
theorem lf_i64 : Lf rI64 := lf_uint
theorem lf_item : Lf dItem := fun s => Nat.le_trans (lf_small _) (Nat.le_trans (lf_list 16 lf_eff _) (Nat.le_trans (lf_stamp _) (Nat.le_trans (lf_uint _) (Nat.le_trans (lf_i64 _) (Nat.le_trans (lf_uint _) (lf_place s))))))
theorem lf_val (p : PartK) : ∀ s, (dVal p s).2.1.length ≤ s.1.length := fun s => by
  cases p with
  | client => exact Nat.le_trans (lf_small _) (lf_small s)
  | owner => exact lf_sess s
  | op => exact lf_op s
  | item => exact lf_item s
  | site => exact lf_place s
  | wher => exact lf_i64 s
  | epoch => exact lf_uint s
  | stamp => exact lf_stamp s
end Go.Proofs.Ytiemgmbjhllmbaa
end
section
set_option linter.unusedVariables false
namespace Go.Proofs.Ytiemgmbjhllmbaa
open Go.RowKit
theorem head_bd (s : RS) : (headB (dHead s).1).length ≤ 19 + 2 * s.1.length := by
  rw [headB_length]
  have h1 : (dHead s).1.path.length ≤ s.1.length := Nat.le_trans (rText_len _) (lf_byte s)
  have h2 : (dHead s).1.data.length ≤ s.1.length := Nat.le_trans (rText_len _) (Nat.le_trans (lf_text _) (lf_byte s))
  omega
theorem op0_bd (s : RS) : (opB (dOp0 s).1).length ≤ 27 + 2 * s.1.length := by
  unfold dOp0
  rw [opB_mk, opsB_nil]
  have := head_bd s
  simp only [List.length_append, be_length, List.length_nil]; omega
theorem dMany_bd {α : Type} {f : RS → α × RS} (hl : Lf f) (g : α → Nat) (c : Nat) (h : ∀ s, g (f s).1 ≤ c + 2 * s.1.length) : ∀ (n : Nat) (s : RS), ∀ x ∈ (dMany f n s).1, g x ≤ c + 2 * s.1.length := by
  intro n
  induction n with
  | zero => intro s x hx; cases hx
  | succ n ih =>
    intro s x hx
    unfold dMany at hx
    split at hx
    · cases hx
    · rcases List.mem_cons.1 hx with rfl | hx
      · exact h s
      · have := ih _ x hx; have := hl s; omega
theorem opsB_bd : ∀ (l : List OpD) (c : Nat), (∀ o ∈ l, (opB o).length ≤ c) → (opsB l).length ≤ l.length * c
  | [], c, _ => by rw [opsB_nil]; simp
  | o :: l, c, h => by
    have h1 := h o (by simp)
    have h2 := opsB_bd l c (fun x hx => h x (by simp [hx]))
    rw [opsB_cons, List.length_append, List.length_cons, Nat.add_mul]; omega
theorem effsB_bd : ∀ (l : List EffD) (c : Nat), (∀ e ∈ l, effW e ≤ c) → (l.flatMap effB).length ≤ l.length * c
  | [], c, _ => by simp
  | e :: l, c, h => by
    have h1 := h e (by simp)
    have h2 := effsB_bd l c (fun x hx => h x (by simp [hx]))
    have h3 : (effB e).length ≤ effW e := by rw [effB_length]; unfold effW; split <;> omega
    rw [List.flatMap_cons, List.length_append, List.length_cons, Nat.add_mul]; omega
theorem op_bd (s : RS) (hs : s.1.length ≤ 10000) : (opB (dOp s).1).length ≤ 1000000 ∧ (dOp s).1.parts.length ≤ 6 := by
  have hp : (dList 6 dOp0 (dHead s).2).1.length ≤ 6 := (dList_rng (d := fun _ => True) 6 (fun _ => trivial) _).2
  refine ⟨?_, hp⟩
  unfold dOp
  rw [opB_mk]
  have h1 := head_bd s
  have h2 := lf_head s
  have h3 : ∀ o ∈ (dList 6 dOp0 (dHead s).2).1, (opB o).length ≤ 27 + 2 * 10000 := fun o ho => by
    have h5 : (opB o).length ≤ 27 + 2 * (rCount ((6 : Nat) : Int) (dHead s).2).2.1.length := dMany_bd lf_op0 (fun o => (opB o).length) 27 op0_bd _ _ o ho
    have h6 := lf_count ((6 : Nat) : Int) (dHead s).2
    omega
  have h4 := opsB_bd _ _ h3
  simp only [List.length_append, be_length]
  omega
theorem eff_bd (s : RS) : effW (dEff s).1 ≤ 66 + 2 * s.1.length := by
  have h1 : (rText s).1.length ≤ s.1.length := rText_len s
  unfold dEff effW
  simp only
  split
  · simp only [zeroN, List.length_nil]; omega
  · have h2 : (dNode (dFlag (rText s).2).2).1.data.length ≤ s.1.length := Nat.le_trans (rText_len _) (Nat.le_trans (lf_flag _) (lf_text s))
    simp only; omega
theorem item_bd (s : RS) (hs : s.1.length ≤ 10000) : ItemFit (dItem s).1 ∧ (dItem s).1.stamp.length ≤ 3 ∧ (dItem s).1.effs.length ≤ 16 := by
  have k1 : (dItem s).1.stamp.length ≤ 3 := (dList_rng (d := fun _ => True) 3 (fun _ => trivial) _).2
  have k2 : (dItem s).1.effs.length ≤ 16 := (dList_rng (d := fun _ => True) 16 (fun _ => trivial) _).2
  have k3 : ∀ e ∈ (dItem s).1.effs, effW e ≤ 66 + 2 * 10000 := fun e he => by
    obtain ⟨t, ht⟩ : ∃ t, t = (dStamp (rUint (rI64 (rUint (dPlace s).2).2).2).2).2 := ⟨_, rfl⟩
    have h3 : t.1.length ≤ s.1.length := by rw [ht]; exact Nat.le_trans (lf_stamp _) (Nat.le_trans (lf_uint _) (Nat.le_trans (lf_i64 _) (Nat.le_trans (lf_uint _) (lf_place s))))
    have he' : e ∈ (dMany dEff (rCount ((16 : Nat) : Int) t).1 (rCount ((16 : Nat) : Int) t).2).1 := by rw [ht]; exact he
    have h1 := dMany_bd lf_eff effW 66 eff_bd _ _ e he'
    have h2 := lf_count ((16 : Nat) : Int) t
    omega
  have k4 := effsB_bd _ _ k3
  refine ⟨⟨?_, fun e he => by have := k3 e he; omega⟩, k1, k2⟩
  rw [itemB_length]; omega
end Go.Proofs.Ytiemgmbjhllmbaa
end
