/-
  The plain laws of messages: what is put is got, whatever follows; what is got is what was put.
-/
import Derived.Test.YtclicammiopjlaaGetA
import Derived.Test.YtclicammiopjlaaRdLaw
set_option linter.unusedVariables false
namespace Go.Proofs.Ytclicammiopjlaa
open Go.RowKit

/-! ### What is put is got -/
theorem rCount_be (x : Nat) (r : List UInt8) (hx : x ≤ 256) : rCount 256 (be 8 x ++ r, false) = (x, (r, false)) := by
  unfold rCount
  rw [rUint_be x r (by omega), if_neg]
  show ¬ ((256 : Int) < 0 ∨ (256 : Int) < ((x : Nat) : Int))
  omega
theorem rLine_put (x : LineD) (r : List UInt8) (hx : lineV x = true) : rLine (lineB x ++ r, false) = (x, (r, false)) := by
  have h := lineV_facts hx
  have e : lineB x ++ r = be 8 x.e ++ (be 4 x.b.length ++ (x.b ++ r)) := by simp [lineB]
  unfold rLine
  rw [e, rUint_be _ _ (by omega), rText_be _ _ (by omega)]
theorem rLines_put (r : List UInt8) : ∀ (ls : List LineD), (∀ x ∈ ls, lineV x = true) → rLines ls.length (ls.flatMap lineB ++ r, false) = (ls, (r, false)) := by
  intro ls
  induction ls with
  | nil => intro _; rfl
  | cons x ls ih =>
    intro h
    rw [List.length_cons, rLines_head, List.flatMap_cons, List.append_assoc, rLine_put x _ (h x (by simp)), ih fun y hy => h y (by simp [hy])]
theorem put_steps (m : MsgD) (r : List UInt8) (h : mayV m = true) :
    rByte (putV m ++ r, false) = (m.kind, (r1 (putV m ++ r, false))) ∧ rUint (r1 (putV m ++ r, false)) = (m.epoch, r2 (putV m ++ r, false)) ∧ rUint (r2 (putV m ++ r, false)) = (m.current, r3 (putV m ++ r, false)) ∧
      rCount 256 (r3 (putV m ++ r, false)) = (m.at_.toNat, r4 (putV m ++ r, false)) ∧ rCount 256 (r4 (putV m ++ r, false)) = (m.commit.toNat, r5 (putV m ++ r, false)) ∧ rCount 256 (r5 (putV m ++ r, false)) = (m.ls.length, r6 (putV m ++ r, false)) ∧
      r6 (putV m ++ r, false) = (m.ls.flatMap lineB ++ r, false) := by
  obtain ⟨k1, k2, e1, e2, c1, a1, a2, b1, b2, n1, hl⟩ := mayV_facts h
  have e : putV m ++ r = be 1 m.kind ++ (be 8 m.epoch ++ (be 8 m.current ++ (be 8 m.at_.toNat ++ (be 8 m.commit.toNat ++ (be 8 m.ls.length ++ (m.ls.flatMap lineB ++ r)))))) := by
    simp [putV, headB, five]
  have s1 : r1 (putV m ++ r, false) = (be 8 m.epoch ++ (be 8 m.current ++ (be 8 m.at_.toNat ++ (be 8 m.commit.toNat ++ (be 8 m.ls.length ++ (m.ls.flatMap lineB ++ r))))), false) := by
    unfold r1; rw [e, rByte_be _ _ (by omega)]
  have s2 : r2 (putV m ++ r, false) = (be 8 m.current ++ (be 8 m.at_.toNat ++ (be 8 m.commit.toNat ++ (be 8 m.ls.length ++ (m.ls.flatMap lineB ++ r)))), false) := by
    unfold r2; rw [s1, rUint_be _ _ (by omega)]
  have s3 : r3 (putV m ++ r, false) = (be 8 m.at_.toNat ++ (be 8 m.commit.toNat ++ (be 8 m.ls.length ++ (m.ls.flatMap lineB ++ r))), false) := by
    unfold r3; rw [s2, rUint_be _ _ (by omega)]
  have s4 : r4 (putV m ++ r, false) = (be 8 m.commit.toNat ++ (be 8 m.ls.length ++ (m.ls.flatMap lineB ++ r)), false) := by
    unfold r4; rw [s3, rCount_be _ _ (by omega)]
  have s5 : r5 (putV m ++ r, false) = (be 8 m.ls.length ++ (m.ls.flatMap lineB ++ r), false) := by
    unfold r5; rw [s4, rCount_be _ _ (by omega)]
  have s6 : r6 (putV m ++ r, false) = (m.ls.flatMap lineB ++ r, false) := by
    unfold r6; rw [s5, rCount_be _ _ (by omega)]
  refine ⟨?_, ?_, ?_, ?_, ?_, ?_, s6⟩
  · rw [s1, e, rByte_be _ _ (by omega)]
  · rw [s2, s1, rUint_be _ _ (by omega)]
  · rw [s3, s2, rUint_be _ _ (by omega)]
  · rw [s4, s3, rCount_be _ _ (by omega)]
  · rw [s5, s4, rCount_be _ _ (by omega)]
  · rw [s6, s5, rCount_be _ _ (by omega)]
theorem got_put (m : MsgD) (r : List UInt8) (h : mayV m = true) : gotM (putV m ++ r, false) = m ∧ gotS (putV m ++ r, false) = (r, false) := by
  obtain ⟨q1, q2, q3, q4, q5, q6, q7⟩ := put_steps m r h
  obtain ⟨k1, k2, e1, e2, c1, a1, a2, b1, b2, n1, hl⟩ := mayV_facts h
  have hn : gotN (putV m ++ r, false) = m.ls.length := by unfold gotN; rw [q6]
  have hr : rLines (gotN (putV m ++ r, false)) (r6 (putV m ++ r, false)) = (m.ls, (r, false)) := by rw [hn, q7, rLines_put r m.ls hl]
  constructor
  · unfold gotM
    rw [hr, q1, q2, q3, q4, q5]
    have h1 : ((m.at_.toNat : Nat) : Int) = m.at_ := by omega
    have h2 : ((m.commit.toNat : Nat) : Int) = m.commit := by omega
    rw [h1, h2]
  · unfold gotS
    rw [hr]
theorem getV_put (m : MsgD) (h : mayV m = true) : getV (putV m, false) = true ∧ gotM (putV m, false) = m := by
  have := got_put m [] h
  rw [List.append_nil] at this
  exact ⟨by unfold getV; rw [this.1, this.2, h]; rfl, this.1⟩
theorem getV_more (m : MsgD) (c : UInt8) (h : mayV m = true) : getV (putV m ++ [c], false) = false := by
  have := got_put m [c] h
  unfold getV
  rw [this.2]
  rfl
theorem put_inj {m n : MsgD} (hm : mayV m = true) (hn : mayV n = true) (h : putV m = putV n) : m = n := by
  rw [← (getV_put m hm).2, h, (getV_put n hn).2]

/-! ### What is got was put -/
theorem val_inj : ∀ (a b : List UInt8), a.length = b.length → val a = val b → a = b := by
  intro a
  induction a with
  | nil => intro b h _; exact (List.eq_nil_of_length_eq_zero h.symm).symm
  | cons c a ih =>
    intro b h hv
    cases b with
    | nil => cases h
    | cons d b =>
      have hl : a.length = b.length := by simpa using h
      rw [val_cons, val_cons, hl] at hv
      have h1 := val_lt a
      have h2 := val_lt b
      rw [hl] at h1
      have hp : 0 < 256 ^ b.length := Nat.pow_pos (by decide)
      have hc : c.toNat = d.toNat := by
        have e1 : (c.toNat * 256 ^ b.length + val a) / 256 ^ b.length = c.toNat := by
          rw [Nat.add_comm, Nat.add_mul_div_right _ _ hp, Nat.div_eq_of_lt h1, Nat.zero_add]
        have e2 : (d.toNat * 256 ^ b.length + val b) / 256 ^ b.length = d.toNat := by
          rw [Nat.add_comm, Nat.add_mul_div_right _ _ hp, Nat.div_eq_of_lt h2, Nat.zero_add]
        rw [← e1, hv, e2]
      rw [hc] at hv
      have hv' : val a = val b := Nat.add_left_cancel hv
      rw [ih b hl hv', UInt8.toNat_inj.1 hc]
theorem be_val (n : Nat) (a : List UInt8) (h : a.length = n) : be n (val a) = a := by
  refine val_inj _ _ (by rw [be_length, h]) ?_
  rw [val_be]
  exact Nat.mod_eq_of_lt (h ▸ val_lt a)
theorem rTake_good {n : Nat} {s : RS} (h : (rTake n s).2.2 = false) : s = ((rTake n s).1 ++ (rTake n s).2.1, false) ∧ (rTake n s).1.length = n := by
  obtain ⟨l, b⟩ := s
  simp only [rTake, rdTake, rdLeft, rdBad, Bool.or_eq_false_iff, decide_eq_false_iff_not] at h ⊢
  obtain ⟨rfl, h2⟩ := h
  have h3 : ¬ (l.length < n) := h2
  simp only [Bool.false_or, decide_eq_true_eq, if_neg h3, List.take_append_drop, List.length_take, true_and]
  omega
theorem rUint_good {s : RS} (h : (rUint s).2.2 = false) : s = (be 8 (rUint s).1 ++ (rUint s).2.1, false) := by
  obtain ⟨h1, h2⟩ := rTake_good (n := 8) (s := s) h
  unfold rUint
  rw [be_val 8 _ h2]
  exact h1
theorem rByte_good {s : RS} (h : (rByte s).2.2 = false) : s = (be 1 (rByte s).1 ++ (rByte s).2.1, false) := by
  obtain ⟨h1, h2⟩ := rTake_good (n := 1) (s := s) h
  unfold rByte
  rw [be_val 1 _ h2]
  exact h1
theorem rCount_good {s : RS} (h : (rCount 256 s).2.2 = false) : s = (be 8 (rCount 256 s).1 ++ (rCount 256 s).2.1, false) := by
  unfold rCount at h ⊢
  split at h
  · cases h
  · rename_i hc
    rw [if_neg hc]
    exact rUint_good h
theorem rText_good {s : RS} (h : (rText s).2.2 = false) : s = (be 4 (rText s).1.length ++ ((rText s).1 ++ (rText s).2.1), false) := by
  obtain ⟨h1, h2⟩ := rTake_good (n := val (rTake 4 s).1) (s := (rTake 4 s).2) h
  have h4 : (rTake 4 s).2.2 = false := by rw [h1]
  obtain ⟨h5, h6⟩ := rTake_good (n := 4) (s := s) h4
  have e : (rText s).1.length = val (rTake 4 s).1 := h2
  have e2 : (rTake 4 s).2.1 = (rText s).1 ++ (rText s).2.1 := congrArg Prod.fst h1
  rw [e, be_val 4 _ h6, ← e2]
  exact h5
theorem rLine_good {s : RS} (h : (rLine s).2.2 = false) : s = (lineB (rLine s).1 ++ (rLine s).2.1, false) := by
  have h1 := rText_good (s := (rUint s).2) h
  have h2 : (rUint s).2.2 = false := by rw [h1]
  have h3 := rUint_good h2
  have e : (rUint s).2.1 = be 4 (rText (rUint s).2).1.length ++ ((rText (rUint s).2).1 ++ (rText (rUint s).2).2.1) := congrArg Prod.fst h1
  rw [e] at h3
  unfold rLine lineB
  simp only [List.append_assoc]
  exact h3
theorem rLines_good : ∀ (n : Nat) (s : RS), (rLines n s).2.2 = false → s = ((rLines n s).1.flatMap lineB ++ (rLines n s).2.1, false) := by
  intro n
  induction n with
  | zero => intro s h; exact Prod.ext rfl h
  | succ n ih =>
    intro s h
    have h1 := rLine_good (s := (rLines n s).2) h
    have h2 : (rLines n s).2.2 = false := by rw [h1]
    have h3 := ih s h2
    have e : (rLines n s).2.1 = lineB (rLine (rLines n s).2).1 ++ (rLine (rLines n s).2).2.1 := congrArg Prod.fst h1
    rw [e] at h3
    show s = (((rLines n s).1 ++ [(rLine (rLines n s).2).1]).flatMap lineB ++ (rLine (rLines n s).2).2.1, false)
    rw [List.flatMap_append, List.append_assoc]
    simpa using h3
theorem got_good (s : RS) (h : (gotS s).2 = false) : s = (putV (gotM s) ++ (gotS s).1, false) := by
  have h6 := rLines_good (gotN s) (r6 s) h
  have b6 : (r6 s).2 = false := by rw [h6]
  have h5 := rCount_good (s := r5 s) b6
  have b5 : (r5 s).2 = false := by rw [h5]
  have h4 := rCount_good (s := r4 s) b5
  have b4 : (r4 s).2 = false := by rw [h4]
  have h3 := rCount_good (s := r3 s) b4
  have b3 : (r3 s).2 = false := by rw [h3]
  have h2 := rUint_good (s := r2 s) b3
  have b2 : (r2 s).2 = false := by rw [h2]
  have h1 := rUint_good (s := r1 s) b2
  have b1 : (r1 s).2 = false := by rw [h1]
  have h0 := rByte_good (s := s) b1
  have e6 : (r6 s).1 = (rLines (gotN s) (r6 s)).1.flatMap lineB ++ (gotS s).1 := congrArg Prod.fst h6
  have e5 : (r5 s).1 = be 8 (gotN s) ++ (r6 s).1 := congrArg Prod.fst h5
  have e4 : (r4 s).1 = be 8 (rCount 256 (r4 s)).1 ++ (r5 s).1 := congrArg Prod.fst h4
  have e3 : (r3 s).1 = be 8 (rCount 256 (r3 s)).1 ++ (r4 s).1 := congrArg Prod.fst h3
  have e2 : (r2 s).1 = be 8 (rUint (r2 s)).1 ++ (r3 s).1 := congrArg Prod.fst h2
  have e1 : (r1 s).1 = be 8 (rUint (r1 s)).1 ++ (r2 s).1 := congrArg Prod.fst h1
  have e0 : s.1 = be 1 (rByte s).1 ++ (r1 s).1 := congrArg Prod.fst h0
  have b0 : s.2 = false := by rw [h0]
  refine Prod.ext ?_ b0
  rw [e0, e1, e2, e3, e4, e5, e6]
  have hlen : (gotM s).ls.length = gotN s := gotM_len s
  unfold putV headB five
  rw [hlen]
  simp [gotM]
theorem getV_facts {l : List UInt8} (h : getV (l, false) = true) : mayV (gotM (l, false)) = true ∧ putV (gotM (l, false)) = l := by
  unfold getV at h
  rw [Bool.and_eq_true] at h
  obtain ⟨h1, h2⟩ := h
  refine ⟨h2, ?_⟩
  have hd : rDone (gotS (l, false)) = 0 := by simpa using h1
  have hb : (gotS (l, false)).2 = false ∧ (gotS (l, false)).1 = [] := by
    unfold rDone at hd
    split at hd
    · cases hd
    · rename_i hn
      simp at hn
      exact hn
  have h3 := got_good (l, false) hb.1
  rw [hb.2, List.append_nil] at h3
  exact (congrArg Prod.fst h3).symm
theorem getV_less (m : MsgD) (l : List UInt8) (c : UInt8) (h : mayV m = true) (he : putV m = l ++ [c]) : getV (l, false) = false := by
  cases hv : getV (l, false) with
  | false => rfl
  | true =>
    exfalso
    obtain ⟨h1, h2⟩ := getV_facts hv
    have h3 := got_put m [] h
    have h4 := got_put (gotM (l, false)) [c] h1
    rw [List.append_nil, he] at h3
    rw [h2] at h4
    have := h3.2.symm.trans h4.2
    cases this
end Go.Proofs.Ytclicammiopjlaa
