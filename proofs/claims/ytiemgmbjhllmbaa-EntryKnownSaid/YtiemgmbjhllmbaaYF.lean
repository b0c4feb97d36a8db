/-
  Entries, plain: what is put is read, what is read was put. No program in sight.
  Entries, plain: what Put and Get answer. No program in sight.
-/
import Derived.Test.YtiemgmbjhllmbaaYE
section
set_option linter.unusedVariables false
namespace Go.Proofs.Ytiemgmbjhllmbaa
open Go.RowKit
theorem fst_of {α β : Type} {s : α × β} {a : α} {b : β} (h : s = (a, b)) : s.1 = a := by rw [h]
theorem snd_of {α β : Type} {s : α × β} {a : α} {b : β} (h : s = (a, b)) : s.2 = b := by rw [h]
/-- f reads what e puts, of all that d holds for; and nothing else. -/
structure Pair {α : Type} (f : RS → α × RS) (e : α → List UInt8) (d : α → Prop) : Prop where
  put : ∀ x r, d x → f (e x ++ r, false) = (x, (r, false))
  good : ∀ s, (f s).2.2 = false → s = (e (f s).1 ++ (f s).2.1, false) ∧ d (f s).1
section
variable {α β : Type} {f : RS → α × RS} {e : α → List UInt8} {d : α → Prop} {g : RS → β × RS} {e' : β → List UInt8} {d' : β → Prop}
theorem Pair.code (h : Pair f e d) {x y : α} {r r' : List UInt8} (hx : d x) (hy : d y) (he : e x ++ r = e y ++ r') : x = y ∧ r = r' := by
  have h1 := h.put x r hx
  rw [he, h.put y r' hy] at h1
  injection h1 with h1 h2
  injection h2 with h2 h3
  exact ⟨h1.symm, h2.symm⟩
/-- One behind the other. -/
def rSeq (f : RS → α × RS) (g : RS → β × RS) (s : RS) : (α × β) × RS := (((f s).1, (g (f s).2).1), (g (f s).2).2)
theorem rSeq_11 (f : RS → α × RS) (g : RS → β × RS) (s : RS) : (rSeq f g s).1.1 = (f s).1 := by unfold rSeq; exact Eq.symm (Eq.trans rfl rfl)
theorem rSeq_12 (f : RS → α × RS) (g : RS → β × RS) (s : RS) : (rSeq f g s).1.2 = (g (f s).2).1 := by unfold rSeq; exact Eq.symm (Eq.trans rfl rfl)
theorem rSeq_2 (f : RS → α × RS) (g : RS → β × RS) (s : RS) : (rSeq f g s).2 = (g (f s).2).2 := by unfold rSeq; exact Eq.symm (Eq.trans rfl rfl)
/-- Whatever is read is so. -/
def Rng (f : RS → α × RS) (d : α → Prop) : Prop := ∀ s, d (f s).1
theorem Rng.seq {d : α → Prop} {d' : β → Prop} (h : Rng f d) (k : Rng g d') : Rng (rSeq f g) (fun p => d p.1 ∧ d' p.2) := fun s => by
  refine ⟨?_, ?_⟩
  · rw [rSeq_11]; exact h s
  · rw [rSeq_12]; exact k _
theorem Pair.seq (h : Pair f e d) (k : Pair g e' d') :
    Pair (rSeq f g) (fun p : α × β => e p.1 ++ e' p.2) (fun p => d p.1 ∧ d' p.2) where
  put := fun x r hx => by
    have h1 := h.put x.1 (e' x.2 ++ r) hx.1
    have h2 := k.put x.2 r hx.2
    simp only [rSeq, List.append_assoc, h1, h2]
  good := fun s hs => by
    unfold rSeq at hs ⊢
    simp only at hs ⊢
    have h1 := k.good (f s).2 hs
    have h2 : (f s).2.2 = false := by rw [h1.1]
    have h3 := h.good s h2
    refine ⟨?_, h3.2, h1.2⟩
    have h4 : (f s).2.1 = e' (g (f s).2).1 ++ (g (f s).2).2.1 := fst_of h1.1
    simp only [List.append_assoc]
    rw [← h4]
    exact h3.1
theorem Pair.map (h : Pair f e d) (i : α → β) (j : β → α) (hij : ∀ y, d (j y) → i (j y) = y) (hji : ∀ x, d x → j (i x) = x) : Pair (fun s => (i (f s).1, (f s).2)) (fun y => e (j y)) (fun y => d (j y)) where
  put := fun y r hy => by simp only [h.put (j y) r hy, hij y hy]
  good := fun s hs => by
    obtain ⟨h1, h2⟩ := h.good s hs
    refine ⟨?_, ?_⟩
    · show s = (e (j (i (f s).1)) ++ (f s).2.1, false)
      rw [hji _ h2]; exact h1
    · show d (j (i (f s).1))
      rw [hji _ h2]; exact h2
/-- Read, and then bad if it is not what it is to be. -/
theorem Pair.only (h : Pair f e d) (p : α → Prop) [DecidablePred p] (z : α → α) : Pair (fun s => if p (f s).1 then f s else (z (f s).1, rBad (f s).2)) e (fun x => d x ∧ p x) where
  put := fun x r hx => by simp only [h.put x r hx.1, hx.2, if_true]
  good := fun s hs => by
    by_cases hp : p (f s).1
    · simp only [hp, if_true] at hs ⊢
      exact ⟨(h.good s hs).1, (h.good s hs).2, trivial⟩
    · simp only [hp, if_false, rBad] at hs
      cases hs
theorem Pair.dom (h : Pair f e d) {d2 : α → Prop} (hd : ∀ x, d x ↔ d2 x) : Pair f e d2 where
  put := fun x r hx => h.put x r ((hd x).2 hx)
  good := fun s hs => ⟨(h.good s hs).1, (hd _).1 (h.good s hs).2⟩
theorem Pair.congr (h : Pair f e d) {f2 : RS → α × RS} {e2 : α → List UInt8} (hf : ∀ s, f2 s = f s) (he : ∀ x, e2 x = e x) : Pair f2 e2 d where
  put := fun x r hx => by rw [hf, he]; exact h.put x r hx
  good := fun s hs => by rw [hf] at hs ⊢; rw [he]; exact h.good s hs
/-! ### So many of them -/
theorem rMany_head (f : RS → α × RS) : ∀ (n : Nat) (s : RS), rMany f (n + 1) s = ((f s).1 :: (rMany f n (f s).2).1, (rMany f n (f s).2).2) := by
  intro n
  induction n with
  | zero => intro s; simp [rMany]
  | succ n ih =>
    intro s
    have h := ih s
    have h2 : (rMany f (n + 1) s).2 = (rMany f n (f s).2).2 := by rw [h]
    have h1 : (rMany f (n + 1) s).1 = (f s).1 :: (rMany f n (f s).2).1 := by rw [h]
    show ((rMany f (n + 1) s).1 ++ [(f (rMany f (n + 1) s).2).1], (f (rMany f (n + 1) s).2).2) = _
    rw [h1, h2]
    rfl
theorem rMany_length (f : RS → α × RS) (n : Nat) (s : RS) : (rMany f n s).1.length = n := by
  induction n with
  | zero => rfl
  | succ n ih => simp [rMany, ih]
theorem Pair.many_put (h : Pair f e d) (r : List UInt8) : ∀ (l : List α), (∀ x ∈ l, d x) → rMany f l.length (l.flatMap e ++ r, false) = (l, (r, false)) := by
  intro l
  induction l with
  | nil => intro _; rfl
  | cons x l ih =>
    intro hx
    rw [List.length_cons, rMany_head, List.flatMap_cons, List.append_assoc, h.put x _ (hx x (by simp)), ih fun y hy => hx y (by simp [hy])]
theorem Pair.many_good (h : Pair f e d) : ∀ (n : Nat) (s : RS), (rMany f n s).2.2 = false → s = ((rMany f n s).1.flatMap e ++ (rMany f n s).2.1, false) ∧ ∀ x ∈ (rMany f n s).1, d x := by
  intro n
  induction n with
  | zero => intro s hs; exact ⟨Prod.ext rfl hs, fun x hx => by cases hx⟩
  | succ n ih =>
    intro s hs
    rw [rMany_head] at hs ⊢
    obtain ⟨h1, h2⟩ := ih (f s).2 hs
    have h3 : (f s).2.2 = false := by rw [h1]
    obtain ⟨h4, h5⟩ := h.good s h3
    have h6 : (f s).2.1 = (rMany f n (f s).2).1.flatMap e ++ (rMany f n (f s).2).2.1 := fst_of h1
    refine ⟨?_, fun x hx => ?_⟩
    · simp only [List.flatMap_cons, List.append_assoc]
      rw [← h6]; exact h4
    · rcases List.mem_cons.1 hx with rfl | hx
      · exact h5
      · exact h2 x hx
theorem many_code (hc : ∀ x y r r', d x → d y → e x ++ r = e y ++ r' → x = y ∧ r = r') : ∀ (l l' : List α) (r r' : List UInt8), l.length = l'.length → (∀ x ∈ l, d x) → (∀ x ∈ l', d x) → l.flatMap e ++ r = l'.flatMap e ++ r' → l = l' ∧ r = r' := by
  intro l
  induction l with
  | nil =>
    intro l' r r' hl _ _ h
    obtain rfl := (List.eq_nil_of_length_eq_zero hl.symm)
    exact ⟨rfl, by simpa using h⟩
  | cons x l ih =>
    intro l' r r' hl h1 h2 h
    cases l' with
    | nil => simp at hl
    | cons y l' =>
      rw [List.flatMap_cons, List.flatMap_cons, List.append_assoc, List.append_assoc] at h
      obtain ⟨rfl, h3⟩ := hc x y _ _ (h1 x (by simp)) (h2 y (by simp)) h
      obtain ⟨rfl, h4⟩ := ih l' r r' (by simpa using hl) (fun z hz => h1 z (by simp [hz])) (fun z hz => h2 z (by simp [hz])) h3
      exact ⟨rfl, h4⟩
end
/-! ### Numbers and texts -/
theorem val_inj : ∀ (a b : List UInt8), a.length = b.length → val a = val b → a = b := by
  intro a
  induction a with
  | nil => intro b h _; exact (List.eq_nil_of_length_eq_zero h.symm).symm
  | cons c a ih =>
    intro b h hv
    cases b with
    | nil => cases h
    | cons d b =>
      have hl : a.length = b.length := by simpa using h
      rw [val_cons, val_cons, hl] at hv
      have h1 := val_lt a
      have h2 := val_lt b
      rw [hl] at h1
      have hp : 0 < 256 ^ b.length := Nat.pow_pos (by decide)
      have hc : c.toNat = d.toNat := by
        have e1 : (c.toNat * 256 ^ b.length + val a) / 256 ^ b.length = c.toNat := by
          rw [Nat.add_comm, Nat.add_mul_div_right _ _ hp, Nat.div_eq_of_lt h1, Nat.zero_add]
        have e2 : (d.toNat * 256 ^ b.length + val b) / 256 ^ b.length = d.toNat := by
          rw [Nat.add_comm, Nat.add_mul_div_right _ _ hp, Nat.div_eq_of_lt h2, Nat.zero_add]
        rw [← e1, hv, e2]
      rw [hc] at hv
      have hv' : val a = val b := Nat.add_left_cancel hv
      rw [ih b hl hv', UInt8.toNat_inj.1 hc]
theorem be_val (n : Nat) (a : List UInt8) (h : a.length = n) : be n (val a) = a := by
  refine val_inj _ _ (by rw [be_length, h]) ?_
  rw [val_be]
  exact Nat.mod_eq_of_lt (h ▸ val_lt a)
theorem rTake_good {n : Nat} {s : RS} (h : (rTake n s).2.2 = false) : s = ((rTake n s).1 ++ (rTake n s).2.1, false) ∧ (rTake n s).1.length = n := by
  obtain ⟨l, b⟩ := s
  simp only [rTake, rdTake, rdLeft, rdBad, Bool.or_eq_false_iff, decide_eq_false_iff_not] at h ⊢
  obtain ⟨rfl, h2⟩ := h
  have h3 : ¬ (l.length < n) := h2
  simp only [Bool.false_or, decide_eq_true_eq, if_neg h3, List.take_append_drop, List.length_take, true_and]
  omega
theorem pair_byte : Pair rByte (be 1) (· < 256) where
  put := fun x r hx => rByte_be x r hx
  good := fun s h => by
    obtain ⟨h1, h2⟩ := rTake_good (n := 1) (s := s) h
    refine ⟨?_, rByte_lt s⟩
    show s = (be 1 (val (rTake 1 s).1) ++ (rTake 1 s).2.1, false)
    rw [be_val 1 _ h2]
    exact h1
theorem pair_uint : Pair rUint (be 8) (· < 2 ^ 64) where
  put := fun x r hx => rUint_be x r hx
  good := fun s h => by
    obtain ⟨h1, h2⟩ := rTake_good (n := 8) (s := s) h
    refine ⟨?_, rUint_lt s⟩
    show s = (be 8 (val (rTake 8 s).1) ++ (rTake 8 s).2.1, false)
    rw [be_val 8 _ h2]
    exact h1
theorem pair_text : Pair rText textB (fun t => t.length < 2 ^ 32) where
  put := fun x r hx => by
    unfold textB
    rw [List.append_assoc]
    exact rText_be x r hx
  good := fun s h => by
    obtain ⟨h1, h2⟩ := rTake_good (n := val (rTake 4 s).1) (s := (rTake 4 s).2) h
    have h4 : (rTake 4 s).2.2 = false := by rw [h1]
    obtain ⟨h5, h6⟩ := rTake_good (n := 4) (s := s) h4
    have e : (rText s).1.length = val (rTake 4 s).1 := h2
    have e2 : (rTake 4 s).2.1 = (rText s).1 ++ (rText s).2.1 := fst_of h1
    refine ⟨?_, by rw [e]; exact val4_lt s⟩
    unfold textB
    rw [List.append_assoc, e, be_val 4 _ h6, ← e2]
    exact h5
theorem u64_i64 (v : Nat) (h : v < 2 ^ 64) : u64 (i64 v) = v := u64_wrap64 v h
theorem i64_u64 (z : Int) (h : I64 z) : i64 (u64 z) = z := by unfold I64 at h; unfold i64 u64 wrap64; omega
theorem i64_range (v : Nat) : I64 (i64 v) := by unfold i64 wrap64 I64; omega
def rI64 (s : RS) : Int × RS := (i64 (rUint s).1, (rUint s).2)
theorem pair_i64 : Pair rI64 (fun z => be 8 (u64 z)) I64 :=
  { put := fun z r hz => by
      have h := pair_uint.put (u64 z) r (u64_lt z)
      unfold rI64
      rw [h, i64_u64 z hz]
    good := fun s hs => by
      obtain ⟨h1, h2⟩ := pair_uint.good s hs
      refine ⟨?_, i64_range _⟩
      show s = (be 8 (u64 (i64 (rUint s).1)) ++ (rUint s).2.1, false)
      rw [u64_i64 _ h2]; exact h1 }
theorem pair_small : Pair rSmall (be 8) (· < 2 ^ 32) :=
  ((pair_uint.only (fun x => x < 2 ^ 32) (fun _ => 0)).congr (fun s => by unfold rSmall; by_cases h : (rUint s).1 < 2 ^ 32 <;> simp [h] <;> omega) (fun _ => rfl)).dom (fun x => by constructor <;> intro h <;> omega)
theorem pair_place (n : Nat) (hn : n ≤ 256) : Pair (rPlace n) (be 1) (· < n) :=
  ((pair_byte.only (fun x => x < n) (fun _ => 0)).congr (fun s => by unfold rPlace; by_cases h : (rByte s).1 < n <;> simp [h] <;> omega) (fun _ => rfl)).dom (fun x => by constructor <;> intro h <;> omega)
theorem pair_region (least : Int) (hl : -9 ≤ least) : Pair (rRegion least) (fun z => be 8 (u64 z)) (fun z => least ≤ z ∧ z < 4) :=
  ((pair_i64.only (fun z => least ≤ z ∧ z < 4) (fun _ => 0)).congr (fun s => by
    unfold rRegion rI64
    by_cases h : least ≤ i64 (rUint s).1 ∧ i64 (rUint s).1 < 4
    · rw [if_neg (by omega), if_pos h]
    · rw [if_pos (by omega), if_neg h]) (fun _ => rfl)).dom (fun x => by unfold I64; constructor <;> intro h <;> omega)
theorem pair_flag : Pair rFlag flagB (fun _ => True) :=
  (((pair_place 2 (by decide)).map (fun n => n == 1) (fun b => if b then 1 else 0) (fun b _ => by cases b <;> rfl) (fun x hx => by rcases (by omega : x = 0 ∨ x = 1) with rfl | rfl <;> rfl)).congr (fun s => rfl) (fun b => rfl)).dom (fun b => by cases b <;> simp)
theorem pair_textM (most : Nat) (hm : most < 2 ^ 32) : Pair (rTextM most) textB (fun t => t.length ≤ most) :=
  ((pair_text.only (fun t => t.length ≤ most) id).congr (fun s => by
    unfold rTextM
    by_cases h : (rText s).1.length ≤ most
    · rw [if_neg (by omega), if_pos h]
    · rw [if_pos (by omega), if_neg h]; rfl) (fun _ => rfl)).dom (fun x => by constructor <;> intro h <;> omega)
theorem byteOf_nat (n : Nat) (h : n < 256) : byteOf (n : Int) = n := by unfold byteOf; omega
theorem pair_site : Pair (fun s => (((rPlace 3 s).1 : Int), (rPlace 3 s).2)) (fun z => be 1 (byteOf z)) (fun z => 0 ≤ z ∧ z < 3) where
  put := fun z r hz => by
    obtain ⟨n, rfl⟩ := Int.eq_ofNat_of_zero_le hz.1
    rw [byteOf_nat n (by omega), (pair_place 3 (by decide)).put n r (by omega)]
  good := fun s hs => by
    obtain ⟨h1, h2⟩ := (pair_place 3 (by decide)).good s hs
    refine ⟨?_, by show (0 : Int) ≤ ((rPlace 3 s).1 : Int); omega, by show ((rPlace 3 s).1 : Int) < 3; omega⟩
    show s = (be 1 (byteOf ((rPlace 3 s).1 : Int)) ++ _, false)
    rw [byteOf_nat _ (by omega)]; exact h1
theorem pair_sess : Pair rSess (fun p => sessB p.1 p.2) (fun p => (0 ≤ p.1 ∧ p.1 < 3) ∧ p.2 < 2 ^ 32) :=
  (pair_site.seq pair_small).congr (fun s => rfl) (fun p => rfl)
theorem rCount_most (most : Nat) (s : RS) : (rCount most s).1 ≤ most := by
  unfold rCount
  split
  · exact Nat.zero_le _
  · rename_i h; omega
theorem pair_count (most : Nat) (hm : most < 2 ^ 63) : Pair (rCount most) (be 8) (· ≤ most) :=
  ((pair_uint.only (fun x => x ≤ most) (fun _ => 0)).congr (fun s => by
    unfold rCount
    by_cases h : (rUint s).1 ≤ most
    · rw [if_neg (by omega), if_pos h]
    · rw [if_pos (by omega), if_neg h]) (fun _ => rfl)).dom (fun x => by constructor <;> intro h <;> omega)
theorem pair_list {α : Type} {f : RS → α × RS} {e : α → List UInt8} {d : α → Prop} (h : Pair f e d) (most : Nat) (hm : most < 2 ^ 63) : Pair (rList most f) (fun l => be 8 l.length ++ l.flatMap e) (fun l => l.length ≤ most ∧ ∀ x ∈ l, d x) where
  put := fun l r hl => by
    unfold rList
    rw [List.append_assoc, (pair_count most hm).put l.length _ hl.1]
    exact h.many_put r l hl.2
  good := fun s hs => by
    have h1 := h.many_good (rCount most s).1 (rCount most s).2 hs
    have h2 : (rCount most s).2.2 = false := by rw [h1.1]
    obtain ⟨h3, h4⟩ := (pair_count most hm).good s h2
    have h5 : (rList most f s).1.length = (rCount most s).1 := rMany_length _ _ _
    have h6 : (rCount most s).2.1 = _ := fst_of h1.1
    refine ⟨?_, by rw [h5]; exact h4, h1.2⟩
    rw [h5, List.append_assoc]
    show s = (be 8 (rCount most s).1 ++ ((rMany f (rCount most s).1 (rCount most s).2).1.flatMap e ++ (rMany f (rCount most s).1 (rCount most s).2).2.1), false)
    rw [← h6]
    exact h3
theorem pair_stamp : Pair rStamp stampB (fun l => l.length ≤ 3 ∧ ∀ x ∈ l, x < 2 ^ 64) := (pair_list pair_uint 3 (by decide)).congr (fun s => rfl) (fun l => rfl)
/-! ### Operations -/
def hTup (h : OpH) : Nat × List UInt8 × List UInt8 × Int × Bool × Bool := (h.kind, h.path, h.data, h.version, h.seq, h.eph)
def tupH (p : Nat × List UInt8 × List UInt8 × Int × Bool × Bool) : OpH := ⟨p.1, p.2.1, p.2.2.1, p.2.2.2.1, p.2.2.2.2.1, p.2.2.2.2.2⟩
theorem pair_headG {ft : RS → List UInt8 × RS} {d : List UInt8 → Prop} (ht : Pair ft textB d) : Pair (fun s =>
    (OpH.mk (rByte s).1 (ft (rByte s).2).1 (ft (ft (rByte s).2).2).1 (i64 (rUint (ft (ft (rByte s).2).2).2).1) (rFlag (rUint (ft (ft (rByte s).2).2).2).2).1 (rFlag (rFlag (rUint (ft (ft (rByte s).2).2).2).2).2).1,
      (rFlag (rFlag (rUint (ft (ft (rByte s).2).2).2).2).2).2)) headB (fun h => h.kind < 256 ∧ d h.path ∧ d h.data ∧ I64 h.version) :=
  (((pair_byte.seq (ht.seq (ht.seq (pair_i64.seq (pair_flag.seq pair_flag))))).map tupH hTup (fun _ _ => rfl) (fun _ _ => rfl)).congr (fun s => by simp only [tupH, rSeq_11, rSeq_12, rSeq_2, rI64]) (fun h => by simp [headB, hTup])).dom (fun h => by simp [hTup])
theorem pair_head : Pair rHead headB (fun h => h.kind < 256 ∧ h.path.length ≤ 64 ∧ h.data.length ≤ 64 ∧ I64 h.version) :=
  (pair_headG (pair_textM 64 (by decide))).congr (fun s => rfl) (fun h => rfl)
def OpD.dom0 (o : OpD) : Prop := HeadOk o.h ∧ mayOp0 o = true
theorem mayHead_iff (h : OpH) : mayHead h = true ↔ h.path.length ≤ 64 ∧ h.data.length ≤ 64 := by simp [mayHead]
theorem mayOp0_iff (o : OpD) : mayOp0 o = true ↔ (o.h.path.length ≤ 64 ∧ o.h.data.length ≤ 64) ∧ o.parts = [] := by simp [mayOp0, mayHead_iff]
theorem mayOp_iff (o : OpD) : mayOp o = true ↔ (o.h.path.length ≤ 64 ∧ o.h.data.length ≤ 64) ∧ o.parts.length ≤ 6 ∧ ∀ p ∈ o.parts, mayOp0 p = true := by simp [mayOp, mayHead_iff]
theorem pair_op0 : Pair rOp0 opB (fun o => HeadOk o.h ∧ mayOp0 o = true) where
  put := fun o r ho => by
    obtain ⟨⟨h1, h2⟩, h3⟩ := ho
    obtain ⟨h, ps⟩ := o
    obtain ⟨h4, h5⟩ := (mayOp0_iff _).1 h3
    simp only [OpD.h, OpD.parts] at h1 h2 h4 h5
    subst h5
    rw [opB_mk, opsB_nil, List.append_nil, List.append_assoc]
    unfold rOp0
    rw [pair_head.put h _ ⟨h1, h4.1, h4.2, h2⟩]
    have := (pair_count 0 (by decide)).put 0 r (Nat.le_refl _)
    simp only [List.length_nil]
    exact congrArg (fun x : Nat × RS => (OpD.mk h [], x.2)) this
  good := fun s hs => by
    obtain ⟨h1, h2⟩ := (pair_count 0 (by decide)).good (rHead s).2 hs
    have h3 : (rHead s).2.2 = false := by rw [h1]
    obtain ⟨h4, h5⟩ := pair_head.good s h3
    refine ⟨?_, ⟨h5.1, h5.2.2.2⟩, (mayOp0_iff _).2 ⟨⟨h5.2.1, h5.2.2.1⟩, rfl⟩⟩
    have h0 : (rCount (0 : Nat) (rHead s).2).1 = 0 := by omega
    have h6 : (rHead s).2.1 = _ := fst_of h1
    rw [h0] at h6
    show s = (opB (.mk (rHead s).1 []) ++ (rCount (0 : Nat) (rHead s).2).2.1, false)
    rw [opB_mk, opsB_nil, List.append_nil, List.append_assoc]
    simp only [List.length_nil]
    rw [← h6]
    exact h4
theorem opsB_flat (l : List OpD) : opsB l = l.flatMap opB := by
  induction l with
  | nil => exact opsB_nil
  | cons o l ih => rw [opsB_cons, ih, List.flatMap_cons]
theorem pair_op : Pair rOp opB (fun o => HeadOk o.h ∧ (∀ p ∈ o.parts, HeadOk p.h) ∧ mayOp o = true) where
  put := fun o r ho => by
    obtain ⟨⟨h1, h2⟩, hp, h3⟩ := ho
    obtain ⟨h, ps⟩ := o
    obtain ⟨h4, h5, h6⟩ := (mayOp_iff _).1 h3
    simp only [OpD.h, OpD.parts] at h1 h2 h4 h5 h6 hp
    rw [opB_mk, opsB_flat, List.append_assoc, List.append_assoc]
    unfold rOp
    rw [pair_head.put h _ ⟨h1, h4.1, h4.2, h2⟩]
    have := (pair_list pair_op0 6 (by decide)).put ps r ⟨h5, fun p hp' => ⟨hp p hp', h6 p hp'⟩⟩
    rw [List.append_assoc] at this
    rw [this]
  good := fun s hs => by
    have hs' : (rList 6 rOp0 (rHead s).2).2.2 = false := by simpa only [rOp] using hs
    obtain ⟨h1, h2⟩ := (pair_list pair_op0 6 (by decide)).good (rHead s).2 hs'
    have h3 : (rHead s).2.2 = false := by rw [h1]
    obtain ⟨h4, h5⟩ := pair_head.good s h3
    refine ⟨?_, by unfold rOp; exact ⟨h5.1, h5.2.2.2⟩, by unfold rOp; exact fun p hp => (h2.2 p hp).1, by unfold rOp; exact (mayOp_iff _).2 ⟨⟨h5.2.1, h5.2.2.1⟩, h2.1, fun p hp => (h2.2 p hp).2⟩⟩
    have h6 := fst_of h1
    rw [List.append_assoc] at h6
    have e : rOp s = (OpD.mk (rHead s).1 (rList 6 rOp0 (rHead s).2).1, (rList 6 rOp0 (rHead s).2).2) := by unfold rOp; rfl
    have e1 : (rOp s).1 = OpD.mk (rHead s).1 (rList 6 rOp0 (rHead s).2).1 := by rw [e]
    have e2 : (rOp s).2 = (rList 6 rOp0 (rHead s).2).2 := by rw [e]
    rw [e1, e2, opB_mk, opsB_flat, List.append_assoc, List.append_assoc, ← h6]
    exact h4
/-! ### Nodes, effects, items -/
def nTup (x : NodeD) : List UInt8 × Nat × Nat × Nat × (Int × Nat) × Nat × Nat × Nat := (x.data, x.version, x.kin, x.next, (x.site, x.n), x.made, x.changed, x.touched)
def tupN (p : List UInt8 × Nat × Nat × Nat × (Int × Nat) × Nat × Nat × Nat) : NodeD := ⟨p.1, p.2.1, p.2.2.1, p.2.2.2.1, p.2.2.2.2.1.1, p.2.2.2.2.1.2, p.2.2.2.2.2.1, p.2.2.2.2.2.2.1, p.2.2.2.2.2.2.2⟩
def nodeDom (x : NodeD) : Prop := NodeOk x ∧ x.data.length ≤ 64 ∧ 0 ≤ x.site ∧ x.site < 3
theorem rNode_seq (s : RS) : rNode s = (tupN (rSeq (rTextM 64) (rSeq rSmall (rSeq rSmall (rSeq rSmall (rSeq rSess (rSeq rUint (rSeq rUint rUint)))))) s).1, (rSeq (rTextM 64) (rSeq rSmall (rSeq rSmall (rSeq rSmall (rSeq rSess (rSeq rUint (rSeq rUint rUint)))))) s).2) := by
  simp only [rNode, tupN, rSeq_11, rSeq_12, rSeq_2]
theorem pair_node : Pair rNode nodeB nodeDom :=
  ((((pair_textM 64 (by decide)).seq (pair_small.seq (pair_small.seq (pair_small.seq (pair_sess.seq (pair_uint.seq (pair_uint.seq pair_uint))))))).map tupN nTup (fun _ _ => rfl) (fun _ _ => rfl)).congr rNode_seq (fun h => by simp [nodeB, nTup])).dom (fun x => by
    simp only [nTup]
    constructor
    · rintro ⟨h1, h2, h3, h4, ⟨⟨h5, h6⟩, h7⟩, h8, h9, h10⟩
      exact ⟨⟨h2, h3, h4, by unfold I64; omega, h7, h8, h9, h10⟩, h1, h5, h6⟩
    · rintro ⟨⟨h1, h2, h3, h4, h5, h6, h7, h8⟩, h9, h10, h11⟩
      exact ⟨h9, h1, h2, h3, ⟨⟨h10, h11⟩, h5⟩, h6, h7, h8⟩)
theorem maySess_iff (z : Int) : maySess z = true ↔ 0 ≤ z ∧ z < 3 := by simp [maySess]
theorem zeroNode_iff (x : NodeD) : zeroNode x = true ↔ x = zeroN := by
  obtain ⟨a, b, c, d, e, f, g, h, i⟩ := x
  simp [zeroNode, zeroN, and_assoc]
theorem mayEff_iff (e : EffD) : mayEff e = true ↔ e.path.length ≤ 64 ∧ e.node.data.length ≤ 64 ∧ (0 ≤ e.node.site ∧ e.node.site < 3) ∧ (e.gone = true → e.node = zeroN) := by
  unfold mayEff
  simp only [Bool.and_eq_true, Bool.or_eq_true, decide_eq_true_eq, maySess_iff, zeroNode_iff, Bool.not_eq_true']
  cases e.gone <;> simp [and_assoc]
theorem zeroN_ok : NodeOk zeroN := ⟨by decide, by decide, by decide, by unfold I64 zeroN; simp, by decide, by decide, by decide, by decide⟩
def effDom (e : EffD) : Prop := EffOk e ∧ mayEff e = true
theorem pair_eff : Pair rEff effB effDom where
  put := fun e r he => by
    obtain ⟨h1, h2⟩ := he
    obtain ⟨h3, h4, h5, h6⟩ := (mayEff_iff e).1 h2
    obtain ⟨p, g, nd⟩ := e
    simp only at h3 h4 h5 h6
    unfold effB rEff
    rw [List.append_assoc, List.append_assoc, (pair_textM 64 (by decide)).put p _ h3]
    simp only
    rw [pair_flag.put g _ trivial]
    cases g with
    | true =>
      obtain rfl := h6 rfl
      simp
    | false =>
      simp only [Bool.false_eq_true, if_false]
      rw [pair_node.put nd r ⟨h1, h4, h5⟩]
  good := fun s hs => by
    unfold rEff at hs ⊢
    simp only at hs ⊢
    cases hg : (rFlag (rTextM 64 s).2).1 with
    | true =>
      rw [hg] at hs
      simp only [if_true] at hs ⊢
      obtain ⟨h1, _⟩ := pair_flag.good (rTextM 64 s).2 hs
      have h2 : (rTextM 64 s).2.2 = false := by rw [h1]
      obtain ⟨h3, h4⟩ := (pair_textM 64 (by decide)).good s h2
      have h5 : (rTextM 64 s).2.1 = _ := fst_of h1
      refine ⟨?_, zeroN_ok, (mayEff_iff _).2 ⟨h4, by simp [zeroN], by simp [zeroN], fun _ => rfl⟩⟩
      unfold effB
      simp only [if_true, List.append_nil, List.append_assoc]
      rw [hg] at h5
      rw [← h5]; exact h3
    | false =>
      rw [hg] at hs
      simp only [Bool.false_eq_true, if_false] at hs ⊢
      obtain ⟨h8, h9⟩ := pair_node.good _ hs
      have h7 : (rFlag (rTextM 64 s).2).2.2 = false := by rw [h8]
      obtain ⟨h1, _⟩ := pair_flag.good (rTextM 64 s).2 h7
      have h2 : (rTextM 64 s).2.2 = false := by rw [h1]
      obtain ⟨h3, h4⟩ := (pair_textM 64 (by decide)).good s h2
      have h5 : (rTextM 64 s).2.1 = _ := fst_of h1
      have h6 : (rFlag (rTextM 64 s).2).2.1 = _ := fst_of h8
      refine ⟨?_, h9.1, (mayEff_iff _).2 ⟨h4, h9.2.1, h9.2.2, fun h => by cases h⟩⟩
      unfold effB
      simp only [Bool.false_eq_true, if_false, List.append_assoc]
      rw [← h6]
      rw [hg] at h5
      rw [← h5]; exact h3
def iTup (x : ItemD) : Int × Nat × Int × Nat × List Nat × List EffD × Nat := (x.origin, x.seq, x.region, x.epoch, x.stamp, x.effs, x.closed)
def tupI (p : Int × Nat × Int × Nat × List Nat × List EffD × Nat) : ItemD := ⟨p.1, p.2.1, p.2.2.1, p.2.2.2.1, p.2.2.2.2.1, p.2.2.2.2.2.1, p.2.2.2.2.2.2⟩
def itemDom (x : ItemD) : Prop := ItemOk x ∧ mayItem x = true
theorem mayItem_iff (x : ItemD) : mayItem x = true ↔ (0 ≤ x.origin ∧ x.origin < 3) ∧ (-1 ≤ x.region ∧ x.region < 4) ∧ x.stamp.length ≤ 3 ∧ x.effs.length ≤ 16 ∧ ∀ e ∈ x.effs, mayEff e = true := by
  unfold mayItem
  simp only [Bool.and_eq_true, decide_eq_true_eq, List.all_eq_true, and_assoc]
def rSite (s : RS) : Int × RS := (((rPlace 3 s).1 : Int), (rPlace 3 s).2)
theorem rSite_1 (s : RS) : (rSite s).1 = ((rPlace 3 s).1 : Int) := by unfold rSite; exact Eq.symm (Eq.trans rfl rfl)
theorem rSite_2 (s : RS) : (rSite s).2 = (rPlace 3 s).2 := by unfold rSite; exact Eq.symm (Eq.trans rfl rfl)
theorem rItem_seq (s : RS) : rItem s = (tupI (rSeq rSite (rSeq rUint (rSeq (rRegion (-1)) (rSeq rUint (rSeq rStamp (rSeq (rList 16 rEff) rSmall))))) s).1, (rSeq rSite (rSeq rUint (rSeq (rRegion (-1)) (rSeq rUint (rSeq rStamp (rSeq (rList 16 rEff) rSmall))))) s).2) := by
  simp only [rItem, tupI, rSeq_11, rSeq_12, rSeq_2, rSite_1, rSite_2]
theorem pair_rSite : Pair rSite (fun z => be 1 (byteOf z)) (fun z => 0 ≤ z ∧ z < 3) := pair_site
theorem pair_item : Pair rItem itemB itemDom :=
  (((pair_rSite.seq (pair_uint.seq ((pair_region (-1) (by decide)).seq (pair_uint.seq (pair_stamp.seq ((pair_list pair_eff 16 (by decide)).seq pair_small)))))).map tupI iTup (fun _ _ => rfl) (fun _ _ => rfl)).congr rItem_seq (fun x => by simp [itemB, iTup])).dom (fun x => by
    unfold itemDom
    rw [mayItem_iff]
    simp only [iTup]
    constructor
    · rintro ⟨h1, h2, h3, h4, ⟨h5, h6⟩, ⟨h7, h8⟩, h9⟩
      exact ⟨⟨by unfold I64; omega, h2, by unfold I64; omega, h4, h6, fun e he => (h8 e he).1, h9⟩, h1, h3, h5, h7, fun e he => (h8 e he).2⟩
    · rintro ⟨⟨h1, h2, h3, h4, h5, h6, h7⟩, h8, h9, h10, h11, h12⟩
      exact ⟨h8, h2, h9, h4, ⟨h10, h5⟩, ⟨h11, fun e he => ⟨h6 e he, h12 e he⟩⟩, h7⟩)
end Go.Proofs.Ytiemgmbjhllmbaa
end
section
set_option linter.unusedVariables false
namespace Go.Proofs.Ytiemgmbjhllmbaa
open Go.RowKit
/-! ### Ranges of what is read -/
theorem rSmall_lt (s : RS) : (rSmall s).1 < 2 ^ 32 := by
  unfold rSmall
  split
  · show 0 < 2 ^ 32; decide
  · rename_i h; omega
theorem rPlace_lt (n : Nat) (hn : 0 < n) (s : RS) : (rPlace n s).1 < n := by
  unfold rPlace
  split
  · exact hn
  · rename_i h; omega
theorem rRegion_range (least : Int) (hl : -9 ≤ least) (h0 : least ≤ 0) (s : RS) : least ≤ (rRegion least s).1 ∧ (rRegion least s).1 < 4 := by
  unfold rRegion
  split
  · exact ⟨h0, by show (0 : Int) < 4; decide⟩
  · rename_i h; simp only; omega
theorem rMany_all {α : Type} {f : RS → α × RS} {d : α → Prop} (h : Rng f d) : ∀ (n : Nat) (s : RS), ∀ x ∈ (rMany f n s).1, d x := by
  intro n
  induction n with
  | zero => intro s x hx; cases hx
  | succ n ih =>
    intro s x hx
    rcases List.mem_append.1 hx with hx | hx
    · exact ih s x hx
    · rw [List.mem_singleton.1 hx]; exact h _
theorem rList_rng {α : Type} {f : RS → α × RS} {d : α → Prop} (most : Nat) (h : Rng f d) : Rng (rList most f) (fun l => ∀ x ∈ l, d x) := fun s => by unfold rList; exact rMany_all h _ _
theorem nat_i64 {n : Nat} (h : n < 256) : I64 (n : Int) := by unfold I64; omega
theorem rSmall_rng : Rng rSmall (· < 2 ^ 32) := rSmall_lt
theorem rUint_rng : Rng rUint (· < 2 ^ 64) := rUint_lt
theorem rSite_rng : Rng rSite (fun z => 0 ≤ z ∧ z < 3) := fun s => by rw [rSite_1]; have := rPlace_lt 3 (by decide) s; omega
theorem rSess_rng : Rng rSess (fun p => (0 ≤ p.1 ∧ p.1 < 3) ∧ p.2 < 2 ^ 32) := fun s => by
  unfold rSess
  refine ⟨?_, rSmall_lt _⟩
  have := rPlace_lt 3 (by decide) s
  simp only; omega
theorem rStamp_rng : Rng rStamp (fun l => ∀ k ∈ l, k < 2 ^ 64) := rList_rng 3 rUint_rng
theorem rHead_rng : Rng rHead HeadOk := fun s => ⟨rByte_lt _, i64_range _⟩
theorem rOp0_rng : Rng rOp0 OpOk := fun s => by
  unfold rOp0
  simp only [OpOk, OpsOk, and_true]
  exact rHead_rng s
theorem OpOk_mk (h : OpH) (ps : List OpD) : OpOk (.mk h ps) = (HeadOk h ∧ OpsOk ps) := by simp only [OpOk]
theorem rOp_rng : Rng rOp OpOk := fun s => by
  have h := rList_rng 6 rOp0_rng (rHead s).2
  have h2 := rHead_rng s
  unfold rOp
  generalize (rList 6 rOp0 (rHead s).2) = z at *
  generalize rHead s = y at *
  rw [OpOk_mk]
  exact ⟨h2, OpsOk.of h⟩
theorem rText_rng : Rng (rTextM 64) (fun _ => True) := fun _ => trivial
theorem node_of_tup (z : List UInt8 × Nat × Nat × Nat × (Int × Nat) × Nat × Nat × Nat)
    (h : True ∧ z.2.1 < 2 ^ 32 ∧ z.2.2.1 < 2 ^ 32 ∧ z.2.2.2.1 < 2 ^ 32 ∧ ((0 ≤ z.2.2.2.2.1.1 ∧ z.2.2.2.2.1.1 < 3) ∧ z.2.2.2.2.1.2 < 2 ^ 32) ∧ z.2.2.2.2.2.1 < 2 ^ 64 ∧ z.2.2.2.2.2.2.1 < 2 ^ 64 ∧ z.2.2.2.2.2.2.2 < 2 ^ 64) : NodeOk (tupN z) := by
  obtain ⟨_, h2, h3, h4, h5, h6, h7, h8⟩ := h
  exact ⟨h2, h3, h4, by show I64 z.2.2.2.2.1.1; unfold I64; omega, h5.2, h6, h7, h8⟩
theorem rNode_rng : Rng rNode NodeOk := fun s => by
  rw [rNode_seq]
  exact node_of_tup _ ((rText_rng.seq (rSmall_rng.seq (rSmall_rng.seq (rSmall_rng.seq (rSess_rng.seq (rUint_rng.seq (rUint_rng.seq rUint_rng))))))) s)
theorem rEff_rng : Rng rEff EffOk := fun s => by
  unfold rEff EffOk
  simp only
  split
  · exact zeroN_ok
  · exact rNode_rng _
theorem item_of_tup (z : Int × Nat × Int × Nat × List Nat × List EffD × Nat)
    (h : (0 ≤ z.1 ∧ z.1 < 3) ∧ z.2.1 < 2 ^ 64 ∧ (-1 ≤ z.2.2.1 ∧ z.2.2.1 < 4) ∧ z.2.2.2.1 < 2 ^ 64 ∧ (∀ k ∈ z.2.2.2.2.1, k < 2 ^ 64) ∧ (∀ e ∈ z.2.2.2.2.2.1, EffOk e) ∧ z.2.2.2.2.2.2 < 2 ^ 32) : ItemOk (tupI z) := by
  obtain ⟨h1, h2, h3, h4, h5, h6, h7⟩ := h
  exact ⟨by show I64 z.1; unfold I64; omega, h2, by show I64 z.2.2.1; unfold I64; omega, h4, h5, h6, h7⟩
theorem rReg_rng : Rng (rRegion (-1)) (fun z => -1 ≤ z ∧ z < 4) := rRegion_range (-1) (by decide) (by decide)
theorem rItem_rng : Rng rItem ItemOk := fun s => by
  rw [rItem_seq]
  exact item_of_tup _ ((rSite_rng.seq (rUint_rng.seq (rReg_rng.seq (rUint_rng.seq (rStamp_rng.seq ((rList_rng 16 rEff_rng).seq rSmall_rng)))))) s)
theorem zeroI_ok : ItemOk zeroI := ⟨by unfold I64 zeroI; simp, by decide, by unfold I64 zeroI; simp, by decide, fun k hk => by simp [zeroI] at hk, fun k hk => by simp [zeroI] at hk, by decide⟩
theorem zeroO_ok : OpOk zeroO := by
  unfold zeroO
  simp only [OpOk, OpsOk, and_true]
  exact ⟨by decide, by unfold I64; simp⟩
theorem zeroX_ok (k : Nat) (hk : k < 256) : EntOk { zeroX with kind := k } :=
  ⟨hk, by simp [zeroX], by simp [zeroX], by unfold I64 zeroX; simp, by simp [zeroX], zeroO_ok, zeroI_ok, by unfold I64 zeroX; simp, by unfold I64 zeroX; simp, by simp [zeroX], fun k hk => by simp [zeroX] at hk⟩
def valOk : PartV → Prop
  | .client c r => c < 2 ^ 32 ∧ r < 2 ^ 32
  | .owner s n => I64 s ∧ n < 2 ^ 32
  | .op o => OpOk o
  | .item x => ItemOk x
  | .site s => I64 s
  | .wher r => I64 r
  | .epoch e => e < 2 ^ 64
  | .stamp v => ∀ k ∈ v, k < 2 ^ 64
theorem putVal_ok {y : EntD} {v : PartV} (h : EntOk y) (hv : valOk v) : EntOk (putVal y v) := by
  obtain ⟨h1, h2, h3, h4, h5, h6, h7, h8, h9, h10, h11⟩ := h
  cases v with
  | client c r => exact ⟨h1, hv.1, hv.2, h4, h5, h6, h7, h8, h9, h10, h11⟩
  | owner s n => exact ⟨h1, h2, h3, hv.1, hv.2, h6, h7, h8, h9, h10, h11⟩
  | op o => exact ⟨h1, h2, h3, h4, h5, hv, h7, h8, h9, h10, h11⟩
  | item x => exact ⟨h1, h2, h3, h4, h5, h6, hv, h8, h9, h10, h11⟩
  | site s => exact ⟨h1, h2, h3, h4, h5, h6, h7, hv, h9, h10, h11⟩
  | wher r => exact ⟨h1, h2, h3, h4, h5, h6, h7, h8, hv, h10, h11⟩
  | epoch e => exact ⟨h1, h2, h3, h4, h5, h6, h7, h8, h9, hv, h11⟩
  | stamp v => exact ⟨h1, h2, h3, h4, h5, h6, h7, h8, h9, h10, hv⟩
theorem valOf_ok {x : EntD} (h : EntOk x) (p : PartK) : valOk (valOf x p) := by
  cases p with
  | client => exact ⟨h.client, h.req⟩
  | owner => exact ⟨h.osite, h.on⟩
  | op => exact h.op
  | item => exact h.item
  | site => exact h.site
  | wher => exact h.region
  | epoch => exact h.epoch
  | stamp => exact h.frontier
theorem rVal_k (p : PartK) (s : RS) : (rVal p s).1.k = p := by cases p <;> rfl
theorem rVal_ok (p : PartK) (s : RS) : valOk (rVal p s).1 := by
  cases p with
  | client => exact ⟨rSmall_lt _, rSmall_lt _⟩
  | owner =>
    have := rSess_rng s
    refine ⟨?_, this.2⟩
    unfold I64; omega
  | op => exact rOp_rng s
  | item => exact rItem_rng s
  | site => exact nat_i64 (Nat.lt_trans (rPlace_lt 3 (by decide) _) (by decide))
  | wher => have := rRegion_range 0 (by decide) (by decide) s; unfold rVal valOk I64; simp only; omega
  | epoch => exact rUint_lt _
  | stamp => exact rStamp_rng _
theorem rParts_ok : ∀ (ps : List PartK) (y : EntD × RS), EntOk y.1 → EntOk (ps.foldl rPart y).1
  | [], y, h => h
  | p :: ps, y, h => rParts_ok ps _ (putVal_ok h (rVal_ok p y.2))
theorem rEnt_ok (l : List UInt8) : EntOk (rEnt l).1 := rParts_ok _ _ (zeroX_ok _ (rByte_lt _))
/-! ### An entry's parts -/
def setP (y x : EntD) (p : PartK) : EntD := putVal y (valOf x p)
/-- Of an entry what its kind has. -/
def plainX (x : EntD) : EntD := (kindP x.kind).foldl (fun y p => setP y x p) { zeroX with kind := x.kind }
/-- An entry that may be told. -/
def mayX (x : EntD) : Prop := kindK x.kind = true ∧ (kindP x.kind).all (mayPart x) = true ∧ plainX x = x
theorem OpOk.heads {o : OpD} (h : OpOk o) : HeadOk o.h ∧ ∀ p ∈ o.parts, HeadOk p.h := by
  obtain ⟨a, ps⟩ := o
  simp only [OpOk] at h
  refine ⟨h.1, fun p hp => ?_⟩
  have := OpsOk.mem h.2 p hp
  obtain ⟨b, qs⟩ := p
  simp only [OpOk] at this
  exact this.1
theorem put_via {α : Type} {f : RS → α × RS} {e : α → List UInt8} {d : α → Prop} (h : Pair f e d) (c : α → PartV) (x : α) (r : List UInt8) (hx : d x) (g : RS → PartV × RS) (hg : ∀ s, g s = (c (f s).1, (f s).2)) : g (e x ++ r, false) = (c x, (r, false)) := by
  rw [hg, h.put x r hx]
theorem good_via {α : Type} {f : RS → α × RS} {e : α → List UInt8} {d : α → Prop} (h : Pair f e d) (c : α → PartV) (he : ∀ x, valB (c x) = e x) (hd : ∀ x, d x → valMay (c x) = true) (s : RS) (q : PartV × RS) (hq : q = (c (f s).1, (f s).2)) (hs : q.2.2 = false) :
    s = (valB q.1 ++ q.2.1, false) ∧ valMay q.1 = true := by
  subst hq
  obtain ⟨h1, h2⟩ := h.good s hs
  exact ⟨by rw [he]; exact h1, hd _ h2⟩
theorem pair_client : Pair (rSeq rSmall rSmall) (fun p => be 8 p.1 ++ be 8 p.2) (fun p => p.1 < 2 ^ 32 ∧ p.2 < 2 ^ 32) := pair_small.seq pair_small
theorem rVal_put (v : PartV) (r : List UInt8) (h : valOk v) (hp : valMay v = true) : rVal v.k (valB v ++ r, false) = (v, (r, false)) := by
  cases v with
  | client c q => exact put_via pair_client (fun p => .client p.1 p.2) (c, q) r h (rVal .client) (fun s => rfl)
  | owner s n => exact put_via pair_sess (fun p => .owner p.1 p.2) (s, n) r ⟨(maySess_iff _).1 hp, h.2⟩ (rVal .owner) (fun s => rfl)
  | op o => exact put_via pair_op .op o r ⟨h.heads.1, h.heads.2, hp⟩ (rVal .op) (fun s => rfl)
  | item x => exact put_via pair_item .item x r ⟨h, hp⟩ (rVal .item) (fun s => rfl)
  | site s => exact put_via pair_rSite .site s r (by simpa [valMay] using hp) (rVal .site) (fun s => rfl)
  | wher q => exact put_via (pair_region 0 (by decide)) .wher q r (by simpa [valMay] using hp) (rVal .wher) (fun s => rfl)
  | epoch e => exact put_via pair_uint .epoch e r h (rVal .epoch) (fun s => rfl)
  | stamp t => exact put_via pair_stamp .stamp t r ⟨by simpa [valMay] using hp, h⟩ (rVal .stamp) (fun s => rfl)
theorem valOf_k (x : EntD) (p : PartK) : (valOf x p).k = p := by cases p <;> rfl
theorem rPart_put (y x : EntD) (p : PartK) (r : List UInt8) (h : EntOk x) (hp : mayPart x p = true) : rPart (y, (partB x p ++ r, false)) p = (setP y x p, (r, false)) := by
  have := rVal_put (valOf x p) r (valOf_ok h p) hp
  rw [valOf_k] at this
  unfold rPart setP partB
  simp only [this]
theorem rParts_put (x : EntD) (h : EntOk x) (r : List UInt8) : ∀ (ps : List PartK) (y : EntD), ps.all (mayPart x) = true → ps.foldl rPart (y, (ps.flatMap (partB x) ++ r, false)) = (ps.foldl (fun y p => setP y x p) y, (r, false))
  | [], y, _ => rfl
  | p :: ps, y, hm => by
    rw [List.all_cons, Bool.and_eq_true] at hm
    rw [List.flatMap_cons, List.foldl_cons, List.append_assoc, rPart_put y x p _ h hm.1]
    exact rParts_put x h r ps _ hm.2
theorem rKind_put (x : EntD) (r : List UInt8) (h : x.kind < 256) : rByte (be 1 x.kind ++ r, false) = (x.kind, (r, false)) := rByte_be _ _ h
theorem rEnt_put (x : EntD) (r : List UInt8) (h : EntOk x) (hm : (kindP x.kind).all (mayPart x) = true) : rEnt (tellB x ++ r) = (plainX x, (r, false)) := by
  unfold rEnt rKind tellB
  rw [List.append_assoc, rKind_put x _ h.kind]
  exact rParts_put x h r _ _ hm
theorem rEnt_kind (x : EntD) (r : List UInt8) (h : EntOk x) : (rByte (tellB x ++ r, false)).1 = x.kind := by
  unfold tellB
  rw [List.append_assoc, rKind_put x _ h.kind]
theorem valOf_put (y : EntD) (v : PartV) : valOf (putVal y v) v.k = v := by cases v <;> rfl
theorem valOf_other (y : EntD) (v : PartV) (p : PartK) (h : p ≠ v.k) : valOf (putVal y v) p = valOf y p := by
  cases v <;> cases p <;> first | exact absurd rfl h | rfl
theorem parts_other (p : PartK) : ∀ (ps : List PartK) (y : EntD × RS), p ∉ ps → valOf (ps.foldl rPart y).1 p = valOf y.1 p
  | [], y, _ => rfl
  | q :: ps, y, h => by
    rw [List.mem_cons, not_or] at h
    rw [List.foldl_cons, parts_other p ps (rPart y q) h.2]
    exact valOf_other _ _ _ (by rw [rVal_k]; exact h.1)
theorem rVal_good (p : PartK) (s : RS) (hs : (rVal p s).2.2 = false) : s = (valB (rVal p s).1 ++ (rVal p s).2.1, false) ∧ valMay (rVal p s).1 = true := by
  cases p with
  | client => exact good_via pair_client (fun p => .client p.1 p.2) (fun _ => rfl) (fun _ _ => rfl) s _ rfl hs
  | owner => exact good_via pair_sess (fun p => .owner p.1 p.2) (fun _ => rfl) (fun _ h => (maySess_iff _).2 h.1) s _ rfl hs
  | op => exact good_via pair_op .op (fun _ => rfl) (fun _ h => h.2.2) s _ rfl hs
  | item => exact good_via pair_item .item (fun _ => rfl) (fun _ h => h.2) s _ rfl hs
  | site => exact good_via pair_rSite .site (fun _ => rfl) (fun _ h => by simpa [valMay] using h) s _ rfl hs
  | wher => exact good_via (pair_region 0 (by decide)) .wher (fun _ => rfl) (fun _ h => by simpa [valMay] using h) s _ rfl hs
  | epoch => exact good_via pair_uint .epoch (fun _ => rfl) (fun _ _ => rfl) s _ rfl hs
  | stamp => exact good_via pair_stamp .stamp (fun _ => rfl) (fun _ h => by simpa [valMay] using h.1) s _ rfl hs
theorem rPart_val (y : EntD × RS) (p : PartK) : valOf (rPart y p).1 p = (rVal p y.2).1 := by
  have := valOf_put y.1 (rVal p y.2).1
  rw [rVal_k] at this
  exact this
theorem rParts_good : ∀ (ps : List PartK) (y : EntD × RS), ps.Nodup → (ps.foldl rPart y).2.2 = false → y.2 = (ps.flatMap (partB (ps.foldl rPart y).1) ++ (ps.foldl rPart y).2.1, false) ∧ ps.all (mayPart (ps.foldl rPart y).1) = true
  | [], y, _, h => ⟨Prod.ext rfl h, rfl⟩
  | p :: ps, y, hn, h => by
    obtain ⟨n1, n2⟩ := List.nodup_cons.1 hn
    obtain ⟨h1, h2⟩ := rParts_good ps (rPart y p) n2 h
    have h3 : (rPart y p).2.2 = false := by rw [h1]
    obtain ⟨h4, h5⟩ := rVal_good p y.2 h3
    have h6 := parts_other p ps (rPart y p) n1
    rw [rPart_val] at h6
    have h8 : (rVal p y.2).2.1 = _ := fst_of h1
    rw [List.foldl_cons, List.flatMap_cons, List.all_cons, h2, List.append_assoc]
    unfold partB mayPart
    rw [h6, h5]
    refine ⟨?_, rfl⟩
    have h9 : (valB (rVal p y.2).1 ++ (ps.flatMap (fun q => valB (valOf (ps.foldl rPart (rPart y p)).1 q)) ++ (ps.foldl rPart (rPart y p)).2.1)) = valB (rVal p y.2).1 ++ (rVal p y.2).2.1 := by rw [h8]; rfl
    rw [h9]
    exact h4
theorem kindP_nodup (n : Nat) : (kindP n).Nodup := by
  by_cases h : n ≤ 9
  · rcases (by omega : n = 0 ∨ n = 1 ∨ n = 2 ∨ n = 3 ∨ n = 4 ∨ n = 5 ∨ n = 6 ∨ n = 7 ∨ n = 8 ∨ n = 9) with rfl | rfl | rfl | rfl | rfl | rfl | rfl | rfl | rfl | rfl <;> decide
  · unfold kindP
    split <;> first | omega | exact List.nodup_nil
theorem putVal_kind (y : EntD) (v : PartV) : (putVal y v).kind = y.kind := by cases v <;> rfl
theorem rParts_kind : ∀ (ps : List PartK) (y : EntD × RS), (ps.foldl rPart y).1.kind = y.1.kind
  | [], y => rfl
  | p :: ps, y => by rw [List.foldl_cons, rParts_kind ps]; exact putVal_kind _ _
theorem rEnt_kind' (l : List UInt8) : (rEnt l).1.kind = (rByte (l, false)).1 := rParts_kind _ _
theorem plain_rParts : ∀ (ps : List PartK) (y : EntD × RS), ps.Nodup → ps.foldl (fun z p => setP z (ps.foldl rPart y).1 p) y.1 = (ps.foldl rPart y).1 := by
  have key : ∀ (ps : List PartK) (y : EntD × RS) (X : EntD), (∀ p ∈ ps, valOf X p = valOf (ps.foldl rPart y).1 p) → ps.Nodup → ps.foldl (fun z p => setP z X p) y.1 = (ps.foldl rPart y).1 := by
    intro ps
    induction ps with
    | nil => intro y X _ _; rfl
    | cons p ps ih =>
      intro y X h hn
      obtain ⟨n1, n2⟩ := List.nodup_cons.1 hn
      rw [List.foldl_cons, List.foldl_cons]
      have h0 := h p (by simp)
      rw [List.foldl_cons, parts_other p ps (rPart y p) n1, rPart_val] at h0
      have e : setP y.1 X p = (rPart y p).1 := by unfold setP; rw [h0]; rfl
      rw [e]
      exact ih (rPart y p) X (fun q hq => by rw [h q (by simp [hq]), List.foldl_cons]) n2
  intro ps y hn
  exact key ps y _ (fun p _ => rfl) hn
theorem plain_rEnt (l : List UInt8) : plainX (rEnt l).1 = (rEnt l).1 := by
  unfold plainX
  rw [rEnt_kind']
  exact plain_rParts _ (rKind l) (kindP_nodup _)
theorem entOk_more (x : EntD) (r : List UInt8) (h : EntOk x) (hk : kindK x.kind = true) (hm : (kindP x.kind).all (mayPart x) = true) : entOk (tellB x ++ r) = decide (r = []) ∧ (rEnt (tellB x ++ r)).1 = plainX x := by
  unfold entOk
  rw [rEnt_kind x r h, rEnt_put x r h hm, hk]
  refine ⟨?_, rfl⟩
  cases r <;> simp [rDone]
theorem entOk_tell (x : EntD) (h : EntOk x) (hk : kindK x.kind = true) (hm : (kindP x.kind).all (mayPart x) = true) : entOk (tellB x) = true ∧ (rEnt (tellB x)).1 = plainX x := by
  have := entOk_more x [] h hk hm
  rw [List.append_nil] at this
  exact ⟨by rw [this.1]; rfl, this.2⟩
theorem entOk_good {l : List UInt8} (h : entOk l = true) : mayX (rEnt l).1 ∧ tellB (rEnt l).1 = l := by
  unfold entOk at h
  rw [Bool.and_eq_true] at h
  obtain ⟨hk, hd⟩ := h
  have hd : rDone (rEnt l).2 = 0 := by simpa using hd
  have hb : (rEnt l).2.2 = false ∧ (rEnt l).2.1 = [] := by
    unfold rDone at hd
    split at hd
    · cases hd
    · rename_i hn
      simp at hn
      exact hn
  obtain ⟨h1, h2⟩ := rParts_good (kindP (rByte (l, false)).1) (rKind l) (kindP_nodup _) hb.1
  have h3 : (rByte (l, false)).2.2 = false := by have := snd_of h1; exact this
  obtain ⟨h4, _⟩ := pair_byte.good (l, false) h3
  refine ⟨⟨by rw [rEnt_kind']; exact hk, by rw [rEnt_kind']; exact h2, plain_rEnt l⟩, ?_⟩
  have h5 : (rByte (l, false)).2.1 = _ := fst_of h1
  have h6 : l = _ := fst_of h4
  unfold tellB
  rw [rEnt_kind']
  have hb2 : ((kindP (rByte (l, false)).1).foldl rPart (rKind l)).2.1 = [] := hb.2
  rw [hb2, List.append_nil] at h5
  show be 1 (rByte (l, false)).1 ++ (kindP (rByte (l, false)).1).flatMap (partB ((kindP (rByte (l, false)).1).foldl rPart (rKind l)).1) = l
  rw [← h5]
  exact h6.symm
/-! ### The same -/
theorem be_code {n x y : Nat} {r r' : List UInt8} (h : be n x ++ r = be n y ++ r') (hx : x < 256 ^ n) (hy : y < 256 ^ n) : x = y ∧ r = r' := by
  obtain ⟨h1, h2⟩ := List.append_inj h (by rw [be_length, be_length])
  have := congrArg val h1
  rw [val_be, val_be, Nat.mod_eq_of_lt hx, Nat.mod_eq_of_lt hy] at this
  exact ⟨this, h2⟩
theorem u64_inj {a b : Int} (ha : I64 a) (hb : I64 b) (h : u64 a = u64 b) : a = b := by rw [← i64_u64 a ha, h, i64_u64 b hb]
theorem head_code {h h' : OpH} {r r' : List UInt8} (o : HeadOk h) (o' : HeadOk h') (s1 : h.path.length < 2 ^ 32) (s2 : h.data.length < 2 ^ 32) (s3 : h'.path.length < 2 ^ 32) (s4 : h'.data.length < 2 ^ 32) (he : headB h ++ r = headB h' ++ r') : h = h' ∧ r = r' :=
  (pair_headG pair_text).code ⟨o.kind, s1, s2, o.version⟩ ⟨o'.kind, s3, s4, o'.version⟩ he
mutual
theorem opB_code : ∀ (o o' : OpD) (r r' : List UInt8), OpOk o → OpOk o' → (opB o).length < 2 ^ 32 → (opB o').length < 2 ^ 32 → opB o ++ r = opB o' ++ r' → o = o' ∧ r = r'
  | .mk h ps, .mk h' ps', r, r', k, k', l, l', e => by
    simp only [OpOk] at k k'
    rw [opB_mk] at l l' e
    rw [opB_mk] at e
    simp only [List.length_append, headB_length, be_length] at l l'
    rw [List.append_assoc, List.append_assoc, List.append_assoc, List.append_assoc] at e
    obtain ⟨hh, e0⟩ := head_code k.1 k'.1 (by omega) (by omega) (by omega) (by omega) e
    have q1 := opsB_ge ps
    have q2 := opsB_ge ps'
    obtain ⟨hl, e1⟩ := be_code (n := 8) e0 (Nat.lt_of_lt_of_le (show ps.length < 2 ^ 32 by omega) (by decide)) (Nat.lt_of_lt_of_le (show ps'.length < 2 ^ 32 by omega) (by decide))
    obtain ⟨hp, e2⟩ := opsB_code ps ps' r r' hl k.2 k'.2 (by omega) (by omega) e1
    exact ⟨by rw [hh, hp], e2⟩
theorem opsB_code : ∀ (o o' : List OpD) (r r' : List UInt8), o.length = o'.length → OpsOk o → OpsOk o' → (opsB o).length < 2 ^ 32 → (opsB o').length < 2 ^ 32 → opsB o ++ r = opsB o' ++ r' → o = o' ∧ r = r'
  | [], o', r, r', hl, k, k', l, l', e => by
    obtain rfl := List.eq_nil_of_length_eq_zero hl.symm
    refine ⟨rfl, ?_⟩
    rw [opsB_nil] at e
    exact e
  | o :: os, [], r, r', hl, k, k', l, l', e => by simp at hl
  | o :: os, o' :: os', r, r', hl, k, k', l, l', e => by
    simp only [OpsOk] at k k'
    rw [opsB_cons, List.length_append] at l l'
    rw [opsB_cons, opsB_cons, List.append_assoc, List.append_assoc] at e
    obtain ⟨ho, e2⟩ := opB_code o o' _ _ k.1 k'.1 (by omega) (by omega) e
    obtain ⟨hp, e3⟩ := opsB_code os os' r r' (by simpa using hl) k.2 k'.2 (by omega) (by omega) e2
    exact ⟨by rw [ho, hp], e3⟩
theorem opsB_ge : ∀ (o : List OpD), o.length ≤ (opsB o).length
  | [] => Nat.zero_le _
  | .mk h ps :: os => by
    have := opsB_ge os
    rw [opsB_cons, opB_mk]
    simp only [List.length_append, headB_length, List.length_cons]
    omega
end
theorem stampB_code {v v' : List Nat} {r r' : List UInt8} (h : ∀ k ∈ v, k < 2 ^ 64) (h' : ∀ k ∈ v', k < 2 ^ 64) (s : v.length < 2 ^ 32) (s' : v'.length < 2 ^ 32) (e : stampB v ++ r = stampB v' ++ r') : v = v' ∧ r = r' := by
  unfold stampB at e
  rw [List.append_assoc, List.append_assoc] at e
  obtain ⟨hl, e⟩ := be_code e (by omega) (by omega)
  exact many_code (d := (· < 2 ^ 64)) (e := be 8) (fun x y r r' hx hy he => be_code he hx hy) v v' r r' hl h h' e
/-- Nothing but the empty item has its bytes, if origin and region are 0. -/
theorem item_zero {x : ItemD} (h : ItemOk x) (ho : x.origin = 0) (hr : x.region = 0) (s1 : x.stamp.length < 2 ^ 32) (s2 : x.effs.length < 2 ^ 32) (e : itemB x = itemB zeroI) : x = zeroI := by
  obtain ⟨o, q, r, p, t, f, c⟩ := x
  simp only at ho hr s1 s2
  subst ho hr
  obtain ⟨h1, h2, h3, h4, h5, h6, h7⟩ := h
  simp only at h1 h2 h3 h4 h5 h6 h7
  have e2 : be 1 (byteOf 0) ++ (be 8 q ++ (be 8 (u64 0) ++ (be 8 p ++ (stampB t ++ (be 8 f.length ++ (f.flatMap effB ++ be 8 c)))))) = be 1 (byteOf 0) ++ (be 8 0 ++ (be 8 (u64 0) ++ (be 8 0 ++ (stampB [] ++ (be 8 0 ++ be 8 0))))) := by
    simpa [itemB, zeroI] using e
  obtain ⟨_, e3⟩ := List.append_inj e2 rfl
  obtain ⟨rfl, e4⟩ := be_code e3 h2 (by decide)
  obtain ⟨_, e5⟩ := List.append_inj e4 rfl
  obtain ⟨rfl, e6⟩ := be_code e5 h4 (by decide)
  obtain ⟨rfl, e7⟩ := stampB_code h5 (by simp) s1 (by decide) e6
  obtain ⟨hl, e8⟩ := be_code e7 (by omega) (by decide)
  obtain rfl := List.eq_nil_of_length_eq_zero hl
  have e9 : be 8 c ++ [] = be 8 0 ++ [] := by simpa using e8
  obtain ⟨rfl, _⟩ := be_code e9 (by omega) (by decide)
  rfl
/-- An entry of no more than so much. -/
structure EntFit (x : EntD) (n : Nat) : Prop where
  op : (opB x.op).length ≤ n
  item : (itemB x.item).length ≤ n
  frontier : x.frontier.length ≤ n
theorem plainX_kind (x : EntD) : (plainX x).kind = x.kind := by
  have : ∀ (ps : List PartK) (y : EntD), (ps.foldl (fun y p => setP y x p) y).kind = y.kind := by
    intro ps
    induction ps with
    | nil => intro y; rfl
    | cons p ps ih => intro y; rw [List.foldl_cons, ih]; exact putVal_kind _ _
  exact this _ _
theorem plainX_item (x : EntD) : (plainX x).item = x.item ∨ (plainX x).item = zeroI := by
  have : ∀ (ps : List PartK) (y : EntD), (y.item = x.item ∨ y.item = zeroI) → ((ps.foldl (fun y p => setP y x p) y).item = x.item ∨ (ps.foldl (fun y p => setP y x p) y).item = zeroI) := by
    intro ps
    induction ps with
    | nil => intro y h; exact h
    | cons p ps ih =>
      intro y h
      rw [List.foldl_cons]
      refine ih _ ?_
      cases p <;> first | exact h | exact .inl rfl
  exact this _ _ (.inr rfl)
theorem plainX_front (x : EntD) : (plainX x).frontier = x.frontier ∨ (plainX x).frontier = [] := by
  have : ∀ (ps : List PartK) (y : EntD), (y.frontier = x.frontier ∨ y.frontier = []) → ((ps.foldl (fun y p => setP y x p) y).frontier = x.frontier ∨ (ps.foldl (fun y p => setP y x p) y).frontier = []) := by
    intro ps
    induction ps with
    | nil => intro y h; exact h
    | cons p ps ih =>
      intro y h
      rw [List.foldl_cons]
      refine ih _ ?_
      cases p <;> first | exact h | exact .inl rfl
  exact this _ _ (.inr rfl)
theorem plainX_op (x : EntD) : (plainX x).op = x.op ∨ (plainX x).op = zeroO := by
  have : ∀ (ps : List PartK) (y : EntD), (y.op = x.op ∨ y.op = zeroO) → ((ps.foldl (fun y p => setP y x p) y).op = x.op ∨ (ps.foldl (fun y p => setP y x p) y).op = zeroO) := by
    intro ps
    induction ps with
    | nil => intro y h; exact h
    | cons p ps ih =>
      intro y h
      rw [List.foldl_cons]
      refine ih _ ?_
      cases p <;> first | exact h | exact .inl rfl
  exact this _ _ (.inr rfl)
theorem plainX_ok (x : EntD) (h : EntOk x) : EntOk (plainX x) := by
  have : ∀ (ps : List PartK) (y : EntD), EntOk y → EntOk (ps.foldl (fun y p => setP y x p) y) := by
    intro ps
    induction ps with
    | nil => intro y h; exact h
    | cons p ps ih => intro y hy; rw [List.foldl_cons]; exact ih _ (putVal_ok hy (valOf_ok h p))
  exact this _ _ (zeroX_ok _ h.kind)
theorem itemB_stamp (x : ItemD) : x.stamp.length ≤ (itemB x).length ∧ x.effs.length ≤ (itemB x).length := by
  have h : ∀ l : List EffD, l.length ≤ (l.flatMap effB).length := by
    intro l
    induction l with
    | nil => simp
    | cons e l ih => rw [List.flatMap_cons, List.length_append, List.length_cons, effB_length]; omega
  have := h x.effs
  simp only [itemB, List.length_append, be_length, stampB_length]
  omega
theorem whole_inj {x : EntD} {n : Nat} (h : EntOk x) (hf : EntFit x n) (hn : n < 2 ^ 32) (e : wholeB x = wholeB (plainX x)) : x = plainX x := by
  have hy := plainX_ok x h
  have hk := plainX_kind x
  obtain ⟨y, hyd⟩ : ∃ y, y = plainX x := ⟨_, rfl⟩
  have hi := plainX_item x
  have ho := plainX_op x
  have hr := plainX_front x
  rw [← hyd] at e hy hk hi ho hr ⊢
  unfold wholeB at e
  simp only [List.append_assoc] at e
  have hL : ∀ z : EntD, EntOk z → ∀ k ∈ wholeL z, k < 2 ^ 64 := fun z hz k hk => by
    unfold wholeL at hk
    simp only [List.mem_cons, List.not_mem_nil, or_false] at hk
    rcases hk with rfl | rfl | rfl | rfl | rfl | rfl | rfl | rfl | rfl | rfl
    · exact Nat.lt_trans hz.kind (by decide)
    · exact Nat.lt_trans hz.client (by decide)
    · exact Nat.lt_trans hz.req (by decide)
    · exact u64_lt _
    · exact Nat.lt_trans hz.on (by decide)
    · exact u64_lt _
    · exact u64_lt _
    · exact hz.epoch
    · exact u64_lt _
    · exact u64_lt _
  obtain ⟨e0, e⟩ := many_code (d := (· < 2 ^ 64)) (e := be 8) (fun x y r r' hx hy he => be_code he hx hy) (wholeL x) (wholeL y) _ _ rfl (hL x h) (hL y hy) e
  unfold wholeL at e0
  simp only [List.cons.injEq, and_true] at e0
  obtain ⟨a1, a2, a3, a4, a5, a6, a7, a8, a9, a10⟩ := e0
  replace a4 := u64_inj h.osite hy.osite a4
  replace a6 := u64_inj h.site hy.site a6
  replace a7 := u64_inj h.region hy.region a7
  replace a9 := u64_inj h.item.origin hy.item.origin a9
  replace a10 := u64_inj h.item.region hy.item.region a10
  have lz : (opB zeroO).length < 2 ^ 32 := by unfold zeroO; rw [opB_mk, opsB_nil]; simp [headB_length, be_length]
  obtain ⟨a11, e⟩ := opB_code x.op y.op _ _ h.op hy.op (by have := hf.op; omega) (by rcases ho with q | q <;> rw [q] <;> first | exact lz | (have := hf.op; omega)) e
  obtain ⟨a12, e⟩ := stampB_code h.frontier hy.frontier (by have := hf.frontier; omega) (by rcases hr with q | q <;> rw [q] <;> first | (have := hf.frontier; omega) | decide) e
  have a13 : x.item = y.item := by
    rcases hi with q | q
    · exact q.symm
    · rw [q] at e a9 a10 ⊢
      obtain ⟨s1, s2⟩ := itemB_stamp x.item
      have := hf.item
      exact item_zero h.item a9 a10 (by omega) (by omega) e
  obtain ⟨x1, x2, x3, x4, x5, x6, x7, x8, x9, x10, x11⟩ := x
  obtain ⟨y1, y2, y3, y4, y5, y6, y7, y8, y9, y10, y11⟩ := y
  simp only at a1 a2 a3 a4 a5 a6 a7 a8 a11 a12 a13
  subst a1 a2 a3 a4 a5 a6 a7 a8 a11 a12 a13
  rfl
/-! ### Put and Get -/
theorem putV_may {x : EntD} {n : Nat} (h : EntOk x) (hf : EntFit x n) (hn : n < 2 ^ 32) (hm : mayX x) : putV x = if 4096 < (tellB x).length then ([], 3) else (tellB x, 0) := by
  obtain ⟨h1, h2, h3⟩ := hm
  obtain ⟨h4, h5⟩ := entOk_tell x h h1 h2
  unfold putV
  rw [h1, h2, h4, h5, h3]
  simp
theorem putV_not {x : EntD} {n : Nat} (h : EntOk x) (hf : EntFit x n) (hn : n < 2 ^ 32) (hm : ¬ mayX x) : putV x = ([], 1) := by
  unfold putV
  split
  · rfl
  · rename_i hc
    simp only [Bool.or_eq_true, Bool.not_eq_true', not_or, Bool.not_eq_false] at hc
    obtain ⟨h1, h2⟩ := hc
    obtain ⟨h4, h5⟩ := entOk_tell x h h1 h2
    rw [h4, h5, if_pos]
    have : ¬ wholeB x = wholeB (plainX x) := fun e => hm ⟨h1, h2, (whole_inj h hf hn e).symm⟩
    simp [this]
theorem putV_zero {x : EntD} {n : Nat} (h : EntOk x) (hf : EntFit x n) (hn : n < 2 ^ 32) : (putV x).2 = 0 ↔ mayX x ∧ (tellB x).length ≤ 4096 := by
  by_cases hm : mayX x
  · rw [putV_may h hf hn hm]
    split
    · simp; omega
    · simp [hm]; omega
  · rw [putV_not h hf hn hm]
    simp [hm]
theorem getV_good {l : List UInt8} (h : (getV l).2 = 0) : EntOk (getV l).1 ∧ mayX (getV l).1 ∧ tellB (getV l).1 = l ∧ l.length ≤ 4096 := by
  unfold getV at h ⊢
  split at h
  · cases h
  · rename_i hc
    rw [if_neg hc]
    simp only [Bool.or_eq_true, Bool.not_eq_true', decide_eq_true_eq, not_or, Bool.not_eq_false, Nat.not_lt] at hc
    obtain ⟨h1, h2⟩ := hc
    obtain ⟨h3, h4⟩ := entOk_good h1
    exact ⟨rEnt_ok l, h3, h4, h2⟩
theorem getV_tell {x : EntD} (h : EntOk x) (hm : mayX x) (hl : (tellB x).length ≤ 4096) : getV (tellB x) = (x, 0) := by
  obtain ⟨h1, h2, h3⟩ := hm
  obtain ⟨h4, h5⟩ := entOk_tell x h h1 h2
  unfold getV
  rw [h4, h5, h3]
  simp; omega
theorem getV_bad {l : List UInt8} (h : (getV l).2 ≠ 0) : getV l = (zeroX, 2) := by
  unfold getV at h ⊢
  split
  · rfl
  · rename_i hc
    rw [if_neg hc] at h
    exact absurd rfl h
/-- With one byte more, or one less, it is none. -/
theorem getV_more {x : EntD} (h : EntOk x) (hm : mayX x) (c : UInt8) : getV (tellB x ++ [c]) = (zeroX, 2) := by
  have := (entOk_more x [c] h hm.1 hm.2.1).1
  unfold getV
  rw [this]
  simp
theorem getV_less {x : EntD} (h : EntOk x) (hm : mayX x) (l : List UInt8) (c : UInt8) (he : tellB x = l ++ [c]) : getV l = (zeroX, 2) := by
  by_cases h0 : (getV l).2 = 0
  · exfalso
    obtain ⟨h1, h2, h3, _⟩ := getV_good h0
    have h4 := (entOk_more (getV l).1 [c] h1 h2.1 h2.2.1).1
    rw [h3, ← he, (entOk_tell x h hm.1 hm.2.1).1] at h4
    simp at h4
  · exact getV_bad h0
theorem tell_inj {x y : EntD} (hx : EntOk x) (hy : EntOk y) (mx : mayX x) (my : mayX y) (h : tellB x = tellB y) : x = y := by
  have h1 := (entOk_tell x hx mx.1 mx.2.1).2
  have h2 := (entOk_tell y hy my.1 my.2.1).2
  rw [mx.2.2] at h1
  rw [my.2.2] at h2
  rw [← h1, h, h2]
end Go.Proofs.Ytiemgmbjhllmbaa
end
