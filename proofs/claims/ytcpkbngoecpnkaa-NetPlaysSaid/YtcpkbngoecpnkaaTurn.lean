/-
  A REGION THAT DRAWS ITS ORDER, OF WHOSE OPERATIONS SOME TURN WHAT WAS THERE, ONE BEHIND THE OTHER (calls on an object: a reader): as Grow, with a state: 'S k' holds behind k such operations; the others only make new memory.
-/
import Derived.Test.YtcpkbngoecpnkaaGrow
import Derived.Test.YtcpkbngoecpnkaaBase
set_option linter.unusedVariables false
namespace Go.Proofs.Ytcpkbngoecpnkaa
open Go.RowKit

/-- Of what was there only blocks of ρ have turned. -/
structure Ch (ρ : Nat → Prop) (w w' : World) : Prop where
  os : w'.os = w.os
  tape : w'.tape = w.tape
  output : w'.output = w.output
  size : w.heap.size ≤ w'.heap.size
  block : ∀ k, k < w.heap.size → ¬ ρ k → w'.heap[k]? = w.heap[k]?
section
variable {ρ : Nat → Prop}
theorem Ch.refl (w : World) : Ch ρ w w := ⟨rfl, rfl, rfl, Nat.le_refl _, fun _ _ _ => rfl⟩
theorem Ch.trans {a b c : World} (h : Ch ρ a b) (k : Ch ρ b c) : Ch ρ a c :=
  ⟨k.os.trans h.os, k.tape.trans h.tape, k.output.trans h.output, Nat.le_trans h.size k.size, fun i hi hn => (k.block i (Nat.lt_of_lt_of_le hi h.size) hn).trans (h.block i hi hn)⟩
theorem Ch.of_gr {a b : World} (h : Gr a b) : Ch ρ a b := ⟨h.os, h.tape, h.output, h.size, fun k hk _ => h.block k hk⟩
theorem Ch.of_grownBy {a b : World} {row : Option Nat} (h : a.grownBy b row) (hr : ∀ k, row = some k → ρ k) : Ch ρ a b :=
  ⟨h.os, h.tape, h.output, h.size, fun k hk hn => h.block k hk (fun e => hn (hr k e.symm))⟩
theorem Ch.grownBy {a b : World} {g : Nat} (h : Ch (fun k => k = g) a b) : a.grownBy b (some g) := ⟨h.os, h.tape, h.output, h.size, fun k hk hn => h.block k hk (fun e => hn (by rw [e]))⟩
theorem Ch.below {a b : World} {B : Nat} (h : Ch ρ a b) (hB : B ≤ a.heap.size) (hr : ∀ k, ρ k → B ≤ k) : Below B a b := ⟨h.os, h.tape, h.output, h.size, fun k hk => h.block k (by omega) (fun hk' => by have := hr k hk'; omega)⟩
theorem Ch.cell {a b : World} (h : Ch ρ a b) {p : Addr} (hp : p.block < a.heap.size) (hn : ¬ ρ p.block) : b.cell? p = a.cell? p := World.cell?_of_block (h.block p.block hp hn)
end
theorem Sl.ch {ρ : Nat → Prop} {w w' : World} {v : Value} {xs : List Value} (h : Sl w v xs) (hg : Ch ρ w w') (hne : ∀ k, v.ownBlock = some k → ¬ ρ k) : Sl w' v xs := by
  obtain ⟨a, cap, rfl, hcap, h⟩ := h
  refine ⟨a, cap, rfl, hcap, ?_⟩
  rcases h with h | ⟨b, off, rfl, hlt, h⟩
  · exact .inl h
  · refine .inr ⟨b, off, rfl, Nat.lt_of_lt_of_le hlt hg.size, fun k hk => ?_⟩
    rw [hg.cell (p := ⟨b, off + k, none⟩) hlt (hne b rfl)]
    exact h k hk

def MonoT (ρ : Nat → Prop) (V : Sp) : Prop := ∀ v w w', Ch ρ w w' → V v w → V v w'
/-- What is said ahead of an operation: does it use the object; its value, or a word on it. -/
inductive Pt where
  | eq (c : Value)
  | ok (V : Sp)
  | useEq (c : Value)
  | use (V : Sp)
def Pt.V : Pt → Sp
  | .eq c => fun v _ => v = c
  | .useEq c => fun v _ => v = c
  | .ok V => V
  | .use V => V
def Pt.uses : Pt → Bool
  | .eq _ => false
  | .ok _ => false
  | .useEq _ => true
  | .use _ => true
def Pt.mono (ρ : Nat → Prop) : Pt → Prop
  | .eq _ => True
  | .useEq _ => True
  | .ok V => MonoT ρ V
  | .use V => MonoT ρ V
theorem Pt.mono_V {ρ : Nat → Prop} {p : Pt} (h : p.mono ρ) : MonoT ρ p.V := by
  cases p with
  | eq c => exact fun v w w' _ h => h
  | useEq c => exact fun v w w' _ h => h
  | ok V => exact h
  | use V => exact h

def resT (P : Program) (R : World → World → Prop) (W : World) (V : Sp) : Result Next → Prop
  | .ok (.value v) W' => R W W' ∧ V v W'
  | .ok .skip W' => R W W' ∧ V undef W'
  | .ok (.enter f args) W' => Gr W W' ∧ Calls P f args W' fun e W'' => ∃ v, e = .returned v ∧ R W W'' ∧ V v W''
  | _ => False
def opT (P : Program) (R : World → World → Prop) (ops : Array Oper) (o : Oper) (a : Act) (W : World) (V : Sp) : Prop :=
  if Region.wanted o (yielded ops a.tmps) then resT P R W V ((execOp a.eval o).run P W) else R W W ∧ V undef W

/-- Behind a user the state is one further. -/
def usedR (ρ : Nat → Prop) (S : Nat → World → Prop) (k : Nat) (W W' : World) : Prop := Ch ρ W W' ∧ S (k + 1) W'

def wpT (P : Program) (ρ : Nat → Prop) (S : Nat → World → Prop) (ops : Array Oper) (w : World) (Q : Exit → Act → World → Prop) : List Pt → List (Nat × (World → Prop)) → Nat → Nat → List Oper → Act → Prop
  | _, seen, _, k, [], a => ∀ W, Ch ρ w W → S k W → (∀ p ∈ seen, p.2 W) → Q .normal a W
  | .eq c :: ps, seen, i, k, o :: rest, a =>
    (∀ W, Ch ρ w W → (∀ p ∈ seen, needs o p.1 = true → p.2 W) → opT P Gr ops o a W fun v _ => v = c) ∧ wpT P ρ S ops w Q ps seen (i + 1) k rest (a.put o.dst c)
  | .ok V :: ps, seen, i, k, o :: rest, a =>
    (∀ W, Ch ρ w W → (∀ p ∈ seen, needs o p.1 = true → p.2 W) → opT P Gr ops o a W V) ∧ ∀ v, wpT P ρ S ops w Q ps ((i, V v) :: seen) (i + 1) k rest (a.put o.dst v)
  | .useEq c :: ps, seen, i, k, o :: rest, a =>
    (∀ W, Ch ρ w W → S k W → (∀ p ∈ seen, needs o p.1 = true → p.2 W) → opT P (usedR ρ S k) ops o a W fun v _ => v = c) ∧ wpT P ρ S ops w Q ps seen (i + 1) (k + 1) rest (a.put o.dst c)
  | .use V :: ps, seen, i, k, o :: rest, a =>
    (∀ W, Ch ρ w W → S k W → (∀ p ∈ seen, needs o p.1 = true → p.2 W) → opT P (usedR ρ S k) ops o a W V) ∧ ∀ v, wpT P ρ S ops w Q ps ((i, V v) :: seen) (i + 1) (k + 1) rest (a.put o.dst v)
  | [], _, _, _, _ :: _, _ => False

section
variable {P : Program} {ρ : Nat → Prop} {S : Nat → World → Prop} {ops : Array Oper} {w : World} {Q : Exit → Act → World → Prop} {ps : List Pt} {seen : List (Nat × (World → Prop))} {i k : Nat} {o : Oper} {rest : List Oper} {a : Act}
theorem wpT_eq (c : Value) (h : ∀ W, Ch ρ w W → (∀ p ∈ seen, needs o p.1 = true → p.2 W) → opT P Gr ops o a W fun v _ => v = c) (h2 : wpT P ρ S ops w Q ps seen (i + 1) k rest (a.put o.dst c)) : wpT P ρ S ops w Q (.eq c :: ps) seen i k (o :: rest) a := ⟨h, h2⟩
theorem wpT_ok (V : Sp) (h : ∀ W, Ch ρ w W → (∀ p ∈ seen, needs o p.1 = true → p.2 W) → opT P Gr ops o a W V) (h2 : ∀ v, wpT P ρ S ops w Q ps ((i, V v) :: seen) (i + 1) k rest (a.put o.dst v)) : wpT P ρ S ops w Q (.ok V :: ps) seen i k (o :: rest) a := ⟨h, h2⟩
theorem wpT_useEq (c : Value) (h : ∀ W, Ch ρ w W → S k W → (∀ p ∈ seen, needs o p.1 = true → p.2 W) → opT P (usedR ρ S k) ops o a W fun v _ => v = c) (h2 : wpT P ρ S ops w Q ps seen (i + 1) (k + 1) rest (a.put o.dst c)) : wpT P ρ S ops w Q (.useEq c :: ps) seen i k (o :: rest) a := ⟨h, h2⟩
theorem wpT_use (V : Sp) (h : ∀ W, Ch ρ w W → S k W → (∀ p ∈ seen, needs o p.1 = true → p.2 W) → opT P (usedR ρ S k) ops o a W V) (h2 : ∀ v, wpT P ρ S ops w Q ps ((i, V v) :: seen) (i + 1) (k + 1) rest (a.put o.dst v)) : wpT P ρ S ops w Q (.use V :: ps) seen i k (o :: rest) a := ⟨h, h2⟩
theorem wpT_nil (h : ∀ W, Ch ρ w W → S k W → (∀ p ∈ seen, p.2 W) → Q .normal a W) : wpT P ρ S ops w Q ps seen i k [] a := by cases ps <;> exact h
end

/-- How many of the first users there are. -/
def rank (ps : List Pt) (i : Nat) : Nat := ((ps.take i).filter Pt.uses).length
theorem rank_succ (ps : List Pt) (i : Nat) (p : Pt) (h : ps[i]? = some p) : rank ps (i + 1) = rank ps i + (if p.uses then 1 else 0) := by
  obtain ⟨hlt, he⟩ := List.getElem?_eq_some_iff.1 h
  unfold rank
  rw [List.take_succ_eq_append_getElem hlt, he, List.filter_append, List.length_append]
  cases hu : p.uses <;> simp [hu]

/-- Users wait for one another. -/
def chkT (ops : Array Oper) (ps : List Pt) : Bool :=
  (List.range ops.size).all fun j => !((ps[j]?).map Pt.uses).getD false || (List.range j).all fun i => !((ps[i]?).map Pt.uses).getD false || ((Region.before ops).getD j 0).testBit i
theorem chkT_spec {ops : Array Oper} {ps : List Pt} (h : chkT ops ps = true) {i j : Nat} {pi pj : Pt} (hj : j < ops.size) (hij : i < j) (hi : ps[i]? = some pi) (hpj : ps[j]? = some pj) (ui : pi.uses = true) (uj : pj.uses = true) :
    ((Region.before ops).getD j 0).testBit i = true := by
  unfold chkT at h
  rw [List.all_eq_true] at h
  have h1 := h j (List.mem_range.2 hj)
  rw [hpj] at h1
  simp only [Option.map_some, Option.getD_some, uj, Bool.not_true, Bool.false_or, List.all_eq_true] at h1
  have h2 := h1 i (List.mem_range.2 hij)
  rw [hi] at h2
  simpa [ui] using h2

section
variable {P : Program} {ρ : Nat → Prop} {S : Nat → World → Prop} {ops : Array Oper} {w : World} {Q : Exit → Act → World → Prop}

def OblT (P : Program) (ρ : Nat → Prop) (S : Nat → World → Prop) (ops : Array Oper) (w : World) (a0 : Act) (ps : List Pt) (val : Nat → Value) (k : Nat) : Prop :=
  ∀ o p, ops[k]? = some o → ps[k]? = some p → ∀ W, Ch ρ w W → (p.uses = true → S (rank ps k) W) → (∀ j pj, j < k → ps[j]? = some pj → needs o j = true → pj.V (val j) W) →
    opT P (if p.uses then usedR ρ S (rank ps k) else Gr) ops o (tf ops val a0 (List.range k)) W p.V
def FinT (ρ : Nat → Prop) (S : Nat → World → Prop) (ops : Array Oper) (w : World) (Q : Exit → Act → World → Prop) (a0 : Act) (ps : List Pt) (val : Nat → Value) : Prop :=
  ∀ W, Ch ρ w W → S (rank ps ops.size) W → (∀ j pj, j < ops.size → ps[j]? = some pj → pj.V (val j) W) → Q .normal (tf ops val a0 (List.range ops.size)) W
def HoldsT (ps : List Pt) (val : Nat → Value) : Prop := ∀ k c, (ps[k]? = some (.eq c) ∨ ps[k]? = some (.useEq c)) → val k = c

theorem wpT_obl (a0 : Act) (val : Nat → Value) (rest : List Oper) : ∀ (ps pre : List Pt) (seen : List (Nat × (World → Prop))) (i k : Nat) (a : Act),
    wpT P ρ S ops w Q ps seen i k rest a → pre.length = i → k = rank (pre ++ ps) i → rest = ops.toList.drop i → i ≤ ops.size → a = tf ops val a0 (List.range i) → HoldsT (pre ++ ps) val →
    (∀ p ∈ seen, ∃ pj, (pre ++ ps)[p.1]? = some pj ∧ p.1 < i ∧ p.2 = pj.V (val p.1)) →
    (∀ k, i ≤ k → k < ops.size → OblT P ρ S ops w a0 (pre ++ ps) val k ∧ ∃ p, (pre ++ ps)[k]? = some p) ∧ FinT ρ S ops w Q a0 (pre ++ ps) val := by
  induction rest with
  | nil =>
    intro ps pre seen i k a h hl hk hr hi ha hv hs
    have hn : i = ops.size := by
      have := congrArg List.length hr
      simp at this
      omega
    subst hn
    refine ⟨fun k h1 h2 => absurd h1 (by omega), fun W hW hS hall => ?_⟩
    rw [← ha]
    have hfin : ∀ W, Ch ρ w W → S k W → (∀ p ∈ seen, p.2 W) → Q .normal a W := by cases ps with
      | nil => exact h
      | cons p ps => cases p <;> exact h
    refine hfin W hW (hk ▸ hS) fun p hp => ?_
    obtain ⟨pj, h1, h2, h3⟩ := hs p hp
    rw [h3]
    exact hall _ pj h2 h1
  | cons o rest ih =>
    intro ps pre seen i k a h hl hk hr hi ha hv hs
    have hlt : i < ops.size := by
      rcases Nat.lt_or_ge i ops.size with h | h
      · exact h
      · rw [List.drop_eq_nil_of_le (by simpa using h)] at hr; cases hr
    have ho : ops[i]? = some o := by
      have h0 : (ops.toList.drop i)[0]? = some o := by rw [← hr]; rfl
      simpa using h0
    have hr' : rest = ops.toList.drop (i + 1) := by
      have := congrArg List.tail hr
      simpa using this
    cases ps with
    | nil => exact h.elim
    | cons p ps =>
      have hat : (pre ++ p :: ps)[i]? = some p := by rw [← hl]; simp
      have happ : pre ++ p :: ps = (pre ++ [p]) ++ ps := by simp
      have hdst : dstOf ops i = o.dst := by simp [dstOf, ho]
      have key : (∀ W, Ch ρ w W → (p.uses = true → S k W) → (∀ q ∈ seen, needs o q.1 = true → q.2 W) → opT P (if p.uses then usedR ρ S k else Gr) ops o a W p.V) → OblT P ρ S ops w a0 (pre ++ p :: ps) val i := by
        intro hk' o' p' ho' hp' W hW hS hd
        rw [ho] at ho'; injection ho' with ho'; subst ho'
        rw [hat] at hp'; injection hp' with hp'; subst hp'
        rw [← ha, ← hk]
        refine hk' W hW (fun hu => hk ▸ hS hu) fun q hq hn => ?_
        obtain ⟨pj, h1, h2, h3⟩ := hs q hq
        rw [h3]
        exact hd _ pj h2 h1 hn
      have step : ∀ (v : Value) (k' : Nat) (seen' : List (Nat × (World → Prop))), wpT P ρ S ops w Q ps seen' (i + 1) k' rest (a.put o.dst v) → k' = k + (if p.uses then 1 else 0) → val i = v →
          (∀ q ∈ seen', ∃ pj, (pre ++ p :: ps)[q.1]? = some pj ∧ q.1 < i + 1 ∧ q.2 = pj.V (val q.1)) →
          (∀ k, i + 1 ≤ k → k < ops.size → OblT P ρ S ops w a0 (pre ++ p :: ps) val k ∧ ∃ p', (pre ++ p :: ps)[k]? = some p') ∧ FinT ρ S ops w Q a0 (pre ++ p :: ps) val := by
        intro v k' seen' hw hk' hvi hs'
        have hk2 : k' = rank (pre ++ p :: ps) (i + 1) := by rw [rank_succ _ _ _ hat, ← hk]; exact hk'
        rw [happ] at hv hs' hk2 ⊢
        refine ih ps (pre ++ [p]) seen' (i + 1) k' (a.put o.dst v) hw (by simp [hl]) hk2 hr' hlt ?_ hv hs'
        rw [List.range_succ, tf_append, ← ha]
        simp [tf, hdst, hvi]
      have old : ∀ q ∈ seen, ∃ pj, (pre ++ p :: ps)[q.1]? = some pj ∧ q.1 < i + 1 ∧ q.2 = pj.V (val q.1) := fun q hq => by
        obtain ⟨pj, g1, g2, g3⟩ := hs q hq
        exact ⟨pj, g1, by omega, g3⟩
      have oldc : ∀ q ∈ (i, p.V (val i)) :: seen, ∃ pj, (pre ++ p :: ps)[q.1]? = some pj ∧ q.1 < i + 1 ∧ q.2 = pj.V (val q.1) := fun q hq => by
        rcases List.mem_cons.1 hq with rfl | hq
        · exact ⟨_, hat, by simp, rfl⟩
        · exact old q hq
      have fin : OblT P ρ S ops w a0 (pre ++ p :: ps) val i → ((∀ k, i + 1 ≤ k → k < ops.size → OblT P ρ S ops w a0 (pre ++ p :: ps) val k ∧ ∃ p', (pre ++ p :: ps)[k]? = some p') ∧ FinT ρ S ops w Q a0 (pre ++ p :: ps) val) →
          (∀ k, i ≤ k → k < ops.size → OblT P ρ S ops w a0 (pre ++ p :: ps) val k ∧ ∃ p', (pre ++ p :: ps)[k]? = some p') ∧ FinT ρ S ops w Q a0 (pre ++ p :: ps) val := by
        rintro h1 ⟨r1, r2⟩
        refine ⟨fun k hk hks => ?_, r2⟩
        by_cases hki : k = i
        · subst hki; exact ⟨h1, _, hat⟩
        · exact r1 k (by omega) hks
      cases p with
      | eq c => exact fin (key fun W hW _ hd => h.1 W hW hd) (step c k seen h.2 rfl (hv i c (.inl hat)) old)
      | ok V => exact fin (key fun W hW _ hd => h.1 W hW hd) (step (val i) k _ (h.2 (val i)) rfl rfl oldc)
      | useEq c => exact fin (key fun W hW hS hd => h.1 W hW (hS rfl) hd) (step c (k + 1) seen h.2 rfl (hv i c (.inr hat)) old)
      | use V => exact fin (key fun W hW hS hd => h.1 W hW (hS rfl) hd) (step (val i) (k + 1) _ (h.2 (val i)) rfl rfl oldc)

/-- How many users are done. -/
def rankL (ops : Array Oper) (ps : List Pt) (L : Nat → Bool) : Nat := ((List.range ops.size).filter fun k => L k && ((ps[k]?).map Pt.uses).getD false).length
theorem rank_range (ps : List Pt) (i : Nat) : rank ps i = ((List.range i).filter fun k => ((ps[k]?).map Pt.uses).getD false).length := by
  induction i with
  | zero => simp [rank]
  | succ i ih =>
    rw [List.range_succ, List.filter_append, List.length_append, ← ih]
    cases hp : ps[i]? with
    | none =>
      have hle : ps.length ≤ i := by
        rcases Nat.lt_or_ge i ps.length with h | h
        · simp [List.getElem?_eq_getElem h] at hp
        · exact h
      unfold rank
      rw [List.take_of_length_le (by omega), List.take_of_length_le hle]
      simp [hp]
    | some p =>
      rw [rank_succ ps i p hp]
      cases hu : p.uses <;> simp [hp, hu]
theorem rankL_all (ops : Array Oper) (ps : List Pt) (L : Nat → Bool) (h : ∀ k, k < ops.size → L k = true) : rankL ops ps L = rank ps ops.size := by
  rw [rank_range]
  unfold rankL
  rw [List.filter_congr fun k hk => by rw [h k (List.mem_range.1 hk), Bool.true_and]]
theorem rankL_eq (ops : Array Oper) (ps : List Pt) (L : Nat → Bool) (i : Nat) (hi : i < ops.size) (h1 : ∀ j pj, j < i → ps[j]? = some pj → pj.uses = true → L j = true)
    (h2 : ∀ j pj, i ≤ j → j < ops.size → ps[j]? = some pj → pj.uses = true → L j = false) : rankL ops ps L = rank ps i := by
  have e : List.range ops.size = List.range i ++ List.range' i (ops.size - i) := by
    rw [List.range_eq_range', List.range_eq_range']
    have e : ops.size = i + (ops.size - i) := by omega
    conv => lhs; rw [e]
    rw [← List.range'_append_1]
    simp
  rw [rank_range]
  unfold rankL
  rw [e, List.filter_append, List.length_append]
  have z : ((List.range' i (ops.size - i)).filter fun k => L k && ((ps[k]?).map Pt.uses).getD false) = [] := by
    rw [List.filter_eq_nil_iff]
    intro k hk
    have hk' := List.mem_range'_1.1 hk
    cases hp : ps[k]? with
    | none => simp
    | some p =>
      cases hu : p.uses with
      | false => simp [hu]
      | true => simp [h2 k p hk'.1 (by omega) hp hu]
  rw [z, List.filter_congr (q := fun k => ((ps[k]?).map Pt.uses).getD false) (l := List.range i)]
  · simp
  · intro k hk
    have hk' := List.mem_range.1 hk
    cases hp : ps[k]? with
    | none => simp
    | some p =>
      cases hu : p.uses with
      | false => simp [hu]
      | true => simp [hu, h1 k p hk' hp hu]
theorem rankL_set (ops : Array Oper) (ps : List Pt) (L L' : Nat → Bool) (i : Nat) (p : Pt) (hi : i < ops.size) (hp : ps[i]? = some p) (hL : L i = false) (hL' : ∀ k, L' k = (L k || decide (k = i))) :
    rankL ops ps L' = rankL ops ps L + (if p.uses then 1 else 0) := by
  unfold rankL
  rw [range_split ops.size i hi, List.filter_append, List.filter_append, List.length_append, List.length_append]
  rw [List.filter_congr (l := List.range i) (q := fun k => L k && ((ps[k]?).map Pt.uses).getD false) (fun k hk => by have := List.mem_range.1 hk; rw [hL']; simp [show ¬ k = i by omega])]
  have e2 : ∀ (M : Nat → Bool), (List.filter (fun k => M k && ((ps[k]?).map Pt.uses).getD false) (i :: List.range' (i + 1) (ops.size - (i + 1)))).length = (if M i && p.uses then 1 else 0) + (List.filter (fun k => M k && ((ps[k]?).map Pt.uses).getD false) (List.range' (i + 1) (ops.size - (i + 1)))).length := by
    intro M
    rw [List.filter_cons]
    simp only [hp, Option.map_some, Option.getD_some]
    split <;> simp [Nat.add_comm]
  rw [e2, e2]
  rw [List.filter_congr (l := List.range' (i + 1) (ops.size - (i + 1))) (q := fun k => L k && ((ps[k]?).map Pt.uses).getD false) (fun k hk => by have := List.mem_range'_1.1 hk; rw [hL']; simp [show ¬ k = i by omega])]
  rw [hL, hL' i]
  simp only [hL, decide_true, Bool.or_true, Bool.true_and, Bool.false_and]
  simp
  omega
theorem turnAny (hc : chkG ops = true) (a0 : Act) (ps : List Pt) (hct : chkT ops ps = true) (hm : ∀ p ∈ ps, p.mono ρ) (hS0 : ∀ k W W', Gr W W' → S k W → S k W')
    (hob : ∀ val, HoldsT ps val → (∀ k, k < ops.size → OblT P ρ S ops w a0 ps val k ∧ ∃ p, ps[k]? = some p) ∧ FinT ρ S ops w Q a0 ps val) :
    ∀ (fuel : Nat) (listed : Array Bool) (a : Act) (W : World) (val : Nat → Value), listed.size = ops.size → Closed ops (fun k => isL listed k = true) →
      a = tf ops val a0 ((List.range ops.size).filter (isL listed)) → Ch ρ w W → S (rankL ops ps (isL listed)) W → HoldsT ps val → (∀ k p, isL listed k = true → ps[k]? = some p → p.V (val k) W) →
      ((List.range ops.size).filter fun k => !isL listed k).length = fuel → wpAny P .any ops Q fuel listed a W := by
  -- where nothing is ready all is done
  have doneAll : ∀ (listed : Array Bool), listed.size = ops.size → Closed ops (fun k => isL listed k = true) → Region.ready .any ops listed = [] → ∀ k, k < ops.size → isL listed k = true := by
    intro listed hsz hcl hr
    have : ∀ n k, k < n → k < ops.size → isL listed k = true := by
      intro n
      induction n with
      | zero => intro k h; omega
      | succ n ih =>
        intro k hk hks
        cases hu : isL listed k with
        | true => rfl
        | false =>
          exfalso
          have hmem : k ∈ Region.ready .any ops listed := by
            rw [mem_ready]
            refine ⟨?_, ops[k], Array.getElem?_eq_getElem hks, fun e he hb => ?_⟩
            · unfold isL at hu; simp [hsz, hks] at hu ⊢; exact hu
            · have hlt := chk_edge hc (Array.getElem?_eq_getElem hks) he hb
              exact ih e.on (by omega) (by omega)
          rw [hr] at hmem
          cases hmem
    exact fun k hk => this (k + 1) k (by omega) hk
  have finish : ∀ (listed : Array Bool) (a : Act) (W : World) (val : Nat → Value), (∀ k, k < ops.size → isL listed k = true) →
      a = tf ops val a0 ((List.range ops.size).filter (isL listed)) → Ch ρ w W → S (rankL ops ps (isL listed)) W → HoldsT ps val → (∀ k p, isL listed k = true → ps[k]? = some p → p.V (val k) W) → Q .normal a W := by
    intro listed a W val hall ha hW hS hv hV
    have hf : (List.range ops.size).filter (isL listed) = List.range ops.size := List.filter_eq_self.2 fun k hk => hall k (List.mem_range.1 hk)
    rw [ha, hf]
    refine (hob val hv).2 W hW ?_ fun j pj hj hp => hV j pj (hall j hj) hp
    rw [rankL_all ops ps (isL listed) hall] at hS
    exact hS
  intro fuel
  induction fuel with
  | zero =>
    intro listed a W val hsz hcl ha hW hS hv hV hfu
    have hall : ∀ k, k < ops.size → isL listed k = true := by
      intro k hk
      have h0 := List.eq_nil_of_length_eq_zero hfu
      cases hu : isL listed k with
      | true => rfl
      | false =>
        have : k ∈ (List.range ops.size).filter fun k => !isL listed k := List.mem_filter.2 ⟨List.mem_range.2 hk, by simp [hu]⟩
        rw [h0] at this
        cases this
    refine ⟨?_, finish listed a W val hall ha hW hS hv hV⟩
    cases hr : Region.ready .any ops listed with
    | nil => rfl
    | cons k l =>
      have hk : k ∈ Region.ready .any ops listed := by rw [hr]; simp
      rw [mem_ready] at hk
      obtain ⟨h1, o, ho, _⟩ := hk
      have hks : k < ops.size := (Array.getElem?_eq_some_iff.1 ho).1
      have h2 := hall k hks
      unfold isL at h2
      simp [hsz, hks] at h1 h2
      rw [h1] at h2
      cases h2
  | succ fuel ih =>
    intro listed a W val hsz hcl ha hW hS hv hV hfu
    refine ⟨fun hr => finish listed a W val (doneAll listed hsz hcl hr) ha hW hS hv hV, fun i hi => ?_⟩
    rw [mem_ready] at hi
    obtain ⟨hun, o, ho, hall⟩ := hi
    have his : i < ops.size := (Array.getElem?_eq_some_iff.1 ho).1
    have hui : isL listed i = false := by unfold isL; simp [hsz, his] at hun ⊢; exact hun
    have hdst : dstOf ops i = o.dst := by simp [dstOf, ho]
    obtain ⟨hobl, p, hp⟩ := (hob val hv).1 i his
    have hsel := Region.noSelect_spec (chk_sel hc) i o
    have hbef : ∀ j, ((Region.before ops).getD i 0).testBit j = true → isL listed j = true := by
      intro j hj
      obtain ⟨o', ho', e, he, hbn, h⟩ := before_step ops hj
      rw [ho] at ho'; injection ho' with ho'; subst ho'
      have hLe : isL listed e.on = true := hall e he hbn
      rcases h with rfl | ⟨hlt, hb'⟩
      · exact hLe
      · exact hcl.before (e.on + 1) e.on j (by omega) hLe hb'
    -- what is later and done does not touch this operation, nor what is earlier and not done
    have hlate : ∀ k, i < k → isL listed k = true → ∀ ok, ops[k]? = some ok → o.apart ops ok = true := by
      intro k hk hL ok hok
      rcases chk_apart hc ho hok hk with h | h
      · exact h
      · exfalso
        have := hcl.before (k + 1) k i (by omega) hL h
        rw [hui] at this
        cases this
    have hearly : ∀ k, k < i → isL listed k = false → ∀ ok, ops[k]? = some ok → ok.apart ops o = true := by
      intro k hk hL ok hok
      rcases chk_apart hc hok ho hk with h | h
      · exact h
      · exfalso
        have := hbef k h
        rw [hL] at this
        cases this
    have hsp := range_split ops.size i his
    have hfL : (List.range ops.size).filter (isL listed) = (List.range i).filter (isL listed) ++ (List.range' (i + 1) (ops.size - (i + 1))).filter (isL listed) := by
      rw [hsp, List.filter_append, List.filter_cons_of_neg (by simp [hui])]
    have hagr : Agr (o.looksAt ops) a (tf ops val a0 (List.range i)) := by
      rw [ha, hfL, tf_append]
      refine (agr_skips _ (Agr.refl _ _) ?_).trans (Agr.symm (agr_filter (isL listed) (List.range i) (Agr.refl _ _) ?_))
      · intro k hk t ht
        obtain ⟨hk1, hk2⟩ := List.mem_filter.1 hk
        have hik : i < k := by have := List.mem_range'_1.1 hk1; omega
        cases hok : ops[k]? with
        | none => simp [dstOf, hok] at ht
        | some ok =>
          have := (Oper.apart_spec (hlate k hik hk2 ok hok)).2.2
          exact this t (by simpa [dstOf, hok] using ht)
      · intro k hk hL t ht
        cases hok : ops[k]? with
        | none => simp [dstOf, hok] at ht
        | some ok =>
          have := (Oper.apart_spec (hearly k (List.mem_range.1 hk) hL ok hok)).1
          exact this t (by simpa [dstOf, hok] using ht)
    -- where this operation uses the object, just the earlier users are done
    have hrk : p.uses = true → rankL ops ps (isL listed) = rank ps i := by
      intro hu
      refine rankL_eq ops ps (isL listed) i his (fun j pj hj hpj huj => ?_) (fun j pj hj hjs hpj huj => ?_)
      · exact hbef j (chkT_spec hct his hj hpj hp huj hu)
      · by_cases hji : j = i
        · rw [hji]; exact hui
        · cases hL : isL listed j with
          | false => rfl
          | true =>
            have := hcl.before (j + 1) j i (by omega) hL (chkT_spec hct hjs (by omega) hp hpj hu huj)
            rw [hui] at this
            cases this
    have hop : opT P (if p.uses then usedR ρ S (rank ps i) else Gr) ops o (tf ops val a0 (List.range i)) W p.V := hobl o p ho hp W hW (fun hu => hrk hu ▸ hS) fun j pj hj hpj hn => by
      refine hV j pj ?_ hpj
      unfold needs at hn
      obtain ⟨e, he, hb⟩ := List.any_eq_true.1 hn
      simp only [Bool.and_eq_true, beq_iff_eq] at hb
      rw [← hb.2]
      exact hall e (by simpa using he) hb.1
    -- what stands behind it
    have hnext : ∀ v W', (if p.uses then usedR ρ S (rank ps i) else Gr) W W' → p.V v W' → wpAny P .any ops Q fuel (listed.setIfInBounds i true) (a.put o.dst v) W' := by
      intro v W' hg0 hpv
      have hg : Ch ρ W W' := by
        cases hu : p.uses with
        | true => rw [if_pos hu] at hg0; exact hg0.1
        | false => rw [if_neg (by simp [hu])] at hg0; exact Ch.of_gr hg0
      let val' : Nat → Value := fun k => if k = i then v else val k
      have hisL : ∀ k, isL (listed.setIfInBounds i true) k = (isL listed k || decide (k = i)) := fun k => isL_set (by rw [hsz]; exact his)
      refine ih (listed.setIfInBounds i true) (a.put o.dst v) W' val' (by simp [hsz]) ?_ ?_ (hW.trans hg) ?_ ?_ ?_ ?_
      · intro j oj hj hoj e he hb
        show isL _ e.on = true
        rw [hisL]
        have hj' : isL (listed.setIfInBounds i true) j = true := hj
        rw [hisL] at hj'
        simp only [Bool.or_eq_true, decide_eq_true_eq] at hj' ⊢
        rcases hj' with h | rfl
        · exact .inl (hcl j oj h hoj e he hb)
        · rw [ho] at hoj; injection hoj with hoj; subst hoj
          exact .inl (hall e he hb)
      · have hfL' : (List.range ops.size).filter (isL (listed.setIfInBounds i true)) = (List.range i).filter (isL listed) ++ i :: (List.range' (i + 1) (ops.size - (i + 1))).filter (isL listed) := by
          rw [hsp, List.filter_append, List.filter_cons_of_pos (by rw [hisL]; simp)]
          congr 1
          · refine List.filter_congr fun k hk => ?_
            have := List.mem_range.1 hk
            rw [hisL]; simp; omega
          · congr 1
            refine List.filter_congr fun k hk => ?_
            have := List.mem_range'_1.1 hk
            rw [hisL]; simp; omega
        rw [hfL', tf_append]
        have e1 : ∀ (b : Act) (l : List Nat), tf ops val' b (i :: l) = tf ops val' (b.put o.dst v) l := by
          intro b l
          simp only [tf, List.foldl_cons, hdst]
          congr 2
          simp [val']
        rw [e1, ha, hfL, tf_append]
        rw [tf_put o.dst v _ (fun k hk t ht => ?_)]
        · rw [tf_congr (val := val) (val' := val') ((List.range i).filter (isL listed)) (fun k hk => ?_), tf_congr (val := val) (val' := val') ((List.range' (i + 1) (ops.size - (i + 1))).filter (isL listed)) (fun k hk => ?_)]
          · have := List.mem_range'_1.1 (List.mem_filter.1 hk).1
            simp [val']; omega
          · have := List.mem_range.1 (List.mem_filter.1 hk).1
            simp [val']; omega
        · obtain ⟨hk1, hk2⟩ := List.mem_filter.1 hk
          have hik : i < k := by have := List.mem_range'_1.1 hk1; omega
          cases hok : ops[k]? with
          | none => simp [dstOf, hok]
          | some ok =>
            have := (Oper.apart_spec (hlate k hik hk2 ok hok)).2.1 t ht
            simpa [dstOf, hok] using this
      · rw [rankL_set ops ps (isL listed) (isL (listed.setIfInBounds i true)) i p his hp hui hisL]
        cases hu : p.uses with
        | true => rw [if_pos hu] at hg0; rw [hrk hu]; exact hg0.2
        | false => rw [if_neg (by simp [hu])] at hg0; exact hS0 _ _ _ hg0 hS
      · intro k c hk
        by_cases hki : k = i
        · subst hki
          have hpc : p = .eq c ∨ p = .useEq c := by
            rcases hk with hk | hk <;> rw [hk] at hp <;> injection hp with hp
            · exact .inl hp.symm
            · exact .inr hp.symm
          have hpv' : v = c := by rcases hpc with rfl | rfl <;> exact hpv
          simp [val', hpv']
        · simp [val', hki]; exact hv k c hk
      · intro k pk hk hpk
        rw [hisL] at hk
        by_cases hki : k = i
        · subst hki
          rw [hpk] at hp
          injection hp with hp
          subst hp
          simpa [val'] using hpv
        · simp only [hki, decide_false, Bool.or_false] at hk
          have := hV k pk hk hpk
          simp only [val', hki, if_false]
          exact Pt.mono_V (hm pk (List.mem_of_getElem? hpk)) _ _ _ hg this
      · have hcount : ((List.range ops.size).filter fun k => !isL listed k).length = ((List.range ops.size).filter fun k => !isL (listed.setIfInBounds i true) k).length + 1 := by
          rw [hsp, List.filter_append, List.filter_append, List.filter_cons_of_pos (by simp [hui]), List.filter_cons_of_neg (by rw [hisL]; simp)]
          rw [List.filter_congr (l := List.range i) (q := fun k => !isL (listed.setIfInBounds i true) k) (fun k hk => by have := List.mem_range.1 hk; rw [hisL]; simp; omega),
            List.filter_congr (l := List.range' (i + 1) (ops.size - (i + 1))) (q := fun k => !isL (listed.setIfInBounds i true) k) (fun k hk => by have := List.mem_range'_1.1 hk; rw [hisL]; simp; omega)]
          simp [Nat.add_assoc]
        omega
    unfold wpOp
    simp only [ho]
    unfold opT at hop
    rw [hagr.wanted]
    split
    · rename_i hwt
      rw [if_pos hwt] at hop
      refine .inl ?_
      unfold Oper.wp
      rw [hagr.exec (fun cs b => hsel cs b ho)]
      generalize (execOp (tf ops val a0 (List.range i)).eval o).run P W = r at hop
      cases r with
      | halt x W' => cases hop
      | ok n W' =>
        cases n <;> first | exact hop.elim | skip
        case value v => exact hnext v W' hop.1 hop.2
        case skip => exact hnext undef W' hop.1 hop.2
        case enter f args =>
          refine hop.2.mono fun e W'' h => ?_
          obtain ⟨v, rfl, hg, hpv⟩ := h
          exact hnext v W'' hg hpv
    · rename_i hwt
      rw [if_neg hwt] at hop
      exact hnext undef W hop.1 hop.2
end

def allMonoT (ρ : Nat → Prop) : List Pt → Prop
  | [] => True
  | .eq _ :: r => allMonoT ρ r
  | .useEq _ :: r => allMonoT ρ r
  | .ok V :: r => MonoT ρ V ∧ allMonoT ρ r
  | .use V :: r => MonoT ρ V ∧ allMonoT ρ r
theorem allMonoT_mem {ρ : Nat → Prop} : ∀ (ps : List Pt), allMonoT ρ ps → ∀ p ∈ ps, p.mono ρ
  | [], _, p, hp => by cases hp
  | .eq c :: r, h, p, hp => by
    rcases List.mem_cons.1 hp with rfl | hp
    · trivial
    · exact allMonoT_mem r h p hp
  | .useEq c :: r, h, p, hp => by
    rcases List.mem_cons.1 hp with rfl | hp
    · trivial
    · exact allMonoT_mem r h p hp
  | .ok V :: r, h, p, hp => by
    rcases List.mem_cons.1 hp with rfl | hp
    · exact h.1
    · exact allMonoT_mem r h.2 p hp
  | .use V :: r, h, p, hp => by
    rcases List.mem_cons.1 hp with rfl | hp
    · exact h.1
    · exact allMonoT_mem r h.2 p hp

/-- THE RULE, with a state. -/
theorem wp_region_draw_turn {P : Program} {ops : List Oper} {id : Nat} {w : World} {Q : Exit → Act → World → Prop} {a : Act} (ρ : Nat → Prop) (S : Nat → World → Prop) (ps : List Pt)
    (hmix : P.follows .mixedOrders = true) (hc : chkG ops.toArray = true) (hct : chkT ops.toArray ps = true) (hm : allMonoT ρ ps) (hS0 : ∀ k W W', Gr W W' → S k W → S k W') (hS : S 0 w.drew)
    (h : wpT P ρ S ops.toArray w.drew Q ps [] 0 0 ops a) : (Code.region id ops.toArray true).wp P Q a w := by
  refine wp_region_any hmix ?_
  have hob : ∀ val, HoldsT ps val → (∀ k, k < ops.toArray.size → OblT P ρ S ops.toArray w.drew a ps val k ∧ ∃ p, ps[k]? = some p) ∧ FinT ρ S ops.toArray w.drew Q a ps val := by
    intro val hv
    have := wpT_obl a val ops ps [] [] 0 0 a h rfl rfl rfl (Nat.zero_le _) rfl (by simpa using hv) (by simp)
    simpa using this
  have hno : ∀ k, isL (Array.replicate ops.toArray.size false) k = false := by
    intro k
    simp [isL, Array.getElem?_replicate]
    split <;> simp
  have hf : (List.range ops.toArray.size).filter (isL (Array.replicate ops.toArray.size false)) = [] := by
    rw [List.filter_eq_nil_iff]
    intro k _ h
    rw [hno k] at h
    cases h
  have hr0 : rankL ops.toArray ps (isL (Array.replicate ops.toArray.size false)) = 0 := by
    unfold rankL
    rw [List.length_eq_zero_iff, List.filter_eq_nil_iff]
    intro k _ h
    rw [hno k] at h
    cases h
  exact turnAny hc a ps hct (allMonoT_mem ps hm) hS0 hob _ _ a w.drew (fun k => match ps[k]? with | some (.eq c) => c | some (.useEq c) => c | _ => undef) (by simp) (by intro j o hj; have h1 : isL (Array.replicate ops.toArray.size false) j = true := hj; rw [hno j] at h1; cases h1) (by rw [hf]; rfl) (Ch.refl _) (by rw [hr0]; exact hS) (by intro k c hk; rcases hk with hk | hk <;> simp [hk]) (by intro k p hk; rw [hno k] at hk; cases hk)
    (by
      have : (List.range ops.toArray.size).filter (fun k => !isL (Array.replicate ops.toArray.size false) k) = List.range ops.toArray.size := by
        rw [List.filter_eq_self]
        intro k _
        rw [hno k]; rfl
      rw [this]; simp)

theorem resT_eq_mk (P : Program) (W : World) (c : Value) : resT P Gr W (fun v _ => v = c) (.ok (.value c) W) := ⟨Gr.refl _, rfl⟩
theorem resT_mk {P : Program} {R : World → World → Prop} {W W' : World} {V : Sp} {v : Value} (h : R W W') (hv : V v W') : resT P R W V (.ok (.value v) W') := ⟨h, hv⟩
theorem resT_call {P : Program} {R : World → World → Prop} {W : World} {V : Sp} {f : FuncId} {args : Array Value} (h : Calls P f args W fun e W'' => ∃ v, e = .returned v ∧ R W W'' ∧ V v W'') : resT P R W V (.ok (.enter f args) W) := ⟨Gr.refl _, h⟩
end Go.Proofs.Ytcpkbngoecpnkaa
