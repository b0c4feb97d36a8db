/-
  A REGION THAT DRAWS ITS ORDER, WHOSE OPERATIONS AND CALLEES WRITE NOTHING THAT WAS THERE (they may make new memory): walked once, in the order of the text.
  Of each operation it is said ahead what it gives: a value, or a word on the value and the world that stays true while the world only grows ('plan'). Each operation is then walked in an arbitrary world that has grown out of the region's first one, with the words on just those operations that it waits for.
-/
import Derived.Orders
import Derived.Below
set_option linter.unusedVariables false
namespace Go.Proofs.Ytcpkbngoecpnkaa
open Go.RowKit

/-- The world has only grown. -/
def Gr (w w' : World) : Prop := Below w.heap.size w w'
theorem Gr.refl (w : World) : Gr w w := Below.refl _ _
theorem Gr.trans {a b c : World} (h : Gr a b) (k : Gr b c) : Gr a c := Below.trans h (Below.mono k h.size)
theorem Gr.drew {a b : World} (h : Gr a b) : Gr a b.drew := Below.drew h
theorem Gr.alloc {a b : World} (h : Gr a b) (o : Obj) : Gr a (b.alloc o) := Below.alloc h h.size o
theorem Gr.below {a b c : World} {B : Nat} (h : Below B a b) (hB : B ≤ b.heap.size) (k : Gr b c) : Below B a c := h.trans (Below.mono k hB)

abbrev Sp := Value → World → Prop
def MonoSp (V : Sp) : Prop := ∀ v w w', Gr w w' → V v w → V v w'

inductive Pl where
  | eq (c : Value)
  | ok (V : Sp)
def Pl.V : Pl → Sp
  | .eq c => fun v _ => v = c
  | .ok V => V
def Pl.mono : Pl → Prop
  | .eq _ => True
  | .ok V => MonoSp V
theorem Pl.mono_V {p : Pl} (h : p.mono) : MonoSp p.V := by
  cases p with
  | eq c => exact fun v w w' _ h => h
  | ok V => exact h

def resG (P : Program) (W : World) (V : Sp) : Result Next → Prop
  | .ok (.value v) W' => Gr W W' ∧ V v W'
  | .ok .skip W' => Gr W W' ∧ V undef W'
  | .ok (.enter f args) W' => Gr W W' ∧ Calls P f args W' fun e W'' => ∃ v, e = .returned v ∧ Gr W' W'' ∧ V v W''
  | _ => False
theorem resG_value (P : Program) (W W' : World) (V : Sp) (v : Value) : resG P W V (.ok (.value v) W') = (Gr W W' ∧ V v W') := rfl
theorem resG_skip (P : Program) (W W' : World) (V : Sp) : resG P W V (.ok .skip W') = (Gr W W' ∧ V undef W') := rfl
theorem resG_enter (P : Program) (W W' : World) (V : Sp) (f : FuncId) (args : Array Value) : resG P W V (.ok (.enter f args) W') = (Gr W W' ∧ Calls P f args W' fun e W'' => ∃ v, e = .returned v ∧ Gr W' W'' ∧ V v W'') := rfl

/-- One operation, in one world. -/
def opG (P : Program) (ops : Array Oper) (o : Oper) (a : Act) (W : World) (V : Sp) : Prop :=
  if Region.wanted o (yielded ops a.tmps) then resG P W V ((execOp a.eval o).run P W) else V undef W

def needs (o : Oper) (k : Nat) : Bool := o.after.toList.any fun e => Region.binds .any e && e.on == k

/-- The walk in the text's order. -/
def wpG (P : Program) (ops : Array Oper) (w : World) (Q : Exit → Act → World → Prop) : List Pl → List (Nat × (World → Prop)) → Nat → List Oper → Act → Prop
  | _, seen, _, [], a => ∀ W, Gr w W → (∀ p ∈ seen, p.2 W) → Q .normal a W
  | .eq c :: ps, seen, i, o :: rest, a =>
    (∀ W, Gr w W → (∀ p ∈ seen, needs o p.1 = true → p.2 W) → opG P ops o a W fun v _ => v = c) ∧ wpG P ops w Q ps seen (i + 1) rest (a.put o.dst c)
  | .ok V :: ps, seen, i, o :: rest, a =>
    (∀ W, Gr w W → (∀ p ∈ seen, needs o p.1 = true → p.2 W) → opG P ops o a W V) ∧ ∀ v, wpG P ops w Q ps ((i, V v) :: seen) (i + 1) rest (a.put o.dst v)
  | [], _, _, _ :: _, _ => False

section
variable {P : Program} {ops : Array Oper} {w : World} {Q : Exit → Act → World → Prop} {ps : List Pl} {seen : List (Nat × (World → Prop))} {i : Nat} {o : Oper} {rest : List Oper} {a : Act}
theorem wpG_eq (c : Value) (h : ∀ W, Gr w W → (∀ p ∈ seen, needs o p.1 = true → p.2 W) → opG P ops o a W fun v _ => v = c) (h2 : wpG P ops w Q ps seen (i + 1) rest (a.put o.dst c)) : wpG P ops w Q (.eq c :: ps) seen i (o :: rest) a := ⟨h, h2⟩
theorem wpG_ok (V : Sp) (h : ∀ W, Gr w W → (∀ p ∈ seen, needs o p.1 = true → p.2 W) → opG P ops o a W V) (h2 : ∀ v, wpG P ops w Q ps ((i, V v) :: seen) (i + 1) rest (a.put o.dst v)) : wpG P ops w Q (.ok V :: ps) seen i (o :: rest) a := ⟨h, h2⟩
theorem wpG_nil (h : ∀ W, Gr w W → (∀ p ∈ seen, p.2 W) → Q .normal a W) : wpG P ops w Q ps seen i [] a := by cases ps <;> exact h
end

/-! ### The closed checks -/
/-- Every edge leads back; what is not apart waits. -/
def chkG (ops : Array Oper) : Bool :=
  (ops.zipIdx.all fun (o, i) => o.after.all fun e => !Region.binds .any e || decide (e.on < i)) && Region.noSelect ops &&
  ((List.range ops.size).all fun j => match ops[j]? with
    | none => true
    | some oj => (List.range j).all fun i => match ops[i]? with
      | none => true
      | some oi => oi.apart ops oj || ((Region.before ops).getD j 0).testBit i)

section
variable {ops : Array Oper}
theorem chk_edge (h : chkG ops = true) {i : Nat} {o : Oper} (ho : ops[i]? = some o) {e : Edge} (he : e ∈ o.after) (hb : Region.binds .any e = true) : e.on < i := by
  simp only [chkG, Bool.and_eq_true] at h
  have h1 := h.1.1
  rw [Array.all_eq_true_iff_forall_mem] at h1
  have hm : (o, i) ∈ ops.zipIdx := by
    rw [Array.mem_zipIdx_iff_getElem?]; exact ho
  have h2 := h1 _ hm
  simp only [Array.all_eq_true_iff_forall_mem] at h2
  have h3 := h2 e he
  simpa [hb] using h3
theorem chk_sel (h : chkG ops = true) : Region.noSelect ops = true := by
  simp only [chkG, Bool.and_eq_true] at h
  exact h.1.2
theorem chk_apart (h : chkG ops = true) {i j : Nat} {oi oj : Oper} (hi : ops[i]? = some oi) (hj : ops[j]? = some oj) (hij : i < j) : oi.apart ops oj = true ∨ ((Region.before ops).getD j 0).testBit i = true := by
  simp only [chkG, Bool.and_eq_true] at h
  have h1 := h.2
  rw [List.all_eq_true] at h1
  have h2 := h1 j (List.mem_range.2 (Array.getElem?_eq_some_iff.1 hj).1)
  rw [hj] at h2
  simp only [List.all_eq_true] at h2
  have h3 := h2 i (List.mem_range.2 hij)
  rw [hi] at h3
  simpa using h3
end

/-! ### What stands before -/
def befStep (acc : Array Nat) (o : Oper) : Array Nat := acc.push (o.after.foldl (fun s e => if Region.binds .any e then s ||| 2 ^ e.on ||| acc.getD e.on 0 else s) 0)
theorem before_eq (ops : Array Oper) : Region.before ops = ops.toList.foldl befStep #[] := by
  unfold Region.before
  rw [← Array.foldl_toList]
  rfl

theorem foldl_bits (acc : Array Nat) (i : Nat) : ∀ (l : List Edge) (s : Nat), (l.foldl (fun s e => if Region.binds .any e then s ||| 2 ^ e.on ||| acc.getD e.on 0 else s) s).testBit i = true →
    s.testBit i = true ∨ ∃ e ∈ l, Region.binds .any e = true ∧ (e.on = i ∨ (acc.getD e.on 0).testBit i = true) := by
  intro l
  induction l with
  | nil => intro s h; exact .inl h
  | cons e l ih =>
    intro s h
    rw [List.foldl_cons] at h
    rcases ih _ h with h | ⟨e', he', hb, h'⟩
    · split at h
      · rename_i hb
        rw [Nat.testBit_or, Nat.testBit_or, Nat.testBit_two_pow] at h
        simp only [Bool.or_eq_true, decide_eq_true_eq] at h
        rcases h with (h | h) | h
        · exact .inl h
        · exact .inr ⟨e, by simp, hb, .inl h⟩
        · exact .inr ⟨e, by simp, hb, .inr h⟩
      · exact .inl h
    · exact .inr ⟨e', by simp [he'], hb, h'⟩

theorem befFold (l : List Oper) : ∀ (acc : Array Nat) (pre : List Oper), acc.size = pre.length →
    (∀ j i, (acc.getD j 0).testBit i = true → ∃ o, pre[j]? = some o ∧ ∃ e ∈ o.after, Region.binds .any e = true ∧ (e.on = i ∨ (e.on < j ∧ (acc.getD e.on 0).testBit i = true))) →
    ∀ j i, ((l.foldl befStep acc).getD j 0).testBit i = true → ∃ o, (pre ++ l)[j]? = some o ∧ ∃ e ∈ o.after, Region.binds .any e = true ∧ (e.on = i ∨ (e.on < j ∧ ((l.foldl befStep acc).getD e.on 0).testBit i = true)) := by
  induction l with
  | nil => intro acc pre hs h j i hb; simpa using h j i hb
  | cons o l ih =>
    intro acc pre hs h j i hb
    have hold : ∀ k, k < acc.size → (befStep acc o).getD k 0 = acc.getD k 0 := by
      intro k hk
      unfold befStep
      simp [Array.getElem?_push, Nat.ne_of_lt hk]
    have := ih (befStep acc o) (pre ++ [o]) (by simp [befStep, hs]) (by
      intro j i hb
      rcases Nat.lt_trichotomy j acc.size with hj | hj | hj
      · rw [hold j hj] at hb
        obtain ⟨o', ho', e, he, hbn, h'⟩ := h j i hb
        refine ⟨o', by rw [List.getElem?_append_left (by omega)]; exact ho', e, he, hbn, h'.imp id fun ⟨h1, h2⟩ => ⟨h1, ?_⟩⟩
        rw [hold _ (by omega)]; exact h2
      · subst hj
        have hv : (befStep acc o).getD acc.size 0 = o.after.foldl (fun s e => if Region.binds .any e then s ||| 2 ^ e.on ||| acc.getD e.on 0 else s) 0 := by simp [befStep]
        rw [hv, ← Array.foldl_toList] at hb
        rcases foldl_bits acc i _ _ hb with h0 | ⟨e, he, hbn, h'⟩
        · simp at h0
        · refine ⟨o, by rw [hs]; simp, e, by simpa using he, hbn, h'.imp id fun h2 => ?_⟩
          have hlt : e.on < acc.size := by
            rcases Nat.lt_or_ge e.on acc.size with h | h
            · exact h
            · simp [Array.getElem?_eq_none h] at h2
          exact ⟨hlt, by rw [hold _ hlt]; exact h2⟩
      · exfalso
        have : (befStep acc o).getD j 0 = 0 := by
          have hsz : (befStep acc o).size = acc.size + 1 := by simp [befStep]
          simp [Array.getElem?_eq_none (show (befStep acc o).size ≤ j by omega)]
        rw [this] at hb
        simp at hb) j i (by simpa using hb)
    simpa using this

theorem before_step (ops : Array Oper) {j i : Nat} (h : ((Region.before ops).getD j 0).testBit i = true) :
    ∃ o, ops[j]? = some o ∧ ∃ e ∈ o.after, Region.binds .any e = true ∧ (e.on = i ∨ (e.on < j ∧ ((Region.before ops).getD e.on 0).testBit i = true)) := by
  rw [before_eq] at h ⊢
  have := befFold ops.toList #[] [] rfl (by intro j i hb; simp at hb) j i h
  simpa using this

/-- A set of operations that holds, with each, what it waits for. -/
def Closed (ops : Array Oper) (L : Nat → Prop) : Prop := ∀ j o, L j → ops[j]? = some o → ∀ e ∈ o.after, Region.binds .any e = true → L e.on
theorem Closed.before {L : Nat → Prop} {ops : Array Oper} (hc : Closed ops L) : ∀ (n j i : Nat), j < n → L j → ((Region.before ops).getD j 0).testBit i = true → L i := by
  intro n
  induction n with
  | zero => intro j i h; omega
  | succ n ih =>
    intro j i hj hL hb
    obtain ⟨o, ho, e, he, hbn, h⟩ := before_step ops hb
    have hLe := hc j o hL ho e he hbn
    rcases h with rfl | ⟨hlt, hb'⟩
    · exact hLe
    · exact ih e.on i (by omega) hLe hb'

/-! ### The frame, put by put -/
def dstOf (ops : Array Oper) (k : Nat) : Option Tmp := (ops[k]?).bind (·.dst)
def tf (ops : Array Oper) (val : Nat → Value) (a : Act) (l : List Nat) : Act := l.foldl (fun a k => a.put (dstOf ops k) (val k)) a

structure Agr (look : List Tmp) (a b : Act) : Prop where
  size : a.tmps.size = b.tmps.size
  defers : a.defers = b.defers
  at_ : ∀ t ∈ look, a.tmps[t]? = b.tmps[t]?
theorem Agr.refl (look : List Tmp) (a : Act) : Agr look a a := ⟨rfl, rfl, fun _ _ => rfl⟩
theorem Agr.trans {look : List Tmp} {a b c : Act} (h : Agr look a b) (k : Agr look b c) : Agr look a c := ⟨h.size.trans k.size, h.defers.trans k.defers, fun t ht => (h.at_ t ht).trans (k.at_ t ht)⟩
theorem Agr.symm {look : List Tmp} {a b : Act} (h : Agr look a b) : Agr look b a := ⟨h.size.symm, h.defers.symm, fun t ht => (h.at_ t ht).symm⟩
theorem Agr.put {look : List Tmp} {a b : Act} (h : Agr look a b) (d : Option Tmp) (v : Value) : Agr look (a.put d v) (b.put d v) := by
  cases d with
  | none => exact h
  | some d =>
    refine ⟨by simp [Act.put, h.size], h.defers, fun t ht => ?_⟩
    simp only [Act.put]
    rw [Array.getElem?_setIfInBounds, Array.getElem?_setIfInBounds, h.size, h.at_ t ht]
theorem Agr.skip {look : List Tmp} {a b : Act} (h : Agr look a b) (d : Option Tmp) (v : Value) (hd : ∀ t, d = some t → t ∉ look) : Agr look (a.put d v) b := by
  cases d with
  | none => exact h
  | some d =>
    refine ⟨by simp [Act.put, h.size], h.defers, fun t ht => ?_⟩
    have hne : d ≠ t := fun e => hd d rfl (e ▸ ht)
    simp only [Act.put]
    rw [Array.getElem?_setIfInBounds_ne hne]
    exact h.at_ t ht
theorem agr_skips {ops : Array Oper} {val : Nat → Value} {look : List Tmp} (l : List Nat) : ∀ {a b : Act}, Agr look a b → (∀ k ∈ l, ∀ t, dstOf ops k = some t → t ∉ look) → Agr look (tf ops val a l) b := by
  induction l with
  | nil => intro a b h _; exact h
  | cons k l ih => intro a b h hd; exact ih (h.skip _ _ (hd k (by simp))) (fun j hj => hd j (by simp [hj]))
theorem agr_filter {ops : Array Oper} {val : Nat → Value} {look : List Tmp} (p : Nat → Bool) (l : List Nat) : ∀ {a b : Act}, Agr look a b → (∀ k ∈ l, p k = false → ∀ t, dstOf ops k = some t → t ∉ look) → Agr look (tf ops val a l) (tf ops val b (l.filter p)) := by
  induction l with
  | nil => intro a b h _; exact h
  | cons k l ih =>
    intro a b h hd
    cases hp : p k with
    | true => rw [List.filter_cons_of_pos hp]; exact ih (h.put _ _) (fun j hj => hd j (by simp [hj]))
    | false => rw [List.filter_cons_of_neg (by simp [hp])]; exact ih (h.skip _ _ (hd k (by simp) hp)) (fun j hj => hd j (by simp [hj]))
theorem tf_append (ops : Array Oper) (val : Nat → Value) (a : Act) (l m : List Nat) : tf ops val a (l ++ m) = tf ops val (tf ops val a l) m := by simp [tf]
theorem tf_congr {ops : Array Oper} {val val' : Nat → Value} (l : List Nat) : ∀ {a : Act}, (∀ k ∈ l, val k = val' k) → tf ops val a l = tf ops val' a l := by
  induction l with
  | nil => intro a _; rfl
  | cons k l ih => intro a h; simp only [tf, List.foldl_cons]; rw [h k (by simp)]; exact ih (fun j hj => h j (by simp [hj]))
theorem tf_put {ops : Array Oper} {val : Nat → Value} (d : Option Tmp) (v : Value) (l : List Nat) : ∀ {a : Act}, (∀ k ∈ l, ∀ t, d = some t → dstOf ops k ≠ some t) → (tf ops val a l).put d v = tf ops val (a.put d v) l := by
  induction l with
  | nil => intro a _; rfl
  | cons k l ih =>
    intro a h
    simp only [tf, List.foldl_cons]
    rw [Act.put_comm a v (val k) (h k (by simp))]
    exact ih (fun j hj => h j (by simp [hj]))

theorem Agr.exec {ops : Array Oper} {o : Oper} {a b : Act} (h : Agr (o.looksAt ops) a b) (hs : ∀ cs b, o.op ≠ .select cs b) : execOp a.eval o = execOp b.eval o := by
  refine execOp_congr o hs fun x hx => ?_
  cases x with
  | tmp t =>
    have ht : t ∈ o.looksAt ops := List.mem_append_left _ (List.mem_filterMap.2 ⟨.tmp t, by simpa using hx, rfl⟩)
    have := h.at_ t ht
    simp [Act.eval, Array.getD_eq_getD_getElem?, this]
  | const v => rfl
  | global g => rfl
  | func f => rfl
theorem Agr.wanted {ops : Array Oper} {o : Oper} {a b : Act} (h : Agr (o.looksAt ops) a b) : Region.wanted o (yielded ops a.tmps) = Region.wanted o (yielded ops b.tmps) := by
  unfold Region.wanted
  cases hg : o.guard with
  | none => rfl
  | some gw =>
    obtain ⟨g, want⟩ := gw
    have hy : yielded ops a.tmps g = yielded ops b.tmps g := by
      unfold yielded
      cases ht : (ops[g]?).bind (·.dst) with
      | none => rfl
      | some t => simp only [Option.bind_some]; rw [h.at_ t (by simp [Oper.looksAt, hg, ht])]
    simp only [hy]

/-! ### What the walk has shown -/
section
variable {P : Program} {ops : Array Oper} {w : World} {Q : Exit → Act → World → Prop}

def Obl (P : Program) (ops : Array Oper) (w : World) (a0 : Act) (ps : List Pl) (val : Nat → Value) (k : Nat) : Prop :=
  ∀ o p, ops[k]? = some o → ps[k]? = some p → ∀ W, Gr w W → (∀ j pj, j < k → ps[j]? = some pj → needs o j = true → pj.V (val j) W) → opG P ops o (tf ops val a0 (List.range k)) W p.V
def Fin (ops : Array Oper) (w : World) (Q : Exit → Act → World → Prop) (a0 : Act) (ps : List Pl) (val : Nat → Value) : Prop :=
  ∀ W, Gr w W → (∀ j pj, j < ops.size → ps[j]? = some pj → pj.V (val j) W) → Q .normal (tf ops val a0 (List.range ops.size)) W
def Holds (ps : List Pl) (val : Nat → Value) : Prop := ∀ k c, ps[k]? = some (.eq c) → val k = c

theorem wpG_obl (a0 : Act) (val : Nat → Value) (rest : List Oper) : ∀ (ps pre : List Pl) (seen : List (Nat × (World → Prop))) (i : Nat) (a : Act),
    wpG P ops w Q ps seen i rest a → pre.length = i → rest = ops.toList.drop i → i ≤ ops.size → a = tf ops val a0 (List.range i) → Holds (pre ++ ps) val →
    (∀ p ∈ seen, ∃ pj, (pre ++ ps)[p.1]? = some pj ∧ p.1 < i ∧ p.2 = pj.V (val p.1)) →
    (∀ k, i ≤ k → k < ops.size → Obl P ops w a0 (pre ++ ps) val k ∧ ∃ p, (pre ++ ps)[k]? = some p) ∧ Fin ops w Q a0 (pre ++ ps) val := by
  induction rest with
  | nil =>
    intro ps pre seen i a h hl hr hi ha hv hs
    have hn : i = ops.size := by
      have := congrArg List.length hr
      simp at this
      omega
    subst hn
    refine ⟨fun k h1 h2 => absurd h1 (by omega), fun W hW hall => ?_⟩
    rw [← ha]
    have hfin : ∀ W, Gr w W → (∀ p ∈ seen, p.2 W) → Q .normal a W := by cases ps with
      | nil => exact h
      | cons p ps => cases p <;> exact h
    refine hfin W hW fun p hp => ?_
    obtain ⟨pj, h1, h2, h3⟩ := hs p hp
    rw [h3]
    exact hall _ pj h2 h1
  | cons o rest ih =>
    intro ps pre seen i a h hl hr hi ha hv hs
    have hlt : i < ops.size := by
      rcases Nat.lt_or_ge i ops.size with h | h
      · exact h
      · rw [List.drop_eq_nil_of_le (by simpa using h)] at hr; cases hr
    have ho : ops[i]? = some o := by
      have h0 : (ops.toList.drop i)[0]? = some o := by rw [← hr]; rfl
      simpa using h0
    have hr' : rest = ops.toList.drop (i + 1) := by
      have := congrArg List.tail hr
      simpa using this
    cases ps with
    | nil => exact h.elim
    | cons p ps =>
      have hat : (pre ++ p :: ps)[i]? = some p := by rw [← hl]; simp
      have happ : pre ++ p :: ps = (pre ++ [p]) ++ ps := by simp
      have hdst : dstOf ops i = o.dst := by simp [dstOf, ho]
      -- the operation's own word
      have key : (∀ W, Gr w W → (∀ q ∈ seen, needs o q.1 = true → q.2 W) → opG P ops o a W p.V) → Obl P ops w a0 (pre ++ p :: ps) val i := by
        intro hk o' p' ho' hp' W hW hd
        rw [ho] at ho'; injection ho' with ho'; subst ho'
        rw [hat] at hp'; injection hp' with hp'; subst hp'
        rw [← ha]
        refine hk W hW fun q hq hn => ?_
        obtain ⟨pj, h1, h2, h3⟩ := hs q hq
        rw [h3]
        exact hd _ pj h2 h1 hn
      have step : ∀ (v : Value) (seen' : List (Nat × (World → Prop))), wpG P ops w Q ps seen' (i + 1) rest (a.put o.dst v) → val i = v →
          (∀ q ∈ seen', ∃ pj, (pre ++ p :: ps)[q.1]? = some pj ∧ q.1 < i + 1 ∧ q.2 = pj.V (val q.1)) →
          (∀ k, i + 1 ≤ k → k < ops.size → Obl P ops w a0 (pre ++ p :: ps) val k ∧ ∃ p', (pre ++ p :: ps)[k]? = some p') ∧ Fin ops w Q a0 (pre ++ p :: ps) val := by
        intro v seen' hw hvi hs'
        rw [happ] at hv hs' ⊢
        refine ih ps (pre ++ [p]) seen' (i + 1) (a.put o.dst v) hw (by simp [hl]) hr' hlt ?_ hv hs'
        rw [List.range_succ, tf_append, ← ha]
        simp [tf, hdst, hvi]
      cases p with
      | eq c =>
        obtain ⟨h1, h2⟩ := h
        obtain ⟨r1, r2⟩ := step c seen h2 (hv i c hat) fun q hq => by
          obtain ⟨pj, g1, g2, g3⟩ := hs q hq
          exact ⟨pj, g1, by omega, g3⟩
        refine ⟨fun k hk hks => ?_, r2⟩
        by_cases hki : k = i
        · subst hki; exact ⟨key h1, _, hat⟩
        · exact r1 k (by omega) hks
      | ok V =>
        obtain ⟨h1, h2⟩ := h
        obtain ⟨r1, r2⟩ := step (val i) _ (h2 (val i)) rfl fun q hq => by
          rcases List.mem_cons.1 hq with rfl | hq
          · exact ⟨_, hat, by simp, rfl⟩
          · obtain ⟨pj, g1, g2, g3⟩ := hs q hq
            exact ⟨pj, g1, by omega, g3⟩
        refine ⟨fun k hk hks => ?_, r2⟩
        by_cases hki : k = i
        · subst hki; exact ⟨key h1, _, hat⟩
        · exact r1 k (by omega) hks
end

/-! ### Any order -/
section
variable {P : Program} {ops : Array Oper} {w : World} {Q : Exit → Act → World → Prop}

theorem range_split (n i : Nat) (h : i < n) : List.range n = List.range i ++ i :: List.range' (i + 1) (n - (i + 1)) := by
  rw [List.range_eq_range', List.range_eq_range']
  have e : n = i + (1 + (n - (i + 1))) := by omega
  conv => lhs; rw [e]
  rw [← List.range'_append_1]
  simp [Nat.add_comm 1, List.range'_succ]

def isL (listed : Array Bool) (k : Nat) : Bool := listed.getD k false
theorem isL_set {listed : Array Bool} {i k : Nat} (hi : i < listed.size) : isL (listed.setIfInBounds i true) k = (isL listed k || decide (k = i)) := by
  unfold isL
  by_cases h : i = k
  · subst h; simp [hi]
  · rw [getD_set_ne false h]; simp [Ne.symm h]

theorem growAny (hc : chkG ops = true) (a0 : Act) (ps : List Pl) (hm : ∀ p ∈ ps, p.mono)
    (hob : ∀ val, Holds ps val → (∀ k, k < ops.size → Obl P ops w a0 ps val k ∧ ∃ p, ps[k]? = some p) ∧ Fin ops w Q a0 ps val) :
    ∀ (fuel : Nat) (listed : Array Bool) (a : Act) (W : World) (val : Nat → Value), listed.size = ops.size → Closed ops (fun k => isL listed k = true) →
      a = tf ops val a0 ((List.range ops.size).filter (isL listed)) → Gr w W → Holds ps val → (∀ k p, isL listed k = true → ps[k]? = some p → p.V (val k) W) →
      ((List.range ops.size).filter fun k => !isL listed k).length = fuel → wpAny P .any ops Q fuel listed a W := by
  -- where nothing is ready all is done
  have doneAll : ∀ (listed : Array Bool), listed.size = ops.size → Closed ops (fun k => isL listed k = true) → Region.ready .any ops listed = [] → ∀ k, k < ops.size → isL listed k = true := by
    intro listed hsz hcl hr
    have : ∀ n k, k < n → k < ops.size → isL listed k = true := by
      intro n
      induction n with
      | zero => intro k h; omega
      | succ n ih =>
        intro k hk hks
        cases hu : isL listed k with
        | true => rfl
        | false =>
          exfalso
          have hmem : k ∈ Region.ready .any ops listed := by
            rw [mem_ready]
            refine ⟨?_, ops[k], Array.getElem?_eq_getElem hks, fun e he hb => ?_⟩
            · unfold isL at hu; simp [hsz, hks] at hu ⊢; exact hu
            · have hlt := chk_edge hc (Array.getElem?_eq_getElem hks) he hb
              exact ih e.on (by omega) (by omega)
          rw [hr] at hmem
          cases hmem
    exact fun k hk => this (k + 1) k (by omega) hk
  have finish : ∀ (listed : Array Bool) (a : Act) (W : World) (val : Nat → Value), (∀ k, k < ops.size → isL listed k = true) →
      a = tf ops val a0 ((List.range ops.size).filter (isL listed)) → Gr w W → Holds ps val → (∀ k p, isL listed k = true → ps[k]? = some p → p.V (val k) W) → Q .normal a W := by
    intro listed a W val hall ha hW hv hV
    have hf : (List.range ops.size).filter (isL listed) = List.range ops.size := List.filter_eq_self.2 fun k hk => hall k (List.mem_range.1 hk)
    rw [ha, hf]
    exact (hob val hv).2 W hW fun j pj hj hp => hV j pj (hall j hj) hp
  intro fuel
  induction fuel with
  | zero =>
    intro listed a W val hsz hcl ha hW hv hV hfu
    have hall : ∀ k, k < ops.size → isL listed k = true := by
      intro k hk
      have h0 := List.eq_nil_of_length_eq_zero hfu
      cases hu : isL listed k with
      | true => rfl
      | false =>
        have : k ∈ (List.range ops.size).filter fun k => !isL listed k := List.mem_filter.2 ⟨List.mem_range.2 hk, by simp [hu]⟩
        rw [h0] at this
        cases this
    refine ⟨?_, finish listed a W val hall ha hW hv hV⟩
    cases hr : Region.ready .any ops listed with
    | nil => rfl
    | cons k l =>
      have hk : k ∈ Region.ready .any ops listed := by rw [hr]; simp
      rw [mem_ready] at hk
      obtain ⟨h1, o, ho, _⟩ := hk
      have hks : k < ops.size := (Array.getElem?_eq_some_iff.1 ho).1
      have h2 := hall k hks
      unfold isL at h2
      simp [hsz, hks] at h1 h2
      rw [h1] at h2
      cases h2
  | succ fuel ih =>
    intro listed a W val hsz hcl ha hW hv hV hfu
    refine ⟨fun hr => finish listed a W val (doneAll listed hsz hcl hr) ha hW hv hV, fun i hi => ?_⟩
    rw [mem_ready] at hi
    obtain ⟨hun, o, ho, hall⟩ := hi
    have his : i < ops.size := (Array.getElem?_eq_some_iff.1 ho).1
    have hui : isL listed i = false := by unfold isL; simp [hsz, his] at hun ⊢; exact hun
    have hdst : dstOf ops i = o.dst := by simp [dstOf, ho]
    obtain ⟨hobl, p, hp⟩ := (hob val hv).1 i his
    have hsel := Region.noSelect_spec (chk_sel hc) i o
    have hbef : ∀ j, ((Region.before ops).getD i 0).testBit j = true → isL listed j = true := by
      intro j hj
      obtain ⟨o', ho', e, he, hbn, h⟩ := before_step ops hj
      rw [ho] at ho'; injection ho' with ho'; subst ho'
      have hLe : isL listed e.on = true := hall e he hbn
      rcases h with rfl | ⟨hlt, hb'⟩
      · exact hLe
      · exact hcl.before (e.on + 1) e.on j (by omega) hLe hb'
    -- what is later and done does not touch this operation, nor what is earlier and not done
    have hlate : ∀ k, i < k → isL listed k = true → ∀ ok, ops[k]? = some ok → o.apart ops ok = true := by
      intro k hk hL ok hok
      rcases chk_apart hc ho hok hk with h | h
      · exact h
      · exfalso
        have := hcl.before (k + 1) k i (by omega) hL h
        rw [hui] at this
        cases this
    have hearly : ∀ k, k < i → isL listed k = false → ∀ ok, ops[k]? = some ok → ok.apart ops o = true := by
      intro k hk hL ok hok
      rcases chk_apart hc hok ho hk with h | h
      · exact h
      · exfalso
        have := hbef k h
        rw [hL] at this
        cases this
    have hsp := range_split ops.size i his
    have hfL : (List.range ops.size).filter (isL listed) = (List.range i).filter (isL listed) ++ (List.range' (i + 1) (ops.size - (i + 1))).filter (isL listed) := by
      rw [hsp, List.filter_append, List.filter_cons_of_neg (by simp [hui])]
    have hagr : Agr (o.looksAt ops) a (tf ops val a0 (List.range i)) := by
      rw [ha, hfL, tf_append]
      refine (agr_skips _ (Agr.refl _ _) ?_).trans (Agr.symm (agr_filter (isL listed) (List.range i) (Agr.refl _ _) ?_))
      · intro k hk t ht
        obtain ⟨hk1, hk2⟩ := List.mem_filter.1 hk
        have hik : i < k := by have := List.mem_range'_1.1 hk1; omega
        cases hok : ops[k]? with
        | none => simp [dstOf, hok] at ht
        | some ok =>
          have := (Oper.apart_spec (hlate k hik hk2 ok hok)).2.2
          exact this t (by simpa [dstOf, hok] using ht)
      · intro k hk hL t ht
        cases hok : ops[k]? with
        | none => simp [dstOf, hok] at ht
        | some ok =>
          have := (Oper.apart_spec (hearly k (List.mem_range.1 hk) hL ok hok)).1
          exact this t (by simpa [dstOf, hok] using ht)
    have hop : opG P ops o (tf ops val a0 (List.range i)) W p.V := hobl o p ho hp W hW fun j pj hj hpj hn => by
      refine hV j pj ?_ hpj
      unfold needs at hn
      obtain ⟨e, he, hb⟩ := List.any_eq_true.1 hn
      simp only [Bool.and_eq_true, beq_iff_eq] at hb
      rw [← hb.2]
      exact hall e (by simpa using he) hb.1
    -- what stands behind it
    have hnext : ∀ v W', Gr W W' → p.V v W' → wpAny P .any ops Q fuel (listed.setIfInBounds i true) (a.put o.dst v) W' := by
      intro v W' hg hpv
      let val' : Nat → Value := fun k => if k = i then v else val k
      have hisL : ∀ k, isL (listed.setIfInBounds i true) k = (isL listed k || decide (k = i)) := fun k => isL_set (by rw [hsz]; exact his)
      refine ih (listed.setIfInBounds i true) (a.put o.dst v) W' val' (by simp [hsz]) ?_ ?_ (hW.trans hg) ?_ ?_ ?_
      · intro j oj hj hoj e he hb
        show isL _ e.on = true
        rw [hisL]
        have hj' : isL (listed.setIfInBounds i true) j = true := hj
        rw [hisL] at hj'
        simp only [Bool.or_eq_true, decide_eq_true_eq] at hj' ⊢
        rcases hj' with h | rfl
        · exact .inl (hcl j oj h hoj e he hb)
        · rw [ho] at hoj; injection hoj with hoj; subst hoj
          exact .inl (hall e he hb)
      · have hfL' : (List.range ops.size).filter (isL (listed.setIfInBounds i true)) = (List.range i).filter (isL listed) ++ i :: (List.range' (i + 1) (ops.size - (i + 1))).filter (isL listed) := by
          rw [hsp, List.filter_append, List.filter_cons_of_pos (by rw [hisL]; simp)]
          congr 1
          · refine List.filter_congr fun k hk => ?_
            have := List.mem_range.1 hk
            rw [hisL]; simp; omega
          · congr 1
            refine List.filter_congr fun k hk => ?_
            have := List.mem_range'_1.1 hk
            rw [hisL]; simp; omega
        rw [hfL', tf_append]
        have e1 : ∀ (b : Act) (l : List Nat), tf ops val' b (i :: l) = tf ops val' (b.put o.dst v) l := by
          intro b l
          simp only [tf, List.foldl_cons, hdst]
          congr 2
          simp [val']
        rw [e1, ha, hfL, tf_append]
        rw [tf_put o.dst v _ (fun k hk t ht => ?_)]
        · rw [tf_congr (val := val) (val' := val') ((List.range i).filter (isL listed)) (fun k hk => ?_), tf_congr (val := val) (val' := val') ((List.range' (i + 1) (ops.size - (i + 1))).filter (isL listed)) (fun k hk => ?_)]
          · have := List.mem_range'_1.1 (List.mem_filter.1 hk).1
            simp [val']; omega
          · have := List.mem_range.1 (List.mem_filter.1 hk).1
            simp [val']; omega
        · obtain ⟨hk1, hk2⟩ := List.mem_filter.1 hk
          have hik : i < k := by have := List.mem_range'_1.1 hk1; omega
          cases hok : ops[k]? with
          | none => simp [dstOf, hok]
          | some ok =>
            have := (Oper.apart_spec (hlate k hik hk2 ok hok)).2.1 t ht
            simpa [dstOf, hok] using this
      · intro k c hk
        by_cases hki : k = i
        · subst hki
          rw [hk] at hp
          injection hp with hp
          subst hp
          have hpv' : v = c := hpv
          simp [val', hpv']
        · simp [val', hki]; exact hv k c hk
      · intro k pk hk hpk
        rw [hisL] at hk
        by_cases hki : k = i
        · subst hki
          rw [hpk] at hp
          injection hp with hp
          subst hp
          simpa [val'] using hpv
        · simp only [hki, decide_false, Bool.or_false] at hk
          have := hV k pk hk hpk
          simp only [val', hki, if_false]
          exact Pl.mono_V (hm pk (List.mem_of_getElem? hpk)) _ _ _ hg this
      · have hcount : ((List.range ops.size).filter fun k => !isL listed k).length = ((List.range ops.size).filter fun k => !isL (listed.setIfInBounds i true) k).length + 1 := by
          rw [hsp, List.filter_append, List.filter_append, List.filter_cons_of_pos (by simp [hui]), List.filter_cons_of_neg (by rw [hisL]; simp)]
          rw [List.filter_congr (l := List.range i) (q := fun k => !isL (listed.setIfInBounds i true) k) (fun k hk => by have := List.mem_range.1 hk; rw [hisL]; simp; omega),
            List.filter_congr (l := List.range' (i + 1) (ops.size - (i + 1))) (q := fun k => !isL (listed.setIfInBounds i true) k) (fun k hk => by have := List.mem_range'_1.1 hk; rw [hisL]; simp; omega)]
          simp [Nat.add_assoc]
        omega
    unfold wpOp
    simp only [ho]
    unfold opG at hop
    rw [hagr.wanted]
    split
    · rename_i hwt
      rw [if_pos hwt] at hop
      refine .inl ?_
      unfold Oper.wp
      rw [hagr.exec (fun cs b => hsel cs b ho)]
      generalize (execOp (tf ops val a0 (List.range i)).eval o).run P W = r at hop
      cases r with
      | halt x W' => cases hop
      | ok n W' =>
        cases n <;> first | exact hop.elim | skip
        case value v => exact hnext v W' hop.1 hop.2
        case skip => exact hnext undef W' hop.1 hop.2
        case enter f args =>
          refine hop.2.mono fun e W'' h => ?_
          obtain ⟨v, rfl, hg, hpv⟩ := h
          exact hnext v W'' (hop.1.trans hg) hpv
    · rename_i hwt
      rw [if_neg hwt] at hop
      exact hnext undef W (Gr.refl W) hop
end

/-- THE RULE: a region that draws its order, by its walk in the text's order. -/
theorem wp_region_grow {P : Program} {ops : List Oper} {id : Nat} {w : World} {Q : Exit → Act → World → Prop} {a : Act} (ps : List Pl)
    (hmix : P.follows .mixedOrders = true) (hc : chkG ops.toArray = true) (hm : ∀ p ∈ ps, p.mono) (h : wpG P ops.toArray w.drew Q ps [] 0 ops a) : (Code.region id ops.toArray true).wp P Q a w := by
  refine wp_region_any hmix ?_
  have hob : ∀ val, Holds ps val → (∀ k, k < ops.toArray.size → Obl P ops.toArray w.drew a ps val k ∧ ∃ p, ps[k]? = some p) ∧ Fin ops.toArray w.drew Q a ps val := by
    intro val hv
    have := wpG_obl a val ops ps [] [] 0 a h rfl rfl (Nat.zero_le _) rfl (by simpa using hv) (by simp)
    simpa using this
  have hf : (List.range ops.toArray.size).filter (isL (Array.replicate ops.toArray.size false)) = [] := by
    rw [List.filter_eq_nil_iff]
    intro k _
    simp [isL, Array.getElem?_replicate]
    split <;> simp
  exact growAny hc a ps hm hob _ _ a w.drew (fun k => match ps[k]? with | some (.eq c) => c | _ => undef) (by simp) (by intro j o hj; simp [isL, Array.getElem?_replicate] at hj; split at hj <;> simp at hj) (by rw [hf]; rfl) (Gr.refl _) (by intro k c hk; simp [hk]) (by intro k p hk; simp [isL, Array.getElem?_replicate] at hk; split at hk <;> simp at hk)
    (by
      have : (List.range ops.toArray.size).filter (fun k => !isL (Array.replicate ops.toArray.size false) k) = List.range ops.toArray.size := by
        rw [List.filter_eq_self]
        intro k _
        simp [isL, Array.getElem?_replicate]
        split <;> simp
      rw [this]; simp)

theorem resG_eq_mk (P : Program) (W : World) (c : Value) : resG P W (fun v _ => v = c) (.ok (.value c) W) := ⟨Gr.refl _, rfl⟩
theorem resG_mk {P : Program} {W W' : World} {V : Sp} {v : Value} (h : Gr W W') (hv : V v W') : resG P W V (.ok (.value v) W') := ⟨h, hv⟩
theorem resG_call {P : Program} {W : World} {V : Sp} {f : FuncId} {args : Array Value} (h : Calls P f args W fun e W'' => ∃ v, e = .returned v ∧ Gr W W'' ∧ V v W'') : resG P W V (.ok (.enter f args) W) := ⟨Gr.refl _, h⟩
def allMono : List Pl → Prop
  | [] => True
  | .eq _ :: r => allMono r
  | .ok V :: r => MonoSp V ∧ allMono r
theorem allMono_mem : ∀ (ps : List Pl), allMono ps → ∀ p ∈ ps, p.mono
  | [], _, p, hp => by cases hp
  | .eq c :: r, h, p, hp => by
    rcases List.mem_cons.1 hp with rfl | hp
    · trivial
    · exact allMono_mem r h p hp
  | .ok V :: r, h, p, hp => by
    rcases List.mem_cons.1 hp with rfl | hp
    · exact h.1
    · exact allMono_mem r h.2 p hp
/-- The rule, as it is used: 'apply wp_region_draw_grow [.eq _, .ok .., ..] (by kernel_rfl) (by kernel_rfl) ⟨.., trivial⟩'. -/
theorem wp_region_draw_grow {P : Program} {ops : List Oper} {id : Nat} {w : World} {Q : Exit → Act → World → Prop} {a : Act} (ps : List Pl)
    (hmix : P.follows .mixedOrders = true) (hc : chkG ops.toArray = true) (hm : allMono ps) (h : wpG P ops.toArray w.drew Q ps [] 0 ops a) : (Code.region id ops.toArray true).wp P Q a w :=
  wp_region_grow ps hmix hc (allMono_mem ps hm) h
end Go.Proofs.Ytcpkbngoecpnkaa
