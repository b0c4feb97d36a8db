/-
  INSIDE A FENCE: A REGION THAT DRAWS ITS ORDER, OF WHICH THE FIRST m OPERATIONS ONLY READ, AND ALL OTHERS WAIT FOR THEM: the head is walked once, in text order; what stands behind it is a 'wpAnyIn' from there.
  A REGION THAT DRAWS ITS ORDER: its first m operations only make new memory (they go by the plan of Grow, in whatever order), all others wait for them and for one another: these are walked in the text's order, and may write.
  A REGION THAT DRAWS ITS ORDER: its first m operations go by the plan of Turn (users of the objects ρ, one behind the other, whose state is S; all others only make new memory), all others wait for them and for one another: these are walked in the text's order, and may write what they like.
-/
import Derived.Test.YtiemgmbjhllmbaaYA
import Derived.OrdersIn
section
set_option linter.unusedVariables false
namespace Go.Proofs.Ytiemgmbjhllmbaa
open Go.RowKit
/-- In the world W the operation yields v, and turns nothing. -/
def quietAt (P : Program) (ops : Array Oper) (o : Oper) (a : Act) (W : World) (v : Value) : Prop :=
  if Region.wanted o (yielded ops a.tmps) = true then (execOp a.eval o).run P W = .ok (.value v) W else v = undef
def headDep (ops : Array Oper) (m : Nat) : Bool :=
  (List.range ops.size).all fun j => decide (j < m) || (List.range m).all fun i => ((Region.before ops).getD j 0).testBit i
theorem headDep_spec {ops : Array Oper} {m : Nat} (h : headDep ops m = true) {j : Nat} (h1 : m ≤ j) (h2 : j < ops.size) {i : Nat} (hi : i < m) : ((Region.before ops).getD j 0).testBit i = true := by
  unfold headDep at h
  rw [List.all_eq_true] at h
  have := h j (List.mem_range.2 h2)
  rw [Bool.or_eq_true] at this
  rcases this with h3 | h3
  · have : j < m := by simpa using h3
    omega
  · rw [List.all_eq_true] at h3
    exact h3 i (List.mem_range.2 hi)
section
variable {F : Fence} {n : Nat} {P : Program} {ops : Array Oper} {W : World} {Q : Exit → Act → World → Prop} {a0 : Act} {val : Nat → Value} {m : Nat}
theorem headAny (hro : F.round = none) (hc : chkG ops = true) (hm : m ≤ ops.size) (hdep : headDep ops m = true)
    (hq : ∀ i o, i < m → ops[i]? = some o → quietAt P ops o (tf ops val a0 (List.range i)) W (val i) ∧ ∀ a : Act, o.about P W a.eval = none)
    (arr : Array Bool) (hsa : arr.size = ops.size) (harr : ∀ k, k < ops.size → isL arr k = decide (k < m))
    (tail : wpAnyIn F n P .any ops Q (ops.size - m) arr (tf ops val a0 (List.range m)) W) :
    ∀ (fuel : Nat) (listed : Array Bool) (a : Act), listed.size = ops.size → Closed ops (fun k => isL listed k = true) → (∀ k, m ≤ k → k < ops.size → isL listed k = false) →
      a = tf ops val a0 ((List.range m).filter (isL listed)) → ((List.range m).filter fun k => !isL listed k).length = fuel → wpAnyIn F n P .any ops Q (fuel + (ops.size - m)) listed a W := by
  intro fuel
  induction fuel with
  | zero =>
    intro listed a hsz hcl hun ha hfu
    have hall : ∀ k, k < m → isL listed k = true := by
      intro k hk
      have h0 := List.eq_nil_of_length_eq_zero hfu
      cases hu : isL listed k with
      | true => rfl
      | false =>
        have : k ∈ (List.range m).filter fun k => !isL listed k := List.mem_filter.2 ⟨List.mem_range.2 hk, by simp [hu]⟩
        rw [h0] at this
        cases this
    have he : listed = arr := by
      apply Array.ext (by omega)
      intro k h1 h2
      have e1 : isL listed k = decide (k < m) := by
        by_cases hk : k < m
        · rw [hall k hk]; simp [hk]
        · rw [hun k (by omega) (by omega)]; simp [hk]
      have e2 := harr k (by omega)
      rw [← e2] at e1
      unfold isL at e1
      simpa [h1, h2] using e1
    have hf : (List.range m).filter (isL listed) = List.range m := List.filter_eq_self.2 fun k hk => hall k (List.mem_range.1 hk)
    rw [ha, hf, he, Nat.zero_add]
    exact tail
  | succ fuel ih =>
    intro listed a hsz hcl hun ha hfu
    obtain ⟨u, hu1, hu2⟩ : ∃ u, u < m ∧ isL listed u = false := by
      rcases hL : (List.range m).filter fun k => !isL listed k with _ | ⟨x, l⟩
      · rw [hL] at hfu; simp at hfu
      · have : x ∈ (List.range m).filter fun k => !isL listed k := by rw [hL]; simp
        obtain ⟨h1, h2⟩ := List.mem_filter.1 this
        exact ⟨x, List.mem_range.1 h1, by simpa using h2⟩
    rw [show fuel + 1 + (ops.size - m) = (fuel + (ops.size - m)) + 1 by omega]
    refine ⟨fun hr => ?_, fun i hi => ?_⟩
    · exfalso
      -- what is not listed, and is the first such, is ready
      have : ∀ k, k ≤ u → isL listed k = true := by
        intro k
        induction k using Nat.strongRecOn with
        | _ k ih2 =>
          intro hk
          cases hv : isL listed k with
          | true => rfl
          | false =>
            exfalso
            have hks : k < ops.size := by omega
            have hmem : k ∈ Region.ready .any ops listed := by
              rw [mem_ready]
              refine ⟨?_, ops[k], Array.getElem?_eq_getElem hks, fun e he hb => ?_⟩
              · unfold isL at hv; simp [hsz, hks] at hv ⊢; exact hv
              · have hlt := chk_edge hc (Array.getElem?_eq_getElem hks) he hb
                exact ih2 e.on hlt (by omega)
            rw [hr] at hmem
            cases hmem
      rw [this u (Nat.le_refl _)] at hu2
      cases hu2
    · rw [mem_ready] at hi
      obtain ⟨hunl, o, ho, hall⟩ := hi
      have his : i < ops.size := (Array.getElem?_eq_some_iff.1 ho).1
      have hui : isL listed i = false := by unfold isL; simp [hsz, his] at hunl ⊢; exact hunl
      have hdst : dstOf ops i = o.dst := by simp [dstOf, ho]
      have hbef : ∀ j, ((Region.before ops).getD i 0).testBit j = true → isL listed j = true := by
        intro j hj
        obtain ⟨o', ho', e, he, hbn, h⟩ := before_step ops hj
        rw [ho] at ho'; injection ho' with ho'; subst ho'
        have hLe : isL listed e.on = true := hall e he hbn
        rcases h with rfl | ⟨hlt, hb'⟩
        · exact hLe
        · exact hcl.before (e.on + 1) e.on j (by omega) hLe hb'
      have him : i < m := by
        rcases Nat.lt_or_ge i m with h | h
        · exact h
        · have := hbef u (headDep_spec hdep h his hu1)
          rw [hu2] at this; cases this
      have hlate : ∀ k, i < k → isL listed k = true → ∀ ok, ops[k]? = some ok → o.apart ops ok = true := by
        intro k hk hL ok hok
        rcases chk_apart hc ho hok hk with h | h
        · exact h
        · exfalso
          have := hcl.before (k + 1) k i (by omega) hL h
          rw [hui] at this
          cases this
      have hearly : ∀ k, k < i → isL listed k = false → ∀ ok, ops[k]? = some ok → ok.apart ops o = true := by
        intro k hk hL ok hok
        rcases chk_apart hc hok ho hk with h | h
        · exact h
        · exfalso
          have := hbef k h
          rw [hL] at this
          cases this
      have hsp := range_split m i him
      have hfL : (List.range m).filter (isL listed) = (List.range i).filter (isL listed) ++ (List.range' (i + 1) (m - (i + 1))).filter (isL listed) := by
        rw [hsp, List.filter_append, List.filter_cons_of_neg (by simp [hui])]
      have hagr : Agr (o.looksAt ops) a (tf ops val a0 (List.range i)) := by
        rw [ha, hfL, tf_append]
        refine (agr_skips _ (Agr.refl _ _) ?_).trans (Agr.symm (agr_filter (isL listed) (List.range i) (Agr.refl _ _) ?_))
        · intro k hk t ht
          obtain ⟨hk1, hk2⟩ := List.mem_filter.1 hk
          have hik : i < k := by have := List.mem_range'_1.1 hk1; omega
          cases hok : ops[k]? with
          | none => simp [dstOf, hok] at ht
          | some ok =>
            have := (Oper.apart_spec (hlate k hik hk2 ok hok)).2.2
            exact this t (by simpa [dstOf, hok] using ht)
        · intro k hk hL t ht
          cases hok : ops[k]? with
          | none => simp [dstOf, hok] at ht
          | some ok =>
            have := (Oper.apart_spec (hearly k (List.mem_range.1 hk) hL ok hok)).1
            exact this t (by simpa [dstOf, hok] using ht)
      obtain ⟨hqi, hab⟩ := hq i o him ho
      have hisL : ∀ k, isL (listed.setIfInBounds i true) k = (isL listed k || decide (k = i)) := fun k => isL_set (by rw [hsz]; exact his)
      have hnext : wpAnyIn F n P .any ops Q (fuel + (ops.size - m)) (listed.setIfInBounds i true) (a.put o.dst (val i)) W := by
        refine ih (listed.setIfInBounds i true) (a.put o.dst (val i)) (by simp [hsz]) ?_ ?_ ?_ ?_
        · intro j oj hj hoj e he hb
          show isL _ e.on = true
          rw [hisL]
          have hj' : isL (listed.setIfInBounds i true) j = true := hj
          rw [hisL] at hj'
          simp only [Bool.or_eq_true, decide_eq_true_eq] at hj' ⊢
          rcases hj' with h | rfl
          · exact .inl (hcl j oj h hoj e he hb)
          · rw [ho] at hoj; injection hoj with hoj; subst hoj
            exact .inl (hall e he hb)
        · intro k hk hks
          rw [hisL, hun k hk hks]
          simp; omega
        · have hfL' : (List.range m).filter (isL (listed.setIfInBounds i true)) = (List.range i).filter (isL listed) ++ i :: (List.range' (i + 1) (m - (i + 1))).filter (isL listed) := by
            rw [hsp, List.filter_append, List.filter_cons_of_pos (by rw [hisL]; simp)]
            congr 1
            · refine List.filter_congr fun k hk => ?_
              have := List.mem_range.1 hk
              rw [hisL]; simp; omega
            · congr 1
              refine List.filter_congr fun k hk => ?_
              have := List.mem_range'_1.1 hk
              rw [hisL]; simp; omega
          rw [hfL', tf_append]
          have e1 : ∀ (b : Act) (l : List Nat), tf ops val b (i :: l) = tf ops val (b.put o.dst (val i)) l := by
            intro b l
            simp only [tf, List.foldl_cons, hdst]
          rw [e1, ha, hfL, tf_append]
          rw [tf_put o.dst (val i) _ (fun k hk t ht => ?_)]
          obtain ⟨hk1, hk2⟩ := List.mem_filter.1 hk
          have hik : i < k := by have := List.mem_range'_1.1 hk1; omega
          cases hok : ops[k]? with
          | none => simp [dstOf, hok]
          | some ok =>
            have := (Oper.apart_spec (hlate k hik hk2 ok hok)).2.1 t ht
            simpa [dstOf, hok] using this
        · have hcount : ((List.range m).filter fun k => !isL listed k).length = ((List.range m).filter fun k => !isL (listed.setIfInBounds i true) k).length + 1 := by
            rw [hsp, List.filter_append, List.filter_append, List.filter_cons_of_pos (by simp [hui]), List.filter_cons_of_neg (by rw [hisL]; simp)]
            have f1 : (List.range i).filter (fun k => !isL (listed.setIfInBounds i true) k) = (List.range i).filter (fun k => !isL listed k) := List.filter_congr fun k hk => by
              have := List.mem_range.1 hk
              rw [hisL]; simp; omega
            have f2 : (List.range' (i + 1) (m - (i + 1))).filter (fun k => !isL (listed.setIfInBounds i true) k) = (List.range' (i + 1) (m - (i + 1))).filter (fun k => !isL listed k) := List.filter_congr fun k hk => by
              have := List.mem_range'_1.1 hk
              rw [hisL]; simp; omega
            rw [f1, f2]
            simp [List.length_append]
            omega
          omega
      unfold wpOpIn
      simp only [ho]
      have hw := hagr.wanted
      unfold quietAt at hqi
      split
      · rename_i hwt
        rw [hw] at hwt
        rw [if_pos hwt, ← Agr.exec hagr (Region.noSelect_spec (chk_sel hc) i o · · ho)] at hqi
        refine ⟨fun f hf => (by rw [hab a] at hf; cases hf), ?_⟩
        rw [hro, Oper.semAt_none, hqi]
        exact hnext
      · rename_i hwt
        rw [hw] at hwt
        rw [if_neg hwt] at hqi
        refine ⟨fun f hf => (by rw [hab a] at hf; cases hf), ?_⟩
        rw [← hqi]
        exact hnext
/-- The head's walk: the values that are said, one by one. -/
def hdW (P : Program) (ops : Array Oper) (W : World) (K : Act → Prop) : List Value → List Oper → Act → Prop
  | [], _, a => K a
  | v :: vs, o :: rest, a => (quietAt P ops o a W v ∧ ∀ a' : Act, o.about P W a'.eval = none) ∧ hdW P ops W K vs rest (a.put o.dst v)
  | _ :: _, [], _ => False
theorem hdW_cons {K : Act → Prop} {o : Oper} {rest : List Oper} {vs : List Value} {a : Act} (v : Value) (h : quietAt P ops o a W v) (ha : ∀ a' : Act, o.about P W a'.eval = none) (h2 : hdW P ops W K vs rest (a.put o.dst v)) : hdW P ops W K (v :: vs) (o :: rest) a := ⟨⟨h, ha⟩, h2⟩
theorem hdW_nil {K : Act → Prop} {rest : List Oper} {a : Act} (h : K a) : hdW P ops W K [] rest a := h
theorem hdW_spec (K : Act → Prop) (a0 : Act) (all : List Value) : ∀ (vs : List Value) (i : Nat) (rest : List Oper) (a : Act), hdW P ops W K vs rest a → rest = ops.toList.drop i → vs = all.drop i → i + vs.length = all.length →
    a = tf ops (fun k => all.getD k undef) a0 (List.range i) →
    (∀ j o, i ≤ j → j < all.length → ops[j]? = some o → quietAt P ops o (tf ops (fun k => all.getD k undef) a0 (List.range j)) W (all.getD j undef) ∧ ∀ a' : Act, o.about P W a'.eval = none) ∧ K (tf ops (fun k => all.getD k undef) a0 (List.range all.length)) := by
  intro vs
  induction vs with
  | nil =>
    intro i rest a h hr hv hl ha
    have hi : i = all.length := by simpa using hl
    subst hi
    refine ⟨fun j o h1 h2 => absurd h1 (by omega), ?_⟩
    rw [← ha]; exact h
  | cons v vs ih =>
    intro i rest a h hr hv hl ha
    cases rest with
    | nil => exact h.elim
    | cons o rest =>
      obtain ⟨⟨h1, h2⟩, h3⟩ := h
      have ho : ops[i]? = some o := by
        have h0 : (ops.toList.drop i)[0]? = some o := by rw [← hr]; rfl
        simpa using h0
      have hvi : all.getD i undef = v := by
        have h0 : (all.drop i)[0]? = some v := by rw [← hv]; rfl
        have h4 : all[i]? = some v := by simpa using h0
        simp [List.getD, h4]
      have hdst : dstOf ops i = o.dst := by simp [dstOf, ho]
      have := ih (i + 1) rest (a.put o.dst v) h3 (by have := congrArg List.tail hr; simpa using this) (by have := congrArg List.tail hv; simpa using this) (by simp at hl; omega) (by
        rw [List.range_succ, tf_append, ← ha]
        simp only [tf, List.foldl_cons, List.foldl_nil, hdst, hvi])
      refine ⟨fun j o' hj hjl hoj => ?_, this.2⟩
      by_cases hji : j = i
      · subst hji
        rw [ho] at hoj; injection hoj with hoj; subst hoj
        rw [← ha, hvi]; exact ⟨h1, h2⟩
      · exact this.1 j o' (by omega) hjl hoj
/-- THE RULE. -/
theorem wpIn_region_head {ops : List Oper} {id : Nat} {w : World} {a : Act} (vs : List Value) (m : Nat) (hvm : vs.length = m) (hro : F.round = none) (hmix : P.follows .mixedOrders = true) (hc : chkG ops.toArray = true) (hm : m ≤ ops.length)
    (hdep : headDep ops.toArray m = true)
    (h : hdW P ops.toArray w.drew (fun a => wpAnyIn F n P .any ops.toArray Q (ops.toArray.size - m) ((List.range ops.length).map fun k => decide (k < m)).toArray a w.drew) vs ops a) :
    (Code.region id ops.toArray true).wpIn F n P Q a w := by
  subst hvm
  refine wpIn_region_any hmix ?_
  obtain ⟨h1, h2⟩ := hdW_spec _ a vs vs 0 ops a h (by simp) (by simp) (by simp) rfl
  have harr : ∀ k, k < ops.toArray.size → isL (((List.range ops.length).map fun k => decide (k < vs.length)).toArray) k = decide (k < vs.length) := by
    intro k hk
    have hk' : k < ops.length := by simpa using hk
    simp [isL, hk']
  have hrep : ∀ k, isL (Array.replicate ops.toArray.size false) k = false := by
    intro k
    simp [isL, Array.getElem?_replicate]
    split <;> simp
  have := headAny (a0 := a) (val := fun k => vs.getD k undef) hro hc (by simpa using hm) hdep (fun i o hi ho => h1 i o (Nat.zero_le _) hi ho)
    (((List.range ops.length).map fun k => decide (k < vs.length)).toArray) (by simp) harr h2
    vs.length (Array.replicate ops.toArray.size false) a (by simp) (fun j o hj => by have hj' : isL (Array.replicate ops.toArray.size false) j = true := hj; rw [hrep] at hj'; cases hj') (fun k _ _ => hrep k) (by
      have : (List.range vs.length).filter (isL (Array.replicate ops.toArray.size false)) = [] := List.filter_eq_nil_iff.2 fun k _ => by rw [hrep]; simp
      rw [this]; rfl) (by
      have : (List.range vs.length).filter (fun k => !isL (Array.replicate ops.toArray.size false) k) = List.range vs.length := List.filter_eq_self.2 fun k _ => by rw [hrep]; rfl
      rw [this]; simp)
  have e : vs.length + (ops.toArray.size - vs.length) = ops.toArray.size := by simp; omega
  rw [e] at this
  exact this
end
end Go.Proofs.Ytiemgmbjhllmbaa
end
section
set_option linter.unusedVariables false
namespace Go.Proofs.Ytiemgmbjhllmbaa
open Go.RowKit
section
variable {P : Program} {ops : Array Oper} {w : World} {Q : Exit → Act → World → Prop}
def FinH (m : Nat) (ops : Array Oper) (w : World) (Q : Exit → Act → World → Prop) (a0 : Act) (ps : List Pl) (val : Nat → Value) : Prop :=
  ∀ W, Gr w W → (∀ j pj, j < m → ps[j]? = some pj → pj.V (val j) W) → Q .normal (tf ops val a0 (List.range m)) W
theorem wpG_oblH (m : Nat) (hm : m ≤ ops.size) (a0 : Act) (val : Nat → Value) (rest : List Oper) : ∀ (ps pre : List Pl) (seen : List (Nat × (World → Prop))) (i : Nat) (a : Act),
    wpG P ops w Q ps seen i rest a → pre.length = i → rest = (ops.toList.take m).drop i → i ≤ m → a = tf ops val a0 (List.range i) → Holds (pre ++ ps) val →
    (∀ p ∈ seen, ∃ pj, (pre ++ ps)[p.1]? = some pj ∧ p.1 < i ∧ p.2 = pj.V (val p.1)) →
    (∀ k, i ≤ k → k < m → Obl P ops w a0 (pre ++ ps) val k ∧ ∃ p, (pre ++ ps)[k]? = some p) ∧ FinH m ops w Q a0 (pre ++ ps) val := by
  induction rest with
  | nil =>
    intro ps pre seen i a h hl hr hi ha hv hs
    have hn : i = m := by
      have := congrArg List.length hr
      simp at this
      omega
    subst hn
    refine ⟨fun k h1 h2 => absurd h1 (by omega), fun W hW hall => ?_⟩
    rw [← ha]
    have hfin : ∀ W, Gr w W → (∀ p ∈ seen, p.2 W) → Q .normal a W := by cases ps with
      | nil => exact h
      | cons p ps => cases p <;> exact h
    refine hfin W hW fun p hp => ?_
    obtain ⟨pj, h1, h2, h3⟩ := hs p hp
    rw [h3]
    exact hall _ pj h2 h1
  | cons o rest ih =>
    intro ps pre seen i a h hl hr hi ha hv hs
    have hlt : i < m := by
      rcases Nat.lt_or_ge i m with h | h
      · exact h
      · rw [List.drop_eq_nil_of_le (by simp; omega)] at hr; cases hr
    have ho : ops[i]? = some o := by
      have h0 : ((ops.toList.take m).drop i)[0]? = some o := by rw [← hr]; rfl
      rw [List.getElem?_drop, Nat.add_zero, List.getElem?_take_of_lt hlt] at h0
      simpa using h0
    have hr' : rest = (ops.toList.take m).drop (i + 1) := by
      have := congrArg List.tail hr
      simpa using this
    cases ps with
    | nil => exact h.elim
    | cons p ps =>
      have hat : (pre ++ p :: ps)[i]? = some p := by rw [← hl]; simp
      have happ : pre ++ p :: ps = (pre ++ [p]) ++ ps := by simp
      have hdst : dstOf ops i = o.dst := by simp [dstOf, ho]
      -- the operation's own word
      have key : (∀ W, Gr w W → (∀ q ∈ seen, needs o q.1 = true → q.2 W) → opG P ops o a W p.V) → Obl P ops w a0 (pre ++ p :: ps) val i := by
        intro hk o' p' ho' hp' W hW hd
        rw [ho] at ho'; injection ho' with ho'; subst ho'
        rw [hat] at hp'; injection hp' with hp'; subst hp'
        rw [← ha]
        refine hk W hW fun q hq hn => ?_
        obtain ⟨pj, h1, h2, h3⟩ := hs q hq
        rw [h3]
        exact hd _ pj h2 h1 hn
      have step : ∀ (v : Value) (seen' : List (Nat × (World → Prop))), wpG P ops w Q ps seen' (i + 1) rest (a.put o.dst v) → val i = v →
          (∀ q ∈ seen', ∃ pj, (pre ++ p :: ps)[q.1]? = some pj ∧ q.1 < i + 1 ∧ q.2 = pj.V (val q.1)) →
          (∀ k, i + 1 ≤ k → k < m → Obl P ops w a0 (pre ++ p :: ps) val k ∧ ∃ p', (pre ++ p :: ps)[k]? = some p') ∧ FinH m ops w Q a0 (pre ++ p :: ps) val := by
        intro v seen' hw hvi hs'
        rw [happ] at hv hs' ⊢
        refine ih ps (pre ++ [p]) seen' (i + 1) (a.put o.dst v) hw (by simp [hl]) hr' hlt ?_ hv hs'
        rw [List.range_succ, tf_append, ← ha]
        simp [tf, hdst, hvi]
      cases p with
      | eq c =>
        obtain ⟨h1, h2⟩ := h
        obtain ⟨r1, r2⟩ := step c seen h2 (hv i c hat) fun q hq => by
          obtain ⟨pj, g1, g2, g3⟩ := hs q hq
          exact ⟨pj, g1, by omega, g3⟩
        refine ⟨fun k hk hks => ?_, r2⟩
        by_cases hki : k = i
        · subst hki; exact ⟨key h1, _, hat⟩
        · exact r1 k (by omega) hks
      | ok V =>
        obtain ⟨h1, h2⟩ := h
        obtain ⟨r1, r2⟩ := step (val i) _ (h2 (val i)) rfl fun q hq => by
          rcases List.mem_cons.1 hq with rfl | hq
          · exact ⟨_, hat, by simp, rfl⟩
          · obtain ⟨pj, g1, g2, g3⟩ := hs q hq
            exact ⟨pj, g1, by omega, g3⟩
        refine ⟨fun k hk hks => ?_, r2⟩
        by_cases hki : k = i
        · subst hki; exact ⟨key h1, _, hat⟩
        · exact r1 k (by omega) hks
theorem growHeadAny (m : Nat) (hm0 : m ≤ ops.size) (hc : chkG ops = true) (hdep : headDep ops m = true) (a0 : Act) (ps : List Pl) (hm : ∀ p ∈ ps, p.mono)
    (arr : Array Bool) (hsa : arr.size = ops.size) (harr : ∀ k, k < ops.size → isL arr k = decide (k < m))
    (hob : ∀ val, Holds ps val → (∀ k, k < m → Obl P ops w a0 ps val k ∧ ∃ p, ps[k]? = some p) ∧ ∀ W, Gr w W → (∀ j pj, j < m → ps[j]? = some pj → pj.V (val j) W) → wpAny P .any ops Q (ops.size - m) arr (tf ops val a0 (List.range m)) W) :
    ∀ (fuel : Nat) (listed : Array Bool) (a : Act) (W : World) (val : Nat → Value), listed.size = ops.size → Closed ops (fun k => isL listed k = true) → (∀ k, m ≤ k → k < ops.size → isL listed k = false) →
      a = tf ops val a0 ((List.range m).filter (isL listed)) → Gr w W → Holds ps val → (∀ k p, isL listed k = true → ps[k]? = some p → p.V (val k) W) →
      ((List.range m).filter fun k => !isL listed k).length = fuel → wpAny P .any ops Q (fuel + (ops.size - m)) listed a W := by
  intro fuel
  induction fuel with
  | zero =>
    intro listed a W val hsz hcl hun ha hW hv hV hfu
    have hall : ∀ k, k < m → isL listed k = true := by
      intro k hk
      have h0 := List.eq_nil_of_length_eq_zero hfu
      cases hu : isL listed k with
      | true => rfl
      | false =>
        have : k ∈ (List.range m).filter fun k => !isL listed k := List.mem_filter.2 ⟨List.mem_range.2 hk, by simp [hu]⟩
        rw [h0] at this
        cases this
    have he : listed = arr := by
      apply Array.ext (by omega)
      intro k h1 h2
      have e1 : isL listed k = decide (k < m) := by
        by_cases hk : k < m
        · rw [hall k hk]; simp [hk]
        · rw [hun k (by omega) (by omega)]; simp [hk]
      have e2 := harr k (by omega)
      rw [← e2] at e1
      unfold isL at e1
      simpa [h1, h2] using e1
    have hf : (List.range m).filter (isL listed) = List.range m := List.filter_eq_self.2 fun k hk => hall k (List.mem_range.1 hk)
    rw [ha, hf, he, Nat.zero_add]
    exact (hob val hv).2 W hW fun j pj hj hp => hV j pj (hall j hj) hp
  | succ fuel ih =>
    intro listed a W val hsz hcl hun ha hW hv hV hfu
    obtain ⟨u, hu1, hu2⟩ : ∃ u, u < m ∧ isL listed u = false := by
      rcases hL : (List.range m).filter fun k => !isL listed k with _ | ⟨x, l⟩
      · rw [hL] at hfu; simp at hfu
      · have : x ∈ (List.range m).filter fun k => !isL listed k := by rw [hL]; simp
        obtain ⟨h1, h2⟩ := List.mem_filter.1 this
        exact ⟨x, List.mem_range.1 h1, by simpa using h2⟩
    rw [show fuel + 1 + (ops.size - m) = (fuel + (ops.size - m)) + 1 by omega]
    refine ⟨fun hr => ?_, fun i hi => ?_⟩
    · exfalso
      have : ∀ k, k ≤ u → isL listed k = true := by
        intro k
        induction k using Nat.strongRecOn with
        | _ k ih2 =>
          intro hk
          cases hv : isL listed k with
          | true => rfl
          | false =>
            exfalso
            have hks : k < ops.size := by omega
            have hmem : k ∈ Region.ready .any ops listed := by
              rw [mem_ready]
              refine ⟨?_, ops[k], Array.getElem?_eq_getElem hks, fun e he hb => ?_⟩
              · unfold isL at hv; simp [hsz, hks] at hv ⊢; exact hv
              · have hlt := chk_edge hc (Array.getElem?_eq_getElem hks) he hb
                exact ih2 e.on hlt (by omega)
            rw [hr] at hmem
            cases hmem
      rw [this u (Nat.le_refl _)] at hu2
      cases hu2
    · rw [mem_ready] at hi
      obtain ⟨hunl, o, ho, hall⟩ := hi
      have his : i < ops.size := (Array.getElem?_eq_some_iff.1 ho).1
      have hui : isL listed i = false := by unfold isL; simp [hsz, his] at hunl ⊢; exact hunl
      have hdst : dstOf ops i = o.dst := by simp [dstOf, ho]
      have hsel := Region.noSelect_spec (chk_sel hc) i o
      have hbef : ∀ j, ((Region.before ops).getD i 0).testBit j = true → isL listed j = true := by
        intro j hj
        obtain ⟨o', ho', e, he, hbn, h⟩ := before_step ops hj
        rw [ho] at ho'; injection ho' with ho'; subst ho'
        have hLe : isL listed e.on = true := hall e he hbn
        rcases h with rfl | ⟨hlt, hb'⟩
        · exact hLe
        · exact hcl.before (e.on + 1) e.on j (by omega) hLe hb'
      have him : i < m := by
        rcases Nat.lt_or_ge i m with h | h
        · exact h
        · have := hbef u (headDep_spec hdep h his hu1)
          rw [hu2] at this; cases this
      obtain ⟨hobl, p, hp⟩ := (hob val hv).1 i him
      -- what is later and done does not touch this operation, nor what is earlier and not done
      have hlate : ∀ k, i < k → isL listed k = true → ∀ ok, ops[k]? = some ok → o.apart ops ok = true := by
        intro k hk hL ok hok
        rcases chk_apart hc ho hok hk with h | h
        · exact h
        · exfalso
          have := hcl.before (k + 1) k i (by omega) hL h
          rw [hui] at this
          cases this
      have hearly : ∀ k, k < i → isL listed k = false → ∀ ok, ops[k]? = some ok → ok.apart ops o = true := by
        intro k hk hL ok hok
        rcases chk_apart hc hok ho hk with h | h
        · exact h
        · exfalso
          have := hbef k h
          rw [hL] at this
          cases this
      have hsp := range_split m i him
      have hfL : (List.range m).filter (isL listed) = (List.range i).filter (isL listed) ++ (List.range' (i + 1) (m - (i + 1))).filter (isL listed) := by
        rw [hsp, List.filter_append, List.filter_cons_of_neg (by simp [hui])]
      have hagr : Agr (o.looksAt ops) a (tf ops val a0 (List.range i)) := by
        rw [ha, hfL, tf_append]
        refine (agr_skips _ (Agr.refl _ _) ?_).trans (Agr.symm (agr_filter (isL listed) (List.range i) (Agr.refl _ _) ?_))
        · intro k hk t ht
          obtain ⟨hk1, hk2⟩ := List.mem_filter.1 hk
          have hik : i < k := by have := List.mem_range'_1.1 hk1; omega
          cases hok : ops[k]? with
          | none => simp [dstOf, hok] at ht
          | some ok =>
            have := (Oper.apart_spec (hlate k hik hk2 ok hok)).2.2
            exact this t (by simpa [dstOf, hok] using ht)
        · intro k hk hL t ht
          cases hok : ops[k]? with
          | none => simp [dstOf, hok] at ht
          | some ok =>
            have := (Oper.apart_spec (hearly k (List.mem_range.1 hk) hL ok hok)).1
            exact this t (by simpa [dstOf, hok] using ht)
      have hop : opG P ops o (tf ops val a0 (List.range i)) W p.V := hobl o p ho hp W hW fun j pj hj hpj hn => by
        refine hV j pj ?_ hpj
        unfold needs at hn
        obtain ⟨e, he, hb⟩ := List.any_eq_true.1 hn
        simp only [Bool.and_eq_true, beq_iff_eq] at hb
        rw [← hb.2]
        exact hall e (by simpa using he) hb.1
      -- what stands behind it
      have hnext : ∀ v W', Gr W W' → p.V v W' → wpAny P .any ops Q (fuel + (ops.size - m)) (listed.setIfInBounds i true) (a.put o.dst v) W' := by
        intro v W' hg hpv
        let val' : Nat → Value := fun k => if k = i then v else val k
        have hisL : ∀ k, isL (listed.setIfInBounds i true) k = (isL listed k || decide (k = i)) := fun k => isL_set (by rw [hsz]; exact his)
        refine ih (listed.setIfInBounds i true) (a.put o.dst v) W' val' (by simp [hsz]) ?_ (fun k hk hks => by rw [hisL, hun k hk hks]; simp; omega) ?_ (hW.trans hg) ?_ ?_ ?_
        · intro j oj hj hoj e he hb
          show isL _ e.on = true
          rw [hisL]
          have hj' : isL (listed.setIfInBounds i true) j = true := hj
          rw [hisL] at hj'
          simp only [Bool.or_eq_true, decide_eq_true_eq] at hj' ⊢
          rcases hj' with h | rfl
          · exact .inl (hcl j oj h hoj e he hb)
          · rw [ho] at hoj; injection hoj with hoj; subst hoj
            exact .inl (hall e he hb)
        · have hfL' : (List.range m).filter (isL (listed.setIfInBounds i true)) = (List.range i).filter (isL listed) ++ i :: (List.range' (i + 1) (m - (i + 1))).filter (isL listed) := by
            rw [hsp, List.filter_append, List.filter_cons_of_pos (by rw [hisL]; simp)]
            congr 1
            · refine List.filter_congr fun k hk => ?_
              have := List.mem_range.1 hk
              rw [hisL]; simp; omega
            · congr 1
              refine List.filter_congr fun k hk => ?_
              have := List.mem_range'_1.1 hk
              rw [hisL]; simp; omega
          rw [hfL', tf_append]
          have e1 : ∀ (b : Act) (l : List Nat), tf ops val' b (i :: l) = tf ops val' (b.put o.dst v) l := by
            intro b l
            simp only [tf, List.foldl_cons, hdst]
            congr 2
            simp [val']
          rw [e1, ha, hfL, tf_append]
          rw [tf_put o.dst v _ (fun k hk t ht => ?_)]
          · rw [tf_congr (val := val) (val' := val') ((List.range i).filter (isL listed)) (fun k hk => ?_), tf_congr (val := val) (val' := val') ((List.range' (i + 1) (m - (i + 1))).filter (isL listed)) (fun k hk => ?_)]
            · have := List.mem_range'_1.1 (List.mem_filter.1 hk).1
              simp [val']; omega
            · have := List.mem_range.1 (List.mem_filter.1 hk).1
              simp [val']; omega
          · obtain ⟨hk1, hk2⟩ := List.mem_filter.1 hk
            have hik : i < k := by have := List.mem_range'_1.1 hk1; omega
            cases hok : ops[k]? with
            | none => simp [dstOf, hok]
            | some ok =>
              have := (Oper.apart_spec (hlate k hik hk2 ok hok)).2.1 t ht
              simpa [dstOf, hok] using this
        · intro k c hk
          by_cases hki : k = i
          · subst hki
            rw [hk] at hp
            injection hp with hp
            subst hp
            have hpv' : v = c := hpv
            simp [val', hpv']
          · simp [val', hki]; exact hv k c hk
        · intro k pk hk hpk
          rw [hisL] at hk
          by_cases hki : k = i
          · subst hki
            rw [hpk] at hp
            injection hp with hp
            subst hp
            simpa [val'] using hpv
          · simp only [hki, decide_false, Bool.or_false] at hk
            have := hV k pk hk hpk
            simp only [val', hki, if_false]
            exact Pl.mono_V (hm pk (List.mem_of_getElem? hpk)) _ _ _ hg this
        · have hcount : ((List.range m).filter fun k => !isL listed k).length = ((List.range m).filter fun k => !isL (listed.setIfInBounds i true) k).length + 1 := by
            rw [hsp, List.filter_append, List.filter_append, List.filter_cons_of_pos (by simp [hui]), List.filter_cons_of_neg (by rw [hisL]; simp)]
            rw [List.filter_congr (l := List.range i) (q := fun k => !isL (listed.setIfInBounds i true) k) (fun k hk => by have := List.mem_range.1 hk; rw [hisL]; simp; omega),
              List.filter_congr (l := List.range' (i + 1) (m - (i + 1))) (q := fun k => !isL (listed.setIfInBounds i true) k) (fun k hk => by have := List.mem_range'_1.1 hk; rw [hisL]; simp; omega)]
            simp [Nat.add_assoc]
          omega
      unfold wpOp
      simp only [ho]
      unfold opG at hop
      rw [hagr.wanted]
      split
      · rename_i hwt
        rw [if_pos hwt] at hop
        refine .inl ?_
        unfold Oper.wp
        rw [hagr.exec (fun cs b => hsel cs b ho)]
        generalize (execOp (tf ops val a0 (List.range i)).eval o).run P W = r at hop
        cases r with
        | halt x W' => cases hop
        | ok n W' =>
          cases n <;> first | exact hop.elim | skip
          case value v => exact hnext v W' hop.1 hop.2
          case skip => exact hnext undef W' hop.1 hop.2
          case enter f args =>
            refine hop.2.mono fun e W'' h => ?_
            obtain ⟨v, rfl, hg, hpv⟩ := h
            exact hnext v W'' (hop.1.trans hg) hpv
      · rename_i hwt
        rw [if_neg hwt] at hop
        exact hnext undef W (Gr.refl W) hop
/-- Behind m each waits for the one ahead. -/
def chainB (ops : Array Oper) (m : Nat) : Bool := (List.range ops.size).all fun j => decide (j ≤ m) || ((Region.before ops).getD j 0).testBit (j - 1)
theorem chain_spec {m : Nat} (h : chainB ops m = true) {j : Nat} (h1 : m < j) (h2 : j < ops.size) : ((Region.before ops).getD j 0).testBit (j - 1) = true := by
  unfold chainB at h
  rw [List.all_eq_true] at h
  have := h j (List.mem_range.2 h2)
  rw [Bool.or_eq_true] at this
  rcases this with h3 | h3
  · have : j ≤ m := by simpa using h3
    omega
  · exact h3
theorem tailAny {m : Nat} (hc : chkG ops = true) (hch : chainB ops m = true) : ∀ (rest : List Oper) (j : Nat) (arr : Array Bool) (a : Act) (W : World), rest = ops.toList.drop j → m ≤ j → arr.size = ops.size →
    (∀ k, k < ops.size → isL arr k = decide (k < j)) → wpList P ops Q rest a W → wpAny P .any ops Q (ops.size - j) arr a W := by
  intro rest
  induction rest with
  | nil =>
    intro j arr a W hr hj hsa harr h
    have hn : ops.size ≤ j := by
      have := congrArg List.length hr
      simp at this
      omega
    rw [show ops.size - j = 0 by omega]
    refine ⟨?_, h⟩
    cases hq : Region.ready .any ops arr with
    | nil => rfl
    | cons i l =>
      have hi : i ∈ Region.ready .any ops arr := by rw [hq]; simp
      rw [mem_ready] at hi
      obtain ⟨h1, o, ho, _⟩ := hi
      have his : i < ops.size := (Array.getElem?_eq_some_iff.1 ho).1
      have h2 := harr i his
      unfold isL at h2
      have h3 : decide (i < j) = true := by simp; omega
      rw [h3] at h2
      simp [hsa, his] at h1 h2
      rw [h1] at h2
      cases h2
  | cons o rest ih =>
    intro j arr a W hr hj hsa harr h
    have hlt : j < ops.size := by
      rcases Nat.lt_or_ge j ops.size with h | h
      · exact h
      · rw [List.drop_eq_nil_of_le (by simpa using h)] at hr; cases hr
    have ho : ops[j]? = some o := by
      have h0 : (ops.toList.drop j)[0]? = some o := by rw [← hr]; rfl
      simpa using h0
    have hr' : rest = ops.toList.drop (j + 1) := by
      have := congrArg List.tail hr
      simpa using this
    have hcl : Closed ops (fun k => isL arr k = true) := by
      intro k ok hk hok e he hb
      have hks : k < ops.size := (Array.getElem?_eq_some_iff.1 hok).1
      have h1 : isL arr k = true := hk
      rw [harr k hks] at h1
      have h2 := chk_edge hc hok he hb
      show isL arr e.on = true
      rw [harr e.on (by omega)]
      have h3 : k < j := by simpa using h1
      simp; omega
    rw [show ops.size - j = (ops.size - (j + 1)) + 1 by omega]
    have hnew : ∀ k, k < ops.size → isL (arr.setIfInBounds j true) k = decide (k < j + 1) := by
      intro k hk
      rw [isL_set (by omega), harr k hk, Bool.eq_iff_iff]
      simp
      omega
    refine ⟨fun hq => ?_, fun i hi => ?_⟩
    · exfalso
      have : j ∈ Region.ready .any ops arr := by
        rw [mem_ready]
        have h1 := harr j hlt
        refine ⟨?_, o, ho, fun e he hb => ?_⟩
        · unfold isL at h1; simp [hsa, hlt] at h1 ⊢; exact h1
        · have h2 := chk_edge hc ho he hb
          have h3 := harr e.on (by omega)
          have h4 : decide (e.on < j) = true := by simp; omega
          rw [h4] at h3
          exact h3
      rw [hq] at this
      cases this
    · rw [mem_ready] at hi
      obtain ⟨h1, oi, hoi, hall⟩ := hi
      have his : i < ops.size := (Array.getElem?_eq_some_iff.1 hoi).1
      have hui : isL arr i = false := by unfold isL; simp [hsa, his] at h1 ⊢; exact h1
      rw [harr i his] at hui
      have hij : j ≤ i := by simpa using hui
      have hji : i = j := by
        rcases Nat.lt_or_ge j i with hgt | hle
        · exfalso
          have hb := chain_spec hch (show m < i by omega) his
          obtain ⟨o', ho', e, he, hbn, hx⟩ := before_step ops hb
          rw [hoi] at ho'; injection ho' with ho'; subst ho'
          have hLe : isL arr e.on = true := hall e he hbn
          have hL : isL arr (i - 1) = true := by
            rcases hx with hx | ⟨_, hb'⟩
            · rw [← hx]; exact hLe
            · exact hcl.before (e.on + 1) e.on (i - 1) (by omega) hLe hb'
          rw [harr (i - 1) (by omega)] at hL
          have : i - 1 < j := by simpa using hL
          omega
        · omega
      subst hji
      unfold wpOp
      simp only [ho]
      unfold wpList at h
      split
      · rename_i hw
        rw [if_pos hw] at h
        rcases h with h | h
        · exact .inl (Oper.wp_mono (fun a W hk => ih (i + 1) _ a W hr' (by omega) (by simp [hsa]) hnew hk) h)
        · exact .inr h
      · rename_i hw
        rw [if_neg hw] at h
        exact ih (i + 1) _ _ W hr' (by omega) (by simp [hsa]) hnew h
end
/-- THE RULE, as it is used: 'apply wp_region_draw_tail m [..] (by kernel_rfl) (by kernel_rfl) ⟨.., trivial⟩'. -/
theorem wp_region_draw_tail {P : Program} {ops : List Oper} {id : Nat} {w : World} {Q : Exit → Act → World → Prop} {a : Act} (m : Nat) (ps : List Pl)
    (hmix : P.follows .mixedOrders = true) (hck : (chkG ops.toArray && headDep ops.toArray m && chainB ops.toArray m && decide (m ≤ ops.length)) = true) (hm : allMono ps)
    (h : wpG P ops.toArray w.drew (fun _ a W => wpList P ops.toArray Q (ops.drop m) a W) ps [] 0 (ops.take m) a) : (Code.region id ops.toArray true).wp P Q a w := by
  refine wp_region_any hmix ?_
  simp only [Bool.and_eq_true, decide_eq_true_eq] at hck
  obtain ⟨⟨⟨hc, hdep⟩, hch⟩, hml⟩ := hck
  have hml' : m ≤ ops.toArray.size := by simpa using hml
  have harr : ∀ k, k < ops.toArray.size → isL (((List.range ops.length).map fun k => decide (k < m)).toArray) k = decide (k < m) := by
    intro k hk
    have hk' : k < ops.length := by simpa using hk
    simp [isL, hk']
  have hrep : ∀ k, isL (Array.replicate ops.toArray.size false) k = false := by
    intro k
    simp [isL, Array.getElem?_replicate]
    split <;> simp
  have hob : ∀ val, Holds ps val → (∀ k, k < m → Obl P ops.toArray w.drew a ps val k ∧ ∃ p, ps[k]? = some p) ∧ ∀ W, Gr w.drew W → (∀ j pj, j < m → ps[j]? = some pj → pj.V (val j) W) →
      wpAny P .any ops.toArray Q (ops.toArray.size - m) (((List.range ops.length).map fun k => decide (k < m)).toArray) (tf ops.toArray val a (List.range m)) W := by
    intro val hv
    have := wpG_oblH m hml' a val (ops.take m) ps [] [] 0 a h rfl (by simp) (Nat.zero_le _) rfl (by simpa using hv) (by simp)
    obtain ⟨h1, h2⟩ := this
    refine ⟨fun k hk => h1 k (Nat.zero_le _) hk, fun W hW hV => ?_⟩
    exact tailAny hc hch (ops.drop m) m _ _ W (by simp) (Nat.le_refl _) (by simp) harr (h2 W hW hV)
  have := growHeadAny m hml' hc hdep a ps (allMono_mem ps hm) _ (by simp) harr hob m (Array.replicate ops.toArray.size false) a w.drew (fun k => match ps[k]? with | some (.eq c) => c | _ => undef) (by simp)
    (by intro j o hj; have hj' : isL (Array.replicate ops.toArray.size false) j = true := hj; rw [hrep] at hj'; cases hj') (fun k _ _ => hrep k)
    (by
      have : (List.range m).filter (isL (Array.replicate ops.toArray.size false)) = [] := List.filter_eq_nil_iff.2 fun k _ => by rw [hrep]; simp
      rw [this]; rfl) (Gr.refl _) (by intro k c hk; simp [hk]) (by intro k p hk; rw [hrep] at hk; cases hk)
    (by
      have : (List.range m).filter (fun k => !isL (Array.replicate ops.toArray.size false) k) = List.range m := List.filter_eq_self.2 fun k _ => by rw [hrep]; rfl
      rw [this]; simp)
  have e : m + (ops.toArray.size - m) = ops.toArray.size := by omega
  rw [e] at this
  exact this
theorem Own.gr {w w' : World} {B : Nat} {e : TypeId} {v : Value} {xs : List Value} (h : Own w B e v xs) (hg : Gr w w') : Own w' B e v xs :=
  World.ownsRow.kept h (below_grownBy hg none) (by cases v.ownBlock <;> simp)
theorem mono_own (B : Nat) (e : TypeId) (xs : List Value) : MonoSp (fun v w => Own w B e v xs) := fun _ _ _ hg h => h.gr hg
theorem mono_sl (xs : List Value) : MonoSp (fun v w => Sl w v xs) := fun _ _ _ hg h => h.below hg
end Go.Proofs.Ytiemgmbjhllmbaa
end
section
set_option linter.unusedVariables false
namespace Go.Proofs.Ytiemgmbjhllmbaa
open Go.RowKit
section
variable {P : Program} {ρ : Nat → Prop} {S : Nat → World → Prop} {ops : Array Oper} {w : World} {Q : Exit → Act → World → Prop}
def FinTH (m : Nat) (ρ : Nat → Prop) (S : Nat → World → Prop) (ops : Array Oper) (w : World) (Q : Exit → Act → World → Prop) (a0 : Act) (ps : List Pt) (val : Nat → Value) : Prop :=
  ∀ W, Ch ρ w W → S (rank ps m) W → (∀ j pj, j < m → ps[j]? = some pj → pj.V (val j) W) → Q .normal (tf ops val a0 (List.range m)) W
theorem wpT_oblH (m : Nat) (hm : m ≤ ops.size) (a0 : Act) (val : Nat → Value) (rest : List Oper) : ∀ (ps pre : List Pt) (seen : List (Nat × (World → Prop))) (i k : Nat) (a : Act),
    wpT P ρ S ops w Q ps seen i k rest a → pre.length = i → k = rank (pre ++ ps) i → rest = (ops.toList.take m).drop i → i ≤ m → a = tf ops val a0 (List.range i) → HoldsT (pre ++ ps) val →
    (∀ p ∈ seen, ∃ pj, (pre ++ ps)[p.1]? = some pj ∧ p.1 < i ∧ p.2 = pj.V (val p.1)) →
    (∀ k, i ≤ k → k < m → OblT P ρ S ops w a0 (pre ++ ps) val k ∧ ∃ p, (pre ++ ps)[k]? = some p) ∧ FinTH m ρ S ops w Q a0 (pre ++ ps) val := by
  induction rest with
  | nil =>
    intro ps pre seen i k a h hl hk hr hi ha hv hs
    have hn : i = m := by
      have := congrArg List.length hr
      simp at this
      omega
    subst hn
    refine ⟨fun k h1 h2 => absurd h1 (by omega), fun W hW hS hall => ?_⟩
    rw [← ha]
    have hfin : ∀ W, Ch ρ w W → S k W → (∀ p ∈ seen, p.2 W) → Q .normal a W := by cases ps with
      | nil => exact h
      | cons p ps => cases p <;> exact h
    refine hfin W hW (hk ▸ hS) fun p hp => ?_
    obtain ⟨pj, h1, h2, h3⟩ := hs p hp
    rw [h3]
    exact hall _ pj h2 h1
  | cons o rest ih =>
    intro ps pre seen i k a h hl hk hr hi ha hv hs
    have hlt : i < m := by
      rcases Nat.lt_or_ge i m with h | h
      · exact h
      · rw [List.drop_eq_nil_of_le (by simp; omega)] at hr; cases hr
    have ho : ops[i]? = some o := by
      have h0 : ((ops.toList.take m).drop i)[0]? = some o := by rw [← hr]; rfl
      rw [List.getElem?_drop, Nat.add_zero, List.getElem?_take_of_lt hlt] at h0
      simpa using h0
    have hr' : rest = (ops.toList.take m).drop (i + 1) := by
      have := congrArg List.tail hr
      simpa using this
    cases ps with
    | nil => exact h.elim
    | cons p ps =>
      have hat : (pre ++ p :: ps)[i]? = some p := by rw [← hl]; simp
      have happ : pre ++ p :: ps = (pre ++ [p]) ++ ps := by simp
      have hdst : dstOf ops i = o.dst := by simp [dstOf, ho]
      have key : (∀ W, Ch ρ w W → (p.uses = true → S k W) → (∀ q ∈ seen, needs o q.1 = true → q.2 W) → opT P (if p.uses then usedR ρ S k else Gr) ops o a W p.V) → OblT P ρ S ops w a0 (pre ++ p :: ps) val i := by
        intro hk' o' p' ho' hp' W hW hS hd
        rw [ho] at ho'; injection ho' with ho'; subst ho'
        rw [hat] at hp'; injection hp' with hp'; subst hp'
        rw [← ha, ← hk]
        refine hk' W hW (fun hu => hk ▸ hS hu) fun q hq hn => ?_
        obtain ⟨pj, h1, h2, h3⟩ := hs q hq
        rw [h3]
        exact hd _ pj h2 h1 hn
      have step : ∀ (v : Value) (k' : Nat) (seen' : List (Nat × (World → Prop))), wpT P ρ S ops w Q ps seen' (i + 1) k' rest (a.put o.dst v) → k' = k + (if p.uses then 1 else 0) → val i = v →
          (∀ q ∈ seen', ∃ pj, (pre ++ p :: ps)[q.1]? = some pj ∧ q.1 < i + 1 ∧ q.2 = pj.V (val q.1)) →
          (∀ k, i + 1 ≤ k → k < m → OblT P ρ S ops w a0 (pre ++ p :: ps) val k ∧ ∃ p', (pre ++ p :: ps)[k]? = some p') ∧ FinTH m ρ S ops w Q a0 (pre ++ p :: ps) val := by
        intro v k' seen' hw hk' hvi hs'
        have hk2 : k' = rank (pre ++ p :: ps) (i + 1) := by rw [rank_succ _ _ _ hat, ← hk]; exact hk'
        rw [happ] at hv hs' hk2 ⊢
        refine ih ps (pre ++ [p]) seen' (i + 1) k' (a.put o.dst v) hw (by simp [hl]) hk2 hr' hlt ?_ hv hs'
        rw [List.range_succ, tf_append, ← ha]
        simp [tf, hdst, hvi]
      have old : ∀ q ∈ seen, ∃ pj, (pre ++ p :: ps)[q.1]? = some pj ∧ q.1 < i + 1 ∧ q.2 = pj.V (val q.1) := fun q hq => by
        obtain ⟨pj, g1, g2, g3⟩ := hs q hq
        exact ⟨pj, g1, by omega, g3⟩
      have oldc : ∀ q ∈ (i, p.V (val i)) :: seen, ∃ pj, (pre ++ p :: ps)[q.1]? = some pj ∧ q.1 < i + 1 ∧ q.2 = pj.V (val q.1) := fun q hq => by
        rcases List.mem_cons.1 hq with rfl | hq
        · exact ⟨_, hat, by simp, rfl⟩
        · exact old q hq
      have fin : OblT P ρ S ops w a0 (pre ++ p :: ps) val i → ((∀ k, i + 1 ≤ k → k < m → OblT P ρ S ops w a0 (pre ++ p :: ps) val k ∧ ∃ p', (pre ++ p :: ps)[k]? = some p') ∧ FinTH m ρ S ops w Q a0 (pre ++ p :: ps) val) →
          (∀ k, i ≤ k → k < m → OblT P ρ S ops w a0 (pre ++ p :: ps) val k ∧ ∃ p', (pre ++ p :: ps)[k]? = some p') ∧ FinTH m ρ S ops w Q a0 (pre ++ p :: ps) val := by
        rintro h1 ⟨r1, r2⟩
        refine ⟨fun k hk hks => ?_, r2⟩
        by_cases hki : k = i
        · subst hki; exact ⟨h1, _, hat⟩
        · exact r1 k (by omega) hks
      cases p with
      | eq c => exact fin (key fun W hW _ hd => h.1 W hW hd) (step c k seen h.2 rfl (hv i c (.inl hat)) old)
      | ok V => exact fin (key fun W hW _ hd => h.1 W hW hd) (step (val i) k _ (h.2 (val i)) rfl rfl oldc)
      | useEq c => exact fin (key fun W hW hS hd => h.1 W hW (hS rfl) hd) (step c (k + 1) seen h.2 rfl (hv i c (.inr hat)) old)
      | use V => exact fin (key fun W hW hS hd => h.1 W hW (hS rfl) hd) (step (val i) (k + 1) _ (h.2 (val i)) rfl rfl oldc)
theorem turnHeadAny (m : Nat) (hm0 : m < ops.size) (hc : chkG ops = true) (hdep : headDep ops m = true) (a0 : Act) (ps : List Pt) (hct : chkT ops ps = true) (hm : ∀ p ∈ ps, p.mono ρ) (hS0 : ∀ k W W', Gr W W' → S k W → S k W')
    (arr : Array Bool) (hsa : arr.size = ops.size) (harr : ∀ k, k < ops.size → isL arr k = decide (k < m))
    (hob : ∀ val, HoldsT ps val → (∀ k, k < m → OblT P ρ S ops w a0 ps val k ∧ ∃ p, ps[k]? = some p) ∧ ∀ W, Ch ρ w W → S (rank ps m) W → (∀ j pj, j < m → ps[j]? = some pj → pj.V (val j) W) → wpAny P .any ops Q (ops.size - m) arr (tf ops val a0 (List.range m)) W) :
    ∀ (fuel : Nat) (listed : Array Bool) (a : Act) (W : World) (val : Nat → Value), listed.size = ops.size → Closed ops (fun k => isL listed k = true) → (∀ k, m ≤ k → k < ops.size → isL listed k = false) →
      a = tf ops val a0 ((List.range m).filter (isL listed)) → Ch ρ w W → S (rankL ops ps (isL listed)) W → HoldsT ps val → (∀ k p, isL listed k = true → ps[k]? = some p → p.V (val k) W) →
      ((List.range m).filter fun k => !isL listed k).length = fuel → wpAny P .any ops Q (fuel + (ops.size - m)) listed a W := by
  intro fuel
  induction fuel with
  | zero =>
    intro listed a W val hsz hcl hun ha hW hS hv hV hfu
    have hall : ∀ k, k < m → isL listed k = true := by
      intro k hk
      have h0 := List.eq_nil_of_length_eq_zero hfu
      cases hu : isL listed k with
      | true => rfl
      | false =>
        have : k ∈ (List.range m).filter fun k => !isL listed k := List.mem_filter.2 ⟨List.mem_range.2 hk, by simp [hu]⟩
        rw [h0] at this
        cases this
    have he : listed = arr := by
      apply Array.ext (by omega)
      intro k h1 h2
      have e1 : isL listed k = decide (k < m) := by
        by_cases hk : k < m
        · rw [hall k hk]; simp [hk]
        · rw [hun k (by omega) (by omega)]; simp [hk]
      have e2 := harr k (by omega)
      rw [← e2] at e1
      unfold isL at e1
      simpa [h1, h2] using e1
    have hf : (List.range m).filter (isL listed) = List.range m := List.filter_eq_self.2 fun k hk => hall k (List.mem_range.1 hk)
    rw [ha, hf, he, Nat.zero_add]
    have hrk : rankL ops ps (isL arr) = rank ps m := rankL_eq ops ps (isL arr) m hm0 (fun j pj hj _ _ => by rw [← he]; exact hall j hj) (fun j pj hj hjs _ _ => by rw [← he]; exact hun j hj hjs)
    rw [he, hrk] at hS
    exact (hob val hv).2 W hW hS fun j pj hj hp => hV j pj (hall j hj) hp
  | succ fuel ih =>
    intro listed a W val hsz hcl hun ha hW hS hv hV hfu
    obtain ⟨u, hu1, hu2⟩ : ∃ u, u < m ∧ isL listed u = false := by
      rcases hL : (List.range m).filter fun k => !isL listed k with _ | ⟨x, l⟩
      · rw [hL] at hfu; simp at hfu
      · have : x ∈ (List.range m).filter fun k => !isL listed k := by rw [hL]; simp
        obtain ⟨h1, h2⟩ := List.mem_filter.1 this
        exact ⟨x, List.mem_range.1 h1, by simpa using h2⟩
    rw [show fuel + 1 + (ops.size - m) = (fuel + (ops.size - m)) + 1 by omega]
    refine ⟨fun hr => ?_, fun i hi => ?_⟩
    · exfalso
      have : ∀ k, k ≤ u → isL listed k = true := by
        intro k
        induction k using Nat.strongRecOn with
        | _ k ih2 =>
          intro hk
          cases hv : isL listed k with
          | true => rfl
          | false =>
            exfalso
            have hks : k < ops.size := by omega
            have hmem : k ∈ Region.ready .any ops listed := by
              rw [mem_ready]
              refine ⟨?_, ops[k], Array.getElem?_eq_getElem hks, fun e he hb => ?_⟩
              · unfold isL at hv; simp [hsz, hks] at hv ⊢; exact hv
              · have hlt := chk_edge hc (Array.getElem?_eq_getElem hks) he hb
                exact ih2 e.on hlt (by omega)
            rw [hr] at hmem
            cases hmem
      rw [this u (Nat.le_refl _)] at hu2
      cases hu2
    · rw [mem_ready] at hi
      obtain ⟨hunl, o, ho, hall⟩ := hi
      have his : i < ops.size := (Array.getElem?_eq_some_iff.1 ho).1
      have hui : isL listed i = false := by unfold isL; simp [hsz, his] at hunl ⊢; exact hunl
      have hdst : dstOf ops i = o.dst := by simp [dstOf, ho]
      have hsel := Region.noSelect_spec (chk_sel hc) i o
      have hbef : ∀ j, ((Region.before ops).getD i 0).testBit j = true → isL listed j = true := by
        intro j hj
        obtain ⟨o', ho', e, he, hbn, h⟩ := before_step ops hj
        rw [ho] at ho'; injection ho' with ho'; subst ho'
        have hLe : isL listed e.on = true := hall e he hbn
        rcases h with rfl | ⟨hlt, hb'⟩
        · exact hLe
        · exact hcl.before (e.on + 1) e.on j (by omega) hLe hb'
      have him : i < m := by
        rcases Nat.lt_or_ge i m with h | h
        · exact h
        · have := hbef u (headDep_spec hdep h his hu1)
          rw [hu2] at this; cases this
      obtain ⟨hobl, p, hp⟩ := (hob val hv).1 i him
      -- what is later and done does not touch this operation, nor what is earlier and not done
      have hlate : ∀ k, i < k → isL listed k = true → ∀ ok, ops[k]? = some ok → o.apart ops ok = true := by
        intro k hk hL ok hok
        rcases chk_apart hc ho hok hk with h | h
        · exact h
        · exfalso
          have := hcl.before (k + 1) k i (by omega) hL h
          rw [hui] at this
          cases this
      have hearly : ∀ k, k < i → isL listed k = false → ∀ ok, ops[k]? = some ok → ok.apart ops o = true := by
        intro k hk hL ok hok
        rcases chk_apart hc hok ho hk with h | h
        · exact h
        · exfalso
          have := hbef k h
          rw [hL] at this
          cases this
      have hsp := range_split m i him
      have hfL : (List.range m).filter (isL listed) = (List.range i).filter (isL listed) ++ (List.range' (i + 1) (m - (i + 1))).filter (isL listed) := by
        rw [hsp, List.filter_append, List.filter_cons_of_neg (by simp [hui])]
      have hagr : Agr (o.looksAt ops) a (tf ops val a0 (List.range i)) := by
        rw [ha, hfL, tf_append]
        refine (agr_skips _ (Agr.refl _ _) ?_).trans (Agr.symm (agr_filter (isL listed) (List.range i) (Agr.refl _ _) ?_))
        · intro k hk t ht
          obtain ⟨hk1, hk2⟩ := List.mem_filter.1 hk
          have hik : i < k := by have := List.mem_range'_1.1 hk1; omega
          cases hok : ops[k]? with
          | none => simp [dstOf, hok] at ht
          | some ok =>
            have := (Oper.apart_spec (hlate k hik hk2 ok hok)).2.2
            exact this t (by simpa [dstOf, hok] using ht)
        · intro k hk hL t ht
          cases hok : ops[k]? with
          | none => simp [dstOf, hok] at ht
          | some ok =>
            have := (Oper.apart_spec (hearly k (List.mem_range.1 hk) hL ok hok)).1
            exact this t (by simpa [dstOf, hok] using ht)
      have hrk : p.uses = true → rankL ops ps (isL listed) = rank ps i := by
        intro hu
        refine rankL_eq ops ps (isL listed) i his (fun j pj hj hpj huj => ?_) (fun j pj hj hjs hpj huj => ?_)
        · exact hbef j (chkT_spec hct his hj hpj hp huj hu)
        · by_cases hji : j = i
          · rw [hji]; exact hui
          · cases hL : isL listed j with
            | false => rfl
            | true =>
              have := hcl.before (j + 1) j i (by omega) hL (chkT_spec hct hjs (by omega) hp hpj hu huj)
              rw [hui] at this
              cases this
      have hop : opT P (if p.uses then usedR ρ S (rank ps i) else Gr) ops o (tf ops val a0 (List.range i)) W p.V := hobl o p ho hp W hW (fun hu => hrk hu ▸ hS) fun j pj hj hpj hn => by
        refine hV j pj ?_ hpj
        unfold needs at hn
        obtain ⟨e, he, hb⟩ := List.any_eq_true.1 hn
        simp only [Bool.and_eq_true, beq_iff_eq] at hb
        rw [← hb.2]
        exact hall e (by simpa using he) hb.1
      -- what stands behind it
      have hnext : ∀ v W', (if p.uses then usedR ρ S (rank ps i) else Gr) W W' → p.V v W' → wpAny P .any ops Q (fuel + (ops.size - m)) (listed.setIfInBounds i true) (a.put o.dst v) W' := by
        intro v W' hg0 hpv
        have hg : Ch ρ W W' := by
          cases hu : p.uses with
          | true => rw [if_pos hu] at hg0; exact hg0.1
          | false => rw [if_neg (by simp [hu])] at hg0; exact Ch.of_gr hg0
        let val' : Nat → Value := fun k => if k = i then v else val k
        have hisL : ∀ k, isL (listed.setIfInBounds i true) k = (isL listed k || decide (k = i)) := fun k => isL_set (by rw [hsz]; exact his)
        refine ih (listed.setIfInBounds i true) (a.put o.dst v) W' val' (by simp [hsz]) ?_ (fun k hk hks => by rw [hisL, hun k hk hks]; simp; omega) ?_ (hW.trans hg) ?_ ?_ ?_ ?_
        · intro j oj hj hoj e he hb
          show isL _ e.on = true
          rw [hisL]
          have hj' : isL (listed.setIfInBounds i true) j = true := hj
          rw [hisL] at hj'
          simp only [Bool.or_eq_true, decide_eq_true_eq] at hj' ⊢
          rcases hj' with h | rfl
          · exact .inl (hcl j oj h hoj e he hb)
          · rw [ho] at hoj; injection hoj with hoj; subst hoj
            exact .inl (hall e he hb)
        · have hfL' : (List.range m).filter (isL (listed.setIfInBounds i true)) = (List.range i).filter (isL listed) ++ i :: (List.range' (i + 1) (m - (i + 1))).filter (isL listed) := by
            rw [hsp, List.filter_append, List.filter_cons_of_pos (by rw [hisL]; simp)]
            congr 1
            · refine List.filter_congr fun k hk => ?_
              have := List.mem_range.1 hk
              rw [hisL]; simp; omega
            · congr 1
              refine List.filter_congr fun k hk => ?_
              have := List.mem_range'_1.1 hk
              rw [hisL]; simp; omega
          rw [hfL', tf_append]
          have e1 : ∀ (b : Act) (l : List Nat), tf ops val' b (i :: l) = tf ops val' (b.put o.dst v) l := by
            intro b l
            simp only [tf, List.foldl_cons, hdst]
            congr 2
            simp [val']
          rw [e1, ha, hfL, tf_append]
          rw [tf_put o.dst v _ (fun k hk t ht => ?_)]
          · rw [tf_congr (val := val) (val' := val') ((List.range i).filter (isL listed)) (fun k hk => ?_), tf_congr (val := val) (val' := val') ((List.range' (i + 1) (m - (i + 1))).filter (isL listed)) (fun k hk => ?_)]
            · have := List.mem_range'_1.1 (List.mem_filter.1 hk).1
              simp [val']; omega
            · have := List.mem_range.1 (List.mem_filter.1 hk).1
              simp [val']; omega
          · obtain ⟨hk1, hk2⟩ := List.mem_filter.1 hk
            have hik : i < k := by have := List.mem_range'_1.1 hk1; omega
            cases hok : ops[k]? with
            | none => simp [dstOf, hok]
            | some ok =>
              have := (Oper.apart_spec (hlate k hik hk2 ok hok)).2.1 t ht
              simpa [dstOf, hok] using this
        · rw [rankL_set ops ps (isL listed) (isL (listed.setIfInBounds i true)) i p his hp hui hisL]
          cases hu : p.uses with
          | true => rw [if_pos hu] at hg0; rw [hrk hu]; exact hg0.2
          | false => rw [if_neg (by simp [hu])] at hg0; exact hS0 _ _ _ hg0 hS
        · intro k c hk
          by_cases hki : k = i
          · subst hki
            have hpc : p = .eq c ∨ p = .useEq c := by
              rcases hk with hk | hk <;> rw [hk] at hp <;> injection hp with hp
              · exact .inl hp.symm
              · exact .inr hp.symm
            have hpv' : v = c := by rcases hpc with rfl | rfl <;> exact hpv
            simp [val', hpv']
          · simp [val', hki]; exact hv k c hk
        · intro k pk hk hpk
          rw [hisL] at hk
          by_cases hki : k = i
          · subst hki
            rw [hpk] at hp
            injection hp with hp
            subst hp
            simpa [val'] using hpv
          · simp only [hki, decide_false, Bool.or_false] at hk
            have := hV k pk hk hpk
            simp only [val', hki, if_false]
            exact Pt.mono_V (hm pk (List.mem_of_getElem? hpk)) _ _ _ hg this
        · have hcount : ((List.range m).filter fun k => !isL listed k).length = ((List.range m).filter fun k => !isL (listed.setIfInBounds i true) k).length + 1 := by
            rw [hsp, List.filter_append, List.filter_append, List.filter_cons_of_pos (by simp [hui]), List.filter_cons_of_neg (by rw [hisL]; simp)]
            rw [List.filter_congr (l := List.range i) (q := fun k => !isL (listed.setIfInBounds i true) k) (fun k hk => by have := List.mem_range.1 hk; rw [hisL]; simp; omega),
              List.filter_congr (l := List.range' (i + 1) (m - (i + 1))) (q := fun k => !isL (listed.setIfInBounds i true) k) (fun k hk => by have := List.mem_range'_1.1 hk; rw [hisL]; simp; omega)]
            simp [Nat.add_assoc]
          omega
      unfold wpOp
      simp only [ho]
      unfold opT at hop
      rw [hagr.wanted]
      split
      · rename_i hwt
        rw [if_pos hwt] at hop
        refine .inl ?_
        unfold Oper.wp
        rw [hagr.exec (fun cs b => hsel cs b ho)]
        generalize (execOp (tf ops val a0 (List.range i)).eval o).run P W = r at hop
        cases r with
        | halt x W' => cases hop
        | ok n W' =>
          cases n <;> first | exact hop.elim | skip
          case value v => exact hnext v W' hop.1 hop.2
          case skip => exact hnext undef W' hop.1 hop.2
          case enter f args =>
            refine hop.2.mono fun e W'' h => ?_
            obtain ⟨v, rfl, hg, hpv⟩ := h
            exact hnext v W'' hg hpv
      · rename_i hwt
        rw [if_neg hwt] at hop
        exact hnext undef W hop.1 hop.2
end
/-- THE RULE: 'apply wp_region_draw_turnTail m ρ S (..) (by kernel_rfl) (by kernel_rfl) ⟨..⟩ hS0 hS'. -/
theorem wp_region_draw_turnTail {P : Program} {ops : List Oper} {id : Nat} {w : World} {Q : Exit → Act → World → Prop} {a : Act} (m : Nat) (ρ : Nat → Prop) (S : Nat → World → Prop) (ps : List Pt)
    (hmix : P.follows .mixedOrders = true) (hck : (chkG ops.toArray && headDep ops.toArray m && chainB ops.toArray m && decide (m < ops.length) && chkT ops.toArray ps) = true) (hm : allMonoT ρ ps) (hS0 : ∀ k W W', Gr W W' → S k W → S k W') (hS : S 0 w.drew)
    (h : wpT P ρ S ops.toArray w.drew (fun _ a W => wpList P ops.toArray Q (ops.drop m) a W) ps [] 0 0 (ops.take m) a) : (Code.region id ops.toArray true).wp P Q a w := by
  refine wp_region_any hmix ?_
  simp only [Bool.and_eq_true, decide_eq_true_eq] at hck
  obtain ⟨⟨⟨⟨hc, hdep⟩, hch⟩, hml⟩, hct⟩ := hck
  have hml' : m < ops.toArray.size := by simpa using hml
  have harr : ∀ k, k < ops.toArray.size → isL (((List.range ops.length).map fun k => decide (k < m)).toArray) k = decide (k < m) := by
    intro k hk
    have hk' : k < ops.length := by simpa using hk
    simp [isL, hk']
  have hrep : ∀ k, isL (Array.replicate ops.toArray.size false) k = false := by
    intro k
    simp [isL, Array.getElem?_replicate]
    split <;> simp
  have hob : ∀ val, HoldsT ps val → (∀ k, k < m → OblT P ρ S ops.toArray w.drew a ps val k ∧ ∃ p, ps[k]? = some p) ∧ ∀ W, Ch ρ w.drew W → S (rank ps m) W → (∀ j pj, j < m → ps[j]? = some pj → pj.V (val j) W) →
      wpAny P .any ops.toArray Q (ops.toArray.size - m) (((List.range ops.length).map fun k => decide (k < m)).toArray) (tf ops.toArray val a (List.range m)) W := by
    intro val hv
    have := wpT_oblH m (Nat.le_of_lt hml') a val (ops.take m) ps [] [] 0 0 a h rfl rfl (by simp) (Nat.zero_le _) rfl (by simpa using hv) (by simp)
    obtain ⟨h1, h2⟩ := this
    refine ⟨fun k hk => h1 k (Nat.zero_le _) hk, fun W hW hS hV => ?_⟩
    exact tailAny hc hch (ops.drop m) m _ _ W (by simp) (Nat.le_refl _) (by simp) harr (h2 W hW hS hV)
  have := turnHeadAny m hml' hc hdep a ps hct (allMonoT_mem ps hm) hS0 _ (by simp) harr hob m (Array.replicate ops.toArray.size false) a w.drew (fun k => match ps[k]? with | some (.eq c) => c | some (.useEq c) => c | _ => undef) (by simp)
    (by intro j o hj; have hj' : isL (Array.replicate ops.toArray.size false) j = true := hj; rw [hrep] at hj'; cases hj') (fun k _ _ => hrep k)
    (by
      have : (List.range m).filter (isL (Array.replicate ops.toArray.size false)) = [] := List.filter_eq_nil_iff.2 fun k _ => by rw [hrep]; simp
      rw [this]; rfl) (Ch.refl _) (by
      have : rankL ops.toArray ps (isL (Array.replicate ops.toArray.size false)) = 0 := by
        unfold rankL
        rw [List.filter_eq_nil_iff.2 fun k _ => by rw [hrep]; simp]
        rfl
      rw [this]; exact hS) (by intro k c hk; rcases hk with hk | hk <;> simp [hk]) (by intro k p hk; rw [hrep] at hk; cases hk)
    (by
      have : (List.range m).filter (fun k => !isL (Array.replicate ops.toArray.size false) k) = List.range m := List.filter_eq_self.2 fun k _ => by rw [hrep]; rfl
      rw [this]; simp)
  have e : m + (ops.toArray.size - m) = ops.toArray.size := by omega
  rw [e] at this
  exact this
end Go.Proofs.Ytiemgmbjhllmbaa
end
