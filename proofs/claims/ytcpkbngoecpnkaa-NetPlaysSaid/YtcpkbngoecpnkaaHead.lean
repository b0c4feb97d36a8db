/-
  INSIDE A FENCE: A REGION THAT DRAWS ITS ORDER, OF WHICH THE FIRST m OPERATIONS ONLY READ, AND ALL OTHERS WAIT FOR THEM: the head is walked once, in text order; what stands behind it is a 'wpAnyIn' from there.
-/
import Derived.Test.YtcpkbngoecpnkaaGrow
import Derived.OrdersIn
set_option linter.unusedVariables false
namespace Go.Proofs.Ytcpkbngoecpnkaa
open Go.RowKit

/-- In the world W the operation yields v, and turns nothing. -/
def quietAt (P : Program) (ops : Array Oper) (o : Oper) (a : Act) (W : World) (v : Value) : Prop :=
  if Region.wanted o (yielded ops a.tmps) = true then (execOp a.eval o).run P W = .ok (.value v) W else v = undef

def headDep (ops : Array Oper) (m : Nat) : Bool :=
  (List.range ops.size).all fun j => decide (j < m) || (List.range m).all fun i => ((Region.before ops).getD j 0).testBit i
theorem headDep_spec {ops : Array Oper} {m : Nat} (h : headDep ops m = true) {j : Nat} (h1 : m ≤ j) (h2 : j < ops.size) {i : Nat} (hi : i < m) : ((Region.before ops).getD j 0).testBit i = true := by
  unfold headDep at h
  rw [List.all_eq_true] at h
  have := h j (List.mem_range.2 h2)
  rw [Bool.or_eq_true] at this
  rcases this with h3 | h3
  · have : j < m := by simpa using h3
    omega
  · rw [List.all_eq_true] at h3
    exact h3 i (List.mem_range.2 hi)

section
variable {F : Fence} {n : Nat} {P : Program} {ops : Array Oper} {W : World} {Q : Exit → Act → World → Prop} {a0 : Act} {val : Nat → Value} {m : Nat}

theorem headAny (hro : F.round = none) (hc : chkG ops = true) (hm : m ≤ ops.size) (hdep : headDep ops m = true)
    (hq : ∀ i o, i < m → ops[i]? = some o → quietAt P ops o (tf ops val a0 (List.range i)) W (val i) ∧ ∀ a : Act, o.about P W a.eval = none)
    (arr : Array Bool) (hsa : arr.size = ops.size) (harr : ∀ k, k < ops.size → isL arr k = decide (k < m))
    (tail : wpAnyIn F n P .any ops Q (ops.size - m) arr (tf ops val a0 (List.range m)) W) :
    ∀ (fuel : Nat) (listed : Array Bool) (a : Act), listed.size = ops.size → Closed ops (fun k => isL listed k = true) → (∀ k, m ≤ k → k < ops.size → isL listed k = false) →
      a = tf ops val a0 ((List.range m).filter (isL listed)) → ((List.range m).filter fun k => !isL listed k).length = fuel → wpAnyIn F n P .any ops Q (fuel + (ops.size - m)) listed a W := by
  intro fuel
  induction fuel with
  | zero =>
    intro listed a hsz hcl hun ha hfu
    have hall : ∀ k, k < m → isL listed k = true := by
      intro k hk
      have h0 := List.eq_nil_of_length_eq_zero hfu
      cases hu : isL listed k with
      | true => rfl
      | false =>
        have : k ∈ (List.range m).filter fun k => !isL listed k := List.mem_filter.2 ⟨List.mem_range.2 hk, by simp [hu]⟩
        rw [h0] at this
        cases this
    have he : listed = arr := by
      apply Array.ext (by omega)
      intro k h1 h2
      have e1 : isL listed k = decide (k < m) := by
        by_cases hk : k < m
        · rw [hall k hk]; simp [hk]
        · rw [hun k (by omega) (by omega)]; simp [hk]
      have e2 := harr k (by omega)
      rw [← e2] at e1
      unfold isL at e1
      simpa [h1, h2] using e1
    have hf : (List.range m).filter (isL listed) = List.range m := List.filter_eq_self.2 fun k hk => hall k (List.mem_range.1 hk)
    rw [ha, hf, he, Nat.zero_add]
    exact tail
  | succ fuel ih =>
    intro listed a hsz hcl hun ha hfu
    obtain ⟨u, hu1, hu2⟩ : ∃ u, u < m ∧ isL listed u = false := by
      rcases hL : (List.range m).filter fun k => !isL listed k with _ | ⟨x, l⟩
      · rw [hL] at hfu; simp at hfu
      · have : x ∈ (List.range m).filter fun k => !isL listed k := by rw [hL]; simp
        obtain ⟨h1, h2⟩ := List.mem_filter.1 this
        exact ⟨x, List.mem_range.1 h1, by simpa using h2⟩
    rw [show fuel + 1 + (ops.size - m) = (fuel + (ops.size - m)) + 1 by omega]
    refine ⟨fun hr => ?_, fun i hi => ?_⟩
    · exfalso
      -- what is not listed, and is the first such, is ready
      have : ∀ k, k ≤ u → isL listed k = true := by
        intro k
        induction k using Nat.strongRecOn with
        | _ k ih2 =>
          intro hk
          cases hv : isL listed k with
          | true => rfl
          | false =>
            exfalso
            have hks : k < ops.size := by omega
            have hmem : k ∈ Region.ready .any ops listed := by
              rw [mem_ready]
              refine ⟨?_, ops[k], Array.getElem?_eq_getElem hks, fun e he hb => ?_⟩
              · unfold isL at hv; simp [hsz, hks] at hv ⊢; exact hv
              · have hlt := chk_edge hc (Array.getElem?_eq_getElem hks) he hb
                exact ih2 e.on hlt (by omega)
            rw [hr] at hmem
            cases hmem
      rw [this u (Nat.le_refl _)] at hu2
      cases hu2
    · rw [mem_ready] at hi
      obtain ⟨hunl, o, ho, hall⟩ := hi
      have his : i < ops.size := (Array.getElem?_eq_some_iff.1 ho).1
      have hui : isL listed i = false := by unfold isL; simp [hsz, his] at hunl ⊢; exact hunl
      have hdst : dstOf ops i = o.dst := by simp [dstOf, ho]
      have hbef : ∀ j, ((Region.before ops).getD i 0).testBit j = true → isL listed j = true := by
        intro j hj
        obtain ⟨o', ho', e, he, hbn, h⟩ := before_step ops hj
        rw [ho] at ho'; injection ho' with ho'; subst ho'
        have hLe : isL listed e.on = true := hall e he hbn
        rcases h with rfl | ⟨hlt, hb'⟩
        · exact hLe
        · exact hcl.before (e.on + 1) e.on j (by omega) hLe hb'
      have him : i < m := by
        rcases Nat.lt_or_ge i m with h | h
        · exact h
        · have := hbef u (headDep_spec hdep h his hu1)
          rw [hu2] at this; cases this
      have hlate : ∀ k, i < k → isL listed k = true → ∀ ok, ops[k]? = some ok → o.apart ops ok = true := by
        intro k hk hL ok hok
        rcases chk_apart hc ho hok hk with h | h
        · exact h
        · exfalso
          have := hcl.before (k + 1) k i (by omega) hL h
          rw [hui] at this
          cases this
      have hearly : ∀ k, k < i → isL listed k = false → ∀ ok, ops[k]? = some ok → ok.apart ops o = true := by
        intro k hk hL ok hok
        rcases chk_apart hc hok ho hk with h | h
        · exact h
        · exfalso
          have := hbef k h
          rw [hL] at this
          cases this
      have hsp := range_split m i him
      have hfL : (List.range m).filter (isL listed) = (List.range i).filter (isL listed) ++ (List.range' (i + 1) (m - (i + 1))).filter (isL listed) := by
        rw [hsp, List.filter_append, List.filter_cons_of_neg (by simp [hui])]
      have hagr : Agr (o.looksAt ops) a (tf ops val a0 (List.range i)) := by
        rw [ha, hfL, tf_append]
        refine (agr_skips _ (Agr.refl _ _) ?_).trans (Agr.symm (agr_filter (isL listed) (List.range i) (Agr.refl _ _) ?_))
        · intro k hk t ht
          obtain ⟨hk1, hk2⟩ := List.mem_filter.1 hk
          have hik : i < k := by have := List.mem_range'_1.1 hk1; omega
          cases hok : ops[k]? with
          | none => simp [dstOf, hok] at ht
          | some ok =>
            have := (Oper.apart_spec (hlate k hik hk2 ok hok)).2.2
            exact this t (by simpa [dstOf, hok] using ht)
        · intro k hk hL t ht
          cases hok : ops[k]? with
          | none => simp [dstOf, hok] at ht
          | some ok =>
            have := (Oper.apart_spec (hearly k (List.mem_range.1 hk) hL ok hok)).1
            exact this t (by simpa [dstOf, hok] using ht)
      obtain ⟨hqi, hab⟩ := hq i o him ho
      have hisL : ∀ k, isL (listed.setIfInBounds i true) k = (isL listed k || decide (k = i)) := fun k => isL_set (by rw [hsz]; exact his)
      have hnext : wpAnyIn F n P .any ops Q (fuel + (ops.size - m)) (listed.setIfInBounds i true) (a.put o.dst (val i)) W := by
        refine ih (listed.setIfInBounds i true) (a.put o.dst (val i)) (by simp [hsz]) ?_ ?_ ?_ ?_
        · intro j oj hj hoj e he hb
          show isL _ e.on = true
          rw [hisL]
          have hj' : isL (listed.setIfInBounds i true) j = true := hj
          rw [hisL] at hj'
          simp only [Bool.or_eq_true, decide_eq_true_eq] at hj' ⊢
          rcases hj' with h | rfl
          · exact .inl (hcl j oj h hoj e he hb)
          · rw [ho] at hoj; injection hoj with hoj; subst hoj
            exact .inl (hall e he hb)
        · intro k hk hks
          rw [hisL, hun k hk hks]
          simp; omega
        · have hfL' : (List.range m).filter (isL (listed.setIfInBounds i true)) = (List.range i).filter (isL listed) ++ i :: (List.range' (i + 1) (m - (i + 1))).filter (isL listed) := by
            rw [hsp, List.filter_append, List.filter_cons_of_pos (by rw [hisL]; simp)]
            congr 1
            · refine List.filter_congr fun k hk => ?_
              have := List.mem_range.1 hk
              rw [hisL]; simp; omega
            · congr 1
              refine List.filter_congr fun k hk => ?_
              have := List.mem_range'_1.1 hk
              rw [hisL]; simp; omega
          rw [hfL', tf_append]
          have e1 : ∀ (b : Act) (l : List Nat), tf ops val b (i :: l) = tf ops val (b.put o.dst (val i)) l := by
            intro b l
            simp only [tf, List.foldl_cons, hdst]
          rw [e1, ha, hfL, tf_append]
          rw [tf_put o.dst (val i) _ (fun k hk t ht => ?_)]
          obtain ⟨hk1, hk2⟩ := List.mem_filter.1 hk
          have hik : i < k := by have := List.mem_range'_1.1 hk1; omega
          cases hok : ops[k]? with
          | none => simp [dstOf, hok]
          | some ok =>
            have := (Oper.apart_spec (hlate k hik hk2 ok hok)).2.1 t ht
            simpa [dstOf, hok] using this
        · have hcount : ((List.range m).filter fun k => !isL listed k).length = ((List.range m).filter fun k => !isL (listed.setIfInBounds i true) k).length + 1 := by
            rw [hsp, List.filter_append, List.filter_append, List.filter_cons_of_pos (by simp [hui]), List.filter_cons_of_neg (by rw [hisL]; simp)]
            have f1 : (List.range i).filter (fun k => !isL (listed.setIfInBounds i true) k) = (List.range i).filter (fun k => !isL listed k) := List.filter_congr fun k hk => by
              have := List.mem_range.1 hk
              rw [hisL]; simp; omega
            have f2 : (List.range' (i + 1) (m - (i + 1))).filter (fun k => !isL (listed.setIfInBounds i true) k) = (List.range' (i + 1) (m - (i + 1))).filter (fun k => !isL listed k) := List.filter_congr fun k hk => by
              have := List.mem_range'_1.1 hk
              rw [hisL]; simp; omega
            rw [f1, f2]
            simp [List.length_append]
            omega
          omega
      unfold wpOpIn
      simp only [ho]
      have hw := hagr.wanted
      unfold quietAt at hqi
      split
      · rename_i hwt
        rw [hw] at hwt
        rw [if_pos hwt, ← Agr.exec hagr (Region.noSelect_spec (chk_sel hc) i o · · ho)] at hqi
        refine ⟨fun f hf => (by rw [hab a] at hf; cases hf), ?_⟩
        rw [hro, Oper.semAt_none, hqi]
        exact hnext
      · rename_i hwt
        rw [hw] at hwt
        rw [if_neg hwt] at hqi
        refine ⟨fun f hf => (by rw [hab a] at hf; cases hf), ?_⟩
        rw [← hqi]
        exact hnext

/-- The head's walk: the values that are said, one by one. -/
def hdW (P : Program) (ops : Array Oper) (W : World) (K : Act → Prop) : List Value → List Oper → Act → Prop
  | [], _, a => K a
  | v :: vs, o :: rest, a => (quietAt P ops o a W v ∧ ∀ a' : Act, o.about P W a'.eval = none) ∧ hdW P ops W K vs rest (a.put o.dst v)
  | _ :: _, [], _ => False
theorem hdW_cons {K : Act → Prop} {o : Oper} {rest : List Oper} {vs : List Value} {a : Act} (v : Value) (h : quietAt P ops o a W v) (ha : ∀ a' : Act, o.about P W a'.eval = none) (h2 : hdW P ops W K vs rest (a.put o.dst v)) : hdW P ops W K (v :: vs) (o :: rest) a := ⟨⟨h, ha⟩, h2⟩
theorem hdW_nil {K : Act → Prop} {rest : List Oper} {a : Act} (h : K a) : hdW P ops W K [] rest a := h

theorem hdW_spec (K : Act → Prop) (a0 : Act) (all : List Value) : ∀ (vs : List Value) (i : Nat) (rest : List Oper) (a : Act), hdW P ops W K vs rest a → rest = ops.toList.drop i → vs = all.drop i → i + vs.length = all.length →
    a = tf ops (fun k => all.getD k undef) a0 (List.range i) →
    (∀ j o, i ≤ j → j < all.length → ops[j]? = some o → quietAt P ops o (tf ops (fun k => all.getD k undef) a0 (List.range j)) W (all.getD j undef) ∧ ∀ a' : Act, o.about P W a'.eval = none) ∧ K (tf ops (fun k => all.getD k undef) a0 (List.range all.length)) := by
  intro vs
  induction vs with
  | nil =>
    intro i rest a h hr hv hl ha
    have hi : i = all.length := by simpa using hl
    subst hi
    refine ⟨fun j o h1 h2 => absurd h1 (by omega), ?_⟩
    rw [← ha]; exact h
  | cons v vs ih =>
    intro i rest a h hr hv hl ha
    cases rest with
    | nil => exact h.elim
    | cons o rest =>
      obtain ⟨⟨h1, h2⟩, h3⟩ := h
      have ho : ops[i]? = some o := by
        have h0 : (ops.toList.drop i)[0]? = some o := by rw [← hr]; rfl
        simpa using h0
      have hvi : all.getD i undef = v := by
        have h0 : (all.drop i)[0]? = some v := by rw [← hv]; rfl
        have h4 : all[i]? = some v := by simpa using h0
        simp [List.getD, h4]
      have hdst : dstOf ops i = o.dst := by simp [dstOf, ho]
      have := ih (i + 1) rest (a.put o.dst v) h3 (by have := congrArg List.tail hr; simpa using this) (by have := congrArg List.tail hv; simpa using this) (by simp at hl; omega) (by
        rw [List.range_succ, tf_append, ← ha]
        simp only [tf, List.foldl_cons, List.foldl_nil, hdst, hvi])
      refine ⟨fun j o' hj hjl hoj => ?_, this.2⟩
      by_cases hji : j = i
      · subst hji
        rw [ho] at hoj; injection hoj with hoj; subst hoj
        rw [← ha, hvi]; exact ⟨h1, h2⟩
      · exact this.1 j o' (by omega) hjl hoj

/-- THE RULE. -/
theorem wpIn_region_head {ops : List Oper} {id : Nat} {w : World} {a : Act} (vs : List Value) (m : Nat) (hvm : vs.length = m) (hro : F.round = none) (hmix : P.follows .mixedOrders = true) (hc : chkG ops.toArray = true) (hm : m ≤ ops.length)
    (hdep : headDep ops.toArray m = true)
    (h : hdW P ops.toArray w.drew (fun a => wpAnyIn F n P .any ops.toArray Q (ops.toArray.size - m) ((List.range ops.length).map fun k => decide (k < m)).toArray a w.drew) vs ops a) :
    (Code.region id ops.toArray true).wpIn F n P Q a w := by
  subst hvm
  refine wpIn_region_any hmix ?_
  obtain ⟨h1, h2⟩ := hdW_spec _ a vs vs 0 ops a h (by simp) (by simp) (by simp) rfl
  have harr : ∀ k, k < ops.toArray.size → isL (((List.range ops.length).map fun k => decide (k < vs.length)).toArray) k = decide (k < vs.length) := by
    intro k hk
    have hk' : k < ops.length := by simpa using hk
    simp [isL, hk']
  have hrep : ∀ k, isL (Array.replicate ops.toArray.size false) k = false := by
    intro k
    simp [isL, Array.getElem?_replicate]
    split <;> simp
  have := headAny (a0 := a) (val := fun k => vs.getD k undef) hro hc (by simpa using hm) hdep (fun i o hi ho => h1 i o (Nat.zero_le _) hi ho)
    (((List.range ops.length).map fun k => decide (k < vs.length)).toArray) (by simp) harr h2
    vs.length (Array.replicate ops.toArray.size false) a (by simp) (fun j o hj => by have hj' : isL (Array.replicate ops.toArray.size false) j = true := hj; rw [hrep] at hj'; cases hj') (fun k _ _ => hrep k) (by
      have : (List.range vs.length).filter (isL (Array.replicate ops.toArray.size false)) = [] := List.filter_eq_nil_iff.2 fun k _ => by rw [hrep]; simp
      rw [this]; rfl) (by
      have : (List.range vs.length).filter (fun k => !isL (Array.replicate ops.toArray.size false) k) = List.range vs.length := List.filter_eq_self.2 fun k _ => by rw [hrep]; rfl
      rw [this]; simp)
  have e : vs.length + (ops.toArray.size - vs.length) = ops.toArray.size := by simp; omega
  rw [e] at this
  exact this
end
end Go.Proofs.Ytcpkbngoecpnkaa
