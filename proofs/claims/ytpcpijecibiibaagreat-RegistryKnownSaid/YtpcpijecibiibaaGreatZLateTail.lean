/-
  A REGION THAT DRAWS ITS ORDER, as GrowTail has it, but of the first m operations one, q, which looks at no memory ('extract'), may come behind the store m ('h, ok := m[k]', h a struct).
-/
import Derived.Test.YtpcpijecibiibaaGreatZC
set_option linter.unusedVariables false
namespace Go.Proofs.YtpcpijecibiibaaGreat
open Go.RowKit
def headDepQ (ops : Array Oper) (m q : Nat) : Bool :=
  (List.range ops.size).all fun j => decide (j < m) || (List.range m).all fun i => (decide (i = q) && decide (j = m)) || ((Region.before ops).getD j 0).testBit i
theorem headDepQ_spec {ops : Array Oper} {m q : Nat} (h : headDepQ ops m q = true) {j : Nat} (h1 : m ≤ j) (h2 : j < ops.size) {i : Nat} (hi : i < m) (hn : i ≠ q ∨ j ≠ m) : ((Region.before ops).getD j 0).testBit i = true := by
  unfold headDepQ at h
  rw [List.all_eq_true] at h
  have := h j (List.mem_range.2 h2)
  rw [Bool.or_eq_true] at this
  rcases this with h3 | h3
  · have : j < m := by simpa using h3
    omega
  · rw [List.all_eq_true] at h3
    have := h3 i (List.mem_range.2 hi)
    rw [Bool.or_eq_true] at this
    rcases this with h4 | h4
    · simp at h4; omega
    · exact h4
section
variable {P : Program} {ops : Array Oper} {w : World} {Q : Exit → Act → World → Prop}
theorem lateEnd {m q : Nat} {om oq : Oper} {c : Value} (hc : chkG ops = true) (hch : chainB ops m = true) (hdq : headDepQ ops m q = true) (hqm : q < m) (hm0 : m < ops.size) (hom : ops[m]? = some om) (hoq : ops[q]? = some oq)
    (hgm : om.guard = none) (hdm : om.dst = none) (hgq : oq.guard = none)
    (hpure : ∀ (ρ : Operand → Value) (W : World) (n : Next) (W' : World), (execOp ρ oq).run P W = .ok n W' → ∀ W2, (execOp ρ oq).run P W2 = .ok n W2)
    (a0 : Act) (val : Nat → Value) (hvq : val q = c) (listed : Array Bool) (hsz : listed.size = ops.size) (hL : ∀ k, k < ops.size → isL listed k = (decide (k < m) && decide (k ≠ q))) (hcl : Closed ops (fun k => isL listed k = true))
    (a : Act) (ha : a = tf ops val a0 ((List.range m).filter (isL listed))) (W W1 : World) (hnb : ((Region.before ops).getD m 0).testBit q = false)
    (hqrun : ∃ W', (execOp (tf ops val a0 (List.range q)).eval oq).run P W = .ok (.value c) W')
    (hrun : (execOp (tf ops val a0 (List.range m)).eval om).run P W = .ok .skip W1) (hlist : wpList P ops Q (ops.toList.drop (m + 1)) (tf ops val a0 (List.range m)) W1) :
    wpOp P ops Q m (wpAny P .any ops Q (ops.size - m) (listed.setIfInBounds m true)) a W := by
  have hqs : q < ops.size := by omega
  have hdst : dstOf ops q = oq.dst := by simp [dstOf, hoq]
  have hsp := range_split m q hqm
  have hfil : (List.range m).filter (isL listed) = List.range q ++ List.range' (q + 1) (m - (q + 1)) := by
    rw [hsp, List.filter_append, List.filter_cons_of_neg (by rw [hL q hqs]; simp)]
    congr 1
    · refine List.filter_eq_self.2 fun k hk => ?_
      have := List.mem_range.1 hk
      rw [hL k (by omega)]; simp; omega
    · refine List.filter_eq_self.2 fun k hk => ?_
      have := List.mem_range'_1.1 hk
      rw [hL k (by omega)]; simp; omega
  have hlate : ∀ k, q < k → k < m → ∀ ok, ops[k]? = some ok → oq.apart ops ok = true := by
    intro k hk hkm ok hok
    rcases chk_apart hc hoq hok hk with h | h
    · exact h
    · exfalso
      have h1 : isL listed k = true := by rw [hL k (by omega)]; simp; omega
      have h2 := hcl.before (k + 1) k q (by omega) h1 h
      have h3 : isL listed q = true := h2
      rw [hL q hqs] at h3
      simp at h3
  have e1 : ∀ (b : Act) (l : List Nat), tf ops val b (q :: l) = tf ops val (b.put oq.dst c) l := by
    intro b l
    simp only [tf, List.foldl_cons, hdst, hvq]
  have haf : tf ops val a0 (List.range m) = a.put oq.dst c := by
    have hdd : ∀ k ∈ List.range' (q + 1) (m - (q + 1)), ∀ t, oq.dst = some t → dstOf ops k ≠ some t := by
      intro k hk t ht
      have h1 := List.mem_range'_1.1 hk
      cases hok : ops[k]? with
      | none => simp [dstOf, hok]
      | some ok =>
        have := (Oper.apart_spec (hlate k (by omega) (by omega) ok hok)).2.1 t ht
        simpa [dstOf, hok] using this
    rw [ha, hfil, hsp, tf_append, tf_append, e1, tf_put oq.dst c _ hdd]
  have hapm : oq.apart ops om = true := by
    rcases chk_apart hc hoq hom hqm with h | h
    · exact h
    · rw [hnb] at h; cases h
  have hagm : Agr (om.looksAt ops) a (tf ops val a0 (List.range m)) := by
    rw [haf]
    exact Agr.symm (Agr.skip (Agr.refl _ _) _ _ (Oper.apart_spec hapm).1)
  have hagq : Agr (oq.looksAt ops) a (tf ops val a0 (List.range q)) := by
    rw [ha, hfil, tf_append]
    refine agr_skips _ (Agr.refl _ _) ?_
    intro k hk t ht
    have h1 := List.mem_range'_1.1 hk
    cases hok : ops[k]? with
    | none => simp [dstOf, hok] at ht
    | some ok =>
      have := (Oper.apart_spec (hlate k (by omega) (by omega) ok hok)).2.2
      exact this t (by simpa [dstOf, hok] using ht)
  have hselm := Region.noSelect_spec (chk_sel hc) m om
  have hselq := Region.noSelect_spec (chk_sel hc) q oq
  obtain ⟨Wq, hqr⟩ := hqrun
  have hq1 := hpure _ _ _ _ hqr W1
  have hput : a.put (none : Option Tmp) undef = a := rfl
  unfold wpOp
  simp only [hom]
  rw [show Region.wanted om (yielded ops a.tmps) = true from by simp [Region.wanted, hgm], if_pos rfl]
  left
  unfold Oper.wp
  rw [hagm.exec (fun cs b => hselm cs b hom), hrun]
  show wpAny P .any ops Q (ops.size - m) (listed.setIfInBounds m true) (a.put om.dst undef) W1
  rw [hdm, hput]
  rw [show ops.size - m = (ops.size - (m + 1)) + 1 by omega]
  have hL2 : ∀ k, k < ops.size → isL (listed.setIfInBounds m true) k = (decide (k < m + 1) && decide (k ≠ q)) := by
    intro k hk
    rw [isL_set (by omega), hL k hk, Bool.eq_iff_iff]
    simp
    omega
  have hsz2 : (listed.setIfInBounds m true).size = ops.size := by simp [hsz]
  generalize (listed.setIfInBounds m true) = L2 at *
  refine ⟨fun hr => ?_, fun i hi => ?_⟩
  · exfalso
    have : q ∈ Region.ready .any ops L2 := by
      rw [mem_ready]
      refine ⟨?_, oq, hoq, fun e he hb => ?_⟩
      · have h1 := hL2 q hqs
        unfold isL at h1; simp [hsz2, hqs] at h1 ⊢; exact h1
      · have hlt := chk_edge hc hoq he hb
        have h1 := hL2 e.on (by omega)
        have h2 : isL L2 e.on = true := by rw [h1]; simp; omega
        exact h2
    rw [hr] at this
    cases this
  · rw [mem_ready] at hi
    obtain ⟨hunl, o, ho, hall⟩ := hi
    have his : i < ops.size := (Array.getElem?_eq_some_iff.1 ho).1
    have hui : isL L2 i = false := by unfold isL; simp [hsz2, his] at hunl ⊢; exact hunl
    have hiq : i = q := by
      rcases Nat.lt_or_ge m i with hmi | hmi
      · exfalso
        have hb := headDepQ_spec hdq (show m ≤ i by omega) his hqm (.inr (by omega))
        obtain ⟨o', ho', e, he, hbn, h⟩ := before_step ops hb
        rw [ho] at ho'; injection ho' with ho'; subst ho'
        have hLe : isL L2 e.on = true := hall e he hbn
        have hes : e.on < ops.size := by have := chk_edge hc ho he hbn; omega
        rw [hL2 e.on hes] at hLe
        have hLe' : e.on < m + 1 ∧ e.on ≠ q := by simpa using hLe
        rcases h with h | ⟨hlt, hb'⟩
        · exact hLe'.2 h
        · rcases Nat.lt_or_ge e.on m with h5 | h5
          · have h6 : isL listed e.on = true := by rw [hL e.on hes]; simp; omega
            have h7 : isL listed q = true := hcl.before (e.on + 1) e.on q (by omega) h6 hb'
            rw [hL q hqs] at h7
            simp at h7
          · have : e.on = m := by omega
            rw [this, hnb] at hb'
            cases hb'
      · rw [hL2 i his] at hui
        simp at hui
        omega
    subst hiq
    rw [hoq] at ho; injection ho with ho; subst ho
    unfold wpOp
    simp only [hoq]
    rw [show Region.wanted oq (yielded ops a.tmps) = true from by simp [Region.wanted, hgq], if_pos rfl]
    left
    unfold Oper.wp
    rw [hagq.exec (fun cs b => hselq cs b hoq), hq1]
    show wpAny P .any ops Q (ops.size - (m + 1)) (L2.setIfInBounds i true) (a.put oq.dst c) W1
    rw [← haf]
    refine tailAny hc hch (ops.toList.drop (m + 1)) (m + 1) _ _ W1 rfl (by omega) (by simp [hsz2]) (fun k hk => ?_) hlist
    rw [isL_set (by omega), hL2 k hk, Bool.eq_iff_iff]
    simp
    omega
theorem growLateAny (m q : Nat) (c : Value) (om oq : Oper) (hqm : q < m) (hm1 : m < ops.size) (hom : ops[m]? = some om) (hoq : ops[q]? = some oq) (hgm : om.guard = none) (hdm : om.dst = none) (hgq : oq.guard = none)
    (hpure : ∀ (ρ : Operand → Value) (W : World) (n : Next) (W' : World), (execOp ρ oq).run P W = .ok n W' → ∀ W2, (execOp ρ oq).run P W2 = .ok n W2) (hpval : ∀ (ρ : Operand → Value) (W : World) (n : Next) (W' : World), (execOp ρ oq).run P W = .ok n W' → ∃ v, n = .value v) (hch : chainB ops m = true)
    (hc : chkG ops = true) (hdep : headDepQ ops m q = true) (a0 : Act) (ps : List Pl) (hqc : ps[q]? = some (.eq c)) (hm : ∀ p ∈ ps, p.mono)
    (arr : Array Bool) (hsa : arr.size = ops.size) (harr : ∀ k, k < ops.size → isL arr k = decide (k < m))
    (hob : ∀ val, Holds ps val → (∀ k, k < m → Obl P ops w a0 ps val k ∧ ∃ p, ps[k]? = some p) ∧ ∀ W, Gr w W → (∀ j pj, j < m → ps[j]? = some pj → pj.V (val j) W) → ∃ W1, (execOp (tf ops val a0 (List.range m)).eval om).run P W = .ok .skip W1 ∧ wpList P ops Q (ops.toList.drop (m + 1)) (tf ops val a0 (List.range m)) W1) :
    ∀ (fuel : Nat) (listed : Array Bool) (a : Act) (W : World) (val : Nat → Value), listed.size = ops.size → Closed ops (fun k => isL listed k = true) → (∀ k, m ≤ k → k < ops.size → isL listed k = false) →
      a = tf ops val a0 ((List.range m).filter (isL listed)) → Gr w W → Holds ps val → (∀ k p, isL listed k = true → ps[k]? = some p → p.V (val k) W) →
      ((List.range m).filter fun k => !isL listed k).length = fuel → wpAny P .any ops Q (fuel + (ops.size - m)) listed a W := by
  intro fuel
  induction fuel with
  | zero =>
    intro listed a W val hsz hcl hun ha hW hv hV hfu
    have hall : ∀ k, k < m → isL listed k = true := by
      intro k hk
      have h0 := List.eq_nil_of_length_eq_zero hfu
      cases hu : isL listed k with
      | true => rfl
      | false =>
        have : k ∈ (List.range m).filter fun k => !isL listed k := List.mem_filter.2 ⟨List.mem_range.2 hk, by simp [hu]⟩
        rw [h0] at this
        cases this
    have he : listed = arr := by
      apply Array.ext (by omega)
      intro k h1 h2
      have e1 : isL listed k = decide (k < m) := by
        by_cases hk : k < m
        · rw [hall k hk]; simp [hk]
        · rw [hun k (by omega) (by omega)]; simp [hk]
      have e2 := harr k (by omega)
      rw [← e2] at e1
      unfold isL at e1
      simpa [h1, h2] using e1
    have hf : (List.range m).filter (isL listed) = List.range m := List.filter_eq_self.2 fun k hk => hall k (List.mem_range.1 hk)
    rw [ha, hf, he, Nat.zero_add]
    obtain ⟨W1, hr1, hl1⟩ := (hob val hv).2 W hW fun j pj hj hp => hV j pj (hall j hj) hp
    have hm0 : m ≤ ops.size := by omega
    have hdr : ops.toList.drop m = om :: ops.toList.drop (m + 1) := by
      rw [List.drop_eq_getElem_cons (by simpa using hm1)]
      congr 1
      have := hom
      simp [Array.getElem?_eq_some_iff] at this
      obtain ⟨_, this⟩ := this
      simpa using this
    refine tailAny hc hch (ops.toList.drop m) m arr _ W rfl (Nat.le_refl _) hsa harr ?_
    rw [hdr]
    refine wpList_plain hgm fun K hK => ?_
    unfold Oper.wp
    rw [hr1]
    refine hK _ _ ?_
    rw [hdm]
    exact hl1
  | succ fuel ih =>
    intro listed a W val hsz hcl hun ha hW hv hV hfu
    obtain ⟨u, hu1, hu2⟩ : ∃ u, u < m ∧ isL listed u = false := by
      rcases hL : (List.range m).filter fun k => !isL listed k with _ | ⟨x, l⟩
      · rw [hL] at hfu; simp at hfu
      · have : x ∈ (List.range m).filter fun k => !isL listed k := by rw [hL]; simp
        obtain ⟨h1, h2⟩ := List.mem_filter.1 this
        exact ⟨x, List.mem_range.1 h1, by simpa using h2⟩
    rw [show fuel + 1 + (ops.size - m) = (fuel + (ops.size - m)) + 1 by omega]
    refine ⟨fun hr => ?_, fun i hi => ?_⟩
    · exfalso
      have : ∀ k, k ≤ u → isL listed k = true := by
        intro k
        induction k using Nat.strongRecOn with
        | _ k ih2 =>
          intro hk
          cases hv : isL listed k with
          | true => rfl
          | false =>
            exfalso
            have hks : k < ops.size := by omega
            have hmem : k ∈ Region.ready .any ops listed := by
              rw [mem_ready]
              refine ⟨?_, ops[k], Array.getElem?_eq_getElem hks, fun e he hb => ?_⟩
              · unfold isL at hv; simp [hsz, hks] at hv ⊢; exact hv
              · have hlt := chk_edge hc (Array.getElem?_eq_getElem hks) he hb
                exact ih2 e.on hlt (by omega)
            rw [hr] at hmem
            cases hmem
      rw [this u (Nat.le_refl _)] at hu2
      cases hu2
    · rw [mem_ready] at hi
      obtain ⟨hunl, o, ho, hall⟩ := hi
      have his : i < ops.size := (Array.getElem?_eq_some_iff.1 ho).1
      have hui : isL listed i = false := by unfold isL; simp [hsz, his] at hunl ⊢; exact hunl
      have hdst : dstOf ops i = o.dst := by simp [dstOf, ho]
      have hsel := Region.noSelect_spec (chk_sel hc) i o
      have hbef : ∀ j, ((Region.before ops).getD i 0).testBit j = true → isL listed j = true := by
        intro j hj
        obtain ⟨o', ho', e, he, hbn, h⟩ := before_step ops hj
        rw [ho] at ho'; injection ho' with ho'; subst ho'
        have hLe : isL listed e.on = true := hall e he hbn
        rcases h with rfl | ⟨hlt, hb'⟩
        · exact hLe
        · exact hcl.before (e.on + 1) e.on j (by omega) hLe hb'
      have hm0 : m ≤ ops.size := by omega
      by_cases him : i < m
      case neg =>
        have hunq : ∀ k, k < m → isL listed k = false → k = q ∧ i = m := by
          intro k hk hkl
          by_cases hkq : k = q ∧ i = m
          · exact hkq
          · exfalso
            have := hbef k (headDepQ_spec hdep (by omega) his hk (by omega))
            rw [hkl] at this; cases this
        obtain ⟨rfl, rfl⟩ := hunq u hu1 hu2
        have hLall : ∀ k, k < ops.size → isL listed k = (decide (k < i) && decide (k ≠ u)) := by
          intro k hk
          rcases Nat.lt_or_ge k i with hki | hki
          · cases hkl : isL listed k with
            | true =>
              have : k ≠ u := fun e => by rw [e, hu2] at hkl; cases hkl
              simp [hki, this]
            | false =>
              have := (hunq k hki hkl).1
              simp [this]
          · rw [hun k hki hk]; simp; omega
        have hf0 : fuel = 0 := by
          have : ((List.range i).filter fun k => !isL listed k) = [u] := by
            rw [range_split i u hu1, List.filter_append, List.filter_cons_of_pos (by simp [hu2])]
            rw [List.filter_eq_nil_iff.2 (fun k hk => by have := List.mem_range.1 hk; rw [hLall k (by omega)]; simp; omega),
              List.filter_eq_nil_iff.2 (fun k hk => by have := List.mem_range'_1.1 hk; rw [hLall k (by omega)]; simp; omega)]
            rfl
          rw [this] at hfu
          simp at hfu
          omega
        have hnb : ((Region.before ops).getD i 0).testBit u = false := by
          cases hb : ((Region.before ops).getD i 0).testBit u with
          | false => rfl
          | true => have := hbef u hb; rw [hu2] at this; cases this
        have hvq := hv u c hqc
        obtain ⟨hoblq, _, _⟩ := (hob val hv).1 u hu1
        have hopq := hoblq oq _ hoq hqc W hW fun j pj hj hpj hn => by
          refine hV j pj ?_ hpj
          rw [hLall j (by omega)]; simp; omega
        have hqrun : ∃ W', (execOp (tf ops val a0 (List.range u)).eval oq).run P W = .ok (.value c) W' := by
          unfold opG at hopq
          rw [show Region.wanted oq (yielded ops (tf ops val a0 (List.range u)).tmps) = true from by simp [Region.wanted, hgq], if_pos rfl] at hopq
          cases hr : (execOp (tf ops val a0 (List.range u)).eval oq).run P W with
          | halt x W' => rw [hr] at hopq; cases hopq
          | ok n W' =>
            rw [hr] at hopq
            have hp2 := hpure _ _ _ _ hr
            cases n <;> first | exact hopq.elim | skip
            case value v =>
              have : v = c := hopq.2
              exact ⟨W', by rw [this]⟩
            case skip => exact absurd (hpval _ _ _ _ hr) (by simp)
            case enter f args => exact absurd (hpval _ _ _ _ hr) (by simp)
        obtain ⟨W1, hr1, hl1⟩ := (hob val hv).2 W hW fun j pj hj hpj => by
          by_cases hju : j = u
          · subst hju
            rw [hqc] at hpj; injection hpj with hpj; subst hpj
            exact hvq
          · exact hV j pj (by rw [hLall j (by omega)]; simp; omega) hpj
        rw [hom] at ho; injection ho with ho; subst ho
        rw [hf0, Nat.zero_add]
        exact lateEnd hc hch hdep hu1 his hom hoq hgm hdm hgq hpure a0 val hvq listed hsz hLall hcl a ha W W1 hnb hqrun hr1 hl1
      obtain ⟨hobl, p, hp⟩ := (hob val hv).1 i him
      -- what is later and done does not touch this operation, nor what is earlier and not done
      have hlate : ∀ k, i < k → isL listed k = true → ∀ ok, ops[k]? = some ok → o.apart ops ok = true := by
        intro k hk hL ok hok
        rcases chk_apart hc ho hok hk with h | h
        · exact h
        · exfalso
          have := hcl.before (k + 1) k i (by omega) hL h
          rw [hui] at this
          cases this
      have hearly : ∀ k, k < i → isL listed k = false → ∀ ok, ops[k]? = some ok → ok.apart ops o = true := by
        intro k hk hL ok hok
        rcases chk_apart hc hok ho hk with h | h
        · exact h
        · exfalso
          have := hbef k h
          rw [hL] at this
          cases this
      have hsp := range_split m i him
      have hfL : (List.range m).filter (isL listed) = (List.range i).filter (isL listed) ++ (List.range' (i + 1) (m - (i + 1))).filter (isL listed) := by
        rw [hsp, List.filter_append, List.filter_cons_of_neg (by simp [hui])]
      have hagr : Agr (o.looksAt ops) a (tf ops val a0 (List.range i)) := by
        rw [ha, hfL, tf_append]
        refine (agr_skips _ (Agr.refl _ _) ?_).trans (Agr.symm (agr_filter (isL listed) (List.range i) (Agr.refl _ _) ?_))
        · intro k hk t ht
          obtain ⟨hk1, hk2⟩ := List.mem_filter.1 hk
          have hik : i < k := by have := List.mem_range'_1.1 hk1; omega
          cases hok : ops[k]? with
          | none => simp [dstOf, hok] at ht
          | some ok =>
            have := (Oper.apart_spec (hlate k hik hk2 ok hok)).2.2
            exact this t (by simpa [dstOf, hok] using ht)
        · intro k hk hL t ht
          cases hok : ops[k]? with
          | none => simp [dstOf, hok] at ht
          | some ok =>
            have := (Oper.apart_spec (hearly k (List.mem_range.1 hk) hL ok hok)).1
            exact this t (by simpa [dstOf, hok] using ht)
      have hop : opG P ops o (tf ops val a0 (List.range i)) W p.V := hobl o p ho hp W hW fun j pj hj hpj hn => by
        refine hV j pj ?_ hpj
        unfold needs at hn
        obtain ⟨e, he, hb⟩ := List.any_eq_true.1 hn
        simp only [Bool.and_eq_true, beq_iff_eq] at hb
        rw [← hb.2]
        exact hall e (by simpa using he) hb.1
      -- what stands behind it
      have hnext : ∀ v W', Gr W W' → p.V v W' → wpAny P .any ops Q (fuel + (ops.size - m)) (listed.setIfInBounds i true) (a.put o.dst v) W' := by
        intro v W' hg hpv
        let val' : Nat → Value := fun k => if k = i then v else val k
        have hisL : ∀ k, isL (listed.setIfInBounds i true) k = (isL listed k || decide (k = i)) := fun k => isL_set (by rw [hsz]; exact his)
        refine ih (listed.setIfInBounds i true) (a.put o.dst v) W' val' (by simp [hsz]) ?_ (fun k hk hks => by rw [hisL, hun k hk hks]; simp; omega) ?_ (hW.trans hg) ?_ ?_ ?_
        · intro j oj hj hoj e he hb
          show isL _ e.on = true
          rw [hisL]
          have hj' : isL (listed.setIfInBounds i true) j = true := hj
          rw [hisL] at hj'
          simp only [Bool.or_eq_true, decide_eq_true_eq] at hj' ⊢
          rcases hj' with h | rfl
          · exact .inl (hcl j oj h hoj e he hb)
          · rw [ho] at hoj; injection hoj with hoj; subst hoj
            exact .inl (hall e he hb)
        · have hfL' : (List.range m).filter (isL (listed.setIfInBounds i true)) = (List.range i).filter (isL listed) ++ i :: (List.range' (i + 1) (m - (i + 1))).filter (isL listed) := by
            rw [hsp, List.filter_append, List.filter_cons_of_pos (by rw [hisL]; simp)]
            congr 1
            · refine List.filter_congr fun k hk => ?_
              have := List.mem_range.1 hk
              rw [hisL]; simp; omega
            · congr 1
              refine List.filter_congr fun k hk => ?_
              have := List.mem_range'_1.1 hk
              rw [hisL]; simp; omega
          rw [hfL', tf_append]
          have e1 : ∀ (b : Act) (l : List Nat), tf ops val' b (i :: l) = tf ops val' (b.put o.dst v) l := by
            intro b l
            simp only [tf, List.foldl_cons, hdst]
            congr 2
            simp [val']
          rw [e1, ha, hfL, tf_append]
          rw [tf_put o.dst v _ (fun k hk t ht => ?_)]
          · rw [tf_congr (val := val) (val' := val') ((List.range i).filter (isL listed)) (fun k hk => ?_), tf_congr (val := val) (val' := val') ((List.range' (i + 1) (m - (i + 1))).filter (isL listed)) (fun k hk => ?_)]
            · have := List.mem_range'_1.1 (List.mem_filter.1 hk).1
              simp [val']; omega
            · have := List.mem_range.1 (List.mem_filter.1 hk).1
              simp [val']; omega
          · obtain ⟨hk1, hk2⟩ := List.mem_filter.1 hk
            have hik : i < k := by have := List.mem_range'_1.1 hk1; omega
            cases hok : ops[k]? with
            | none => simp [dstOf, hok]
            | some ok =>
              have := (Oper.apart_spec (hlate k hik hk2 ok hok)).2.1 t ht
              simpa [dstOf, hok] using this
        · intro k c hk
          by_cases hki : k = i
          · subst hki
            rw [hk] at hp
            injection hp with hp
            subst hp
            have hpv' : v = c := hpv
            simp [val', hpv']
          · simp [val', hki]; exact hv k c hk
        · intro k pk hk hpk
          rw [hisL] at hk
          by_cases hki : k = i
          · subst hki
            rw [hpk] at hp
            injection hp with hp
            subst hp
            simpa [val'] using hpv
          · simp only [hki, decide_false, Bool.or_false] at hk
            have := hV k pk hk hpk
            simp only [val', hki, if_false]
            exact Pl.mono_V (hm pk (List.mem_of_getElem? hpk)) _ _ _ hg this
        · have hcount : ((List.range m).filter fun k => !isL listed k).length = ((List.range m).filter fun k => !isL (listed.setIfInBounds i true) k).length + 1 := by
            rw [hsp, List.filter_append, List.filter_append, List.filter_cons_of_pos (by simp [hui]), List.filter_cons_of_neg (by rw [hisL]; simp)]
            rw [List.filter_congr (l := List.range i) (q := fun k => !isL (listed.setIfInBounds i true) k) (fun k hk => by have := List.mem_range.1 hk; rw [hisL]; simp; omega),
              List.filter_congr (l := List.range' (i + 1) (m - (i + 1))) (q := fun k => !isL (listed.setIfInBounds i true) k) (fun k hk => by have := List.mem_range'_1.1 hk; rw [hisL]; simp; omega)]
            simp [Nat.add_assoc]
          omega
      unfold wpOp
      simp only [ho]
      unfold opG at hop
      rw [hagr.wanted]
      split
      · rename_i hwt
        rw [if_pos hwt] at hop
        refine .inl ?_
        unfold Oper.wp
        rw [hagr.exec (fun cs b => hsel cs b ho)]
        generalize (execOp (tf ops val a0 (List.range i)).eval o).run P W = r at hop
        cases r with
        | halt x W' => cases hop
        | ok n W' =>
          cases n <;> first | exact hop.elim | skip
          case value v => exact hnext v W' hop.1 hop.2
          case skip => exact hnext undef W' hop.1 hop.2
          case enter f args =>
            refine hop.2.mono fun e W'' h => ?_
            obtain ⟨v, rfl, hg, hpv⟩ := h
            exact hnext v W'' (hop.1.trans hg) hpv
      · rename_i hwt
        rw [if_neg hwt] at hop
        exact hnext undef W (Gr.refl W) hop
end
/-- THE RULE, as it is used: 'apply wp_region_draw_late m q [..] ..'; the plan's word on q is '.eq _'; the store m by its run. -/
theorem wp_region_draw_late {P : Program} {ops : List Oper} {id : Nat} {w : World} {Q : Exit → Act → World → Prop} {a : Act} (m q : Nat) (ps : List Pl) {c : Value} {om oq : Oper}
    (hom : ops.toArray[m]? = some om) (hoq : ops.toArray[q]? = some oq) (hqc : ps[q]? = some (.eq c))
    (hmix : P.follows .mixedOrders = true) (hck : (chkG ops.toArray && headDepQ ops.toArray m q && chainB ops.toArray m && decide (m < ops.length) && decide (q < m) && om.guard.isNone && om.dst.isNone && oq.guard.isNone) = true) (hm : allMono ps)
    (hpure : ∀ (ρ : Operand → Value) (W : World) (n : Next) (W' : World), (execOp ρ oq).run P W = .ok n W' → ∀ W2, (execOp ρ oq).run P W2 = .ok n W2)
    (hpval : ∀ (ρ : Operand → Value) (W : World) (n : Next) (W' : World), (execOp ρ oq).run P W = .ok n W' → ∃ v, n = .value v)
    (h : wpG P ops.toArray w.drew (fun _ a W => ∃ W1, (execOp a.eval om).run P W = .ok .skip W1 ∧ wpList P ops.toArray Q (ops.drop (m + 1)) a W1) ps [] 0 (ops.take m) a) : (Code.region id ops.toArray true).wp P Q a w := by
  refine wp_region_any hmix ?_
  simp only [Bool.and_eq_true, decide_eq_true_eq, Option.isNone_iff_eq_none] at hck
  obtain ⟨⟨⟨⟨⟨⟨⟨hc, hdep⟩, hch⟩, hml⟩, hqm⟩, hgm⟩, hdm⟩, hgq⟩ := hck
  have hml' : m < ops.toArray.size := by simpa using hml
  have harr : ∀ k, k < ops.toArray.size → isL (((List.range ops.length).map fun k => decide (k < m)).toArray) k = decide (k < m) := by
    intro k hk
    have hk' : k < ops.length := by simpa using hk
    simp [isL, hk']
  have hrep : ∀ k, isL (Array.replicate ops.toArray.size false) k = false := by
    intro k
    simp [isL, Array.getElem?_replicate]
    split <;> simp
  have hob : ∀ val, Holds ps val → (∀ k, k < m → Obl P ops.toArray w.drew a ps val k ∧ ∃ p, ps[k]? = some p) ∧ ∀ W, Gr w.drew W → (∀ j pj, j < m → ps[j]? = some pj → pj.V (val j) W) →
      ∃ W1, (execOp (tf ops.toArray val a (List.range m)).eval om).run P W = .ok .skip W1 ∧ wpList P ops.toArray Q (ops.toArray.toList.drop (m + 1)) (tf ops.toArray val a (List.range m)) W1 := by
    intro val hv
    have := wpG_oblH (Q := fun _ a W => ∃ W1, (execOp a.eval om).run P W = .ok .skip W1 ∧ wpList P ops.toArray Q (ops.drop (m + 1)) a W1) m (Nat.le_of_lt hml') a val (ops.take m) ps [] [] 0 a h rfl (by simp) (Nat.zero_le _) rfl (by simpa using hv) (by simp)
    obtain ⟨h1, h2⟩ := this
    exact ⟨fun k hk => h1 k (Nat.zero_le _) hk, fun W hW hV => by simpa using h2 W hW hV⟩
  have := growLateAny m q c om oq hqm hml' hom hoq hgm hdm hgq hpure hpval hch hc hdep a ps hqc (allMono_mem ps hm) _ (by simp) harr hob m (Array.replicate ops.toArray.size false) a w.drew (fun k => match ps[k]? with | some (.eq c) => c | _ => undef) (by simp)
    (by intro j o hj; have hj' : isL (Array.replicate ops.toArray.size false) j = true := hj; rw [hrep] at hj'; cases hj') (fun k _ _ => hrep k)
    (by
      have : (List.range m).filter (isL (Array.replicate ops.toArray.size false)) = [] := List.filter_eq_nil_iff.2 fun k _ => by rw [hrep]; simp
      rw [this]; rfl) (Gr.refl _) (by intro k c hk; simp [hk]) (by intro k p hk; rw [hrep] at hk; cases hk)
    (by
      have : (List.range m).filter (fun k => !isL (Array.replicate ops.toArray.size false) k) = List.range m := List.filter_eq_self.2 fun k _ => by rw [hrep]; rfl
      rw [this]; simp)
  have e : m + (ops.toArray.size - m) = ops.toArray.size := by omega
  rw [e] at this
  exact this
/-- 'extract' looks at no memory. -/
theorem extract_pure {P : Program} {o : Oper} {t : Operand} {n : Nat} (ho : o.op = .extract t n) :
    (∀ (ρ : Operand → Value) (W : World) (nx : Next) (W' : World), (execOp ρ o).run P W = .ok nx W' → ∀ W2, (execOp ρ o).run P W2 = .ok nx W2) ∧
    (∀ (ρ : Operand → Value) (W : World) (nx : Next) (W' : World), (execOp ρ o).run P W = .ok nx W' → ∃ v, nx = .value v) := by
  have key : ∀ (ρ : Operand → Value) (W : World) (nx : Next) (W' : World), (execOp ρ o).run P W = .ok nx W' → ∃ vs v, ρ t = .tuple vs ∧ vs[n]? = some v ∧ nx = .value v := by
    intro ρ W nx W' h
    unfold execOp at h
    simp only [ho] at h
    cases hv : ρ t with
    | tuple vs =>
      rw [hv] at h
      refine ⟨vs, ?_⟩
      cases hn : vs[n]? with
      | none => simp [Instr.extract, hn, Result.andThen] at h
      | some v => exact ⟨v, rfl, rfl, by simp [Instr.extract, hn] at h; exact h.1.symm⟩
    | _ => rw [hv] at h; simp [Instr.extract, Result.andThen] at h
  refine ⟨fun ρ W nx W' h W2 => ?_, fun ρ W nx W' h => ?_⟩
  · obtain ⟨vs, v, h1, h2, rfl⟩ := key ρ W nx W' h
    unfold execOp
    simp only [ho, h1]
    simp [Instr.extract, h2]
  · obtain ⟨vs, v, h1, h2, rfl⟩ := key ρ W nx W' h
    exact ⟨v, rfl⟩
end Go.Proofs.YtpcpijecibiibaaGreat
