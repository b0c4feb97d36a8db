/-
  The rule of GrowTail inside a round of a range over a function: a region that draws, whose first m operations only make memory, and whose others wait for them and for one another.
-/
import Derived.Test.YtpdninnnpoiblaaGrowTail
import Derived.RangeFuncCalls
import Derived.OrdersIn
import Derived.TacticsIn
set_option linter.unusedVariables false
namespace Go.Proofs.Ytpdninnnpoiblaa
open Go.RowKit

section
variable {P : Program} {ops : Array Oper} {w : World} {Q : Exit → Act → World → Prop}
theorem growHeadAnyIn (l0 n : Nat) (hnd : ∀ (i : Nat) (o : Oper), ops[i]? = some o → ∀ c : Call, o.op ≠ Op.defer c) (m : Nat) (hm0 : m ≤ ops.size) (hc : chkG ops = true) (hdep : headDep ops m = true) (a0 : Act) (ps : List Pl) (hm : ∀ p ∈ ps, p.mono)
    (arr : Array Bool) (hsa : arr.size = ops.size) (harr : ∀ k, k < ops.size → isL arr k = decide (k < m))
    (hob : ∀ val, Holds ps val → (∀ k, k < m → Obl P ops w a0 ps val k ∧ ∃ p, ps[k]? = some p) ∧ ∀ W, Gr w W → (∀ j pj, j < m → ps[j]? = some pj → pj.V (val j) W) → wpAnyIn (Fence.wide.inRound l0) n P .any ops Q (ops.size - m) arr (tf ops val a0 (List.range m)) W) :
    ∀ (fuel : Nat) (listed : Array Bool) (a : Act) (W : World) (val : Nat → Value), listed.size = ops.size → Closed ops (fun k => isL listed k = true) → (∀ k, m ≤ k → k < ops.size → isL listed k = false) →
      a = tf ops val a0 ((List.range m).filter (isL listed)) → Gr w W → Holds ps val → (∀ k p, isL listed k = true → ps[k]? = some p → p.V (val k) W) →
      ((List.range m).filter fun k => !isL listed k).length = fuel → wpAnyIn (Fence.wide.inRound l0) n P .any ops Q (fuel + (ops.size - m)) listed a W := by
  intro fuel
  induction fuel with
  | zero =>
    intro listed a W val hsz hcl hun ha hW hv hV hfu
    have hall : ∀ k, k < m → isL listed k = true := by
      intro k hk
      have h0 := List.eq_nil_of_length_eq_zero hfu
      cases hu : isL listed k with
      | true => rfl
      | false =>
        have : k ∈ (List.range m).filter fun k => !isL listed k := List.mem_filter.2 ⟨List.mem_range.2 hk, by simp [hu]⟩
        rw [h0] at this
        cases this
    have he : listed = arr := by
      apply Array.ext (by omega)
      intro k h1 h2
      have e1 : isL listed k = decide (k < m) := by
        by_cases hk : k < m
        · rw [hall k hk]; simp [hk]
        · rw [hun k (by omega) (by omega)]; simp [hk]
      have e2 := harr k (by omega)
      rw [← e2] at e1
      unfold isL at e1
      simpa [h1, h2] using e1
    have hf : (List.range m).filter (isL listed) = List.range m := List.filter_eq_self.2 fun k hk => hall k (List.mem_range.1 hk)
    rw [ha, hf, he, Nat.zero_add]
    exact (hob val hv).2 W hW fun j pj hj hp => hV j pj (hall j hj) hp
  | succ fuel ih =>
    intro listed a W val hsz hcl hun ha hW hv hV hfu
    obtain ⟨u, hu1, hu2⟩ : ∃ u, u < m ∧ isL listed u = false := by
      rcases hL : (List.range m).filter fun k => !isL listed k with _ | ⟨x, l⟩
      · rw [hL] at hfu; simp at hfu
      · have : x ∈ (List.range m).filter fun k => !isL listed k := by rw [hL]; simp
        obtain ⟨h1, h2⟩ := List.mem_filter.1 this
        exact ⟨x, List.mem_range.1 h1, by simpa using h2⟩
    rw [show fuel + 1 + (ops.size - m) = (fuel + (ops.size - m)) + 1 by omega]
    refine ⟨fun hr => ?_, fun i hi => ?_⟩
    · exfalso
      have : ∀ k, k ≤ u → isL listed k = true := by
        intro k
        induction k using Nat.strongRecOn with
        | _ k ih2 =>
          intro hk
          cases hv : isL listed k with
          | true => rfl
          | false =>
            exfalso
            have hks : k < ops.size := by omega
            have hmem : k ∈ Region.ready .any ops listed := by
              rw [mem_ready]
              refine ⟨?_, ops[k], Array.getElem?_eq_getElem hks, fun e he hb => ?_⟩
              · unfold isL at hv; simp [hsz, hks] at hv ⊢; exact hv
              · have hlt := chk_edge hc (Array.getElem?_eq_getElem hks) he hb
                exact ih2 e.on hlt (by omega)
            rw [hr] at hmem
            cases hmem
      rw [this u (Nat.le_refl _)] at hu2
      cases hu2
    · rw [mem_ready] at hi
      obtain ⟨hunl, o, ho, hall⟩ := hi
      have his : i < ops.size := (Array.getElem?_eq_some_iff.1 ho).1
      have hui : isL listed i = false := by unfold isL; simp [hsz, his] at hunl ⊢; exact hunl
      have hdst : dstOf ops i = o.dst := by simp [dstOf, ho]
      have hsel := Region.noSelect_spec (chk_sel hc) i o
      have hbef : ∀ j, ((Region.before ops).getD i 0).testBit j = true → isL listed j = true := by
        intro j hj
        obtain ⟨o', ho', e, he, hbn, h⟩ := before_step ops hj
        rw [ho] at ho'; injection ho' with ho'; subst ho'
        have hLe : isL listed e.on = true := hall e he hbn
        rcases h with rfl | ⟨hlt, hb'⟩
        · exact hLe
        · exact hcl.before (e.on + 1) e.on j (by omega) hLe hb'
      have him : i < m := by
        rcases Nat.lt_or_ge i m with h | h
        · exact h
        · have := hbef u (headDep_spec hdep h his hu1)
          rw [hu2] at this; cases this
      obtain ⟨hobl, p, hp⟩ := (hob val hv).1 i him
      -- what is later and done does not touch this operation, nor what is earlier and not done
      have hlate : ∀ k, i < k → isL listed k = true → ∀ ok, ops[k]? = some ok → o.apart ops ok = true := by
        intro k hk hL ok hok
        rcases chk_apart hc ho hok hk with h | h
        · exact h
        · exfalso
          have := hcl.before (k + 1) k i (by omega) hL h
          rw [hui] at this
          cases this
      have hearly : ∀ k, k < i → isL listed k = false → ∀ ok, ops[k]? = some ok → ok.apart ops o = true := by
        intro k hk hL ok hok
        rcases chk_apart hc hok ho hk with h | h
        · exact h
        · exfalso
          have := hbef k h
          rw [hL] at this
          cases this
      have hsp := range_split m i him
      have hfL : (List.range m).filter (isL listed) = (List.range i).filter (isL listed) ++ (List.range' (i + 1) (m - (i + 1))).filter (isL listed) := by
        rw [hsp, List.filter_append, List.filter_cons_of_neg (by simp [hui])]
      have hagr : Agr (o.looksAt ops) a (tf ops val a0 (List.range i)) := by
        rw [ha, hfL, tf_append]
        refine (agr_skips _ (Agr.refl _ _) ?_).trans (Agr.symm (agr_filter (isL listed) (List.range i) (Agr.refl _ _) ?_))
        · intro k hk t ht
          obtain ⟨hk1, hk2⟩ := List.mem_filter.1 hk
          have hik : i < k := by have := List.mem_range'_1.1 hk1; omega
          cases hok : ops[k]? with
          | none => simp [dstOf, hok] at ht
          | some ok =>
            have := (Oper.apart_spec (hlate k hik hk2 ok hok)).2.2
            exact this t (by simpa [dstOf, hok] using ht)
        · intro k hk hL t ht
          cases hok : ops[k]? with
          | none => simp [dstOf, hok] at ht
          | some ok =>
            have := (Oper.apart_spec (hearly k (List.mem_range.1 hk) hL ok hok)).1
            exact this t (by simpa [dstOf, hok] using ht)
      have hop : opG P ops o (tf ops val a0 (List.range i)) W p.V := hobl o p ho hp W hW fun j pj hj hpj hn => by
        refine hV j pj ?_ hpj
        unfold needs at hn
        obtain ⟨e, he, hb⟩ := List.any_eq_true.1 hn
        simp only [Bool.and_eq_true, beq_iff_eq] at hb
        rw [← hb.2]
        exact hall e (by simpa using he) hb.1
      -- what stands behind it
      have hnext : ∀ v W', Gr W W' → p.V v W' → wpAnyIn (Fence.wide.inRound l0) n P .any ops Q (fuel + (ops.size - m)) (listed.setIfInBounds i true) (a.put o.dst v) W' := by
        intro v W' hg hpv
        let val' : Nat → Value := fun k => if k = i then v else val k
        have hisL : ∀ k, isL (listed.setIfInBounds i true) k = (isL listed k || decide (k = i)) := fun k => isL_set (by rw [hsz]; exact his)
        refine ih (listed.setIfInBounds i true) (a.put o.dst v) W' val' (by simp [hsz]) ?_ (fun k hk hks => by rw [hisL, hun k hk hks]; simp; omega) ?_ (hW.trans hg) ?_ ?_ ?_
        · intro j oj hj hoj e he hb
          show isL _ e.on = true
          rw [hisL]
          have hj' : isL (listed.setIfInBounds i true) j = true := hj
          rw [hisL] at hj'
          simp only [Bool.or_eq_true, decide_eq_true_eq] at hj' ⊢
          rcases hj' with h | rfl
          · exact .inl (hcl j oj h hoj e he hb)
          · rw [ho] at hoj; injection hoj with hoj; subst hoj
            exact .inl (hall e he hb)
        · have hfL' : (List.range m).filter (isL (listed.setIfInBounds i true)) = (List.range i).filter (isL listed) ++ i :: (List.range' (i + 1) (m - (i + 1))).filter (isL listed) := by
            rw [hsp, List.filter_append, List.filter_cons_of_pos (by rw [hisL]; simp)]
            congr 1
            · refine List.filter_congr fun k hk => ?_
              have := List.mem_range.1 hk
              rw [hisL]; simp; omega
            · congr 1
              refine List.filter_congr fun k hk => ?_
              have := List.mem_range'_1.1 hk
              rw [hisL]; simp; omega
          rw [hfL', tf_append]
          have e1 : ∀ (b : Act) (l : List Nat), tf ops val' b (i :: l) = tf ops val' (b.put o.dst v) l := by
            intro b l
            simp only [tf, List.foldl_cons, hdst]
            congr 2
            simp [val']
          rw [e1, ha, hfL, tf_append]
          rw [tf_put o.dst v _ (fun k hk t ht => ?_)]
          · rw [tf_congr (val := val) (val' := val') ((List.range i).filter (isL listed)) (fun k hk => ?_), tf_congr (val := val) (val' := val') ((List.range' (i + 1) (m - (i + 1))).filter (isL listed)) (fun k hk => ?_)]
            · have := List.mem_range'_1.1 (List.mem_filter.1 hk).1
              simp [val']; omega
            · have := List.mem_range.1 (List.mem_filter.1 hk).1
              simp [val']; omega
          · obtain ⟨hk1, hk2⟩ := List.mem_filter.1 hk
            have hik : i < k := by have := List.mem_range'_1.1 hk1; omega
            cases hok : ops[k]? with
            | none => simp [dstOf, hok]
            | some ok =>
              have := (Oper.apart_spec (hlate k hik hk2 ok hok)).2.1 t ht
              simpa [dstOf, hok] using this
        · intro k c hk
          by_cases hki : k = i
          · subst hki
            rw [hk] at hp
            injection hp with hp
            subst hp
            have hpv' : v = c := hpv
            simp [val', hpv']
          · simp [val', hki]; exact hv k c hk
        · intro k pk hk hpk
          rw [hisL] at hk
          by_cases hki : k = i
          · subst hki
            rw [hpk] at hp
            injection hp with hp
            subst hp
            simpa [val'] using hpv
          · simp only [hki, decide_false, Bool.or_false] at hk
            have := hV k pk hk hpk
            simp only [val', hki, if_false]
            exact Pl.mono_V (hm pk (List.mem_of_getElem? hpk)) _ _ _ hg this
        · have hcount : ((List.range m).filter fun k => !isL listed k).length = ((List.range m).filter fun k => !isL (listed.setIfInBounds i true) k).length + 1 := by
            rw [hsp, List.filter_append, List.filter_append, List.filter_cons_of_pos (by simp [hui]), List.filter_cons_of_neg (by rw [hisL]; simp)]
            rw [List.filter_congr (l := List.range i) (q := fun k => !isL (listed.setIfInBounds i true) k) (fun k hk => by have := List.mem_range.1 hk; rw [hisL]; simp; omega),
              List.filter_congr (l := List.range' (i + 1) (m - (i + 1))) (q := fun k => !isL (listed.setIfInBounds i true) k) (fun k hk => by have := List.mem_range'_1.1 hk; rw [hisL]; simp; omega)]
            simp [Nat.add_assoc]
          omega
      unfold wpOpIn
      simp only [ho]
      unfold opG at hop
      rw [hagr.wanted]
      split
      · rename_i hwt
        rw [if_pos hwt] at hop
        refine ⟨fun _ _ => trivial, ?_⟩
        rw [Oper.semAt_eq _ _ _ (hnd i o ho), hagr.exec (fun cs b => hsel cs b ho)]
        generalize (execOp (tf ops val a0 (List.range i)).eval o).run P W = r at hop
        cases r with
        | halt x W' => cases hop
        | ok n W' =>
          cases n <;> first | exact hop.elim | skip
          case value v => exact hnext v W' hop.1 hop.2
          case skip => exact hnext undef W' hop.1 hop.2
          case enter f args =>
            refine ⟨(fun h => by cases h), ?_⟩
            refine (CallsIn.inRound l0 (callsIn_wide.2 hop.2)).mono fun e W'' h => ?_
            obtain ⟨v, rfl, hg, hpv⟩ := h
            exact hnext v W'' (hop.1.trans hg) hpv
      · rename_i hwt
        rw [if_neg hwt] at hop
        exact ⟨fun _ _ => trivial, hnext undef W (Gr.refl W) hop⟩

theorem tailAnyIn {F : Fence} {n m : Nat} (hc : chkG ops = true) (hch : chainB ops m = true) : ∀ (rest : List Oper) (j : Nat) (arr : Array Bool) (a : Act) (W : World), rest = ops.toList.drop j → m ≤ j → arr.size = ops.size →
    (∀ k, k < ops.size → isL arr k = decide (k < j)) → wpListIn F n P ops Q rest a W → wpAnyIn F n P .any ops Q (ops.size - j) arr a W := by
  intro rest
  induction rest with
  | nil =>
    intro j arr a W hr hj hsa harr h
    have hn : ops.size ≤ j := by
      have := congrArg List.length hr
      simp at this
      omega
    rw [show ops.size - j = 0 by omega]
    refine ⟨?_, h⟩
    cases hq : Region.ready .any ops arr with
    | nil => rfl
    | cons i l =>
      have hi : i ∈ Region.ready .any ops arr := by rw [hq]; simp
      rw [mem_ready] at hi
      obtain ⟨h1, o, ho, _⟩ := hi
      have his : i < ops.size := (Array.getElem?_eq_some_iff.1 ho).1
      have h2 := harr i his
      unfold isL at h2
      have h3 : decide (i < j) = true := by simp; omega
      rw [h3] at h2
      simp [hsa, his] at h1 h2
      rw [h1] at h2
      cases h2
  | cons o rest ih =>
    intro j arr a W hr hj hsa harr h
    have hlt : j < ops.size := by
      rcases Nat.lt_or_ge j ops.size with h | h
      · exact h
      · rw [List.drop_eq_nil_of_le (by simpa using h)] at hr; cases hr
    have ho : ops[j]? = some o := by
      have h0 : (ops.toList.drop j)[0]? = some o := by rw [← hr]; rfl
      simpa using h0
    have hr' : rest = ops.toList.drop (j + 1) := by
      have := congrArg List.tail hr
      simpa using this
    have hcl : Closed ops (fun k => isL arr k = true) := by
      intro k ok hk hok e he hb
      have hks : k < ops.size := (Array.getElem?_eq_some_iff.1 hok).1
      have h1 : isL arr k = true := hk
      rw [harr k hks] at h1
      have h2 := chk_edge hc hok he hb
      show isL arr e.on = true
      rw [harr e.on (by omega)]
      have h3 : k < j := by simpa using h1
      simp; omega
    rw [show ops.size - j = (ops.size - (j + 1)) + 1 by omega]
    have hnew : ∀ k, k < ops.size → isL (arr.setIfInBounds j true) k = decide (k < j + 1) := by
      intro k hk
      rw [isL_set (by omega), harr k hk, Bool.eq_iff_iff]
      simp
      omega
    refine ⟨fun hq => ?_, fun i hi => ?_⟩
    · exfalso
      have : j ∈ Region.ready .any ops arr := by
        rw [mem_ready]
        have h1 := harr j hlt
        refine ⟨?_, o, ho, fun e he hb => ?_⟩
        · unfold isL at h1; simp [hsa, hlt] at h1 ⊢; exact h1
        · have h2 := chk_edge hc ho he hb
          have h3 := harr e.on (by omega)
          have h4 : decide (e.on < j) = true := by simp; omega
          rw [h4] at h3
          exact h3
      rw [hq] at this
      cases this
    · rw [mem_ready] at hi
      obtain ⟨h1, oi, hoi, hall⟩ := hi
      have his : i < ops.size := (Array.getElem?_eq_some_iff.1 hoi).1
      have hui : isL arr i = false := by unfold isL; simp [hsa, his] at h1 ⊢; exact h1
      rw [harr i his] at hui
      have hij : j ≤ i := by simpa using hui
      have hji : i = j := by
        rcases Nat.lt_or_ge j i with hgt | hle
        · exfalso
          have hb := chain_spec hch (show m < i by omega) his
          obtain ⟨o', ho', e, he, hbn, hx⟩ := before_step ops hb
          rw [hoi] at ho'; injection ho' with ho'; subst ho'
          have hLe : isL arr e.on = true := hall e he hbn
          have hL : isL arr (i - 1) = true := by
            rcases hx with hx | ⟨_, hb'⟩
            · rw [← hx]; exact hLe
            · exact hcl.before (e.on + 1) e.on (i - 1) (by omega) hLe hb'
          rw [harr (i - 1) (by omega)] at hL
          have : i - 1 < j := by simpa using hL
          omega
        · omega
      subst hji
      unfold wpOpIn
      simp only [ho]
      unfold wpListIn at h
      split
      · rename_i hw
        rw [if_pos hw] at h
        exact Oper.wpIn_mono (fun a W hk => ih (i + 1) _ a W hr' (by omega) (by simp [hsa]) hnew hk) h
      · rename_i hw
        rw [if_neg hw] at h
        exact ⟨h.1, ih (i + 1) _ _ W hr' (by omega) (by simp [hsa]) hnew h.2⟩
end

/-- No operation defers. -/
def noDefer (ops : Array Oper) : Bool := ops.all fun o => match o.op with | .defer _ => false | _ => true
theorem noDefer_spec {ops : Array Oper} (h : noDefer ops = true) (i : Nat) (o : Oper) (ho : ops[i]? = some o) (c : Call) : o.op ≠ Op.defer c := by
  unfold noDefer at h
  rw [Array.all_eq_true_iff_forall_mem] at h
  have := h o (Array.mem_of_getElem? ho)
  intro e
  rw [e] at this
  cases this

/-- THE RULE. -/
theorem wpIn_region_tail_round {l0 n : Nat} {P : Program} {ops : List Oper} {id : Nat} {w : World} {Q : Exit → Act → World → Prop} {a : Act} (m : Nat) (ps : List Pl)
    (hmix : P.follows .mixedOrders = true) (hck : (chkG ops.toArray && headDep ops.toArray m && chainB ops.toArray m && decide (m ≤ ops.length) && noDefer ops.toArray) = true) (hm : allMono ps)
    (h : wpG P ops.toArray w.drew (fun _ a W => wpListIn (Fence.wide.inRound l0) n P ops.toArray Q (ops.drop m) a W) ps [] 0 (ops.take m) a) : (Code.region id ops.toArray true).wpIn (Fence.wide.inRound l0) n P Q a w := by
  refine wpIn_region_any hmix ?_
  simp only [Bool.and_eq_true, decide_eq_true_eq] at hck
  obtain ⟨⟨⟨⟨hc, hdep⟩, hch⟩, hml⟩, hnd⟩ := hck
  have hml' : m ≤ ops.toArray.size := by simpa using hml
  have harr : ∀ k, k < ops.toArray.size → isL (((List.range ops.length).map fun k => decide (k < m)).toArray) k = decide (k < m) := by
    intro k hk
    have hk' : k < ops.length := by simpa using hk
    simp [isL, hk']
  have hrep : ∀ k, isL (Array.replicate ops.toArray.size false) k = false := by
    intro k
    simp [isL, Array.getElem?_replicate]
    split <;> simp
  have hob : ∀ val, Holds ps val → (∀ k, k < m → Obl P ops.toArray w.drew a ps val k ∧ ∃ p, ps[k]? = some p) ∧ ∀ W, Gr w.drew W → (∀ j pj, j < m → ps[j]? = some pj → pj.V (val j) W) →
      wpAnyIn (Fence.wide.inRound l0) n P .any ops.toArray Q (ops.toArray.size - m) (((List.range ops.length).map fun k => decide (k < m)).toArray) (tf ops.toArray val a (List.range m)) W := by
    intro val hv
    have := wpG_oblH m hml' a val (ops.take m) ps [] [] 0 a h rfl (by simp) (Nat.zero_le _) rfl (by simpa using hv) (by simp)
    obtain ⟨h1, h2⟩ := this
    refine ⟨fun k hk => h1 k (Nat.zero_le _) hk, fun W hW hV => ?_⟩
    exact tailAnyIn hc hch (ops.drop m) m _ _ W (by simp) (Nat.le_refl _) (by simp) harr (h2 W hW hV)
  have := growHeadAnyIn l0 n (noDefer_spec hnd) m hml' hc hdep a ps (allMono_mem ps hm) _ (by simp) harr hob m (Array.replicate ops.toArray.size false) a w.drew (fun k => match ps[k]? with | some (.eq c) => c | _ => undef) (by simp)
    (by intro j o hj; have hj' : isL (Array.replicate ops.toArray.size false) j = true := hj; rw [hrep] at hj'; cases hj') (fun k _ _ => hrep k)
    (by
      have : (List.range m).filter (isL (Array.replicate ops.toArray.size false)) = [] := List.filter_eq_nil_iff.2 fun k _ => by rw [hrep]; simp
      rw [this]; rfl) (Gr.refl _) (by intro k c hk; simp [hk]) (by intro k p hk; rw [hrep] at hk; cases hk)
    (by
      have : (List.range m).filter (fun k => !isL (Array.replicate ops.toArray.size false) k) = List.range m := List.filter_eq_self.2 fun k _ => by rw [hrep]; rfl
      rw [this]; simp)
  have e : m + (ops.toArray.size - m) = ops.toArray.size := by omega
  rw [e] at this
  exact this
end Go.Proofs.Ytpdninnnpoiblaa
