/-
  A REGION THAT DRAWS ITS ORDER: its first m operations only make new memory (they go by the plan of Grow, in whatever order), all others wait for them and for one another: these are walked in the text's order, and may write.
-/
import Derived.Test.YtcpkbngoecpnkaaHead
import Derived.Test.YtcpkbngoecpnkaaBase
set_option linter.unusedVariables false
namespace Go.Proofs.Ytcpkbngoecpnkaa
open Go.RowKit

section
variable {P : Program} {ops : Array Oper} {w : World} {Q : Exit → Act → World → Prop}
def FinH (m : Nat) (ops : Array Oper) (w : World) (Q : Exit → Act → World → Prop) (a0 : Act) (ps : List Pl) (val : Nat → Value) : Prop :=
  ∀ W, Gr w W → (∀ j pj, j < m → ps[j]? = some pj → pj.V (val j) W) → Q .normal (tf ops val a0 (List.range m)) W

theorem wpG_oblH (m : Nat) (hm : m ≤ ops.size) (a0 : Act) (val : Nat → Value) (rest : List Oper) : ∀ (ps pre : List Pl) (seen : List (Nat × (World → Prop))) (i : Nat) (a : Act),
    wpG P ops w Q ps seen i rest a → pre.length = i → rest = (ops.toList.take m).drop i → i ≤ m → a = tf ops val a0 (List.range i) → Holds (pre ++ ps) val →
    (∀ p ∈ seen, ∃ pj, (pre ++ ps)[p.1]? = some pj ∧ p.1 < i ∧ p.2 = pj.V (val p.1)) →
    (∀ k, i ≤ k → k < m → Obl P ops w a0 (pre ++ ps) val k ∧ ∃ p, (pre ++ ps)[k]? = some p) ∧ FinH m ops w Q a0 (pre ++ ps) val := by
  induction rest with
  | nil =>
    intro ps pre seen i a h hl hr hi ha hv hs
    have hn : i = m := by
      have := congrArg List.length hr
      simp at this
      omega
    subst hn
    refine ⟨fun k h1 h2 => absurd h1 (by omega), fun W hW hall => ?_⟩
    rw [← ha]
    have hfin : ∀ W, Gr w W → (∀ p ∈ seen, p.2 W) → Q .normal a W := by cases ps with
      | nil => exact h
      | cons p ps => cases p <;> exact h
    refine hfin W hW fun p hp => ?_
    obtain ⟨pj, h1, h2, h3⟩ := hs p hp
    rw [h3]
    exact hall _ pj h2 h1
  | cons o rest ih =>
    intro ps pre seen i a h hl hr hi ha hv hs
    have hlt : i < m := by
      rcases Nat.lt_or_ge i m with h | h
      · exact h
      · rw [List.drop_eq_nil_of_le (by simp; omega)] at hr; cases hr
    have ho : ops[i]? = some o := by
      have h0 : ((ops.toList.take m).drop i)[0]? = some o := by rw [← hr]; rfl
      rw [List.getElem?_drop, Nat.add_zero, List.getElem?_take_of_lt hlt] at h0
      simpa using h0
    have hr' : rest = (ops.toList.take m).drop (i + 1) := by
      have := congrArg List.tail hr
      simpa using this
    cases ps with
    | nil => exact h.elim
    | cons p ps =>
      have hat : (pre ++ p :: ps)[i]? = some p := by rw [← hl]; simp
      have happ : pre ++ p :: ps = (pre ++ [p]) ++ ps := by simp
      have hdst : dstOf ops i = o.dst := by simp [dstOf, ho]
      -- the operation's own word
      have key : (∀ W, Gr w W → (∀ q ∈ seen, needs o q.1 = true → q.2 W) → opG P ops o a W p.V) → Obl P ops w a0 (pre ++ p :: ps) val i := by
        intro hk o' p' ho' hp' W hW hd
        rw [ho] at ho'; injection ho' with ho'; subst ho'
        rw [hat] at hp'; injection hp' with hp'; subst hp'
        rw [← ha]
        refine hk W hW fun q hq hn => ?_
        obtain ⟨pj, h1, h2, h3⟩ := hs q hq
        rw [h3]
        exact hd _ pj h2 h1 hn
      have step : ∀ (v : Value) (seen' : List (Nat × (World → Prop))), wpG P ops w Q ps seen' (i + 1) rest (a.put o.dst v) → val i = v →
          (∀ q ∈ seen', ∃ pj, (pre ++ p :: ps)[q.1]? = some pj ∧ q.1 < i + 1 ∧ q.2 = pj.V (val q.1)) →
          (∀ k, i + 1 ≤ k → k < m → Obl P ops w a0 (pre ++ p :: ps) val k ∧ ∃ p', (pre ++ p :: ps)[k]? = some p') ∧ FinH m ops w Q a0 (pre ++ p :: ps) val := by
        intro v seen' hw hvi hs'
        rw [happ] at hv hs' ⊢
        refine ih ps (pre ++ [p]) seen' (i + 1) (a.put o.dst v) hw (by simp [hl]) hr' hlt ?_ hv hs'
        rw [List.range_succ, tf_append, ← ha]
        simp [tf, hdst, hvi]
      cases p with
      | eq c =>
        obtain ⟨h1, h2⟩ := h
        obtain ⟨r1, r2⟩ := step c seen h2 (hv i c hat) fun q hq => by
          obtain ⟨pj, g1, g2, g3⟩ := hs q hq
          exact ⟨pj, g1, by omega, g3⟩
        refine ⟨fun k hk hks => ?_, r2⟩
        by_cases hki : k = i
        · subst hki; exact ⟨key h1, _, hat⟩
        · exact r1 k (by omega) hks
      | ok V =>
        obtain ⟨h1, h2⟩ := h
        obtain ⟨r1, r2⟩ := step (val i) _ (h2 (val i)) rfl fun q hq => by
          rcases List.mem_cons.1 hq with rfl | hq
          · exact ⟨_, hat, by simp, rfl⟩
          · obtain ⟨pj, g1, g2, g3⟩ := hs q hq
            exact ⟨pj, g1, by omega, g3⟩
        refine ⟨fun k hk hks => ?_, r2⟩
        by_cases hki : k = i
        · subst hki; exact ⟨key h1, _, hat⟩
        · exact r1 k (by omega) hks
theorem growHeadAny (m : Nat) (hm0 : m ≤ ops.size) (hc : chkG ops = true) (hdep : headDep ops m = true) (a0 : Act) (ps : List Pl) (hm : ∀ p ∈ ps, p.mono)
    (arr : Array Bool) (hsa : arr.size = ops.size) (harr : ∀ k, k < ops.size → isL arr k = decide (k < m))
    (hob : ∀ val, Holds ps val → (∀ k, k < m → Obl P ops w a0 ps val k ∧ ∃ p, ps[k]? = some p) ∧ ∀ W, Gr w W → (∀ j pj, j < m → ps[j]? = some pj → pj.V (val j) W) → wpAny P .any ops Q (ops.size - m) arr (tf ops val a0 (List.range m)) W) :
    ∀ (fuel : Nat) (listed : Array Bool) (a : Act) (W : World) (val : Nat → Value), listed.size = ops.size → Closed ops (fun k => isL listed k = true) → (∀ k, m ≤ k → k < ops.size → isL listed k = false) →
      a = tf ops val a0 ((List.range m).filter (isL listed)) → Gr w W → Holds ps val → (∀ k p, isL listed k = true → ps[k]? = some p → p.V (val k) W) →
      ((List.range m).filter fun k => !isL listed k).length = fuel → wpAny P .any ops Q (fuel + (ops.size - m)) listed a W := by
  intro fuel
  induction fuel with
  | zero =>
    intro listed a W val hsz hcl hun ha hW hv hV hfu
    have hall : ∀ k, k < m → isL listed k = true := by
      intro k hk
      have h0 := List.eq_nil_of_length_eq_zero hfu
      cases hu : isL listed k with
      | true => rfl
      | false =>
        have : k ∈ (List.range m).filter fun k => !isL listed k := List.mem_filter.2 ⟨List.mem_range.2 hk, by simp [hu]⟩
        rw [h0] at this
        cases this
    have he : listed = arr := by
      apply Array.ext (by omega)
      intro k h1 h2
      have e1 : isL listed k = decide (k < m) := by
        by_cases hk : k < m
        · rw [hall k hk]; simp [hk]
        · rw [hun k (by omega) (by omega)]; simp [hk]
      have e2 := harr k (by omega)
      rw [← e2] at e1
      unfold isL at e1
      simpa [h1, h2] using e1
    have hf : (List.range m).filter (isL listed) = List.range m := List.filter_eq_self.2 fun k hk => hall k (List.mem_range.1 hk)
    rw [ha, hf, he, Nat.zero_add]
    exact (hob val hv).2 W hW fun j pj hj hp => hV j pj (hall j hj) hp
  | succ fuel ih =>
    intro listed a W val hsz hcl hun ha hW hv hV hfu
    obtain ⟨u, hu1, hu2⟩ : ∃ u, u < m ∧ isL listed u = false := by
      rcases hL : (List.range m).filter fun k => !isL listed k with _ | ⟨x, l⟩
      · rw [hL] at hfu; simp at hfu
      · have : x ∈ (List.range m).filter fun k => !isL listed k := by rw [hL]; simp
        obtain ⟨h1, h2⟩ := List.mem_filter.1 this
        exact ⟨x, List.mem_range.1 h1, by simpa using h2⟩
    rw [show fuel + 1 + (ops.size - m) = (fuel + (ops.size - m)) + 1 by omega]
    refine ⟨fun hr => ?_, fun i hi => ?_⟩
    · exfalso
      have : ∀ k, k ≤ u → isL listed k = true := by
        intro k
        induction k using Nat.strongRecOn with
        | _ k ih2 =>
          intro hk
          cases hv : isL listed k with
          | true => rfl
          | false =>
            exfalso
            have hks : k < ops.size := by omega
            have hmem : k ∈ Region.ready .any ops listed := by
              rw [mem_ready]
              refine ⟨?_, ops[k], Array.getElem?_eq_getElem hks, fun e he hb => ?_⟩
              · unfold isL at hv; simp [hsz, hks] at hv ⊢; exact hv
              · have hlt := chk_edge hc (Array.getElem?_eq_getElem hks) he hb
                exact ih2 e.on hlt (by omega)
            rw [hr] at hmem
            cases hmem
      rw [this u (Nat.le_refl _)] at hu2
      cases hu2
    · rw [mem_ready] at hi
      obtain ⟨hunl, o, ho, hall⟩ := hi
      have his : i < ops.size := (Array.getElem?_eq_some_iff.1 ho).1
      have hui : isL listed i = false := by unfold isL; simp [hsz, his] at hunl ⊢; exact hunl
      have hdst : dstOf ops i = o.dst := by simp [dstOf, ho]
      have hsel := Region.noSelect_spec (chk_sel hc) i o
      have hbef : ∀ j, ((Region.before ops).getD i 0).testBit j = true → isL listed j = true := by
        intro j hj
        obtain ⟨o', ho', e, he, hbn, h⟩ := before_step ops hj
        rw [ho] at ho'; injection ho' with ho'; subst ho'
        have hLe : isL listed e.on = true := hall e he hbn
        rcases h with rfl | ⟨hlt, hb'⟩
        · exact hLe
        · exact hcl.before (e.on + 1) e.on j (by omega) hLe hb'
      have him : i < m := by
        rcases Nat.lt_or_ge i m with h | h
        · exact h
        · have := hbef u (headDep_spec hdep h his hu1)
          rw [hu2] at this; cases this
      obtain ⟨hobl, p, hp⟩ := (hob val hv).1 i him
      -- what is later and done does not touch this operation, nor what is earlier and not done
      have hlate : ∀ k, i < k → isL listed k = true → ∀ ok, ops[k]? = some ok → o.apart ops ok = true := by
        intro k hk hL ok hok
        rcases chk_apart hc ho hok hk with h | h
        · exact h
        · exfalso
          have := hcl.before (k + 1) k i (by omega) hL h
          rw [hui] at this
          cases this
      have hearly : ∀ k, k < i → isL listed k = false → ∀ ok, ops[k]? = some ok → ok.apart ops o = true := by
        intro k hk hL ok hok
        rcases chk_apart hc hok ho hk with h | h
        · exact h
        · exfalso
          have := hbef k h
          rw [hL] at this
          cases this
      have hsp := range_split m i him
      have hfL : (List.range m).filter (isL listed) = (List.range i).filter (isL listed) ++ (List.range' (i + 1) (m - (i + 1))).filter (isL listed) := by
        rw [hsp, List.filter_append, List.filter_cons_of_neg (by simp [hui])]
      have hagr : Agr (o.looksAt ops) a (tf ops val a0 (List.range i)) := by
        rw [ha, hfL, tf_append]
        refine (agr_skips _ (Agr.refl _ _) ?_).trans (Agr.symm (agr_filter (isL listed) (List.range i) (Agr.refl _ _) ?_))
        · intro k hk t ht
          obtain ⟨hk1, hk2⟩ := List.mem_filter.1 hk
          have hik : i < k := by have := List.mem_range'_1.1 hk1; omega
          cases hok : ops[k]? with
          | none => simp [dstOf, hok] at ht
          | some ok =>
            have := (Oper.apart_spec (hlate k hik hk2 ok hok)).2.2
            exact this t (by simpa [dstOf, hok] using ht)
        · intro k hk hL t ht
          cases hok : ops[k]? with
          | none => simp [dstOf, hok] at ht
          | some ok =>
            have := (Oper.apart_spec (hearly k (List.mem_range.1 hk) hL ok hok)).1
            exact this t (by simpa [dstOf, hok] using ht)
      have hop : opG P ops o (tf ops val a0 (List.range i)) W p.V := hobl o p ho hp W hW fun j pj hj hpj hn => by
        refine hV j pj ?_ hpj
        unfold needs at hn
        obtain ⟨e, he, hb⟩ := List.any_eq_true.1 hn
        simp only [Bool.and_eq_true, beq_iff_eq] at hb
        rw [← hb.2]
        exact hall e (by simpa using he) hb.1
      -- what stands behind it
      have hnext : ∀ v W', Gr W W' → p.V v W' → wpAny P .any ops Q (fuel + (ops.size - m)) (listed.setIfInBounds i true) (a.put o.dst v) W' := by
        intro v W' hg hpv
        let val' : Nat → Value := fun k => if k = i then v else val k
        have hisL : ∀ k, isL (listed.setIfInBounds i true) k = (isL listed k || decide (k = i)) := fun k => isL_set (by rw [hsz]; exact his)
        refine ih (listed.setIfInBounds i true) (a.put o.dst v) W' val' (by simp [hsz]) ?_ (fun k hk hks => by rw [hisL, hun k hk hks]; simp; omega) ?_ (hW.trans hg) ?_ ?_ ?_
        · intro j oj hj hoj e he hb
          show isL _ e.on = true
          rw [hisL]
          have hj' : isL (listed.setIfInBounds i true) j = true := hj
          rw [hisL] at hj'
          simp only [Bool.or_eq_true, decide_eq_true_eq] at hj' ⊢
          rcases hj' with h | rfl
          · exact .inl (hcl j oj h hoj e he hb)
          · rw [ho] at hoj; injection hoj with hoj; subst hoj
            exact .inl (hall e he hb)
        · have hfL' : (List.range m).filter (isL (listed.setIfInBounds i true)) = (List.range i).filter (isL listed) ++ i :: (List.range' (i + 1) (m - (i + 1))).filter (isL listed) := by
            rw [hsp, List.filter_append, List.filter_cons_of_pos (by rw [hisL]; simp)]
            congr 1
            · refine List.filter_congr fun k hk => ?_
              have := List.mem_range.1 hk
              rw [hisL]; simp; omega
            · congr 1
              refine List.filter_congr fun k hk => ?_
              have := List.mem_range'_1.1 hk
              rw [hisL]; simp; omega
          rw [hfL', tf_append]
          have e1 : ∀ (b : Act) (l : List Nat), tf ops val' b (i :: l) = tf ops val' (b.put o.dst v) l := by
            intro b l
            simp only [tf, List.foldl_cons, hdst]
            congr 2
            simp [val']
          rw [e1, ha, hfL, tf_append]
          rw [tf_put o.dst v _ (fun k hk t ht => ?_)]
          · rw [tf_congr (val := val) (val' := val') ((List.range i).filter (isL listed)) (fun k hk => ?_), tf_congr (val := val) (val' := val') ((List.range' (i + 1) (m - (i + 1))).filter (isL listed)) (fun k hk => ?_)]
            · have := List.mem_range'_1.1 (List.mem_filter.1 hk).1
              simp [val']; omega
            · have := List.mem_range.1 (List.mem_filter.1 hk).1
              simp [val']; omega
          · obtain ⟨hk1, hk2⟩ := List.mem_filter.1 hk
            have hik : i < k := by have := List.mem_range'_1.1 hk1; omega
            cases hok : ops[k]? with
            | none => simp [dstOf, hok]
            | some ok =>
              have := (Oper.apart_spec (hlate k hik hk2 ok hok)).2.1 t ht
              simpa [dstOf, hok] using this
        · intro k c hk
          by_cases hki : k = i
          · subst hki
            rw [hk] at hp
            injection hp with hp
            subst hp
            have hpv' : v = c := hpv
            simp [val', hpv']
          · simp [val', hki]; exact hv k c hk
        · intro k pk hk hpk
          rw [hisL] at hk
          by_cases hki : k = i
          · subst hki
            rw [hpk] at hp
            injection hp with hp
            subst hp
            simpa [val'] using hpv
          · simp only [hki, decide_false, Bool.or_false] at hk
            have := hV k pk hk hpk
            simp only [val', hki, if_false]
            exact Pl.mono_V (hm pk (List.mem_of_getElem? hpk)) _ _ _ hg this
        · have hcount : ((List.range m).filter fun k => !isL listed k).length = ((List.range m).filter fun k => !isL (listed.setIfInBounds i true) k).length + 1 := by
            rw [hsp, List.filter_append, List.filter_append, List.filter_cons_of_pos (by simp [hui]), List.filter_cons_of_neg (by rw [hisL]; simp)]
            rw [List.filter_congr (l := List.range i) (q := fun k => !isL (listed.setIfInBounds i true) k) (fun k hk => by have := List.mem_range.1 hk; rw [hisL]; simp; omega),
              List.filter_congr (l := List.range' (i + 1) (m - (i + 1))) (q := fun k => !isL (listed.setIfInBounds i true) k) (fun k hk => by have := List.mem_range'_1.1 hk; rw [hisL]; simp; omega)]
            simp [Nat.add_assoc]
          omega
      unfold wpOp
      simp only [ho]
      unfold opG at hop
      rw [hagr.wanted]
      split
      · rename_i hwt
        rw [if_pos hwt] at hop
        refine .inl ?_
        unfold Oper.wp
        rw [hagr.exec (fun cs b => hsel cs b ho)]
        generalize (execOp (tf ops val a0 (List.range i)).eval o).run P W = r at hop
        cases r with
        | halt x W' => cases hop
        | ok n W' =>
          cases n <;> first | exact hop.elim | skip
          case value v => exact hnext v W' hop.1 hop.2
          case skip => exact hnext undef W' hop.1 hop.2
          case enter f args =>
            refine hop.2.mono fun e W'' h => ?_
            obtain ⟨v, rfl, hg, hpv⟩ := h
            exact hnext v W'' (hop.1.trans hg) hpv
      · rename_i hwt
        rw [if_neg hwt] at hop
        exact hnext undef W (Gr.refl W) hop

/-- Behind m each waits for the one ahead. -/
def chainB (ops : Array Oper) (m : Nat) : Bool := (List.range ops.size).all fun j => decide (j ≤ m) || ((Region.before ops).getD j 0).testBit (j - 1)
theorem chain_spec {m : Nat} (h : chainB ops m = true) {j : Nat} (h1 : m < j) (h2 : j < ops.size) : ((Region.before ops).getD j 0).testBit (j - 1) = true := by
  unfold chainB at h
  rw [List.all_eq_true] at h
  have := h j (List.mem_range.2 h2)
  rw [Bool.or_eq_true] at this
  rcases this with h3 | h3
  · have : j ≤ m := by simpa using h3
    omega
  · exact h3

theorem tailAny {m : Nat} (hc : chkG ops = true) (hch : chainB ops m = true) : ∀ (rest : List Oper) (j : Nat) (arr : Array Bool) (a : Act) (W : World), rest = ops.toList.drop j → m ≤ j → arr.size = ops.size →
    (∀ k, k < ops.size → isL arr k = decide (k < j)) → wpList P ops Q rest a W → wpAny P .any ops Q (ops.size - j) arr a W := by
  intro rest
  induction rest with
  | nil =>
    intro j arr a W hr hj hsa harr h
    have hn : ops.size ≤ j := by
      have := congrArg List.length hr
      simp at this
      omega
    rw [show ops.size - j = 0 by omega]
    refine ⟨?_, h⟩
    cases hq : Region.ready .any ops arr with
    | nil => rfl
    | cons i l =>
      have hi : i ∈ Region.ready .any ops arr := by rw [hq]; simp
      rw [mem_ready] at hi
      obtain ⟨h1, o, ho, _⟩ := hi
      have his : i < ops.size := (Array.getElem?_eq_some_iff.1 ho).1
      have h2 := harr i his
      unfold isL at h2
      have h3 : decide (i < j) = true := by simp; omega
      rw [h3] at h2
      simp [hsa, his] at h1 h2
      rw [h1] at h2
      cases h2
  | cons o rest ih =>
    intro j arr a W hr hj hsa harr h
    have hlt : j < ops.size := by
      rcases Nat.lt_or_ge j ops.size with h | h
      · exact h
      · rw [List.drop_eq_nil_of_le (by simpa using h)] at hr; cases hr
    have ho : ops[j]? = some o := by
      have h0 : (ops.toList.drop j)[0]? = some o := by rw [← hr]; rfl
      simpa using h0
    have hr' : rest = ops.toList.drop (j + 1) := by
      have := congrArg List.tail hr
      simpa using this
    have hcl : Closed ops (fun k => isL arr k = true) := by
      intro k ok hk hok e he hb
      have hks : k < ops.size := (Array.getElem?_eq_some_iff.1 hok).1
      have h1 : isL arr k = true := hk
      rw [harr k hks] at h1
      have h2 := chk_edge hc hok he hb
      show isL arr e.on = true
      rw [harr e.on (by omega)]
      have h3 : k < j := by simpa using h1
      simp; omega
    rw [show ops.size - j = (ops.size - (j + 1)) + 1 by omega]
    have hnew : ∀ k, k < ops.size → isL (arr.setIfInBounds j true) k = decide (k < j + 1) := by
      intro k hk
      rw [isL_set (by omega), harr k hk, Bool.eq_iff_iff]
      simp
      omega
    refine ⟨fun hq => ?_, fun i hi => ?_⟩
    · exfalso
      have : j ∈ Region.ready .any ops arr := by
        rw [mem_ready]
        have h1 := harr j hlt
        refine ⟨?_, o, ho, fun e he hb => ?_⟩
        · unfold isL at h1; simp [hsa, hlt] at h1 ⊢; exact h1
        · have h2 := chk_edge hc ho he hb
          have h3 := harr e.on (by omega)
          have h4 : decide (e.on < j) = true := by simp; omega
          rw [h4] at h3
          exact h3
      rw [hq] at this
      cases this
    · rw [mem_ready] at hi
      obtain ⟨h1, oi, hoi, hall⟩ := hi
      have his : i < ops.size := (Array.getElem?_eq_some_iff.1 hoi).1
      have hui : isL arr i = false := by unfold isL; simp [hsa, his] at h1 ⊢; exact h1
      rw [harr i his] at hui
      have hij : j ≤ i := by simpa using hui
      have hji : i = j := by
        rcases Nat.lt_or_ge j i with hgt | hle
        · exfalso
          have hb := chain_spec hch (show m < i by omega) his
          obtain ⟨o', ho', e, he, hbn, hx⟩ := before_step ops hb
          rw [hoi] at ho'; injection ho' with ho'; subst ho'
          have hLe : isL arr e.on = true := hall e he hbn
          have hL : isL arr (i - 1) = true := by
            rcases hx with hx | ⟨_, hb'⟩
            · rw [← hx]; exact hLe
            · exact hcl.before (e.on + 1) e.on (i - 1) (by omega) hLe hb'
          rw [harr (i - 1) (by omega)] at hL
          have : i - 1 < j := by simpa using hL
          omega
        · omega
      subst hji
      unfold wpOp
      simp only [ho]
      unfold wpList at h
      split
      · rename_i hw
        rw [if_pos hw] at h
        rcases h with h | h
        · exact .inl (Oper.wp_mono (fun a W hk => ih (i + 1) _ a W hr' (by omega) (by simp [hsa]) hnew hk) h)
        · exact .inr h
      · rename_i hw
        rw [if_neg hw] at h
        exact ih (i + 1) _ _ W hr' (by omega) (by simp [hsa]) hnew h
end

/-- THE RULE, as it is used: 'apply wp_region_draw_tail m [..] (by kernel_rfl) (by kernel_rfl) ⟨.., trivial⟩'. -/
theorem wp_region_draw_tail {P : Program} {ops : List Oper} {id : Nat} {w : World} {Q : Exit → Act → World → Prop} {a : Act} (m : Nat) (ps : List Pl)
    (hmix : P.follows .mixedOrders = true) (hck : (chkG ops.toArray && headDep ops.toArray m && chainB ops.toArray m && decide (m ≤ ops.length)) = true) (hm : allMono ps)
    (h : wpG P ops.toArray w.drew (fun _ a W => wpList P ops.toArray Q (ops.drop m) a W) ps [] 0 (ops.take m) a) : (Code.region id ops.toArray true).wp P Q a w := by
  refine wp_region_any hmix ?_
  simp only [Bool.and_eq_true, decide_eq_true_eq] at hck
  obtain ⟨⟨⟨hc, hdep⟩, hch⟩, hml⟩ := hck
  have hml' : m ≤ ops.toArray.size := by simpa using hml
  have harr : ∀ k, k < ops.toArray.size → isL (((List.range ops.length).map fun k => decide (k < m)).toArray) k = decide (k < m) := by
    intro k hk
    have hk' : k < ops.length := by simpa using hk
    simp [isL, hk']
  have hrep : ∀ k, isL (Array.replicate ops.toArray.size false) k = false := by
    intro k
    simp [isL, Array.getElem?_replicate]
    split <;> simp
  have hob : ∀ val, Holds ps val → (∀ k, k < m → Obl P ops.toArray w.drew a ps val k ∧ ∃ p, ps[k]? = some p) ∧ ∀ W, Gr w.drew W → (∀ j pj, j < m → ps[j]? = some pj → pj.V (val j) W) →
      wpAny P .any ops.toArray Q (ops.toArray.size - m) (((List.range ops.length).map fun k => decide (k < m)).toArray) (tf ops.toArray val a (List.range m)) W := by
    intro val hv
    have := wpG_oblH m hml' a val (ops.take m) ps [] [] 0 a h rfl (by simp) (Nat.zero_le _) rfl (by simpa using hv) (by simp)
    obtain ⟨h1, h2⟩ := this
    refine ⟨fun k hk => h1 k (Nat.zero_le _) hk, fun W hW hV => ?_⟩
    exact tailAny hc hch (ops.drop m) m _ _ W (by simp) (Nat.le_refl _) (by simp) harr (h2 W hW hV)
  have := growHeadAny m hml' hc hdep a ps (allMono_mem ps hm) _ (by simp) harr hob m (Array.replicate ops.toArray.size false) a w.drew (fun k => match ps[k]? with | some (.eq c) => c | _ => undef) (by simp)
    (by intro j o hj; have hj' : isL (Array.replicate ops.toArray.size false) j = true := hj; rw [hrep] at hj'; cases hj') (fun k _ _ => hrep k)
    (by
      have : (List.range m).filter (isL (Array.replicate ops.toArray.size false)) = [] := List.filter_eq_nil_iff.2 fun k _ => by rw [hrep]; simp
      rw [this]; rfl) (Gr.refl _) (by intro k c hk; simp [hk]) (by intro k p hk; rw [hrep] at hk; cases hk)
    (by
      have : (List.range m).filter (fun k => !isL (Array.replicate ops.toArray.size false) k) = List.range m := List.filter_eq_self.2 fun k _ => by rw [hrep]; rfl
      rw [this]; simp)
  have e : m + (ops.toArray.size - m) = ops.toArray.size := by omega
  rw [e] at this
  exact this
theorem Own.gr {w w' : World} {B : Nat} {e : TypeId} {v : Value} {xs : List Value} (h : Own w B e v xs) (hg : Gr w w') : Own w' B e v xs :=
  World.ownsRow.kept h (below_grownBy hg none) (by cases v.ownBlock <;> simp)
theorem mono_own (B : Nat) (e : TypeId) (xs : List Value) : MonoSp (fun v w => Own w B e v xs) := fun _ _ _ hg h => h.gr hg
theorem mono_sl (xs : List Value) : MonoSp (fun v w => Sl w v xs) := fun _ _ _ hg h => h.below hg
end Go.Proofs.Ytcpkbngoecpnkaa
