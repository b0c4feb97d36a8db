/-
  Package registry: slices of entries; great.
  Package registry, plain: what Apply does, token by token.
  Package registry: two registries beside one another.
-/
import Derived.Test.YtpcpijecibiibaaGreatZRgE
import Derived.Test.YtpcpijecibiibaaGreatZEO
section
set_option linter.unusedVariables false
set_option linter.unusedSimpArgs false
set_option maxRecDepth 100000
namespace Go.Proofs.YtpcpijecibiibaaGreat
open Go.RowKit
section
variable {H : Type} {enc : TypeId × Value → H} {w : World}
theorem EntBulk.mono {x : EntD} {B C : Nat} (h : EntBulk x B) (hB : B ≤ C) : EntBulk x C :=
  ⟨by have := h.op; omega, by have := h.parts; omega, ⟨by have := h.item.all; omega, fun e he => by have := h.item.effs e he; omega, by have := h.item.elen; omega, by have := h.item.slen; omega⟩, by have := h.frontier; omega⟩
theorem cell_ents {m : Nat} {v : Value} {y : DataW H × List MemPlace} (h : DataW.trod enc Tryz.prog w 0 (fun _ => true) true m 22 [v] = some y) :
    ∃ xs : List EntD, EntsP Any w v xs ∧ (∀ x ∈ xs, EntOk x ∧ EntBulk x (Rows.uptoBulk y.1)) ∧ xs.length ≤ maxLen := by
  obtain ⟨len, R, Bf, hR, hs, hlb, hl, hc⟩ := cell_rowsKB (k := 23) Tryz.underlying22 (by kernel_rfl) (by decide) h
  have each : ∀ i, i < len → ∃ x : EntD, EntOk x ∧ EntP Any w x ⟨R i 7, R i 11, R i 16, R i 17, R i 22⟩ ∧ EntBulk x (Bf i) ∧ ∀ j u, (entCells x ⟨R i 7, R i 11, R i 16, R i 17, R i 22⟩)[j]? = some u → R i j = u := fun i hi => by
    obtain ⟨m', y', h', hb⟩ := hc i hi
    obtain ⟨x, h1, h2, h3, h4⟩ := cell_ent h'
    exact ⟨x, h1, h2, by rw [← hb]; exact h3, h4⟩
  obtain ⟨X, hX⟩ := Go.Deep.choose_lt each
  have hlen : ((List.range len).map X).length = len := by simp
  refine ⟨(List.range len).map X, ⟨R, ⟨by rw [hlen]; exact hR, .inr fun _ _ => trivial⟩, fun i hi => ?_⟩, fun x hx => ?_, by rw [hlen]; exact hl⟩
  · have hi' : i < len := by simpa using hi
    obtain ⟨_, h2, _, h4⟩ := hX i hi'
    exact ⟨⟨R i 7, R i 11, R i 16, R i 17, R i 22⟩, by simpa using h2, by simpa using h4⟩
  · obtain ⟨i, hi, rfl⟩ := List.mem_map.1 hx
    have hi' : i < len := by simpa using hi
    obtain ⟨h1, _, h3, _⟩ := hX i hi'
    have := le_sum Bf len i hi'
    exact ⟨h1, h3.mono (by omega)⟩
theorem open_ents {r : Reach} {b0 : Nat} {v : Value} {d : DataW H} {ps : List MemPlace} (hval : Value.okWide Tryz.prog w r b0 22 v) (hd : DataW.Trod enc Tryz.prog w 0 (fun _ => true) true 22 v d ps) :
    ∃ xs : List EntD, EntsP Any w v xs ∧ (∀ x ∈ xs, EntOk x ∧ EntBulk x (Rows.uptoBulk d)) ∧ xs.length ≤ maxLen := by
  obtain ⟨a, len, cap, rfl⟩ := Go.WideShapes.okWide_slice Tryz.underlying22 hval
  obtain ⟨fuel, hf⟩ := hd
  exact cell_ents (y := (d, ps)) (by simpa [Value.cells] using hf)
end
/-- What great lets pass. -/
def Small (xs : List EntD) : Prop := xs.length ≤ 100 ∧ ∀ x ∈ xs, x.frontier.length ≤ 10
set_option maxHeartbeats 2000000 in
theorem great_any (w : World) (v : Value) (xs : List EntD) (hp : EntsP Any w v xs) : Calls Tryz.prog 9 #[v] w fun e w' => ∃ z : Bool, e = .returned (.bool z) ∧ (z = false → Small xs) ∧ w' = w := by
  obtain ⟨a, cap, rfl⟩ := hp.shape
  obtain ⟨n, hn⟩ : ∃ n, n = xs.length := ⟨_, rfl⟩
  have HN := Lib.hid hn
  rw [← hn]
  have AT : Hid (∀ k, (hk : k < xs.length) → ∃ B o, a = some ⟨B, o, none⟩ ∧ ∃ vf cf, w.cell? ⟨B, o + k * 23 + 22, none⟩ = some (.slice vf xs[k].frontier.length cf)) := Lib.hid fun k hk => by
    obtain ⟨B, o, c, q, e, _, h3, h4⟩ := hp.at k hk
    injection e with e1 e2 e3
    obtain ⟨af, cf, hfv, _, _⟩ := Sl.numsAt' h3.2.2.1
    refine ⟨B, o, e1, af, cf, ?_⟩
    have := h4 22 q.fv rfl
    rw [hfv] at this
    exact this
  by_cases hgr : 100 < n
  · have e1 : (100 < (n : Int)) = True := by simp <;> omega
    clear hgr hn hp
    go_enter Tryz.func9, Tryz.ntmps9
    go_wp2
    go_ret
    exact ⟨true, rfl, fun h => (by cases h), rfl⟩
  have e1 : (100 < (n : Int)) = False := by simp <;> omega
  have HL : Hid (n ≤ 100) := Lib.hid (by omega)
  clear hgr hn hp
  go_enter Tryz.func9, Tryz.ntmps9
  go_wp2_with fail
  clear e1
  go_loopw [3] (fun i wr => ∃ k : Nat, k ≤ n ∧ i = .int .i64 k ∧ (∀ j (hj : j < xs.length), j < k → xs[j].frontier.length ≤ 10) ∧ wr = w) (fun i _ => n - (intOf i).toNat)
  case atStart => exact ⟨0, Nat.zero_le _, rfl, fun j _ h => absurd h (Nat.not_lt_zero _), rfl⟩
  case round =>
    obtain ⟨k, hk, rfl, hall, hwr⟩ := hrel
    subst hwr
    have HA := Lib.hid hall
    clear hall
    by_cases hlt : k < n
    · as_aux_lemma =>
      have hk2 : k < xs.length := by rw [← HN.out]; exact hlt
      obtain ⟨B, o, ha, vf, cf, hcell⟩ := AT.out k hk2
      subst ha
      obtain ⟨nf, hnf⟩ : ∃ nf, nf = xs[k].frontier.length := ⟨_, rfl⟩
      rw [← hnf] at hcell
      have HF := Lib.hid hnf
      have i1 : (0 : Int) ≤ (k : Int) := by omega
      have i2 : (k : Int) < (n : Int) := by omega
      have kw : wrap64 ((k : Int) + 1) = (k : Int) + 1 := by have := HL.out; unfold wrap64; omega
      clear hnf
      by_cases hf : 10 < nf
      · have f1 : (10 < (nf : Int)) = True := by simp <;> omega
        clear hf
        go_wp2
        go_ret
        exact ⟨true, rfl, fun h => (by cases h), rfl⟩
      · have f1 : (10 < (nf : Int)) = False := by simp <;> omega
        have HF2 : Hid (nf ≤ 10) := Lib.hid (by omega)
        clear hf
        go_wp2
        go_roundw
        case rel => exact ⟨k + 1, by omega, by go_num, fun j hj hjk => by
          by_cases e : j = k
          · subst e; rw [← HF.out]; exact HF2.out
          · exact HA.out j hj (by omega), by first | rfl | trivial⟩
        case measure =>
          rw [kw]
          have h9 : n - (k + 1) < n - k := by omega
          clear kw f1 i1 i2 HF HF2 HA AT hcell
          simp [intOf]; omega
    · obtain rfl : k = n := by omega
      go_wp2
      go_ret
      exact ⟨false, rfl, fun _ => ⟨by rw [← HN.out]; exact HL.out, fun x hx => by
        obtain ⟨j, hj, rfl⟩ := List.getElem_of_mem hx
        exact HA.out j hj (by rw [HN.out]; exact hj)⟩, rfl⟩
end Go.Proofs.YtpcpijecibiibaaGreat
end
section
set_option linter.unusedVariables false
set_option linter.unusedSimpArgs false
set_option maxRecDepth 100000
namespace Go.Proofs.YtpcpijecibiibaaGreat
open Go.RowKit
def stepP (n : Int) (x : EntD) (t : Tok) : Tok := if 0 ≤ x.site ∧ x.site < n then afterT (doT x t) t else t
theorem inG_set {r : RegD} {i j : Int} {k : Nat} {t : Tok} : inG { r with l := r.l.set k t } j = inG r j := by unfold inG; simp
theorem atG_set {r : RegD} {i : Int} (hi : inG r i = true) (j : Int) (t : Tok) : atG { r with l := r.l.set i.toNat t } j = if j = i then t else atG r j := by
  obtain ⟨hl, _, h0, h1⟩ := atG_at hi
  unfold atG
  rw [inG_set (i := i)]
  by_cases e : j = i
  · subst e
    rw [hi, if_pos rfl, if_pos rfl, List.getD_eq_getElem?_getD, List.getElem?_set_self hl]; rfl
  · rw [if_neg e]
    by_cases hj : inG r j = true
    · obtain ⟨hl2, _, h2, h3⟩ := atG_at hj
      rw [hj, if_pos rfl, if_pos rfl, List.getD_eq_getElem?_getD, List.getElem?_set_ne (by omega), ← List.getD_eq_getElem?_getD]
    · rw [if_neg hj, if_neg hj]
theorem set_same {l : List Tok} {k : Nat} (h : k < l.length) : l.set k l[k] = l := List.set_getElem_self h
theorem applyX_form (r : RegD) (x : EntD) : applyX r x = if inG r x.region = true then { r with l := r.l.set x.region.toNat (stepP r.sites x (atG r x.region)) } else r := by
  unfold applyX stepP
  by_cases h1 : inG r x.region = true
  · obtain ⟨hl, ha, _, _⟩ := atG_at h1
    rw [if_pos h1]
    by_cases h2 : 0 ≤ x.site ∧ x.site < r.sites
    · rw [if_pos ⟨h1, h2⟩, if_pos h2]
      unfold afterT
      cases hd : doT x (atG r x.region) with
      | some t => rfl
      | none => show r = { r with l := r.l.set x.region.toNat (atG r x.region) }; rw [ha, set_same hl]
    · rw [if_neg (fun k => h2 k.2), if_neg h2, ha, set_same hl]
  · rw [if_neg (fun k => h1 k.1), if_neg h1]
theorem applyX_size (r : RegD) (x : EntD) : (applyX r x).sites = r.sites ∧ (applyX r x).l.length = r.l.length := by
  rw [applyX_form]
  split <;> simp
theorem applyX_at (r : RegD) (x : EntD) (j : Int) : atG (applyX r x) j = if x.region = j ∧ inG r j = true then stepP r.sites x (atG r j) else atG r j := by
  rw [applyX_form]
  by_cases h : inG r x.region = true
  · rw [if_pos h, atG_set h]
    by_cases e : j = x.region
    · subst e; rw [if_pos rfl, if_pos ⟨rfl, h⟩]
    · rw [if_neg e, if_neg (fun k => e k.1.symm)]
  · rw [if_neg h, if_neg (fun (k : x.region = j ∧ inG r j = true) => h (k.1 ▸ k.2))]
/-- What an entry's bytes do to a token. -/
def Tells (x : EntD) : Prop := mayX x ∧ (tellB x).length ≤ 4096
theorem applyP_form (r : RegD) {x : EntD} (ok : EntOk x) (big : EntBig x) : (Tells x ∧ applyG r (putV x).1 = applyX r x) ∨ (¬ Tells x ∧ applyG r (putV x).1 = r) := by
  by_cases hm : mayX x
  · by_cases hl : (tellB x).length ≤ 4096
    · exact .inl ⟨⟨hm, hl⟩, applyP_may ok big hm hl⟩
    · refine .inr ⟨fun h => hl h.2, ?_⟩
      have e : putV x = ([], 3) := by rw [putV_may ok big.fit (by decide) hm, if_pos (by omega)]
      rw [e]
      show (if (getV []).2 = 0 then applyX r (getV []).1 else r) = _
      rw [getV_nil]; rfl
  · exact .inr ⟨fun h => hm h.1, applyP_not ok big hm⟩
theorem applyP_sites (r : RegD) {x : EntD} (ok : EntOk x) (big : EntBig x) : (applyG r (putV x).1).sites = r.sites ∧ (applyG r (putV x).1).l.length = r.l.length := by
  rcases applyP_form r ok big with ⟨_, h⟩ | ⟨_, h⟩ <;> rw [h]
  · exact applyX_size r x
  · exact ⟨rfl, rfl⟩
/-- Two registries of the same sites and size, alike at a token, are alike there behind any entry. -/
theorem applyP_alike {r s : RegD} {x : EntD} {j : Int} (ok : EntOk x) (big : EntBig x) (h1 : r.sites = s.sites) (h2 : r.l.length = s.l.length) (h3 : atG r j = atG s j) : atG (applyG r (putV x).1) j = atG (applyG s (putV x).1) j := by
  have hin : inG r j = inG s j := by unfold inG; rw [h2]
  rcases applyP_form r ok big with ⟨t1, e1⟩ | ⟨t1, e1⟩ <;> rcases applyP_form s ok big with ⟨t2, e2⟩ | ⟨t2, e2⟩
  · rw [e1, e2, applyX_at, applyX_at, h1, hin, h3]
  · exact absurd t1 t2
  · exact absurd t2 t1
  · rw [e1, e2, h3]
/-- An entry of another region does nothing to a token. -/
theorem applyP_other {r : RegD} {x : EntD} {j : Int} (ok : EntOk x) (big : EntBig x) (h : x.region ≠ j) : atG (applyG r (putV x).1) j = atG r j := by
  rcases applyP_form r ok big with ⟨_, e1⟩ | ⟨_, e1⟩ <;> rw [e1]
  rw [applyX_at, if_neg (fun k => h k.1)]
def foldP (r : RegD) (xs : List EntD) : RegD := xs.foldl (fun r x => applyG r (putV x).1) r
theorem foldP_step (r : RegD) (xs : List EntD) (k : Nat) (hk : k < xs.length) : foldP r (xs.take (k + 1)) = applyG (foldP r (xs.take k)) (putV xs[k]).1 := by
  unfold foldP
  rw [List.take_succ_eq_append_getElem hk, List.foldl_append]; rfl
end Go.Proofs.YtpcpijecibiibaaGreat
end
section
set_option linter.unusedVariables false
set_option linter.unusedSimpArgs false
set_option maxRecDepth 100000
namespace Go.Proofs.YtpcpijecibiibaaGreat
open Go.RowKit
structure Two (w W : World) (ga : Value) (Pa : Nat → Prop) (ra : RegD) (gb : Value) (Pb : Nat → Prop) (rb : RegD) : Prop where
  a : RegN w W ga Pa ra
  b : RegN w W gb Pb rb
  off : ∀ k, Pa k → ¬ Pb k
theorem RegN.lt {w W : World} {gv : Value} {P : Nat → Prop} {r : RegD} (h : RegN w W gv P r) : ∀ k, P k → k < W.heap.size := by
  obtain ⟨g, _, h1, _⟩ := h
  exact h1.2.1
theorem Two.gr {w W W' : World} {ga gb : Value} {Pa Pb : Nat → Prop} {ra rb : RegD} (h : Two w W ga Pa ra gb Pb rb) (g : Gr W W') : Two w W' ga Pa ra gb Pb rb := ⟨h.a.gr g, h.b.gr g, h.off⟩
theorem Two.appA {w W W' : World} {ga gb : Value} {Pa Pa' Pb : Nat → Prop} {ra ra' rb : RegD} (h : Two w W ga Pa ra gb Pb rb) (n : RegN w W' ga Pa' ra') (hn : ∀ k, Pa' k → Pa k ∨ W.heap.size ≤ k) (c : Ch Pa W W') : Two w W' ga Pa' ra' gb Pb rb :=
  ⟨n, h.b.keep c (fun k hk e => h.off k e hk), fun k hk e => (hn k hk).elim (fun h1 => h.off k h1 e) (fun h1 => by have := h.b.lt k e; omega)⟩
theorem Two.appB {w W W' : World} {ga gb : Value} {Pa Pb Pb' : Nat → Prop} {ra rb rb' : RegD} (h : Two w W ga Pa ra gb Pb rb) (n : RegN w W' gb Pb' rb') (hn : ∀ k, Pb' k → Pb k ∨ W.heap.size ≤ k) (c : Ch Pb W W') : Two w W' ga Pa ra gb Pb' rb' :=
  ⟨h.a.keep c (fun k hk e => h.off k hk e), n, fun k hk e => (hn k e).elim (fun h1 => h.off k hk h1) (fun h1 => by have := h.a.lt k hk; omega)⟩
/-- The second is made behind the first. -/
theorem Two.made {w W W' : World} {ga gb : Value} {Pa Pb : Nat → Prop} {ra rb : RegD} (a : RegN w W ga Pa ra) (b : RegN W W' gb Pb rb) (G : Gr w W) (g : Gr W W') : Two w W' ga Pa ra gb Pb rb := by
  refine ⟨a.gr g, ?_, fun k hk e => ?_⟩
  · obtain ⟨gg, e, h1, h2, h3⟩ := b
    exact ⟨gg, e, h1, fun k hk => Nat.le_trans G.size (h2 k hk), h3⟩
  · obtain ⟨gg, _, h1, h2, h3⟩ := b
    have := a.lt k hk
    have := h2 k e
    omega
/-- An entry of a slice: a row at a place, and its bytes. -/
theorem EntsP.row {w : World} {v : Value} {xs : List EntD} (h : EntsP Any w v xs) (ok : ∀ x ∈ xs, EntOk x ∧ EntBig x) (k : Nat) (hk : k < xs.length) :
    ∃ B o c E, v = .slice (some ⟨B, o, none⟩) xs.length c ∧ B < w.heap.size ∧ E.length = 23 ∧ CellsFrom w B (o + k * 23) E ∧ IsEnt w E.toArray xs[k] ∧ E[0]? = some (.int .u8 (xs[k].kind : Int)) ∧ E[20]? = some (.int .i64 xs[k].region) := by
  obtain ⟨B, o, c, q, e, hB, hp, hc⟩ := h.at k hk
  have := ok xs[k] (List.getElem_mem hk)
  exact ⟨B, o, c, entCells xs[k] q, e, hB, rfl, hc, isEnt hp this.1 this.2, rfl, rfl⟩
theorem fold_alike (j : Int) : ∀ (xs : List EntD), (∀ x ∈ xs, EntOk x ∧ EntBig x) → ∀ r s : RegD, r.sites = s.sites → r.l.length = s.l.length → atG r j = atG s j → atG (foldP r xs) j = atG (foldP s (xs.filter fun x => decide (x.region = j))) j
  | [], _, _, _, _, _, h => h
  | x :: xs, ok, r, s, h1, h2, h3 => by
    obtain ⟨o1, o2⟩ := ok x (.head _)
    have ok' : ∀ y ∈ xs, EntOk y ∧ EntBig y := fun y hy => ok y (.tail _ hy)
    have ra := applyP_sites r o1 o2
    show atG (foldP (applyG r (putV x).1) xs) j = _
    by_cases h : x.region = j
    · rw [List.filter_cons_of_pos (by simpa using h)]
      have sa := applyP_sites s o1 o2
      exact fold_alike j xs ok' _ (applyG s (putV x).1) (by rw [ra.1, sa.1, h1]) (by rw [ra.2, sa.2, h2]) (applyP_alike o1 o2 h1 h2 h3)
    · rw [List.filter_cons_of_neg (by simpa using h)]
      exact fold_alike j xs ok' _ s (by rw [ra.1, h1]) (by rw [ra.2, h2]) ((applyP_other o1 o2 h).trans h3)
theorem foldP_ok (xs : List EntD) : ∀ r : RegD, RegOk r → RegOk (foldP r xs) := by
  induction xs with
  | nil => exact fun r h => h
  | cons x xs ih => exact fun r h => ih _ (applyG_ok h _)
end Go.Proofs.YtpcpijecibiibaaGreat
end
