/-
  Package wan: messages in memory; which may be told.
-/
import Derived.Test.YtgilijkmmcpfjaaZWKinds
import Derived.Test.YtgilijkmmcpfjaaZI
import Derived.Test.YtgilijkmmcpfjaaZRApp2
import Derived.Deep.DeepCutAuto
set_option linter.unusedVariables false
set_option linter.unusedSimpArgs false
set_option maxRecDepth 100000
namespace Go.Proofs.Ytgilijkmmcpfjaa
open Go.RowKit
/-- A row of items. -/
def ItemsP (P : Nat → Prop) (w : World) (v : Value) (xs : List ItemD) : Prop :=
  ∃ R, RowsP P w v xs.length 7 R ∧ ∀ i (h : i < xs.length), ∃ sv ev, ItemP P w xs[i] sv ev ∧ ∀ j u, (itemCells xs[i] sv ev)[j]? = some u → R i j = u
theorem ItemsP.keep {P : Nat → Prop} {w w' : World} {v : Value} {es : List ItemD} (h : ItemsP P w v es) (k : Keep P w w') : ItemsP P w' v es := by
  obtain ⟨R, h1, h2⟩ := h
  exact ⟨R, h1.keep k, fun i hi => by obtain ⟨sv, ev, h3, h4⟩ := h2 i hi; exact ⟨sv, ev, h3.keep k, h4⟩⟩
theorem ItemsP.gr {P : Nat → Prop} {w w' : World} {v : Value} {es : List ItemD} (h : ItemsP P w v es) (k : Gr w w') : ItemsP P w' v es := h.keep (Keep.of_gr k)
theorem ItemsP.mono {P Q : Nat → Prop} {w : World} {v : Value} {es : List ItemD} (h : ItemsP P w v es) (hq : ∀ k, P k → Q k) : ItemsP Q w v es := by
  obtain ⟨R, h1, h2⟩ := h
  exact ⟨R, h1.mono hq, fun i hi => by obtain ⟨sv, ev, h3, h4⟩ := h2 i hi; exact ⟨sv, ev, h3.mono hq, h4⟩⟩
theorem ItemsP.monoLt {P Q : Nat → Prop} {w : World} {v : Value} {es : List ItemD} (h : ItemsP P w v es) (hq : ∀ k, P k → k < w.heap.size → Q k) : ItemsP Q w v es := by
  obtain ⟨R, h1, h2⟩ := h
  exact ⟨R, h1.monoLt hq, fun i hi => by obtain ⟨sv, ev, h3, h4⟩ := h2 i hi; exact ⟨sv, ev, h3.monoLt hq, h4⟩⟩
theorem ItemsP.shape {P : Nat → Prop} {w : World} {v : Value} {es : List ItemD} (h : ItemsP P w v es) : ∃ a cap, v = .slice a es.length cap := by
  obtain ⟨R, h1, _⟩ := h; exact h1.shape
theorem ItemsP.nil (P : Nat → Prop) (w : World) (a : Option Addr) (c : Nat) : ItemsP P w (.slice a 0 c) [] := ⟨fun _ _ => .bool false, RowsP.nil _ _ _ _ _ _, fun i hi => absurd hi (Nat.not_lt_zero _)⟩
theorem ItemsP.at {P : Nat → Prop} {w : World} {v : Value} {es : List ItemD} (h : ItemsP P w v es) (k : Nat) (hk : k < es.length) :
    ∃ B o c sv ev, v = .slice (some ⟨B, o, none⟩) es.length c ∧ B < w.heap.size ∧ ItemP P w es[k] sv ev ∧ ∀ j u, j < 7 → (itemCells es[k] sv ev)[j]? = some u → w.cell? ⟨B, o + k * 7 + j, none⟩ = some u := by
  obtain ⟨R, ⟨⟨a, cap, rfl, hcap, hr⟩, _⟩, h2⟩ := h
  obtain ⟨B, o, rfl, hB, hc⟩ := hr.resolve_left (by omega)
  obtain ⟨sv, ev, h3, h4⟩ := h2 k hk
  exact ⟨B, o, cap, sv, ev, rfl, hB, h3, fun j u hj hu => by rw [hc k hk j hj, h4 j u hu]⟩
def wanCells (x : WanD) (vv iv fv : Value) : List Value := [.int .u8 (x.kind : Int), .int .i64 x.site, vv, iv, .int .i64 x.region, .int .u64 (x.epoch : Int), fv]
def WanP (P : Nat → Prop) (w : World) (x : WanD) (vv iv fv : Value) : Prop := SlP P w vv (nums x.vector) ∧ ItemsP P w iv x.items ∧ SlP P w fv (nums x.frontier)
theorem WanP.keep {P : Nat → Prop} {w w' : World} {x : WanD} {vv iv fv : Value} (h : WanP P w x vv iv fv) (k : Keep P w w') : WanP P w' x vv iv fv := ⟨h.1.keep k, h.2.1.keep k, h.2.2.keep k⟩
theorem WanP.gr {P : Nat → Prop} {w w' : World} {x : WanD} {vv iv fv : Value} (h : WanP P w x vv iv fv) (k : Gr w w') : WanP P w' x vv iv fv := h.keep (Keep.of_gr k)
theorem WanP.mono {P Q : Nat → Prop} {w : World} {x : WanD} {vv iv fv : Value} (h : WanP P w x vv iv fv) (hq : ∀ k, P k → Q k) : WanP Q w x vv iv fv := ⟨h.1.mono hq, h.2.1.mono hq, h.2.2.mono hq⟩
theorem WanP.zero (P : Nat → Prop) (w : World) (k : Nat) : WanP P w { zeroW with kind := k } (.slice none 0 0) (.slice none 0 0) (.slice none 0 0) := ⟨SlP.nil _ _ _ _, ItemsP.nil _ _ _ _, SlP.nil _ _ _ _⟩
/-- No list of it is longer than a slice may be. -/
structure WanLen (x : WanD) : Prop where
  items : x.items.length ≤ maxLen
  effs : ∀ y ∈ x.items, y.effs.length ≤ maxLen
theorem wanTy : RowTy Try.prog 26 7 := ⟨⟨_, Try.underlying26⟩, by kernel_rfl⟩
theorem itemTy : RowTy Try.prog 46 7 := ⟨⟨_, Try.underlying46⟩, by kernel_rfl⟩
theorem wstamp_any (w : World) (v : Value) (l : List Nat) (h : Bool) (hs : Sl w v (nums l)) : Calls Try.prog 50 #[v, .bool h] w (RetBool w (stampW l h)) := by
  obtain ⟨a, c, rfl, _, _⟩ := Sl.numsAt' hs
  obtain ⟨n, hn⟩ : ∃ n, n = l.length := ⟨_, rfl⟩
  have e : stampW l h = (decide (n = 0) || (h && decide (n ≤ 3))) := by rw [hn]; rfl
  rw [← hn, e]
  clear hs hn e
  by_cases h0 : n = 0
  · subst h0
    go_enter Try.func50, Try.ntmps50
    go_wp2
    go_ret
    exact RetBool.mk (by simp) (Gr.refl w)
  have q0 : ((n : Int) == 0) = false := by rw [Bool.eq_false_iff]; intro e; have := eq_of_beq e; omega
  cases h with
  | false =>
    have HZ : Hid ((decide (n = 0) || (false && decide (n ≤ 3))) = false) := Lib.hid (by simp [h0])
    clear h0
    go_enter Try.func50, Try.ntmps50
    go_wp2
    go_ret
    exact RetBool.mk (by rw [HZ.out] <;> simp) (Gr.refl w)
  | true =>
    by_cases h3 : n ≤ 3
    · have hi : (n : Int) ≤ 3 := by omega
      have HZ : Hid ((decide (n = 0) || (true && decide (n ≤ 3))) = true) := Lib.hid (by simp [h3])
      clear h0 h3
      go_enter Try.func50, Try.ntmps50
      go_wp2
      go_ret
      exact RetBool.mk (by rw [HZ.out] <;> simp <;> omega) (Gr.refl w)
    · have hi : ¬ (n : Int) ≤ 3 := by omega
      have HZ : Hid (false = (decide (n = 0) || decide (n ≤ 3))) := Lib.hid (by simp [h3, h0])
      clear h0 h3
      go_enter Try.func50, Try.ntmps50
      go_wp2
      go_ret
      exact RetBool.mk HZ.out (Gr.refl w)
theorem item_shape {P : Nat → Prop} {w : World} {x : ItemD} {sv ev : Value} (h : ItemP P w x sv ev) : ∃ sa ns sc ea ne ec, sv = .slice sa ns sc ∧ ev = .slice ea ne ec := by
  obtain ⟨a, c, e, _, _⟩ := Sl.numsAt' h.1.1
  obtain ⟨a2, c2, e2⟩ := h.2.shape
  exact ⟨_, _, _, _, _, _, e, e2⟩
theorem bad1_any (w : World) (x : ItemD) (sv ev : Value) (hp : ItemP Any w x sv ev) (hn : x.effs.length ≤ maxLen) : Calls Try.prog 48 #[.agg (itemCells x sv ev).toArray] w (RetBool w (!mayItem x)) := by
  have MI := Lib.hid fun W (hW : Gr w W) => mayItem_any W x sv ev (hp.gr hW) hn
  obtain ⟨E, hE⟩ : ∃ E, E = itemCells x sv ev := ⟨_, rfl⟩
  have EN : Hid (E.length = 7) := Lib.hid (by rw [hE]; rfl)
  obtain ⟨m, hm⟩ : ∃ m, m = mayItem x := ⟨_, rfl⟩
  rw [← hE, ← hm] at MI ⊢
  clear hE hm hp hn
  go_enter Try.func48, Try.ntmps48
  go_wp2_with (first | (refine wpList_boxE _ rfl rfl rfl ?_) | fail)
  intro w1 k1 g1 n1
  have K1 := Lib.hid k1
  have G1 := Lib.hid g1
  clear k1 g1 n1
  go_wp2_with (first | (refine wpList_loadE itemTy _ rfl rfl rfl K1.out EN.out ?_) | fail)
  refine (MI.out w1 G1.out).mono ?_
  rintro en w2 ⟨rfl, g2⟩
  have G2 := Lib.hid (G1.out.trans g2)
  clear g2
  go_wp2
  go_ret
  exact RetBool.mk rfl G2.out
/-- A row of them, each looked at by a call. -/
theorem idxI_any (w : World) (lv : Value) (ls : List ItemD) (hp : ItemsP Any w lv ls) (hn : ls.length ≤ maxLen) (he : ∀ y ∈ ls, y.effs.length ≤ maxLen) :
    Calls Try.prog 90 #[lv, .func (.func 48) #[] #[]] w fun e w' => (∃ z : Int, e = .returned (.int .i64 z) ∧ decide (0 ≤ z) = !ls.all mayItem) ∧ Gr w w' := by
  obtain ⟨a, cap, rfl⟩ := hp.shape
  have hmx : ls.length ≤ 9223372036854775807 := Nat.le_trans hn (by decide)
  have HP := Lib.hid hp
  have HE := Lib.hid he
  have key : Hid ((∀ x ∈ ls, mayItem x = true) → ls.all mayItem = true) := Lib.hid fun h => List.all_eq_true.2 h
  have key2 : Hid (∀ k (hk : k < ls.length), mayItem ls[k] = false → ls.all mayItem = false) := Lib.hid fun k hk h => by
    rw [Bool.eq_false_iff]
    intro ha
    have := List.all_eq_true.1 ha _ (List.getElem_mem hk)
    rw [h] at this
    cases this
  clear hp he
  go_enter Try.func90, Try.ntmps90
  go_wp2
  go_loopw [5, 8] (fun _ i wr => ∃ k : Nat, k ≤ ls.length ∧ i = .int .i64 k ∧ Gr w wr ∧ Hid (∀ j (hj : j < ls.length), j < k → mayItem ls[j] = true)) (fun _ i _ => ls.length - (intOf i).toNat)
  case atStart => exact ⟨0, Nat.zero_le _, rfl, Gr.refl _, Lib.hid fun j _ hj => absurd hj (Nat.not_lt_zero _)⟩
  case round =>
    obtain ⟨k, hk, rfl, hg, HJ⟩ := hrel
    obtain ⟨wo, rfl⟩ : ∃ wo : World, wo = wr := ⟨_, rfl⟩
    by_cases hlt : k < ls.length
    · obtain ⟨B, o, c, sv, ev, e0, hB, hr, hcell⟩ := (HP.out.gr hg).at k hlt
      injection e0 with e1 _ e3
      subst e1 e3
      have CALL := bad1_any wo ls[k] sv ev hr (HE.out _ (List.getElem_mem hlt))
      obtain ⟨sa, ns, sc, ea, ne, ec, rfl, rfl⟩ := item_shape hr
      obtain ⟨x, hx⟩ : ∃ x, x = ls[k] := ⟨_, rfl⟩
      rw [← hx] at CALL hcell
      have HX := Lib.hid hx
      clear hx
      have c0 := hcell 0 _ (by decide) rfl
      have c1 := hcell 1 _ (by decide) rfl
      have c2 := hcell 2 _ (by decide) rfl
      have c3 := hcell 3 _ (by decide) rfl
      have c4 := hcell 4 _ (by decide) rfl
      have c5 := hcell 5 _ (by decide) rfl
      have c6 := hcell 6 _ (by decide) rfl
      simp only [itemCells, Nat.add_zero] at c0 c1 c2 c3 c4 c5 c6
      have i1 : (0 : Int) ≤ (k : Int) := by omega
      have i2 : (k : Int) < (ls.length : Int) := by omega
      have CA : Hid (Calls Try.prog 48 #[.agg #[.int .i64 x.origin, .int .u64 (x.seq : Int), .int .i64 x.region, .int .u64 (x.epoch : Int), .slice sa ns sc, .slice ea ne ec, .int .u32 (x.closed : Int)]] wo (RetBool wo (!mayItem x))) := Lib.hid CALL
      clear CALL hr hcell
      go_wp2_with fail
      cases hm : mayItem x with
      | true =>
        have HM := Lib.hid hm
        clear hm
        refine CA.out.mono ?_
        rw [HM.out]
        rintro e w2 ⟨rfl, g2⟩
        have G2 := Lib.hid (hg.trans g2)
        clear g2
        go_wp2
        go_roundw
        case rel => exact ⟨k + 1, by omega, by go_num, G2.out, Lib.hid fun j hj hjk => by
          rcases Nat.lt_or_ge j k with h | h
          · exact HJ.out j hj h
          · obtain rfl : j = k := by omega
            rw [← HX.out]; exact HM.out⟩
        case measure => simp [intOf]; omega
      | false =>
        have HM := Lib.hid hm
        clear hm
        refine CA.out.mono ?_
        rw [HM.out]
        rintro e w2 ⟨rfl, g2⟩
        have G2 := Lib.hid (hg.trans g2)
        clear g2
        go_wp2
        go_ret
        exact ⟨⟨_, rfl, by rw [key2.out k hlt (by rw [← HX.out]; exact HM.out)]; simp⟩, G2.out⟩
    · obtain rfl : k = ls.length := by omega
      go_wp2
      go_ret
      exact ⟨⟨_, rfl, by rw [key.out fun x hx => by obtain ⟨j, hj, rfl⟩ := List.getElem_of_mem hx; exact HJ.out j hj hj]; rfl⟩, hg⟩
theorem contI_any (w : World) (lv : Value) (ls : List ItemD) (hp : ItemsP Any w lv ls) (hn : ls.length ≤ maxLen) (he : ∀ y ∈ ls, y.effs.length ≤ maxLen) :
    Calls Try.prog 51 #[lv, .func (.func 48) #[] #[]] w (RetBool w (!ls.all mayItem)) := by
  have C := Lib.hid (idxI_any w lv ls hp hn he)
  obtain ⟨a, cap, rfl⟩ := hp.shape
  clear hp hn he
  go_enter Try.func51, Try.ntmps51
  go_wp2_with fail
  refine C.out.mono ?_
  rintro en w1 ⟨⟨z, rfl, hz⟩, g1⟩
  have HZ := Lib.hid hz
  have G1 := Lib.hid g1
  clear hz g1
  go_wp2
  go_ret
  exact RetBool.mk (by first | exact HZ.out | (rw [← HZ.out])) G1.out
end Go.Proofs.Ytgilijkmmcpfjaa
