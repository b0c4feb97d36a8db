/-
  Package entry: tell, and whether a part is not allowed.
-/
import Derived.Test.YtiemgmbjhllmbaaYEnKinds
import Derived.Test.YtiemgmbjhllmbaaYEnPartG
set_option linter.unusedVariables false
set_option maxRecDepth 100000
namespace Go.Proofs.Ytiemgmbjhllmbaa
open Go.RowKit
/-- A function of the program's own: it is entered. -/
def Ent (f : FuncId) : Prop := ∀ (xs : Array Value) (w : World), (callFunc f xs).run Try.prog w = .ok (.enter f xs) w
theorem mayF_cases (p : PartK) : (mayF p = .nilFunc ∧ ∀ x, mayPart x p = true) ∨ ∃ f, mayF p = .func (.func f) #[] #[] ∧ Ent f := by
  cases p with
  | client => exact .inl ⟨rfl, fun _ => rfl⟩
  | epoch => exact .inl ⟨rfl, fun _ => rfl⟩
  | _ => exact .inr ⟨_, rfl, fun _ _ => rfl⟩
theorem putF_ent (p : PartK) : Ent (putF p) := by cases p <;> exact fun _ _ => rfl
theorem getF_ent (p : PartK) : Ent (getF p) := by cases p <;> exact fun _ _ => rfl
theorem run_neq_nil (f : FuncId) (w : World) : (binOp BinOp.neq 55 (.func (.func f) #[] #[]) .nilFunc).run Try.prog w = .ok (.bool true) w := rfl
theorem run_nil_nil (w : World) : (binOp BinOp.neq 55 .nilFunc .nilFunc).run Try.prog w = .ok (.bool false) w := rfl
theorem may_any (p : PartK) (f : FuncId) (hf : mayF p = .func (.func f) #[] #[]) (w : World) (b : Nat) (x : EntD) (h : EntAt Any w b x) (ok : EntOk x) (big : EntBig x) :
    Calls Try.prog f #[.pointer (some ⟨b, 0, none⟩)] w (RetBool w (mayPart x p)) := by
  cases p with
  | client => cases hf
  | epoch => cases hf
  | owner => injection hf with hf; injection hf with hf; subst hf; exact may_owner w b x h ok big
  | op => injection hf with hf; injection hf with hf; subst hf; exact may_op w b x h ok big
  | item => injection hf with hf; injection hf with hf; subst hf; exact may_item w b x h ok big
  | site => injection hf with hf; injection hf with hf; subst hf; exact may_site w b x h ok big
  | wher => injection hf with hf; injection hf with hf; subst hf; exact may_wher w b x h ok big
  | stamp => injection hf with hf; injection hf with hf; subst hf; exact may_stamp w b x h ok big
theorem mayF_word (p : PartK) : ∃ mv, mv = mayF p ∧ (mv = .nilFunc ∨ ∃ f, mv = .func (.func f) #[] #[]) := ⟨_, rfl, (mayF_cases p).imp And.left fun ⟨f, h, _⟩ => ⟨f, h⟩⟩
theorem partsFlat_le (x : EntD) (big : EntBig x) (ps : List PartK) (k : Nat) (hps : ps.length ≤ 4) : ((ps.take k).flatMap (partB x)).length ≤ 400000000 := by
  have : ∀ l : List PartK, ((l.flatMap (partB x)).length ≤ l.length * 100000000) := by
    intro l
    induction l with
    | nil => simp
    | cons p l ih => rw [List.flatMap_cons, List.length_append, List.length_cons]; have := partB_le big p; omega
  have h := this (ps.take k)
  rw [List.length_take] at h
  omega
set_option maxHeartbeats 2000000 in
theorem tell_any (w : World) (b : Nat) (x : EntD) (pv : Value) (ps : List PartK) (h : EntAt Any w b x) (ok : EntOk x) (big : EntBig x) (hp : PartsAt w pv ps) (hps : ps.length ≤ 4) :
    Calls Try.prog 11 #[.pointer (some ⟨b, 0, none⟩), pv] w (RetSl w (be 1 x.kind ++ ps.flatMap (partB x))) := by
  obtain ⟨a, cap, rfl⟩ := hp.shape
  have HP := Lib.hid hp
  have HPS := Lib.hid hps
  have PUT : Hid (∀ p W v l, Gr w W → Sl W v (bytes l) → l.length ≤ 500000000 → Calls Try.prog (putF p) #[v, .pointer (some ⟨b, 0, none⟩)] W (RetSl W (l ++ partB x p))) := Lib.hid fun p W v l hW hs hl => putPart_any p W b x v l (h.gr hW) ok big hs hl
  have hfl := Lib.hid (partsFlat_le x big ps)
  obtain ⟨q, K, _⟩ := h
  have c0 : w.cell? ⟨b, 0, none⟩ = some (.int .u8 (x.kind : Int)) := K.cell 0
  have hn : Hid (ps.length ≤ 4) := Lib.hid hps
  have S0 : Sl w (.slice none 0 0) (bytes []) := Sl.nil _ _ _
  have C := wbyte (.slice none 0 0) [] x.kind w S0 (by decide) ok.kind
  rw [List.nil_append] at C
  have CC := Lib.hid C
  clear C hp hps K ok big S0
  go_enter Try.func11, Try.ntmps11
  go_wp2_with fail
  refine CC.out.mono ?_
  rintro e w1 ⟨v1, rfl, s1, g1⟩
  clear c0 CC
  go_wp2_with fail
  go_loopw [5, 7, 15] (fun u y i wr => ∃ k : Nat, k ≤ ps.length ∧ i = .int .i64 k ∧ Sl wr u (bytes (be 1 x.kind ++ (ps.take k).flatMap (partB x))) ∧ Gr w wr) (fun _ _ i _ => ps.length - (intOf i).toNat)
  case atStart => exact ⟨0, Nat.zero_le _, rfl, by simpa using s1, g1⟩
  case round =>
    clear s1 g1
    obtain ⟨k, hk, rfl, hs2, hg⟩ := hrel
    obtain ⟨wo, rfl⟩ : ∃ wo : World, wo = wr := ⟨_, rfl⟩
    by_cases hlt : k < ps.length
    · obtain ⟨B, o, c, e0, hB, k0, k1, k2⟩ := HP.out.at k hlt
      injection e0 with e1 _ e3
      subst e1 e3
      have c0 := (hg.cell (p := ⟨B, o + k * 3, none⟩) hB).trans k0
      have c1 := (hg.cell (p := ⟨B, o + k * 3 + 1, none⟩) hB).trans k1
      have c2 := (hg.cell (p := ⟨B, o + k * 3 + 2, none⟩) hB).trans k2
      have e1 : be 1 x.kind ++ (ps.take k).flatMap (partB x) ++ partB x ps[k] = be 1 x.kind ++ (ps.take (k + 1)).flatMap (partB x) := by
        rw [List.take_add_one, List.getElem?_eq_getElem hlt, List.flatMap_append]; simp
      have E1 := Lib.hid e1
      have hl9 : (be 1 x.kind ++ (ps.take k).flatMap (partB x)).length ≤ 500000000 := by
        have := hfl.out k HPS.out
        rw [List.length_append, be_length]; omega
      have PU := Lib.hid (fun W v hW hs => PUT.out ps[k] W v _ hW hs hl9)
      obtain ⟨f0, hf0⟩ : ∃ f0, f0 = putF ps[k] := ⟨_, rfl⟩
      obtain ⟨f1, hf1⟩ : ∃ f1, f1 = getF ps[k] := ⟨_, rfl⟩
      obtain ⟨mv, hmv, hmc⟩ := mayF_word ps[k]
      have PE := Lib.hid (putF_ent ps[k])
      rw [← hf0] at c0 PU PE
      rw [← hf1] at c1
      rw [← hmv] at c2
      have HG := Lib.hid hg
      have HS := Lib.hid hs2
      clear e1 hl9 k0 k1 k2 hf0 hf1 hmv hg hs2
      have i1 : (0 : Int) ≤ (k : Int) := by omega
      have i2 : (k : Int) < (ps.length : Int) := by omega
      have i3 := HPS.out
      rcases hmc with rfl | ⟨f2, rfl⟩
      all_goals
        go_wp2_with fail
        rw [PE.out]
        refine (PU.out _ _ (HG.out.trans ((Gr.refl wo).alloc _)) (HS.out.below ((Gr.refl wo).alloc _))).mono ?_
        rintro e w2 ⟨v2, rfl, s2, g2⟩
        rw [E1.out] at s2
        have S2 := Lib.hid s2
        have G2 := Lib.hid (HG.out.trans (((Gr.refl wo).alloc _).trans g2))
        clear s2 g2
        go_wp2
        go_roundw
        case rel => exact ⟨k + 1, by omega, by go_num, S2.out, G2.out⟩
        case measure => simp [intOf]; omega
    · obtain rfl : k = ps.length := by omega
      rw [List.take_of_length_le (Nat.le_refl _)] at hs2
      have S2 := Lib.hid hs2
      clear hs2
      go_wp2
      go_ret
      exact ⟨_, rfl, S2.out, hg⟩
/-- A part that is not allowed. -/
theorem bad_any (w : World) (b : Nat) (x : EntD) (p : PartK) (h : EntAt Any w b x) (ok : EntOk x) (big : EntBig x) :
    Calls Try.prog 10 #[.agg (partRow p).toArray, .pointer (some ⟨b, 0, none⟩)] w (RetBool w (!mayPart x p)) := by
  have MAY := fun f hf W hW => may_any p f hf W b x (h.gr hW) ok big
  have hc := mayF_cases p
  show Calls Try.prog 10 #[.agg #[.func (.func (putF p)) #[] #[], .func (.func (getF p)) #[] #[], mayF p], .pointer (some ⟨b, 0, none⟩)] w (RetBool w (!mayPart x p))
  obtain ⟨f0, hf0⟩ : ∃ f0, f0 = putF p := ⟨_, rfl⟩
  obtain ⟨f1, hf1⟩ : ∃ f1, f1 = getF p := ⟨_, rfl⟩
  obtain ⟨mv, hmv⟩ : ∃ mv, mv = mayF p := ⟨_, rfl⟩
  rw [← hf0, ← hf1, ← hmv]
  rw [← hmv] at MAY hc
  clear hf0 hf1 hmv ok big h
  rcases hc with ⟨rfl, ht⟩ | ⟨f2, rfl, hent⟩
  · clear MAY
    rw [ht x]
    have K := Lib.hid (RetBool.mk (w := w) (c := !true) rfl ((Gr.refl w).alloc (.cells #[.func (.func f0) #[] #[], .func (.func f1) #[] #[], .nilFunc] 57)))
    clear ht
    go_enter Try.func10, Try.ntmps10
    go_wp2_with fail
    rw [run_nil_nil]
    go_wp2
    go_ret
    exact K.out
  · have MM := Lib.hid (MAY f2 rfl)
    have HE := Lib.hid hent
    clear MAY hent
    go_enter Try.func10, Try.ntmps10
    go_wp2_with fail
    rw [run_neq_nil]
    go_wp2_with fail
    rw [HE.out]
    refine (MM.out _ ((Gr.refl w).alloc _)).mono ?_
    intro e w1 hb
    obtain ⟨rfl, g1⟩ := hb
    have G1 := Lib.hid (((Gr.refl w).alloc (.cells #[.func (.func f0) #[] #[], .func (.func f1) #[] #[], .func (.func f2) #[] #[]] 57)).trans g1)
    clear g1
    go_wp2
    go_ret
    exact RetBool.mk rfl G1.out
def IdxOf (x : EntD) (ps : List PartK) (w : World) (e : Ending) (w' : World) : Prop := ∃ z : Int, e = .returned (.int .i64 z) ∧ decide (0 ≤ z) = !(ps.all (mayPart x)) ∧ Gr w w'
theorem all_take_succ (f : PartK → Bool) (ps : List PartK) (k : Nat) (hk : k < ps.length) (h : (ps.take k).all f = true) : (ps.take (k + 1)).all f = f ps[k] := by
  rw [List.take_add_one, List.getElem?_eq_getElem hk, List.all_append, h]; simp
theorem all_not (f : PartK → Bool) (ps : List PartK) (k : Nat) (hk : k < ps.length) (h : f ps[k] = false) : ps.all f = false := by
  rw [List.all_eq_false]
  exact ⟨_, List.getElem_mem hk, by rw [h]; decide⟩
set_option maxHeartbeats 2000000 in
theorem index_any (w : World) (b : Nat) (x : EntD) (pv : Value) (ps : List PartK) (h : EntAt Any w b x) (ok : EntOk x) (big : EntBig x) (hp : PartsAt w pv ps) (hps : ps.length ≤ 4) :
    Calls Try.prog 57 #[pv, .func (.func 10) #[] #[.pointer (some ⟨b, 0, none⟩)]] w (IdxOf x ps w) := by
  obtain ⟨a, cap, rfl⟩ := hp.shape
  have HP := Lib.hid hp
  have HPS := Lib.hid hps
  have BAD : Hid (∀ p W, Gr w W → Calls Try.prog 10 #[.agg (partRow p).toArray, .pointer (some ⟨b, 0, none⟩)] W (RetBool W (!mayPart x p))) := Lib.hid fun p W hW => bad_any W b x p (h.gr hW) ok big
  clear hp ok big h hps
  go_enter Try.func57, Try.ntmps57
  go_wp2_with fail
  go_loopw [5, 8] (fun u i wr => ∃ k : Nat, k ≤ ps.length ∧ i = .int .i64 k ∧ (ps.take k).all (mayPart x) = true ∧ Gr w wr) (fun _ i _ => ps.length - (intOf i).toNat)
  case atStart => exact ⟨0, Nat.zero_le _, rfl, rfl, Gr.refl _⟩
  case round =>
    obtain ⟨k, hk, rfl, hall, hg⟩ := hrel
    obtain ⟨wo, rfl⟩ : ∃ wo : World, wo = wr := ⟨_, rfl⟩
    by_cases hlt : k < ps.length
    · obtain ⟨B, o, c, e0, hB, k0, k1, k2⟩ := HP.out.at k hlt
      injection e0 with e1 _ e3
      subst e1 e3
      have c0 := (hg.cell (p := ⟨B, o + k * 3, none⟩) hB).trans k0
      have c1 := (hg.cell (p := ⟨B, o + k * 3 + 1, none⟩) hB).trans k1
      have c2 := (hg.cell (p := ⟨B, o + k * 3 + 2, none⟩) hB).trans k2
      have E1 := Lib.hid (all_take_succ (mayPart x) ps k hlt hall)
      have E2 := Lib.hid (all_not (mayPart x) ps k hlt)
      have BA := BAD.out ps[k] wo hg
      have hsh : (partRow ps[k]).toArray = #[.func (.func (putF ps[k])) #[] #[], .func (.func (getF ps[k])) #[] #[], mayF ps[k]] := rfl
      rw [hsh] at BA
      obtain ⟨m, hm⟩ : ∃ m, m = mayPart x ps[k] := ⟨_, rfl⟩
      rw [← hm] at BA E1 E2
      obtain ⟨f0, hf0⟩ : ∃ f0, f0 = putF ps[k] := ⟨_, rfl⟩
      obtain ⟨f1, hf1⟩ : ∃ f1, f1 = getF ps[k] := ⟨_, rfl⟩
      obtain ⟨mv, hmv, hmc⟩ := mayF_word ps[k]
      rw [← hf0] at c0 BA
      rw [← hf1] at c1 BA
      rw [← hmv] at c2 BA
      have BB := Lib.hid BA
      have HG := Lib.hid hg
      clear BA hsh hm hf0 hf1 hmv hg hall k0 k1 k2
      have i1 : (0 : Int) ≤ (k : Int) := by omega
      have i2 : (k : Int) < (ps.length : Int) := by omega
      have i3 := HPS.out
      rcases hmc with rfl | ⟨f2, rfl⟩
      all_goals
        cases m
        · have EF := Lib.hid (E2.out rfl)
          clear E2
          go_wp2_with fail
          refine BB.out.mono ?_
          intro e w2 hb
          obtain ⟨rfl, g2⟩ := hb
          go_wp2
          go_ret
          exact ⟨_, rfl, by rw [EF.out]; simp, HG.out.trans g2⟩
        · go_wp2_with fail
          refine BB.out.mono ?_
          intro e w2 hb
          obtain ⟨rfl, g2⟩ := hb
          go_wp2
          go_roundw
          case rel => exact ⟨k + 1, by omega, by go_num, E1.out, HG.out.trans g2⟩
          case measure => simp [intOf]; omega
    · obtain rfl : k = ps.length := by omega
      rw [List.take_of_length_le (Nat.le_refl _)] at hall
      have HA := Lib.hid hall
      clear hall
      go_wp2
      go_ret
      exact ⟨_, rfl, by rw [HA.out]; rfl, hg⟩
theorem contains_any (w : World) (b : Nat) (x : EntD) (pv : Value) (ps : List PartK) (h : EntAt Any w b x) (ok : EntOk x) (big : EntBig x) (hp : PartsAt w pv ps) (hps : ps.length ≤ 4) :
    Calls Try.prog 9 #[pv, .func (.func 10) #[] #[.pointer (some ⟨b, 0, none⟩)]] w (RetBool w (!(ps.all (mayPart x)))) := by
  have C := Lib.hid (index_any w b x pv ps h ok big hp hps)
  obtain ⟨a, cap, rfl⟩ := hp.shape
  clear h ok big hp hps
  go_enter Try.func9, Try.ntmps9
  go_wp2_with fail
  refine C.out.mono ?_
  rintro e w1 ⟨z, rfl, hz, g1⟩
  have HZ := Lib.hid hz
  clear hz
  go_wp2
  go_ret
  exact RetBool.mk HZ.out g1
end Go.Proofs.Ytiemgmbjhllmbaa
