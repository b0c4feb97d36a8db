/-
  Package net: Cut, Heal, Drop, Take, Hold.
-/
import Derived.Test.YtcpkbngoecpnkaaNet5
import Derived.Test.YtcpkbngoecpnkaaNet6
set_option linter.unusedVariables false
namespace Go.Proofs.Ytcpkbngoecpnkaa
open Go.RowKit

/-- (*Net).Cut -/
theorem cut_any {w : World} {base N M n : Nat} {lv : Value} {ps : List (LetD × Value)} {sizes : List Int} {cut : AdD × AdD → Bool} (h : NetIs w base N M n lv ps sizes cut) (hn : n < 1000000) (a b : AdD) (ha : AdOk a) (hb : AdOk b) :
    Calls Try.prog 16 #[.pointer (some ⟨N, 0, Option.none⟩), adV a, adV b] w fun e w' => e = .returned (.int .i64 (turnE sizes a b)) ∧
      NetIs w' base N M (n + 1) lv ps sizes (if linkV sizes a b then setCut cut (keyV a b) true else cut) ∧ Ch (netB N M lv) w w' := by
  have ht : ∀ W, Gr w W → _ := fun W g => turn_any (h.gr g) hn a b ha hb true
  obtain ⟨z, hz⟩ : ∃ z, z = turnE sizes a b := ⟨_, rfl⟩
  rw [← hz] at ht ⊢
  obtain ⟨c2, hc2⟩ : ∃ c2, c2 = (if linkV sizes a b then setCut cut (keyV a b) true else cut) := ⟨_, rfl⟩
  rw [← hc2] at ht ⊢
  have HT := Lib.hid ht
  clear ht h hz hc2
  obtain ⟨a1, a2⟩ := a
  obtain ⟨b1, b2⟩ := b
  unfold adV
  go_enter Try.func16, Try.ntmps16
  go_wp2_with fail
  have g0 : Gr w ((w.alloc (.cells #[.int .i64 a1, .int .i64 a2] 33)).alloc (.cells #[.int .i64 b1, .int .i64 b2] 33)) := ((Gr.refl w).alloc _).alloc _
  refine (HT.out _ g0).mono ?_
  rintro e w1 ⟨rfl, h1, h2⟩
  have H1 := Lib.hid (And.intro h1 ((Ch.of_gr g0).transN h2 (fun j hj _ => hj)))
  clear h1 h2
  go_wp2_with fail
  go_ret
  exact ⟨rfl, H1.out⟩

/-- (*Net).Heal -/
theorem heal_any {w : World} {base N M n : Nat} {lv : Value} {ps : List (LetD × Value)} {sizes : List Int} {cut : AdD × AdD → Bool} (h : NetIs w base N M n lv ps sizes cut) (hn : n < 1000000) (a b : AdD) (ha : AdOk a) (hb : AdOk b) :
    Calls Try.prog 19 #[.pointer (some ⟨N, 0, Option.none⟩), adV a, adV b] w fun e w' => e = .returned (.int .i64 (turnE sizes a b)) ∧
      NetIs w' base N M (n + 1) lv ps sizes (if linkV sizes a b then setCut cut (keyV a b) false else cut) ∧ Ch (netB N M lv) w w' := by
  have ht : ∀ W, Gr w W → _ := fun W g => turn_any (h.gr g) hn a b ha hb false
  obtain ⟨z, hz⟩ : ∃ z, z = turnE sizes a b := ⟨_, rfl⟩
  rw [← hz] at ht ⊢
  obtain ⟨c2, hc2⟩ : ∃ c2, c2 = (if linkV sizes a b then setCut cut (keyV a b) false else cut) := ⟨_, rfl⟩
  rw [← hc2] at ht ⊢
  have HT := Lib.hid ht
  clear ht h hz hc2
  obtain ⟨a1, a2⟩ := a
  obtain ⟨b1, b2⟩ := b
  unfold adV
  go_enter Try.func19, Try.ntmps19
  go_wp2_with fail
  have g0 : Gr w ((w.alloc (.cells #[.int .i64 a1, .int .i64 a2] 33)).alloc (.cells #[.int .i64 b1, .int .i64 b2] 33)) := ((Gr.refl w).alloc _).alloc _
  refine (HT.out _ g0).mono ?_
  rintro e w1 ⟨rfl, h1, h2⟩
  have H1 := Lib.hid (And.intro h1 ((Ch.of_gr g0).transN h2 (fun j hj _ => hj)))
  clear h1 h2
  go_wp2_with fail
  go_ret
  exact ⟨rfl, H1.out⟩

theorem map_erase (ps : List (LetD × Value)) (k : Nat) : (ps.eraseIdx k).map Prod.fst = (ps.map Prod.fst).eraseIdx k := by rw [List.eraseIdx_eq_take_drop_succ, List.eraseIdx_eq_take_drop_succ, List.map_append, List.map_take, List.map_drop]
set_option maxHeartbeats 1000000 in
/-- (*Net).Drop -/
theorem drop_any {w : World} {base N M n : Nat} {lv : Value} {ps : List (LetD × Value)} {sizes : List Int} {cut : AdD × AdD → Bool} (h : NetIs w base N M n lv ps sizes cut) (i : Int) :
    Calls Try.prog 29 #[.pointer (some ⟨N, 0, Option.none⟩), .int .i64 i] w fun e w' => e = .returned (.int .i64 (mayV i ps.length)) ∧
      Did w base N M n lv sizes cut (if mayV i ps.length = 0 then (ps.map Prod.fst).eraseIdx i.toNat else ps.map Prod.fst) w' := by
  have hmay := may_any h i
  rcases mayV_or i ps.length with hm | hm
  · obtain ⟨k, rfl, hk⟩ := mayV_lt hm
    have ho := out_any h k hk
    rw [hm] at hmay ⊢
    rw [if_pos rfl, show (k : Int).toNat = k by omega, ← map_erase]
    have HMAY := Lib.hid hmay
    have HO := Lib.hid ho
    clear hmay ho hm h
    obtain ⟨lv0, hlv0⟩ : ∃ l, l = letV (ps[k]'hk).1 (ps[k]'hk).2 := ⟨_, rfl⟩
    rw [← hlv0] at HO
    clear hlv0
    go_enter Try.func29, Try.ntmps29
    go_wp2_with fail
    refine HMAY.out.mono ?_
    rintro e w1 ⟨rfl, hw1⟩
    rw [hw1]
    clear hw1 w1
    go_wp2_with fail
    refine HO.out.mono ?_
    rintro e w2 ⟨rfl, lv', h1, h2, h3⟩
    have H1 := Lib.hid (show Did w base N M n lv sizes cut ((ps.eraseIdx k).map Prod.fst) w2 from ⟨lv', _, h1, rfl, h2, h3⟩)
    clear h1 h2 h3
    go_wp2_with fail
    go_ret
    exact ⟨rfl, H1.out⟩
  · rw [hm] at hmay ⊢
    rw [if_neg (by decide)]
    have HD := Lib.hid (show Did w base N M n lv sizes cut (ps.map Prod.fst) w from ⟨lv, ps, h, rfl, Ch.refl _, fun j hj => .inl hj⟩)
    have HMAY := Lib.hid hmay
    clear hmay hm h
    go_enter Try.func29, Try.ntmps29
    go_wp2_with fail
    refine HMAY.out.mono ?_
    rintro e w1 ⟨rfl, hw1⟩
    rw [hw1]
    clear hw1 w1
    go_wp2_with fail
    go_ret
    exact ⟨rfl, HD.out⟩

def zl : LetD := ⟨(0, 0), (0, 0), []⟩
def takeV (sizes : List Int) (cut : AdD × AdD → Bool) (ls : List LetD) (i : Int) : LetD × Int × List LetD :=
  if mayV i ls.length = 0 then (if cutsV sizes cut (ls.getD i.toNat zl).src (ls.getD i.toNat zl).dst then (zl, 65, ls) else (ls.getD i.toNat zl, 0, ls.eraseIdx i.toNat)) else (zl, 1, ls)
set_option maxHeartbeats 2000000 in
/-- (*Net).Take -/
theorem take_any {w : World} {base N M n : Nat} {lv : Value} {ps : List (LetD × Value)} {sizes : List Int} {cut : AdD × AdD → Bool} (h : NetIs w base N M n lv ps sizes cut) (hok : ∀ p ∈ ps, LetOk p.1) (i : Int) :
    Calls Try.prog 12 #[.pointer (some ⟨N, 0, Option.none⟩), .int .i64 i] w fun e w' => ∃ bv, e = .returned (.tuple #[letV (takeV sizes cut (ps.map Prod.fst) i).1 bv, .int .i64 (takeV sizes cut (ps.map Prod.fst) i).2.1]) ∧
      Own w' base 5 bv (bytes (takeV sizes cut (ps.map Prod.fst) i).1.b) ∧ Did w base N M n lv sizes cut (takeV sizes cut (ps.map Prod.fst) i).2.2 w' := by
  have hmay : ∀ W, Gr w W → _ := fun W g => may_any (h.gr g) i
  have hsame : ∀ W, Gr w W → Did w base N M n lv sizes cut (ps.map Prod.fst) W := fun W g => ⟨lv, ps, h.gr g, rfl, Ch.of_gr g, fun j hj => .inl hj⟩
  have HS := Lib.hid hsame
  clear hsame
  rcases mayV_or i ps.length with hm | hm
  · obtain ⟨k, rfl, hk⟩ := mayV_lt hm
    obtain ⟨g, cap, rfl, _, hgl, q0, q1, q2, q3, q4, hown⟩ := h.lets.at k hk
    have ho : ∀ W, Gr w W → _ := fun W g => out_any (h.gr g) k hk
    have hcu : ∀ W, Gr w W → _ := fun W g => cuts_any (h.gr g) (ps[k]'hk).1.src (ps[k]'hk).1.dst (hok _ (List.getElem_mem hk)).1 (hok _ (List.getElem_mem hk)).2
    have hget : (ps.map Prod.fst).getD (k : Int).toNat zl = (ps[k]'hk).1 := by
      rw [show (k : Int).toNat = k by omega, List.getD_eq_getElem?_getD, List.getElem?_map, List.getElem?_eq_getElem hk]; rfl
    obtain ⟨R, hR⟩ : ∃ R, R = takeV sizes cut (ps.map Prod.fst) (k : Int) := ⟨_, rfl⟩
    rw [← hR]
    unfold takeV at hR
    rw [List.length_map, if_pos hm, hget, show (k : Int).toNat = k by omega, ← map_erase] at hR
    have hxp := List.getElem_mem hk
    obtain ⟨x, hx⟩ : ∃ x, x = ps[k]'hk := ⟨_, rfl⟩
    rw [← hx] at q0 q1 q2 q3 q4 hown ho hcu hR hxp
    obtain ⟨⟨⟨a1, a2⟩, ⟨b1, b2⟩, b⟩, bv⟩ := x
    simp only at q0 q1 q2 q3 q4 hown ho hcu hR
    obtain ⟨av, nv, cv, rfl⟩ := hown.sh
    obtain ⟨sv, hN, _⟩ := h.obj
    obtain ⟨ct, hct⟩ : ∃ c, c = cutsV sizes cut (a1, a2) (b1, b2) := ⟨_, rfl⟩
    rw [← hct] at hcu hR
    rw [hm] at hmay
    have HMAY := Lib.hid hmay
    have HO := Lib.hid ho
    have HCU := Lib.hid hcu
    have H := Lib.hid h
    have HOWN := Lib.hid hown
    have gz : Gr w (w.alloc (.cells #[.int .i64 0, .int .i64 0, .int .i64 0, .int .i64 0, .slice none 0 0] 35)) := (Gr.refl w).alloc _
    have hN2 := hN.gr gz
    obtain ⟨L, hL⟩ : ∃ L, L = ps.length := ⟨_, rfl⟩
    have hk1 : (k : Int) < (L : Int) := by omega
    rw [← hL] at hN2
    have y1 : (w.alloc (.cells #[.int .i64 0, .int .i64 0, .int .i64 0, .int .i64 0, .slice none 0 0] 35)).cell? ⟨N, 1, Option.none⟩ = some (.slice (some ⟨g, 0, Option.none⟩) L cap) := hN2.cell 1
    have hk0 : (0 : Int) ≤ (k : Int) := by omega
    replace q0 := gz.cellT q0
    replace q1 := gz.cellT q1
    replace q2 := gz.cellT q2
    replace q3 := gz.cellT q3
    replace q4 := gz.cellT q4
    have GZ := Lib.hid gz
    have hgl2 : g < w.heap.size + 1 := by omega
    clear hmay ho hcu h hown hN hN2 hx hget hct hm hL gz hok hxp
    unfold letV at HO
    go_enter Try.func12, Try.ntmps12
    go_wp2_with fail
    refine (HMAY.out _ GZ.out).mono ?_
    rintro e w1 ⟨rfl, hw1⟩
    rw [hw1]
    clear hw1 w1
    go_wp2_with fail
    obtain ⟨w0, hw0⟩ : ∃ w0, w0 = (w.alloc (.cells #[.int .i64 0, .int .i64 0, .int .i64 0, .int .i64 0, .slice none 0 0] 35)).alloc (.cells #[.int .i64 a1, .int .i64 a2, .int .i64 b1, .int .i64 b2, .slice av nv cv] 35) := ⟨_, rfl⟩
    have g0 : Gr w w0 := by rw [hw0]; exact ((Gr.refl w).alloc _).alloc _
    have cA : CellsAt w0 w.heap.size #[.int .i64 0, .int .i64 0, .int .i64 0, .int .i64 0, .slice none 0 0] 35 := by rw [hw0]; exact (CellsAt.new _ _ _).gr ((Gr.refl _).alloc _)
    rw [← hw0]
    clear hw0 y1 q0 q1 q2 q3 q4
    refine (HCU.out _ g0).mono ?_
    rintro e w1 ⟨rfl, g1⟩
    have G1 := Lib.hid (Gr.trans g0 g1)
    have CA := Lib.hid (cA.gr g1)
    clear g0 g1 cA
    have hA1 : w.heap.size < w1.heap.size := CA.out.lt
    cases ct with
    | true =>
      obtain rfl : R = (zl, 65, ps.map Prod.fst) := hR
      go_wp2_with (refine wpList_store_all 35 _ _ rfl rfl rfl rfl CA.out (by kernel_rfl) rfl (by simp; repeat' (first | rfl | constructor)) ?_; intro w5 f1 f2)
      (try simp only [Exit.inBlock, Exit.then])
      have gW : Gr w w5 := Below.trans G1.out (f2.below G1.out.size (fun k hk => by have e : k = w.heap.size := hk; omega))
      refine bodyPost_ret (v := .tuple #[.agg #[.int .i64 0, .int .i64 0, .int .i64 0, .int .i64 0, .slice none 0 0], .int .i64 65]) ?_ rfl ⟨.slice none 0 0, rfl, Own.nil0 _ _ _, HS.out _ gW⟩
      have m0 := f1.cell 0
      have m1 := f1.cell 1
      have m2 := f1.cell 2
      have m3 := f1.cell 3
      have m4 := f1.cell 4
      simp only [List.getElem?_toArray, List.getElem?_cons_zero, List.getElem?_cons_succ] at m0 m1 m2 m3 m4
      simp [results, Try.f12, go_sem, m0, m1, m2, m3, m4]
    | false =>
      obtain rfl : R = (⟨(a1, a2), (b1, b2), b⟩, 0, (ps.eraseIdx k).map Prod.fst) := hR
      go_wp2_with fail
      refine (HO.out w1 G1.out).mono ?_
      rintro e w2 ⟨rfl, lv', h1, h2, h3⟩
      have hnA : ¬ netB N M (.slice (some ⟨g, 0, Option.none⟩) ps.length cap) w.heap.size := fun e => by have := (H.out.ltB _ e).2; omega
      have hkb := (H.out.gr G1.out).kb h2
      have CA2 := Lib.hid (CA.out.ch h2 hnA)
      have O2 := Lib.hid ((HOWN.out.gr G1.out).kb (.inl rfl) hkb)
      have hnA2 : ∀ j, netB N M lv' j → j ≠ w.heap.size := fun j hj e => by
        subst e
        rcases hj with e | e | e
        · exact hnA (.inl e)
        · exact hnA (.inr (.inl e))
        · rcases h3 _ e with e | e
          · exact hnA (.inr (.inr e))
          · omega
      have hD : ∀ w5, Ch (fun j => j = w.heap.size) w2 w5 → Own w5 base 5 (.slice av nv cv) (bytes b) ∧ Did w base N M n (.slice (some ⟨g, 0, Option.none⟩) ps.length cap) sizes cut ((ps.eraseIdx k).map Prod.fst) w5 := fun w5 f2 => by
        have hk5 : Kb w2 w5 := Kb.ch f2 (fun j cs t fr hj hc => by
          have e : j = w.heap.size := hj
          subst e
          rw [cells_type hc CA2.out]
          exact ⟨by decide, by decide⟩)
        exact ⟨O2.out.kb (.inl rfl) hk5, lv', _, h1.keep hk5 (fun j hj => f2.block j (h1.ltB j hj).2 (hnA2 j hj)), rfl, ((Ch.of_gr G1.out).transN h2 (fun j hj _ => hj)).transN f2 (fun j hj hlt => by have e : j = w.heap.size := hj; omega),
          fun j hj => (h3 j hj).imp id (fun e => Nat.le_trans (Nat.le_of_lt hA1) e)⟩
      have HD := Lib.hid hD
      clear hD h1 h2 h3 hkb hnA hnA2
      go_wp2_with (refine wpList_store_all 35 _ _ rfl rfl rfl rfl CA2.out (by kernel_rfl) rfl (by simp; exact ⟨rfl, rfl, rfl, rfl, rfl⟩) ?_; intro w5 f1 f2)
      (try simp only [Exit.inBlock, Exit.then])
      refine bodyPost_ret (v := .tuple #[.agg #[.int .i64 a1, .int .i64 a2, .int .i64 b1, .int .i64 b2, .slice av nv cv], .int .i64 0]) ?_ rfl ⟨.slice av nv cv, rfl, HD.out w5 f2⟩
      have m0 := f1.cell 0
      have m1 := f1.cell 1
      have m2 := f1.cell 2
      have m3 := f1.cell 3
      have m4 := f1.cell 4
      simp only [List.getElem?_toArray, List.getElem?_cons_zero, List.getElem?_cons_succ] at m0 m1 m2 m3 m4
      simp [results, Try.f12, go_sem, m0, m1, m2, m3, m4]
  · have hR : takeV sizes cut (ps.map Prod.fst) i = (zl, 1, ps.map Prod.fst) := by unfold takeV; rw [List.length_map, if_neg (by rw [hm]; decide)]
    rw [hR]
    rw [hm] at hmay
    have HMAY := Lib.hid hmay
    clear hmay hm hR h hok
    have GZ : Hid (Gr w (w.alloc (.cells #[.int .i64 0, .int .i64 0, .int .i64 0, .int .i64 0, .slice none 0 0] 35))) := Lib.hid ((Gr.refl w).alloc _)
    go_enter Try.func12, Try.ntmps12
    go_wp2_with fail
    refine (HMAY.out _ GZ.out).mono ?_
    rintro e w1 ⟨rfl, hw1⟩
    rw [hw1]
    clear hw1 w1
    go_wp2_with fail
    (try simp only [Exit.inBlock, Exit.then])
    refine bodyPost_ret (v := .tuple #[.agg #[.int .i64 0, .int .i64 0, .int .i64 0, .int .i64 0, .slice none 0 0], .int .i64 1]) ?_ rfl ⟨.slice none 0 0, rfl, Own.nil0 _ _ _, HS.out _ GZ.out⟩
    simp [results, Try.f12, go_sem]
end Go.Proofs.Ytcpkbngoecpnkaa
