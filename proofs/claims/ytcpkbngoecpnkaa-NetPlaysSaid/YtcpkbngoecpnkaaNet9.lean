/-
  Package net: Letters, New.
-/
import Derived.Test.YtcpkbngoecpnkaaNet8
import Derived.Carry
set_option linter.unusedVariables false
namespace Go.Proofs.Ytcpkbngoecpnkaa
open Go.RowKit

set_option maxHeartbeats 2000000 in
set_option maxRecDepth 100000 in
/-- (*Net).Letters -/
theorem letters_any {w : World} {base N M n : Nat} {lv : Value} {ps : List (LetD × Value)} {sizes : List Int} {cut : AdD × AdD → Bool} (h : NetIs w base N M n lv ps sizes cut) (hlet : ∀ p ∈ ps, p.1.b.length ≤ 2097152) :
    Calls Try.prog 18 #[.pointer (some ⟨N, 0, Option.none⟩)] w fun e w' => ∃ v ps', e = .returned v ∧ LetsR w' w.heap.size v ps' ∧ ps'.map Prod.fst = ps.map Prod.fst ∧ Gr w w' := by
  obtain ⟨sv, hN, _⟩ := h.obj
  have hln := h.len
  obtain ⟨a, cap, rfl⟩ := h.lets.shape
  have H := Lib.hid h
  have HLET := Lib.hid hlet
  obtain ⟨L, hL⟩ : ∃ L, L = ps.length := ⟨_, rfl⟩
  rw [← hL] at hN hln
  have y1 := hN.cell 1
  have HL := Lib.hid hL
  clear hL h hlet hN
  go_enter Try.func18, Try.ntmps18
  go_wp2_with fail
  go_loopw [3, 13] (fun v i W => ∃ k : Nat, k ≤ L ∧ i = .int .i64 k ∧ ∃ qs, LetsR W w.heap.size v qs ∧ qs.map Prod.fst = (ps.map Prod.fst).take k ∧ Gr w W) (fun _ i _ => L - (intOf i).toNat)
  case atStart => exact ⟨0, Nat.zero_le _, rfl, [], LetsR.nil _ _, by simp, Gr.refl _⟩
  case round =>
    obtain ⟨k, hk, rfl, qs, hqs, hq1, hg⟩ := hrel
    clear y1
    by_cases hlt : k < L
    · have hkp : k < ps.length := by rw [← HL.out]; exact hlt
      obtain ⟨g, cap', hlv, _, hgl, q0, q1, q2, q3, q4, hown⟩ := (H.out.gr hg).lets.at k hkp
      injection hlv with e1 e2 e3
      subst e1
      obtain ⟨x, hx⟩ : ∃ x, x = ps[k]'hkp := ⟨_, rfl⟩
      have hxl : x.1.b.length ≤ 2097152 := by rw [hx]; exact HLET.out _ (List.getElem_mem hkp)
      have htk : (ps.map Prod.fst).take (k + 1) = (ps.map Prod.fst).take k ++ [x.1] := by
        rw [List.take_add_one, List.getElem?_map, List.getElem?_eq_getElem hkp, ← hx]; rfl
      rw [← hx] at q0 q1 q2 q3 q4 hown
      obtain ⟨⟨⟨a1, a2⟩, ⟨b1, b2⟩, b⟩, bv⟩ := x
      simp only at q0 q1 q2 q3 q4 hown hxl htk
      obtain ⟨av, nv, cv, rfl⟩ := hown.sh
      have hqk : qs.length = k := by
        have := congrArg List.length hq1
        rw [List.length_map, List.length_take, List.length_map] at this
        omega
      obtain ⟨a', c', ev⟩ := hqs.shape
      rw [hqk] at ev
      subst ev
      have HQS := Lib.hid hqs
      have HQ1 := Lib.hid hq1
      have HG := Lib.hid hg
      have HOWN := Lib.hid hown
      have HTK := Lib.hid htk
      have HQK := Lib.hid hqk
      have hk0 : (0 : Int) ≤ (k : Int) := by omega
      have hk1 : (k : Int) < (L : Int) := by omega
      have hgl2 : g < wr.heap.size := hgl
      clear hqs hq1 hg hown htk hx e2 e3 hgl hqk
      go_wp2_with fail
      obtain ⟨w1, hw1⟩ : ∃ w1, w1 = wr.alloc (.cells #[.int .i64 a1, .int .i64 a2, .int .i64 b1, .int .i64 b2, .slice av nv cv] 35) := ⟨_, rfl⟩
      have g1 : Gr wr w1 := by rw [hw1]; exact (Gr.refl wr).alloc _
      rw [← hw1]
      clear hw1 q0 q1 q2 q3 q4
      refine (own_any w1 ⟨(a1, a2), (b1, b2), b⟩ _ (HOWN.out.sl.below g1) (show b.length ≤ _ by omega)).mono ?_
      rintro e w2 ⟨bv', rfl, ho, g2⟩
      obtain ⟨a2', n2', c2', ev2⟩ := ho.sh
      subst ev2
      have hsw : w.heap.size ≤ wr.heap.size := HG.out.size
      have g3 : Gr wr (w2.alloc (.cells (rowP ((⟨(a1, a2), (b1, b2), b⟩ : LetD), Value.slice a2' n2' c2')).toArray 35)) := (Gr.trans g1 g2).alloc _
      obtain ⟨v4, w4, hr4, hl4, hg4, _, _⟩ := run_append_lets (w2.alloc (.cells (rowP ((⟨(a1, a2), (b1, b2), b⟩ : LetD), Value.slice a2' n2' c2')).toArray 35)) w.heap.size _ _ qs [((⟨(a1, a2), (b1, b2), b⟩ : LetD), Value.slice a2' n2' c2')] (HQS.out.gr g3) (rows_one (CellsAt.new w2 _ 35))
        (fun q hq => by rw [List.mem_singleton.1 hq]; exact (ho.mono (by have := g1.size; omega)).gr ((Gr.refl w2).alloc _)) (by have := HQK.out; simp; omega) (by have := g3.size; omega)
      have hb4 : Gr w w4 := (Gr.trans HG.out g3).grown hg4 (by have := g3.size; omega) (fun j hj => (HQS.out.lt j hj).1)
      have hr5 : (Builtin.append_ #[30, 30] 30 #[.slice a' k c', .slice (some ⟨w2.heap.size, 0, Option.none⟩) 1 1]).run Try.prog (w2.alloc (.cells #[.int .i64 a1, .int .i64 a2, .int .i64 b1, .int .i64 b2, .slice a2' n2' c2'] 35)) = .ok v4 w4 := hr4
      have HL4 := Lib.hid hl4
      have HB4 := Lib.hid hb4
      clear ho g1 g2 g3 hr4 hl4 hg4 hb4
      unfold letV
      go_wp2_with (at_builtin; refine wpList_run_append hr5 rfl _ _ rfl rfl rfl ?_)
      go_roundw
      case rel =>
        first
          | exact ⟨k + 1, by omega, by go_num, _, HL4.out, by rw [List.map_append, HQ1.out, HTK.out]; rfl, HB4.out⟩
          | ((repeat apply Exists.intro); apply And.intro; rotate_left; rfl; exact ⟨k + 1, by omega, by go_num, _, HL4.out, by rw [List.map_append, HQ1.out, HTK.out]; rfl, HB4.out⟩)
      case measure => (first | (simp [intOf]; omega) | (show _ < _; simp [intOf]; omega))
    · obtain rfl : k = L := by omega
      have hfin : qs.map Prod.fst = ps.map Prod.fst := by rw [hq1, HL.out]; exact List.take_of_length_le (by simp)
      have HFIN := Lib.hid (And.intro hqs (And.intro hfin hg))
      clear hqs hq1 hg hfin
      go_wp2_with fail
      go_ret
      exact ⟨_, qs, rfl, HFIN.out⟩

def badV (n : Int) : Bool := decide (n < 1) || decide (3 < n)
theorem bad_any (w : World) (n : Int) : Calls Try.prog 31 #[.int .i64 n] w fun e w' => e = .returned (.bool (badV n)) ∧ w' = w := by
  by_cases h1 : n < 1
  · rw [show badV n = true by simp [badV, h1]]
    go_enter Try.func31, Try.ntmps31
    go_wp2
    go_ret
    exact ⟨rfl, rfl⟩
  · by_cases h2 : 3 < n
    · rw [show badV n = true by simp [badV, h2]]
      go_enter Try.func31, Try.ntmps31
      go_wp2
      go_ret
      exact ⟨rfl, rfl⟩
    · rw [show badV n = false by simp [badV, h1, h2]]
      go_enter Try.func31, Try.ntmps31
      go_wp2
      go_ret
      exact ⟨rfl, rfl⟩
def fV : Value := .func (.func 31) #[] #[]
set_option maxHeartbeats 2000000 in
theorem index_any (w : World) (v : Value) (sizes : List Int) (hs : Sl w v (ints sizes)) (hl4 : sizes.length ≤ 4) : Calls Try.prog 40 #[v, fV] w fun e w' => ∃ r, e = .returned (.int .i64 r) ∧ decide (0 ≤ r) = sizes.any badV ∧ w' = w := by
  obtain ⟨a, c, rfl, hc, hcell⟩ := hs
  have hlen : (ints sizes).length = sizes.length := by unfold ints; rw [List.length_map]
  rw [hlen] at hc
  rw [hlen]
  obtain ⟨L, hL⟩ : ∃ L, L = sizes.length := ⟨_, rfl⟩
  rw [← hL] at hc hl4 hlen ⊢
  have HL := Lib.hid (And.intro hL hlen)
  have HC := Lib.hid hcell
  clear hcell hL hlen
  unfold fV
  go_enter Try.func40, Try.ntmps40
  go_wp2_with fail
  go_loopw [5, 8] (fun _ i W => ∃ k : Nat, k ≤ L ∧ i = .int .i64 k ∧ (sizes.take k).any badV = false ∧ W = w) (fun _ i _ => L - (intOf i).toNat)
  case atStart => exact ⟨0, Nat.zero_le _, rfl, by simp, rfl⟩
  case round =>
    obtain ⟨k, hk, rfl, hno, hw⟩ := hrel
    subst hw
    by_cases hlt : k < L
    · have hkp : k < sizes.length := by rw [← HL.out.1]; exact hlt
      obtain ⟨b, off, rfl, hb, hcell⟩ := HC.out.resolve_left (by intro h; have := congrArg List.length h; rw [HL.out.2] at this; simp only [List.length_nil] at this; omega)
      obtain ⟨x, hx⟩ : ∃ x, x = sizes[k]'hkp := ⟨_, rfl⟩
      have hcx : wr.cell? ⟨b, off + k, Option.none⟩ = some (.int .i64 x) := by
        rw [hcell k (by rw [HL.out.2]; exact hlt), hx]; simp [ints]
      have htk : (sizes.take (k + 1)).any badV = badV x := by
        rw [List.take_add_one, List.getElem?_eq_getElem hkp, ← hx, List.any_append, hno]; simp
      have hall : badV x = true → sizes.any badV = true := fun h => List.any_eq_true.2 ⟨x, by rw [hx]; exact List.getElem_mem hkp, h⟩
      have HTK := Lib.hid (And.intro htk hall)
      have hk0 : (0 : Int) ≤ (k : Int) := by omega
      have hk1 : (k : Int) < (L : Int) := by omega
      clear hcell hno htk hall hx
      go_wp2_with fail
      refine (bad_any wr x).mono ?_
      rintro e w1 ⟨rfl, hw1⟩
      rw [hw1]
      clear hw1 w1
      cases hbad : badV x with
      | true =>
        have HR := Lib.hid (HTK.out.2 hbad)
        clear hbad
        go_wp2_with fail
        go_ret
        exact ⟨k, rfl, by rw [HR.out]; simp, rfl⟩
      | false =>
        have HR := Lib.hid (HTK.out.1.trans hbad)
        clear hbad
        go_wp2_with fail
        go_roundw
        case rel =>
          first
            | exact ⟨k + 1, by omega, by go_num, HR.out, (by first | trivial | rfl)⟩
            | ((repeat apply Exists.intro); apply And.intro; rotate_left; rfl; exact ⟨k + 1, by omega, by go_num, HR.out, (by first | trivial | rfl)⟩)
        case measure => (first | (simp [intOf]; omega) | (show _ < _; simp [intOf]; omega))
    · obtain rfl : k = L := by omega
      have hfin : sizes.any badV = false := by rw [HL.out.1, List.take_length] at hno; exact hno
      have HFIN := Lib.hid hfin
      clear hno hfin
      go_wp2_with fail
      go_ret
      exact ⟨-1, rfl, by rw [HFIN.out]; rfl, rfl⟩
theorem contains_any (w : World) (v : Value) (sizes : List Int) (hs : Sl w v (ints sizes)) (hl4 : sizes.length ≤ 4) : Calls Try.prog 30 #[v, fV] w fun e w' => e = .returned (.bool (sizes.any badV)) ∧ w' = w := by
  have hi := index_any w v sizes hs hl4
  have HI := Lib.hid hi
  unfold fV at HI
  clear hi
  obtain ⟨r, hr⟩ : ∃ r, r = sizes.any badV := ⟨_, rfl⟩
  rw [← hr] at HI ⊢
  clear hr hs
  unfold fV
  go_enter Try.func30, Try.ntmps30
  go_wp2_with fail
  refine HI.out.mono ?_
  rintro e w1 ⟨z, rfl, hz, hw1⟩
  rw [hw1]
  clear hw1 w1
  subst hz
  go_wp2_with fail
  go_ret
  exact ⟨rfl, rfl⟩
theorem info_int : (Try.prog.info? 3).map (fun i => (i.zero, i.size, i.bytes)) = some (some (.int .i64 0), 1, 8) := by kernel_rfl
theorem ints_length (l : List Int) : (ints l).length = l.length := by unfold ints; rw [List.length_map]
theorem one_ints (l : List Int) : ∀ u ∈ ints l, u.oneCell' = true := by
  intro u hu
  obtain ⟨z, _, rfl⟩ := List.mem_map.1 hu
  rfl
theorem run_append_ints (w : World) (base : Nat) (v y : Value) (l m : List Int) (hown : Own w base 3 v (ints l)) (hy : Sl w y (ints m)) (hl : l.length + m.length ≤ 1000000) (hbase : base ≤ w.heap.size) :
    ∃ v' w', (Builtin.append_ #[29, 29] 29 #[v, y]).run Try.prog w = .ok v' w' ∧ Own w' base 3 v' (ints (l ++ m)) ∧ w.grownBy w' v.ownBlock := by
  obtain ⟨i0, hi0, hz0, hz1, hz2⟩ := info_parts info_int
  rw [show ints (l ++ m) = ints l ++ ints m from List.map_append]
  exact run_append_sl w base 29 29 3 i0 _ 8 Try.underlying29 hi0 hz0 hz1 hz2 rfl v y (ints l) (ints m) hown hy (one_ints m) (by rw [ints_length, ints_length]; unfold maxLen; omega) (by rw [ints_length, ints_length]; omega) hbase
set_option maxHeartbeats 400000 in
theorem clone_ints (v : Value) (l : List Int) (w : World) (hs : Sl w v (ints l)) (hl : l.length ≤ 100) :
    Calls Try.prog 32 #[v] w fun e w' => ∃ v', e = .returned v' ∧ Own w' w.heap.size 3 v' (ints l) ∧ Gr w w' := by
  have hs' := hs
  obtain ⟨a, cap, rfl, hcap, hc⟩ := hs
  rw [ints_length] at *
  cases a with
  | none =>
    have hn : l = [] := by
      rcases hc with h | ⟨b, off, h, _⟩
      · exact List.map_eq_nil_iff.1 h
      · cases h
    subst hn
    have hnil := Lib.run_eql_slice_nil (P := Try.prog) w 29 3 none 0 cap 0 0 Try.underlying29
    go_enter Try.func32, Try.ntmps32
    go_wp2
    go_ret
    exact ⟨_, rfl, Own.nil0 _ _ _, Below.refl _ _⟩
  | some ad =>
    obtain ⟨v1, w1, hr, hown, hg⟩ := run_append_ints (w.alloc (.cells #[] 3)) w.heap.size (.slice (some ⟨w.heap.size, 0, none⟩) 0 0) (.slice (some ad) l.length cap) [] l (Own.nil_lit w 3 (Nat.le_refl _)) (hs'.below ((Below.refl _ _).alloc (Nat.le_refl _) _)) (by simp; omega) (by simp)
    have hnil := Lib.run_eql_slice_nil (P := Try.prog) w 29 3 (some ad) l.length cap 0 0 Try.underlying29
    have hb : Below w.heap.size w w1 := ((Below.refl _ _).alloc (Nat.le_refl _) _).grown hg (by simp) (by intro k hk; simp [Value.ownBlock] at hk; omega)
    go_enter Try.func32, Try.ntmps32
    go_wp2_with (at_builtin; refine wpList_run_append hr rfl _ _ rfl rfl rfl ?_)
    go_ret
    exact ⟨_, rfl, hown, hb⟩
def newOk (sizes : List Int) : Bool := !(decide (sizes.length < 1) || decide (4 < sizes.length) || sizes.any badV)
/-- What New hands back. -/
def NewPost (w : World) (sizes : List Int) (e : Ending) (w' : World) : Prop :=
  if newOk sizes then ∃ N M, e = .returned (.tuple #[.pointer (some ⟨N, 0, Option.none⟩), .int .i64 0]) ∧ NetIs w' w.heap.size N M 0 (.slice Option.none 0 0) [] sizes (fun _ => false) ∧ Gr w w'
  else e = .returned (.tuple #[.pointer Option.none, .int .i64 1]) ∧ Gr w w'
set_option maxHeartbeats 2000000 in
/-- New -/
theorem new_any (w : World) (v : Value) (sizes : List Int) (hs : Sl w v (ints sizes)) : Calls Try.prog 9 #[v] w (NewPost w sizes) := by
  have HS := Lib.hid hs
  obtain ⟨a, c, rfl, hc, hcell⟩ := hs
  rw [ints_length] at hc HS ⊢
  obtain ⟨L, hL⟩ : ∃ L, L = sizes.length := ⟨_, rfl⟩
  rw [← hL] at hc HS ⊢
  clear hcell
  by_cases h1 : L < 1
  · have hno : newOk sizes = false := by unfold newOk; rw [← hL]; simp [h1]
    have HP : Hid (∀ e w', NewPost w sizes e w' = (e = .returned (.tuple #[.pointer Option.none, .int .i64 1]) ∧ Gr w w')) := Lib.hid fun e w' => by unfold NewPost; rw [hno]; rfl
    clear hno hL HS
    go_enter Try.func9, Try.ntmps9
    go_wp2_with fail
    go_ret2
    rw [HP.out]
    exact ⟨rfl, Gr.refl _⟩
  · by_cases h4 : 4 < L
    · have hno : newOk sizes = false := by unfold newOk; rw [← hL]; simp [h4]
      have HP : Hid (∀ e w', NewPost w sizes e w' = (e = .returned (.tuple #[.pointer Option.none, .int .i64 1]) ∧ Gr w w')) := Lib.hid fun e w' => by unfold NewPost; rw [hno]; rfl
      clear hno hL HS
      go_enter Try.func9, Try.ntmps9
      go_wp2_with fail
      go_ret2
      rw [HP.out]
      exact ⟨rfl, Gr.refl _⟩
    · have hcon := contains_any w _ sizes HS.out (by omega)
      have HCON := Lib.hid hcon
      unfold fV at HCON
      cases hany : sizes.any badV with
      | true =>
        have hno : newOk sizes = false := by unfold newOk; rw [hany]; simp
        have HP : Hid (∀ e w', NewPost w sizes e w' = (e = .returned (.tuple #[.pointer Option.none, .int .i64 1]) ∧ Gr w w')) := Lib.hid fun e w' => by unfold NewPost; rw [hno]; rfl
        rw [hany] at HCON
        clear hno hL HS hany hcon
        go_enter Try.func9, Try.ntmps9
        go_wp2_with fail
        refine HCON.out.mono ?_
        rintro e w1 ⟨rfl, hw1⟩
        rw [hw1]
        clear hw1 w1
        go_wp2_with fail
        go_ret2
        rw [HP.out]
        exact ⟨rfl, Gr.refl _⟩
      | false =>
        have hno : newOk sizes = true := by unfold newOk; rw [hany, ← hL]; simp; omega
        have hl4 : sizes.length ≤ 4 := by omega
        have HP : Hid (∀ e w', (∃ N M, e = .returned (.tuple #[.pointer (some ⟨N, 0, Option.none⟩), .int .i64 0]) ∧ NetIs w' w.heap.size N M 0 (.slice Option.none 0 0) [] sizes (fun _ => false) ∧ Gr w w') → NewPost w sizes e w') := Lib.hid fun e w' h => by unfold NewPost; rw [hno]; exact h
        have hcl := clone_ints _ sizes w HS.out (by omega)
        have HCL := Lib.hid hcl
        have HL4 := Lib.hid hl4
        rw [hany] at HCON
        have hmm := @run_makeMap Try.prog
        clear hno hL HS hany hcon hcl hl4
        go_enter Try.func9, Try.ntmps9
        go_wp2_with fail
        refine HCON.out.mono ?_
        rintro e w1 ⟨rfl, hw1⟩
        rw [hw1]
        clear hw1 w1
        go_wp2_with fail
        refine HCL.out.mono ?_
        rintro e w2 ⟨v2, rfl, ho, hg⟩
        obtain ⟨a2, n2, c2, e2⟩ := ho.sh
        subst e2
        have HO := Lib.hid ho
        have HG := Lib.hid hg
        clear ho hg
        go_wp2_with fail
        go_ret2
        refine HP.out _ _ ⟨w2.heap.size + 1, w2.heap.size, rfl, ?_, (HG.out.alloc _).alloc _⟩
        have hgs := HG.out.size
        have g2 : Gr w2 ((w2.alloc (.map #[] 0)).alloc (.cells #[.slice a2 n2 c2, .slice Option.none 0 0, .map (some w2.heap.size)] 68)) := ((Gr.refl w2).alloc _).alloc _
        exact ⟨⟨_, CellsAt.newAt (w2.alloc (.map #[] 0)) _ _ (by simp), HO.out.gr g2⟩, LetsR.nil _ _, ⟨_, (MapIs.made w2 70 4 (.bool false)).below ((Gr.refl _).alloc _), fun p _ => rfl⟩, by omega, hgs, HL4.out, by simp⟩
end Go.Proofs.Ytcpkbngoecpnkaa
