/-
  NetOrder: letters that are taken from the front, one by one, come in the order in which they were sent; held ones behind all others. Every input; no conditions.
-/
import Derived.Test.YtcpkbngoecpnkaaNetOrd
import Derived.SizedLaws
set_option linter.unusedVariables false
namespace Go.Proofs.Ytcpkbngoecpnkaa
open Go.RowKit

theorem greatV_no {xs : List ActD} (h : greatV xs = false) : xs.length ≤ 60 ∧ ∀ x ∈ xs, x.l.b.length ≤ 200 := by
  unfold greatV at h
  simp only [Bool.or_eq_false_iff, decide_eq_false_iff_not, List.any_eq_false, decide_eq_true_eq] at h
  exact ⟨by omega, fun x hx => by have := h.2 x hx; omega⟩
def RowL (ls : List LetD) : Sp := fun r W => ∃ a c, r = .slice (some ⟨a, 0, Option.none⟩) ls.length c ∧ Lets W r ls
theorem RowL.mono (ls : List LetD) : MonoSp (RowL ls) := fun _ _ _ g ⟨a, c, e, h⟩ => ⟨a, c, e, h.gr g⟩
def Small (l : LetD) : Prop := LetOk l ∧ l.b.length ≤ 200
theorem mem_turned {ls : List LetD} {k : Nat} (hk : k < ls.length) {x : LetD} (h : x ∈ ls.eraseIdx k ++ [ls[k]]) : x ∈ ls := by
  rcases List.mem_append.1 h with h | h
  · exact List.mem_of_mem_eraseIdx h
  · rw [List.mem_singleton.1 h]; exact List.getElem_mem hk
theorem len_turned {ls : List LetD} {k : Nat} (hk : k < ls.length) : (ls.eraseIdx k ++ [ls[k]]).length = ls.length := by
  simp [List.length_eraseIdx, hk]; omega
theorem Ord.at {w W : World} {N M : Nat} {v : Value} {ls ms : List LetD} (h : Ord w W N M v ls ms) (k : Nat) (hk : k < ms.length) : ∃ g cap bv, v = .slice (some ⟨g, 0, none⟩) ms.length cap ∧ g < W.heap.size ∧ ms.length ≤ cap ∧
    W.cell? ⟨g, k * 5, none⟩ = some (.int .i64 (ms[k]'hk).src.1) ∧ W.cell? ⟨g, k * 5 + 1, none⟩ = some (.int .i64 (ms[k]'hk).src.2) ∧ W.cell? ⟨g, k * 5 + 2, none⟩ = some (.int .i64 (ms[k]'hk).dst.1) ∧ W.cell? ⟨g, k * 5 + 3, none⟩ = some (.int .i64 (ms[k]'hk).dst.2) ∧ W.cell? ⟨g, k * 5 + 4, none⟩ = some bv ∧
    Sl w bv (bytes (ms[k]'hk).b) := by
  obtain ⟨lv, ps, qs, h1, h2, h3, rfl, h5⟩ := h
  have hk' : k < qs.length := by simpa using hk
  obtain ⟨g, cap, e, q1, q2, p0, p1, p2, p3, p4, q3⟩ := h2.at k hk'
  have hm : (qs.map Prod.fst)[k] = (qs[k]'hk').1 := by simp
  rw [hm, List.length_map]
  exact ⟨g, cap, _, e, q1, q2, p0, p1, p2, p3, p4, q3⟩
set_option maxHeartbeats 0 in
set_option maxRecDepth 100000 in
theorem order_walk (w : World) (v0 v1 : Value) (xs : List ActD) (hs : List UInt8) (hA : Acts w v0 xs) (hm : xs.length ≤ maxLen) (hB : Sl w v1 (bytes hs)) (hbl : hs.length ≤ maxLen) :
    Calls Try.prog 3 #[v0, v1] w fun e w' => e = .returned (.bool true) ∧ Below w.heap.size w w' := by
  obtain ⟨a0, c0, rfl⟩ := hA.shape
  obtain ⟨a1, c1, rfl, _⟩ := hB.bytes
  have hgt := great_any w _ xs hA hm
  obtain ⟨gv, hgv⟩ : ∃ gv, gv = greatV xs := ⟨_, rfl⟩
  rw [← hgv] at hgt
  have HGV := Lib.hid hgv
  have HA := Lib.hid hA
  have HB := Lib.hid hB
  obtain ⟨n, hn⟩ : ∃ n, n = xs.length := ⟨_, rfl⟩
  obtain ⟨m, hmm⟩ : ∃ m, m = hs.length := ⟨_, rfl⟩
  rw [← hn] at hgt hm ⊢
  rw [← hmm] at hbl ⊢
  have HN := Lib.hid hn
  have HM := Lib.hid hmm
  unfold maxLen at hm hbl
  clear hgv hA hB hn hmm
  go_enter Try.func3, Try.ntmps3
  go_wp2_with fail
  refine hgt.mono ?_
  rintro e w1 ⟨rfl, hw1⟩
  subst w1
  clear hgt
  cases gv with
  | true =>
    go_wp2
    go_ret
    exact ⟨rfl, Below.refl _ _⟩
  | false =>
  by_cases h40 : 40 < m
  · go_wp2
    go_ret
    exact ⟨rfl, Below.refl _ _⟩
  have HGR := Lib.hid (greatV_no HGV.out.symm)
  have hn60 : n ≤ 60 := by rw [HN.out]; exact HGR.out.1
  obtain ⟨w0, hw0⟩ : ∃ w0, w0 = w.alloc (.cells #[.int .i64 2, .int .i64 3, .int .i64 1] 3) := ⟨_, rfl⟩
  have g0 : Gr w w0 := by rw [hw0]; exact (Gr.refl w).alloc _
  have hs0 : Sl w0 (.slice (some ⟨w.heap.size, 0, none⟩) 3 3) (ints [2, 3, 1]) := by rw [hw0]; exact Sl.new w (ints [2, 3, 1]) 3 (0, 0) 3 3 rfl (Nat.le_refl _)
  go_wp2_with fail
  rw [← hw0]
  refine (new_any w0 _ [2, 3, 1] hs0).mono ?_
  rintro e w2 hp
  obtain ⟨N, M, rfl, h1, g1⟩ := newPost_ok (by rfl) hp
  have hB1 : Gr w w2 := Gr.trans g0 g1
  have hO : Ord w w2 N M (.slice Option.none 0 0) [] [] := ⟨_, [], [], h1.monoB g0.size, WantR.nil hB1, rfl, rfl, fun j hj => by cases hj⟩
  have HO := Lib.hid hO
  clear hw0 g0 hs0 hp h1 g1 hB1 hO
  go_wp2
  go_loopw [7, 8] (fun v i W => ∃ (k : Nat) (ls : List LetD), k ≤ n ∧ i = .int .i64 k ∧ Ord w W N M v ls ls ∧ ls.length ≤ k ∧ ∀ l ∈ ls, Small l) (fun _ i _ => n - (intOf i).toNat)
  case atStart => exact ⟨0, [], Nat.zero_le _, rfl, HO.out, Nat.le_refl _, fun l h => by cases h⟩
  case round =>
    obtain ⟨k, ls, hk, rfl, hO, hll, hsm⟩ := hrel
    obtain ⟨av, cv, rfl⟩ := hO.shape
    have HO := Lib.hid hO
    have HSM := Lib.hid hsm
    clear hO hsm
    by_cases hlt : k < n
    · skip
      obtain ⟨B, o, bv, rfl, hBl, hbv, q0, q1, q2, q3, q4, q5, q6, hsl, hok⟩ := HA.out.at k (by rw [← HN.out]; exact hlt)
      have hx2 : (xs[k]'(by rw [← HN.out]; exact hlt)).l.b.length ≤ 200 := HGR.out.2 _ (List.getElem_mem _)
      obtain ⟨x, hx⟩ : ∃ x, x = xs[k]'(by rw [← HN.out]; exact hlt) := ⟨_, rfl⟩
      rw [← hx] at q2 q3 q4 q5 hsl hok hx2 hbv
      clear hx q0 q1
      obtain ⟨op, ix, ⟨⟨x1, x2⟩, ⟨x3, x4⟩, b⟩⟩ := x
      simp only at q2 q3 q4 q5 hsl hok hx2 hbv
      obtain ⟨ab, cb, rfl, _⟩ := hsl.bytes
      have HS : Hid (∀ W, Gr w W → Sl W (.slice ab b.length cb) (bytes b)) := Lib.hid fun W hW => hsl.below hW
      have HBV := Lib.hid hbv
      have HX : Hid (Small ⟨(x1, x2), (x3, x4), b⟩) := Lib.hid ⟨hok.2.2.2, hx2⟩
      have T : Hid (∀ W, Gr w W → W.cell? ⟨B, o + k * 7 + 2, Option.none⟩ = some (.int .i64 x1) ∧ W.cell? ⟨B, o + k * 7 + 3, Option.none⟩ = some (.int .i64 x2) ∧ W.cell? ⟨B, o + k * 7 + 4, Option.none⟩ = some (.int .i64 x3) ∧ W.cell? ⟨B, o + k * 7 + 5, Option.none⟩ = some (.int .i64 x4) ∧ W.cell? ⟨B, o + k * 7 + 6, Option.none⟩ = some (.slice ab b.length cb)) :=
        Lib.hid fun W g => ⟨g.cellT q2, g.cellT q3, g.cellT q4, g.cellT q5, g.cellT q6⟩
      clear q2 q3 q4 q5 q6 hsl hok hbv hx2
      have hk0 : (0 : Int) ≤ (k : Int) := by omega
      have hk1 : (k : Int) < (n : Int) := by omega
      obtain ⟨t2, t3, t4, t5, t6⟩ := T.out _ HO.out.below
      go_wp2_with fail
      clear t2 t3 t4 t5 t6
      refine (ord_send HO.out (⟨(x1, x2), (x3, x4), b⟩ : LetD) _ (HS.out _ HO.out.below) (Nat.le_trans HX.out.2 (by decide)) HBV.out).mono ?_
      rintro e w3 ⟨rfl, hO3⟩
      obtain ⟨z, hz⟩ : ∃ z, z = sendE [2, 3, 1] ls.length (⟨(x1, x2), (x3, x4), b⟩ : LetD) := ⟨_, rfl⟩
      rw [← hz] at hO3 ⊢
      clear hz
      by_cases hz0 : z = 0
      · subst hz0
        rw [if_pos rfl] at hO3
        have H3 := Lib.hid hO3
        clear hO3
        obtain ⟨t2, t3, t4, t5, t6⟩ := T.out _ H3.out.below
        go_upto_region 11 with fail
        obtain ⟨w4, hw4⟩ : ∃ w4, w4 = w3.alloc (.cells #[.int .i64 x1, .int .i64 x2, .int .i64 x3, .int .i64 x4, .slice ab b.length cb] 35) := ⟨_, rfl⟩
        have hc4 : CellsAt w4 w3.heap.size #[.int .i64 x1, .int .i64 x2, .int .i64 x3, .int .i64 x4, .slice ab b.length cb] 35 := by rw [hw4]; exact CellsAt.new _ _ _
        have g4 : Gr w3 w4 := by rw [hw4]; exact (Gr.refl _).alloc _
        obtain ⟨v5, w5, hr5, h5⟩ := ord_push (H3.out.go g4) (⟨(x1, x2), (x3, x4), b⟩ : LetD) (.slice ab b.length cb) w3.heap.size hc4 (HS.out _ (Gr.refl _)) (by omega)
        rw [hw4] at hr5
        have H5 := Lib.hid h5
        obtain ⟨a5, c5, e5⟩ := h5.shape
        rw [List.length_append, List.length_singleton] at e5
        subst e5
        clear h5 hw4 hc4 g4
        have HR5 := Lib.hid hr5
        clear hr5
        go_wp2_with (first | (at_builtin; refine wpList_run_append HR5.out rfl _ _ rfl rfl rfl ?_; clear HR5) | fail)
        go_roundw
        case rel => exact ⟨k + 1, _, by omega, by go_num, H5.out, by simp; omega, fun l hl => (List.mem_append.1 hl).elim (HSM.out l) (fun h => by rw [List.mem_singleton.1 h]; exact HX.out)⟩
        case measure => simp [intOf]; omega
      · rw [if_neg hz0] at hO3
        have H3 := Lib.hid hO3
        clear hO3
        go_wp2
        go_roundw
        case rel => exact ⟨k + 1, ls, by omega, by go_num, H3.out, by omega, HSM.out⟩
        case measure => simp [intOf]; omega
    · obtain rfl : k = n := by omega
      go_wp2
      have HO2 := Lib.hid HO.out
      clear HO
      have hlen : Hid (ls.length ≤ 60) := Lib.hid (by omega)
      clear hll hk hlt
      go_loopw [7, 9, 10, 11] (fun v i s10 s11 W => ∃ (q : Nat) (ls : List LetD), q ≤ m ∧ i = .int .i64 q ∧ Ord w W N M v ls ls ∧ ls.length ≤ 60 ∧ ∀ l ∈ ls, Small l) (fun _ i _ _ _ => m - (intOf i).toNat)
      case atStart => exact ⟨0, ls, Nat.zero_le _, rfl, HO2.out, hlen.out, HSM.out⟩
      case round =>
        clear HO2 hlen HSM
        obtain ⟨q, ls, hk, rfl, hO, hll, hsm⟩ := hrel
        obtain ⟨av, cv, rfl⟩ := hO.shape
        have HO := Lib.hid hO
        have HSM := Lib.hid hsm
        clear hO hsm
        by_cases hlt : q < m
        · by_cases hl0 : 0 < ls.length
          · skip
            obtain ⟨a', cap', e', _, hx⟩ := HB.out.bytes
            injection e' with e1 e2 e3
            subst e1 e3
            obtain ⟨Bh, oh, rfl, hBh, hch⟩ := hx.resolve_left (by intro e; have : hs.length = 0 := by rw [e]; rfl
                                                                  have := HM.out; omega)
            have hq := hch q (by have := HM.out; omega)
            obtain ⟨d, hd⟩ : ∃ d, d = (hs[q]'(by have := HM.out; omega)).toNat := ⟨_, rfl⟩
            have hd256 : d < 256 := by rw [hd]; exact UInt8.toNat_lt _
            rw [← hd] at hq
            replace hq := HO.out.below.cellT hq
            clear hd hch hx e2
            obtain ⟨L, hL⟩ : ∃ L, L = ls.length := ⟨_, rfl⟩
            rw [← hL] at hl0 hll ⊢
            have HL := Lib.hid hL
            clear hL
            have hq0 : (0 : Int) ≤ (q : Int) := by omega
            have hq1 : (q : Int) < (m : Int) := by omega
            have hL0 : ¬ (L : Int) = 0 := by omega
            have hmod : ((d : Int) % (L : Int)) = ((d % L : Nat) : Int) := (Int.natCast_emod ..).symm
            have hKl : d % L < L := Nat.mod_lt _ (by omega)
            obtain ⟨K, hK⟩ : ∃ K, K = d % L := ⟨_, rfl⟩
            rw [← hK] at hmod hKl
            have HMOD := Lib.hid hmod
            clear hmod hK
            go_upto_region 16 with fail
            rw [HMOD.out]
            clear hq HMOD
            go_wp2_with fail
            refine (ord_hold HO.out K (by rw [← HL.out]; exact hKl)).mono ?_
            rintro e w3 ⟨rfl, hO3⟩
            obtain ⟨x, hx⟩ : ∃ x, x = ls[K]'(by rw [← HL.out]; exact hKl) := ⟨_, rfl⟩
            rw [← hx] at hO3
            obtain ⟨g, cap, bx, e9, hgl, hcap, p0, p1, p2, p3, p4, hsx⟩ := hO3.at K (by rw [← HL.out]; exact hKl)
            rw [← hx] at p0 p1 p2 p3 hsx
            injection e9 with e1 e2 e3
            subst e1 e3
            have HX := Lib.hid hx
            clear hx e2
            obtain ⟨⟨x1, x2⟩, ⟨x3, x4⟩, b⟩ := x
            simp only at p0 p1 p2 p3 hsx
            obtain ⟨ab, cb, rfl, _⟩ := hsx.bytes
            have HS : Hid (∀ W, Gr w W → Sl W (.slice ab b.length cb) (bytes b)) := Lib.hid fun W hW => hsx.below hW
            have H3 := Lib.hid hO3
            rw [← HL.out] at hcap
            clear hsx hO3 HO
            have hk0 : (0 : Int) ≤ (K : Int) := by omega
            have hk1 : (K : Int) < (L : Int) := by omega
            go_upto_region 19 with fail
            clear p0 p1 p2 p3 p4
            obtain ⟨w4, hw4⟩ : ∃ w4, w4 = w3.alloc (.cells #[.int .i64 x1, .int .i64 x2, .int .i64 x3, .int .i64 x4, .slice ab b.length cb] 35) := ⟨_, rfl⟩
            have c4 : CellsAt w4 w3.heap.size #[.int .i64 x1, .int .i64 x2, .int .i64 x3, .int .i64 x4, .slice ab b.length cb] 35 := by rw [hw4]; exact CellsAt.new _ _ _
            have g4 : Gr w3 w4 := by rw [hw4]; exact (Gr.refl _).alloc _
            have H4 := Lib.hid (H3.out.go g4)
            have C4 := Lib.hid c4
            rw [← hw4]
            clear hw4 c4 g4 H3
            obtain ⟨yA, hyA⟩ : ∃ y, y = (if cv = K + 1 then some (⟨g, 0, Option.none⟩ : Addr) else some ⟨g, (K + 1) * 5, Option.none⟩) := ⟨_, rfl⟩
            have HYA : Hid (yA = some ⟨g, (K + 1) * 5, Option.none⟩ ∨ ls.length = K + 1) := Lib.hid (by
              rw [hyA]
              by_cases e : cv = K + 1
              · exact .inr (by have := HL.out; omega)
              · rw [if_neg e]; exact .inl rfl)
            have HY := Lib.hid hyA
            clear hyA
            have HW1 : Hid (IntKind.i64.wrap ((K : Int) + 1) = (K : Int) + 1) := Lib.hid (by simp [IntKind.wrap, IntKind.bits, IntKind.signed]; omega)
            have hKc : K ≤ cv := by omega
            apply wp_region_draw_tail 9 (.ok (NoneW w4.heap.size) :: .eq _ :: .eq _ :: .eq (.slice (some ⟨g, 0, Option.none⟩) K cv) :: .ok (CutW w w4.heap.size (ls.take K)) :: .eq _ :: .eq _ :: .eq _ :: .eq (.slice yA (L - (K + 1)) (cv - (K + 1))) :: []) (by kernel_rfl) (by kernel_rfl) ⟨NoneW.mono _, CutW.mono _ _ _, trivial⟩
            apply wpG_ok
            · intro W hW hs
              unfold opG
              go_simp
              exact resG_mk ((Gr.refl W).alloc _) ⟨_, rfl, hW.size, CellsAt.new _ _ _⟩
            intro vy
            simp only [Act.put, List.setIfInBounds_toArray, List.set_cons_zero, List.set_cons_succ]
            apply wpG_eq
            · intro W hW hs
              unfold opG
              go_simp
              first | exact resG_eq_mk _ _ _ | rfl
            simp only [Act.put, List.setIfInBounds_toArray, List.set_cons_zero, List.set_cons_succ]
            apply wpG_eq
            · intro W hW hs
              unfold opG
              go_simp
              first | exact resG_eq_mk _ _ _ | rfl
            simp only [Act.put, List.setIfInBounds_toArray, List.set_cons_zero, List.set_cons_succ]
            apply wpG_eq
            · intro W hW hs
              unfold opG
              go_simp
              first | exact resG_eq_mk _ _ _ | rfl
            simp only [Act.put, List.setIfInBounds_toArray, List.set_cons_zero, List.set_cons_succ]
            apply wpG_ok
            · intro W hW hs
              have gW := Gr.trans ((Gr.refl w4).drew) hW
              have hy : NoneW w4.heap.size vy W := hs _ (.head _) rfl
              obtain ⟨v9, w9, hr9, hi9, hc9⟩ := ord_cut1 (H4.out) hy gW rfl K cv (by have := HL.out; omega) hKc (by have := HL.out; omega)
              exact opG_run_append hr9 rfl _ _ rfl rfl rfl hc9 hi9
            intro vz
            simp only [Act.put, List.setIfInBounds_toArray, List.set_cons_zero, List.set_cons_succ]
            apply wpG_eq
            · intro W hW hs
              unfold opG
              go_simp
              first | exact resG_eq_mk _ _ _ | rfl
            simp only [Act.put, List.setIfInBounds_toArray, List.set_cons_zero, List.set_cons_succ]
            apply wpG_eq
            · intro W hW hs
              unfold opG
              go_simp
              first | exact resG_eq_mk _ _ _ | rfl
            simp only [Act.put, List.setIfInBounds_toArray, List.set_cons_zero, List.set_cons_succ]
            apply wpG_eq
            · intro W hW hs
              unfold opG
              go_simp
              rw [HW1.out]
              exact ⟨Gr.refl _, rfl⟩
            simp only [Act.put, List.setIfInBounds_toArray, List.set_cons_zero, List.set_cons_succ]
            apply wpG_eq
            · intro W hW hs
              unfold opG
              go_simp
              rw [if_pos ⟨by omega, by omega⟩, ← HY.out]
              exact ⟨Gr.refl _, rfl⟩
            simp only [Act.put, List.setIfInBounds_toArray, List.set_cons_zero, List.set_cons_succ]
            apply wpG_nil
            intro wq hW hsAll
            have hz : CutW w w4.heap.size (ls.take K) vz wq := hsAll _ (.head _)
            obtain ⟨az, cz, ez⟩ : ∃ a c, vz = .slice a K c := by
              obtain ⟨qs, k1, k2, _⟩ := hz
              obtain ⟨a, c, e⟩ := k1.shape
              have : qs.length = K := by rw [← List.length_map Prod.fst, k2, List.length_take]; have := HL.out; omega
              exact ⟨a, c, by rw [e, this]⟩
            subst ez
            have gq : Gr w4 wq := Gr.trans ((Gr.refl w4).drew) hW
            obtain ⟨v10, w10, hr10, h10, g10⟩ := ord_cut2 (N0 := w4.heap.size) H4.out K (cv - (K + 1)) hz gq rfl (by have := HL.out; omega) (by have := HL.out; omega) (by have := HL.out; omega) yA HYA.out
            obtain ⟨a10, c10, e10⟩ := h10.shape
            subst e10
            rw [← HL.out] at hr10
            clear hsAll hz gq hW
            have C10 := Lib.hid (C4.out.gr g10)
            have H10 := Lib.hid h10
            obtain ⟨m9, hm9⟩ : ∃ m9, m9 = (ls.eraseIdx K).length := ⟨_, rfl⟩
            rw [← hm9] at hr10 H10
            have hl9 : Hid (m9 ≤ 1000) := Lib.hid (by have := List.length_eraseIdx_le ls K; have := HL.out; omega)
            have HM9 := Lib.hid hm9
            clear h10 g10 hm9
            simp only [List.drop_succ_cons, List.drop_zero]
            have HR10 := Lib.hid hr10
            clear hr10
            have p0 := C10.out.cell 0
            have p1 := C10.out.cell 1
            have p2 := C10.out.cell 2
            have p3 := C10.out.cell 3
            have p4 := C10.out.cell 4
            obtain ⟨w11, hw11⟩ : ∃ w11, w11 = w10.alloc (.cells #[.int .i64 x1, .int .i64 x2, .int .i64 x3, .int .i64 x4, .slice ab b.length cb] 35) := ⟨_, rfl⟩
            have c11 : CellsAt w11 w10.heap.size #[.int .i64 x1, .int .i64 x2, .int .i64 x3, .int .i64 x4, .slice ab b.length cb] 35 := by rw [hw11]; exact CellsAt.new _ _ _
            have g11 : Gr w10 w11 := by rw [hw11]; exact (Gr.refl _).alloc _
            obtain ⟨v12, w12, hr12, h12⟩ := ord_push (H10.out.go g11) (⟨(x1, x2), (x3, x4), b⟩ : LetD) (.slice ab b.length cb) w10.heap.size c11 (HS.out _ (Gr.refl _)) (by rw [← HM9.out]; exact hl9.out)
            obtain ⟨a12, c12, e12⟩ := h12.shape
            rw [List.length_append, ← HM9.out, List.length_singleton] at e12
            subst e12
            rw [hw11] at hr12
            have H12 := Lib.hid h12
            clear hw11 c11 g11 h12 H10
            have HR12 := Lib.hid hr12
            clear hr12
            go_wp2_with (first | (at_builtin; refine wpList_run_append HR10.out rfl _ _ rfl rfl rfl ?_; clear HR10) | (at_builtin; refine wpList_run_append HR12.out rfl _ _ rfl rfl rfl ?_; clear HR12) | fail)
            go_roundw
            case rel =>
              have hx := HX.out
              have hO := H12.out
              have hKl' : K < ls.length := by rw [← HL.out]; exact hKl
              rw [hx] at hO
              exact ⟨q + 1, ls.eraseIdx K ++ [ls[K]], by omega, by go_num, hO, by rw [len_turned hKl', ← HL.out]; exact hll, fun l hl => HSM.out l (mem_turned hKl' hl)⟩
            case measure => simp [intOf]; omega
          · obtain ⟨L, hL⟩ : ∃ L, L = ls.length := ⟨_, rfl⟩
            rw [← hL] at hl0 hll ⊢
            have HL := Lib.hid hL
            clear hL
            have hOL : Hid (Ord w wr N M (.slice av L cv) (ls.drop 0) ls) := Lib.hid (by rw [HL.out]; exact HO.out)
            have HOK : Hid (∀ l ∈ ls, LetOk l) := Lib.hid fun l hl => (HSM.out l hl).1
            go_wp2
            go_loopw [12, 13, 14] (fun i s13 s14 W => ∃ t : Nat, t ≤ L ∧ i = .int .i64 t ∧ Ord w W N M (.slice av L cv) (ls.drop t) ls) (fun i _ _ _ => L - (intOf i).toNat)
            case atStart => exact ⟨0, Nat.zero_le _, rfl, hOL.out⟩
            case round =>
              clear hOL HO
              obtain ⟨t, ht, rfl, hO⟩ := hrel
              have HO := Lib.hid hO
              clear hO
              by_cases hlt3 : t < L
              · exact absurd hlt3 (by omega)
              · obtain rfl : t = L := by omega
                go_wp2_with fail
                refine (ord_len HO.out).mono ?_
                rintro e w3 ⟨rfl, hw3⟩
                subst w3
                rw [show (ls.drop t).length = 0 by rw [List.length_drop]; have := HL.out; omega]
                go_wp2_with fail
                refine (goes_any _).mono ?_
                rintro e w4 ⟨rfl, g4⟩
                go_wp2
                go_ret
                exact ⟨rfl, Below.trans HO.out.below (g4.mono HO.out.below.size)⟩
        · obtain rfl : q = m := by omega
          obtain ⟨L, hL⟩ : ∃ L, L = ls.length := ⟨_, rfl⟩
          rw [← hL] at hll ⊢
          have HL := Lib.hid hL
          clear hL
          have hOL : Hid (Ord w wr N M (.slice av L cv) (ls.drop 0) ls) := Lib.hid (by rw [HL.out]; exact HO.out)
          have HOK : Hid (∀ l ∈ ls, LetOk l) := Lib.hid fun l hl => (HSM.out l hl).1
          go_wp2
          go_loopw [12, 13, 14] (fun i s13 s14 W => ∃ t : Nat, t ≤ L ∧ i = .int .i64 t ∧ Ord w W N M (.slice av L cv) (ls.drop t) ls) (fun i _ _ _ => L - (intOf i).toNat)
          case atStart => exact ⟨0, Nat.zero_le _, rfl, hOL.out⟩
          case round =>
            clear hOL HO
            obtain ⟨t, ht, rfl, hO⟩ := hrel
            have HO := Lib.hid hO
            clear hO
            by_cases hlt3 : t < L
            · have htl : t < ls.length := by rw [← HL.out]; exact hlt3
              go_wp2_with fail
              refine (ord_take HO.out (ls[t]'htl) (ls.drop (t + 1)) (List.drop_eq_getElem_cons htl) (fun x hx => HOK.out x (List.mem_of_mem_drop hx))).mono ?_
              rintro e w3 ⟨bx, rfl, hsx, hO3⟩
              obtain ⟨x, hx⟩ : ∃ x, x = ls[t]'htl := ⟨_, rfl⟩
              rw [← hx] at hsx ⊢
              obtain ⟨g, cap, by_, e9, hgl, hcap, _⟩ := hO3.at t htl
              injection e9 with e1 e2 e3
              subst e1 e3
              have HX := Lib.hid hx
              clear hx e2
              obtain ⟨⟨x1, x2⟩, ⟨x3, x4⟩, b⟩ := x
              simp only at hsx
              obtain ⟨ab, cb, rfl, _⟩ := hsx.bytes
              have HS := Lib.hid hsx
              have H3 := Lib.hid hO3
              rw [← HL.out] at hcap
              clear hsx hO3 HO
              rw [show letV (⟨(x1, x2), (x3, x4), b⟩ : LetD) (.slice ab b.length cb) = .agg #[.int .i64 x1, .int .i64 x2, .int .i64 x3, .int .i64 x4, .slice ab b.length cb] from rfl]
              go_upto_region 25 with fail
              obtain ⟨w4, hw4⟩ : ∃ w4, w4 = w3.alloc (.cells #[.int .i64 x1, .int .i64 x2, .int .i64 x3, .int .i64 x4, .slice ab b.length cb] 35) := ⟨_, rfl⟩
              have c4 : CellsAt w4 w3.heap.size #[.int .i64 x1, .int .i64 x2, .int .i64 x3, .int .i64 x4, .slice ab b.length cb] 35 := by rw [hw4]; exact CellsAt.new _ _ _
              have g4 : Gr w3 w4 := by rw [hw4]; exact (Gr.refl _).alloc _
              have H4 := Lib.hid (H3.out.go g4)
              have C4 := Lib.hid c4
              have S4 := Lib.hid (HS.out.below g4)
              rw [← hw4]
              clear hw4 c4 g4 H3 HS
              have HW1 : Hid (IntKind.i64.wrap ((t : Int) + 1) = (t : Int) + 1) := Lib.hid (by simp [IntKind.wrap, IntKind.bits, IntKind.signed]; omega)
              have hSub : Hid (∀ W, Gr w4 W → Lets W (.slice (some ⟨g, t * 5, Option.none⟩) 1 (cv - t)) [(⟨(x1, x2), (x3, x4), b⟩ : LetD)]) := Lib.hid fun W hW => by
                have h9 := ((H4.out.go hW).reads).sub t htl (c' := cv - t) (by omega)
                rw [← HX.out, Nat.zero_add] at h9
                exact h9
              have hcv : ¬ cv = t := by omega
              have ht0 : (t : Int) < (L : Int) := by omega
              apply wp_region_draw_grow (.eq _ :: .eq _ :: .eq _ :: .eq _ :: .ok (RowL [(⟨(x1, x2), (x3, x4), b⟩ : LetD)]) :: .eq _ :: .eq _ :: .eq _ :: .eq _ :: .eq (.slice (some ⟨g, t * 5, Option.none⟩) 1 (cv - t)) :: .eq (.bool true) :: .eq _ :: .eq _ :: []) (by kernel_rfl) (by kernel_rfl) ⟨RowL.mono _, trivial⟩
              apply wpG_eq
              · intro W hW hs
                unfold opG
                go_simp
                first | exact resG_eq_mk _ _ _ | rfl
              simp only [Act.put, List.setIfInBounds_toArray, List.set_cons_zero, List.set_cons_succ]
              apply wpG_eq
              · intro W hW hs
                unfold opG
                go_simp
                first | exact resG_eq_mk _ _ _ | rfl
              simp only [Act.put, List.setIfInBounds_toArray, List.set_cons_zero, List.set_cons_succ]
              apply wpG_eq
              · intro W hW hs
                unfold opG
                go_simp
                first | exact resG_eq_mk _ _ _ | rfl
              simp only [Act.put, List.setIfInBounds_toArray, List.set_cons_zero, List.set_cons_succ]
              apply wpG_eq
              · intro W hW hs
                have p0 := hW.drew0 (C4.out.cell 0)
                have p1 := hW.drew0 (C4.out.cell 1)
                have p2 := hW.drew0 (C4.out.cell 2)
                have p3 := hW.drew0 (C4.out.cell 3)
                have p4 := hW.drew0 (C4.out.cell 4)
                unfold opG
                go_simp
                first | exact resG_eq_mk _ _ _ | rfl
              simp only [Act.put, List.setIfInBounds_toArray, List.set_cons_zero, List.set_cons_succ]
              apply wpG_ok
              · intro W hW hs
                unfold opG
                go_simp
                exact resG_mk ((Gr.refl W).alloc _) ⟨_, 1, rfl, Lets.one (CellsAt.new _ _ _) (S4.out.below (Gr.trans (Gr.trans ((Gr.refl w4).drew) hW) ((Gr.refl W).alloc _)))⟩
              intro vy
              simp only [Act.put, List.setIfInBounds_toArray, List.set_cons_zero, List.set_cons_succ]
              apply wpG_eq
              · intro W hW hs
                unfold opG
                go_simp
                first | exact resG_eq_mk _ _ _ | rfl
              simp only [Act.put, List.setIfInBounds_toArray, List.set_cons_zero, List.set_cons_succ]
              apply wpG_eq
              · intro W hW hs
                unfold opG
                go_simp
                first | exact resG_eq_mk _ _ _ | rfl
              simp only [Act.put, List.setIfInBounds_toArray, List.set_cons_zero, List.set_cons_succ]
              apply wpG_eq
              · intro W hW hs
                unfold opG
                go_simp
                first | exact resG_eq_mk _ _ _ | rfl
              simp only [Act.put, List.setIfInBounds_toArray, List.set_cons_zero, List.set_cons_succ]
              apply wpG_eq
              · intro W hW hs
                unfold opG
                go_simp
                rw [HW1.out]
                exact ⟨Gr.refl _, rfl⟩
              simp only [Act.put, List.setIfInBounds_toArray, List.set_cons_zero, List.set_cons_succ]
              apply wpG_eq
              · intro W hW hs
                unfold opG
                go_simp
                rw [if_pos ⟨by omega, by omega⟩]
                exact ⟨Gr.refl _, rfl⟩
              simp only [Act.put, List.setIfInBounds_toArray, List.set_cons_zero, List.set_cons_succ]
              apply wpG_eq
              · intro W hW hs
                have gW := Gr.trans ((Gr.refl w4).drew) hW
                have h9 : RowL [(⟨(x1, x2), (x3, x4), b⟩ : LetD)] vy W := hs _ (.head _) rfl
                have H9 : Hid (Lets W vy [(⟨(x1, x2), (x3, x4), b⟩ : LetD)]) := Lib.hid (by obtain ⟨_, _, _, h⟩ := h9; exact h)
                clear h9 hs
                unfold opG
                go_simp
                refine resG_call ((same_true W vy _ [(⟨(x1, x2), (x3, x4), b⟩ : LetD)] H9.out (hSub.out W gW) (by simp)).mono ?_)
                rintro e W2 ⟨rfl, g2⟩
                exact ⟨_, rfl, g2, rfl⟩
              simp only [Act.put, List.setIfInBounds_toArray, List.set_cons_zero, List.set_cons_succ]
              apply wpG_eq
              · intro W hW hs
                unfold opG
                go_simp
                first | exact resG_eq_mk _ _ _ | rfl
              simp only [Act.put, List.setIfInBounds_toArray, List.set_cons_zero, List.set_cons_succ]
              apply wpG_eq
              · intro W hW hs
                unfold opG
                go_simp
                first | exact resG_eq_mk _ _ _ | rfl
              simp only [Act.put, List.setIfInBounds_toArray, List.set_cons_zero, List.set_cons_succ]
              apply wpG_nil
              intro wq hW hsAll
              have H5 := Lib.hid (H4.out.go (Gr.trans ((Gr.refl w4).drew) hW))
              clear hsAll hW H4 C4 S4
              go_wp2
              exact ⟨⟨t + 1, by omega, by go_num, H5.out⟩, by simp [intOf]; omega⟩
            · obtain rfl : t = L := by omega
              go_wp2_with fail
              refine (ord_len HO.out).mono ?_
              rintro e w3 ⟨rfl, hw3⟩
              subst w3
              rw [show (ls.drop t).length = 0 by rw [List.length_drop]; have := HL.out; omega]
              go_wp2_with fail
              refine (goes_any _).mono ?_
              rintro e w4 ⟨rfl, g4⟩
              go_wp2
              go_ret
              exact ⟨rfl, Below.trans HO.out.below (g4.mono HO.out.below.size)⟩

open Go.ChangeShapes Go.WideShapes Go.ChangeAt Go.RowKit
open Go.ChangeMaps (open_string shut_string)
theorem own_netOrder : ownKnob Try.prog.godebug = none := by kernel_rfl
theorem laidOut_netOrder : laidOutB Try.prog = true := by kernel_rfl
set_option maxRecDepth 100000 in
theorem lifted_netOrder (os : Os) (started : os.Started) (H : Type) (enc : TypeId × Value → H) :
    ReturnsInHanded {} Try.checked os 3 .any (Rows.netOrderSpec.pre6 enc Try.prog Try.f3 Rows.netOrderRow.domain false) (Rows.netOrderSpec.post enc Try.prog Try.f3 false true false false) := by
  refine returnsInHanded_of_change (C := Try.checked) own_netOrder started (by kernel_rfl) Try.func3
    (ChangeSpec.witness6 (enc := enc) (C := Try.checked) false ⟨#[], #[.slice Option.none 0 0, .slice Option.none 0 0], []⟩ 8 (by kernel_rfl) (by kernel_rfl) (by kernel_rfl) (by kernel_rfl)) ?_
  intro W base args ds gs before hval0 hW hcnd _
  have hval : ∀ (j : Nat) t v, Try.f3.params[j]? = some t → args[j]? = some v → Value.okWide Try.prog W .any base t v := hval0
  have hW' := hW
  obtain ⟨p, q, hA0, hV, rfl, hfz, hnd⟩ := hW
  have hA : DataW.TrodAll enc Try.prog W 0 (fun _ => true) true Try.f3.params.toList args.toList ds p := hA0
  rw [Try.params3] at hA hval
  obtain ⟨v0, vs0, d0, ds0, p0, q0, hargs, rfl, rfl, k0, r0⟩ := trodAll_cons hA
  obtain ⟨v1, vs1, d1, ds1, p1, q1, rfl, rfl, rfl, k1, r1⟩ := trodAll_cons r0
  obtain ⟨rfl, rfl, rfl⟩ := trodAll_nil r1
  obtain rfl : args = #[v0, v1] := by cases args; simp_all
  obtain ⟨rfl, rfl⟩ := trodVars_none hV
  have lt0 : ∀ x ∈ p0, x.block < W.heap.size := by obtain ⟨m, hm⟩ := k0; exact DataW.trod_lt m _ _ _ hm
  have lt1 : ∀ x ∈ p1, x.block < W.heap.size := by obtain ⟨m, hm⟩ := k1; exact DataW.trod_lt m _ _ _ hm
  obtain ⟨l0, s0, m0⟩ := open_acts (hval 0 22 v0 rfl rfl) k0
  obtain ⟨l1, s1, w1⟩ := open_bytes Try.underlying23 Try.underlying5 (by kernel_rfl) (hval 1 23 v1 rfl rfl) k1
  clear hA0 hval0
  refine (order_walk W v0 v1 l0 l1 s0 m0 s1 w1 ).mono fun e W' ⟨he, bel⟩ => ?_
  subst he
  exact ⟨_, rfl, _, _, _, [], _, [], hW', trodAll_mk1 (shut_bool Try.underlying4 _), (trodAll_cons_mk (Below.trod laidOut_netOrder (by kernel_rfl) (of_decide_eq_true (by kernel_rfl)) k0 bel lt0) (trodAll_cons_mk (Below.trod laidOut_netOrder (by kernel_rfl) (of_decide_eq_true (by kernel_rfl)) k1 bel lt1) trodAll_mk0)), rfl, bel.frame _, fun h => by cases h⟩

theorem over_netOrder : Rows.netOrderRow.holds Try.pinned (OpenSpec.ofChange Rows.netOrderSpec) :=
  OpenClaim.holds_of_wide 3 Try.f3 rfl rfl rfl rfl rfl rfl rfl ⟨rfl, rfl, rfl, rfl, rfl⟩ rfl rfl rfl rfl rfl (by kernel_rfl) Try.func3 (by kernel_rfl)
    (of_decide_eq_true (by kernel_rfl)) (by unfold Func.isWrapper; first | (rw [if_pos (by decide +kernel)]; kernel_rfl) | (rw [if_neg (by decide +kernel)]; exact ⟨rfl, rfl⟩))
    (fun os started H enc _ => lifted_netOrder os started H enc)

theorem netOrder_proved : Rows.NetOrderSaid := over_netOrder
#print axioms netOrder_proved
end Go.Proofs.Ytcpkbngoecpnkaa
