/-
  StreamNext: what is told from a number on, and then on from the last one, is all of it, in order, at most eight at a time. Every input; no conditions.
-/
import Derived.Test.YtpdninnnpoiblaaSGoes
set_option linter.unusedVariables false
namespace Go.Proofs.Ytpdninnnpoiblaa
open Go.RowKit

def itemN (i : Nat) : ItemD := ⟨0, i + 1, -1, 0, [i], [], 1⟩
def ownN (n : Nat) : List ItemD := (List.range n).map itemN
theorem ownN_length (n : Nat) : (ownN n).length = n := by simp [ownN]
theorem ownN_succ (n : Nat) : ownN (n + 1) = ownN n ++ [itemN n] := by simp [ownN, List.range_succ]
theorem wanted_own (a n : Nat) : wanted a (ownN n) = (List.range (n - a)).map fun i => itemN (a + i) := by
  induction n with
  | zero => simp [ownN, wanted]
  | succ n ih =>
    have e : wanted a (ownN (n + 1)) = wanted a (ownN n) ++ wanted a [itemN n] := by rw [ownN_succ]; simp [wanted]
    rw [e, ih]
    by_cases h : a ≤ n
    · rw [show n + 1 - a = (n - a) + 1 by omega, List.range_succ, List.map_append]
      congr 1
      simp only [wanted, itemN, List.filter_cons, List.filter_nil, List.map_cons, List.map_nil]
      rw [if_pos (by simp; omega)]
      rw [show a + (n - a) = n by omega]
    · rw [show n + 1 - a = 0 by omega, show n - a = 0 by omega]
      simp only [wanted, itemN, List.filter_cons, List.filter_nil, List.range_zero, List.map_nil, List.nil_append]
      rw [if_neg (by simp; omega)]
theorem next_own (a n : Nat) : nextV a (ownN n) = (List.range (min 8 (n - a))).map fun i => itemN (a + i) := by
  unfold nextV
  rw [wanted_own, ← List.map_take, List.take_range]
theorem next_own_length (a n : Nat) : (nextV a (ownN n)).length = min 8 (n - a) := by rw [next_own]; simp
theorem itemN_ok (i : Nat) : ItemOk (itemN i) := ⟨by simp [itemN], by simp [itemN]⟩
theorem itemN_n (i : Nat) (h : i < 1000) : NumOk (itemN i) := ⟨by simp [itemN]; omega, by simp [itemN], by simp [itemN]⟩
theorem itemN_check (i : Nat) : checkV (itemN i) 1 0 = 0 := by
  have : badV (itemN i) 1 0 = false := by
    unfold badV writeV closesV itemN
    simp
  unfold checkV
  rw [this]; rfl
/-- A row of items of the call's own is a slice of items. -/
theorem ItemsR.items {w : World} {B : Nat} {v : Value} {xs : List ItemD} (h : ItemsR w B v xs) (hok : ∀ x ∈ xs, ItemOk x) : Items w v xs := by
  obtain ⟨rs, h1, h2, h3⟩ := h
  refine ⟨_, by rw [← h2]; exact h1.rows, fun i hi => ⟨hok _ (List.getElem_mem hi), ?_⟩⟩
  obtain ⟨sv, ev, q1, q2⟩ := h3 i hi
  refine ⟨sv, ev, fun j u hu => ?_, q2.r.is⟩
  have e : rs.getD i [] = (itemCells xs[i] sv ev).toList := by rw [List.getD_eq_getElem?_getD, q1]; rfl
  show (rs.getD i []).getD j (.bool false) = u
  rw [e, List.getD_eq_getElem?_getD, Array.getElem?_toList, hu]
  rfl
/-- One of them. -/
theorem Items.at {w : World} {a : Option Addr} {len cap : Nat} {xs : List ItemD} (h : Items w (.slice a len cap) xs) (k : Nat) (hk : k < xs.length) :
    ∃ B o sv ev, a = some ⟨B, o, Option.none⟩ ∧ B < w.heap.size ∧ w.cell? ⟨B, o + k * 7, Option.none⟩ = some (.int .i64 xs[k].origin) ∧ w.cell? ⟨B, o + k * 7 + 1, Option.none⟩ = some (.int .u64 (xs[k].seq : Int)) ∧ w.cell? ⟨B, o + k * 7 + 2, Option.none⟩ = some (.int .i64 xs[k].region) ∧
      w.cell? ⟨B, o + k * 7 + 3, Option.none⟩ = some (.int .u64 (xs[k].epoch : Int)) ∧ w.cell? ⟨B, o + k * 7 + 4, Option.none⟩ = some sv ∧ w.cell? ⟨B, o + k * 7 + 5, Option.none⟩ = some ev ∧ w.cell? ⟨B, o + k * 7 + 6, Option.none⟩ = some (.int .u32 (xs[k].closed : Int)) ∧
      ItemIs w xs[k] sv ev ∧ ItemOk xs[k] := by
  obtain ⟨R, h1, h2⟩ := h
  obtain ⟨B, o, rfl, hB, hc⟩ := rows_at h1 k hk
  obtain ⟨ok, sv, ev, q1, q2⟩ := h2 k hk
  have c : ∀ j u, j < 7 → (itemCells xs[k] sv ev)[j]? = some u → w.cell? ⟨B, o + k * 7 + j, Option.none⟩ = some u := fun j u hj hu => by rw [hc j hj, q1 j u hu]
  exact ⟨B, o, sv, ev, rfl, hB, c 0 _ (by decide) rfl, c 1 _ (by decide) rfl, c 2 _ (by decide) rfl, c 3 _ (by decide) rfl, c 4 _ (by decide) rfl, c 5 _ (by decide) rfl, c 6 _ (by decide) rfl, q2, ok⟩
/-- One item made and appended. -/
theorem app_itemN (w W : World) (v : Value) (k : Nat) (hk : k < 100) (h : ItemsR W w.heap.size v (ownN k)) (hb : Below w.heap.size w W) :
    ∃ a c w', (Builtin.append_ #[22, 22] 22 #[v, .slice (some ⟨W.heap.size + 1, 0, Option.none⟩) 1 1]).run Try.prog ((W.alloc (.cells #[.int .u64 (k : Int)] 23)).alloc (.cells #[.int .i64 0, .int .u64 ((k : Int) + 1), .int .i64 (-1), .int .u64 0, .slice (some ⟨W.heap.size, 0, Option.none⟩) 1 1, .slice Option.none 0 0, .int .u32 1] 33)) = .ok (.slice a (k + 1) c) w' ∧
      ItemsR w' w.heap.size (.slice a (k + 1) c) (ownN (k + 1)) ∧ Below w.heap.size w w' := by
  obtain ⟨w1, hw1⟩ : ∃ w1, w1 = W.alloc (.cells #[.int .u64 (k : Int)] 23) := ⟨_, rfl⟩
  obtain ⟨w2, hw2⟩ : ∃ w2, w2 = w1.alloc (.cells #[.int .i64 0, .int .u64 ((k : Int) + 1), .int .i64 (-1), .int .u64 0, .slice (some ⟨W.heap.size, 0, Option.none⟩) 1 1, .slice Option.none 0 0, .int .u32 1] 33) := ⟨_, rfl⟩
  rw [← hw1, ← hw2]
  have e1 : w1.heap.size = W.heap.size + 1 := by rw [hw1]; simp
  have g1 : Gr W w1 := by rw [hw1]; exact (Gr.refl W).alloc _
  have g2 : Gr w1 w2 := by rw [hw2]; exact (Gr.refl w1).alloc _
  have hrow : Rows w2 (.slice (some ⟨W.heap.size + 1, 0, Option.none⟩) 1 1) 1 7 (rowF (itemCells (itemN k) (.slice (some ⟨W.heap.size, 0, Option.none⟩) 1 1) (.slice Option.none 0 0))) := by
    rw [hw2, ← e1]
    exact rows_one _ _ 7 _ 33 (0, 0) (heap_alloc_new w1 _) rfl
  have ho : Own w1 W.heap.size 23 (.slice (some ⟨W.heap.size, 0, Option.none⟩) 1 1) (nums [k]) := by rw [hw1]; exact World.ownsRow_lit W #[.int .u64 (k : Int)] 1 (Nat.le_refl _) (by decide) rfl
  have ho2 : Own w2 W.heap.size 23 (.slice (some ⟨W.heap.size, 0, Option.none⟩) 1 1) (nums [k]) := ho.block fun j hj => g2.block j (ho.lt' j hj).2
  have hit : ItemR w2 W.heap.size (itemN k) (.slice (some ⟨W.heap.size, 0, Option.none⟩) 1 1) (.slice Option.none 0 0) := ⟨ho2, [], OwnR.nil _ _ _ _, rfl, fun i hi => absurd hi (Nat.not_lt_zero _)⟩
  have hs := hb.size
  obtain ⟨v', w', hr, p1, p2, p3⟩ := run_append_item w2 w.heap.size W.heap.size v _ _ _ (ownN k) (itemN k) (h.gr (Gr.trans g1 g2)) _ hrow (fun j u hu => by show ((itemCells (itemN k) _ _)[j]?).getD (.bool false) = u; rw [hu]; rfl) hit hs (fun j hj => (h.lt j hj).2) (by rw [ownN_length]; omega) (by have := g1.size; have := g2.size; omega)
  rw [← ownN_succ] at p1
  obtain ⟨a, c, rfl⟩ := p1.shape
  rw [ownN_length] at hr p1
  exact ⟨a, c, w', hr, p1, (Below.trans hb ((Gr.trans g1 g2).mono hs)).grown p2 (by have := g1.size; have := g2.size; omega) (fun j hj => (h.lt j hj).1)⟩

set_option maxHeartbeats 4000000 in
theorem next_walk (w : World) (n hv : Nat) (hn : n < 256) (hh : hv < 256) : Calls Try.prog 4 #[.int .u8 (n : Int), .int .u8 (hv : Int)] w fun e w' => e = .returned (.bool true) ∧ Below w.heap.size w w' := by
  obtain ⟨m, hm⟩ : ∃ m, m = n % 60 := ⟨_, rfl⟩
  have hm60 : m < 60 := by omega
  have HM := Lib.hid hm
  have hmi : (n : Int) % 60 = (m : Int) := by omega
  have hmt : (n : Int).tmod 60 = (m : Int) := by rw [Int.tmod_eq_emod_of_nonneg (by omega)]; exact hmi
  clear hm
  go_enter Try.func4, Try.ntmps4
  go_wp2
  go_loopw [5, 6] (fun v i wr => ∃ k : Nat, k ≤ m ∧ i = .int .i64 ((k : Int) + 1) ∧ (∃ a c, v = .slice a k c) ∧ ItemsR wr w.heap.size v (ownN k) ∧ Below w.heap.size w wr) (fun _ i _ => m + 1 - (intOf i).toNat)
  case atStart => exact ⟨0, Nat.zero_le _, rfl, ⟨_, _, rfl⟩, ItemsR.nil _ _, Below.refl _ _⟩
  case round =>
    obtain ⟨k, hk, rfl, ⟨a0, c0, rfl⟩, hr, hb⟩ := hrel
    by_cases hlt : k < m
    · obtain ⟨a, c, w', hrun, p1, p2⟩ := app_itemN w _ _ k (by omega) hr hb
      have HP := Lib.hid p1
      have HQ := Lib.hid p2
      clear p1 p2 hr hb
      go_wp2_with (at_builtin; refine wpList_run_append hrun rfl _ _ rfl rfl rfl ?_; clear hrun)
      go_roundw
      case rel => exact ⟨k + 1, by omega, by go_num, ⟨_, _, rfl⟩, HP.out, HQ.out⟩
      case measure => simp [intOf]; omega
    · obtain rfl : k = m := by omega
      have HR := Lib.hid hr
      have HB := Lib.hid hb
      clear hr hb
      obtain ⟨a00, ha0⟩ : ∃ a, a = hv % 64 := ⟨_, rfl⟩
      have ha63 : a00 < 64 := by omega
      have hai : (hv : Int) % 64 = (a00 : Int) := by omega
      have hat : (hv : Int).tmod 64 = (a00 : Int) := by rw [Int.tmod_eq_emod_of_nonneg (by omega)]; exact hai
      have HA0 := Lib.hid ha0
      clear ha0
      go_upto_region 7 with fail
      clear hai hat hmi hmt hk hlt
      have HR' := HR.out
      have HB' := HB.out
      go_loopw [7] (fun s7 W => ∃ q : Nat, q < 64 ∧ s7 = .int .u64 (q : Int) ∧ ItemsR W w.heap.size (.slice a0 k c0) (ownN k) ∧ Below w.heap.size w W) (fun s7 _ => k - (intOf s7).toNat)
      case atStart => exact ⟨a00, ha63, rfl, HR', HB'⟩
      case round =>
        clear HR' HB' HR HB
        obtain ⟨q0, hq63, rfl, hr2, hb2⟩ := hrel
        go_wp2_with fail
        refine (next_any _ _ q0 (ownN k) (hr2.items (fun x hx => by obtain ⟨i, _, rfl⟩ := List.mem_map.1 hx; exact itemN_ok i)) (by rw [ownN_length]; omega) (by omega)).mono ?_
        rintro e w2 ⟨v2, rfl, hv2, g2⟩
        obtain ⟨a2, c2, rfl⟩ := hv2.shape
        obtain ⟨len, hlen⟩ : ∃ len, len = (nextV q0 (ownN k)).length := ⟨_, rfl⟩
        rw [← hlen] at hv2 ⊢
        have hl8 : len = min 8 (k - q0) := by rw [hlen, next_own_length]
        have hle8 : len ≤ 8 := by omega
        have hlk : len = 0 ∨ q0 + len ≤ k := by omega
        have hz : len = 0 → k ≤ q0 := by omega
        have HV2 := Lib.hid hv2
        have HLEN := Lib.hid hlen
        have HLK := Lib.hid hlk
        have HZ := Lib.hid hz
        have HR3 := Lib.hid (hr2.gr g2)
        have HB3 := Lib.hid (Below.trans hb2 (g2.mono hb2.size))
        clear hv2 hlen hl8 hlk hz hr2 hb2 g2
        go_upto_region 11 with fail
        go_loopw [7, 9] (fun s7 s9 W => ∃ j q : Nat, j ≤ len ∧ q = q0 + j ∧ s7 = .int .u64 (q : Int) ∧ s9 = .int .i64 (j : Int) ∧ Gr w2 W) (fun _ s9 _ => len - (intOf s9).toNat)
        case atStart => exact ⟨0, q0, Nat.zero_le _, rfl, rfl, rfl, Gr.refl _⟩
        case round =>
          obtain ⟨j, q, hj, hq, rfl, rfl, gj⟩ := hrel
          have HQ := Lib.hid hq
          have hq200 : q < 200 := by omega
          clear hq
          by_cases hjl : j < len
          · have hits : Items wr (.slice a2 len c2) (nextV q0 (ownN k)) := Items.below (ItemsR.items HV2.out (fun x hx => by
              rw [next_own] at hx
              obtain ⟨i, _, rfl⟩ := List.mem_map.1 hx
              exact itemN_ok _)) gj
            obtain ⟨B, o, sv, ev, rfl, hB, t0, t1, t2, t3, t4, t5, t6, his, hok⟩ := hits.at j (by rw [← HLEN.out]; exact hjl)
            have hx : (nextV q0 (ownN k))[j]'(by rw [← HLEN.out]; exact hjl) = itemN q := by
              have : ∀ (L : List ItemD) (h : j < L.length), L = (List.range (min 8 (k - q0))).map (fun i => itemN (q0 + i)) → L[j] = itemN q := by
                rintro L h rfl
                simp [HQ.out]
              exact this _ _ (next_own q0 k)
            rw [hx] at t0 t1 t2 t3 t6 his hok
            have HX := Lib.hid (And.intro his hok)
            clear hits
            obtain ⟨sa, sc, rfl⟩ := his.1.oneCells
            obtain ⟨ea, ec, rfl⟩ := his.2.shape
            have HA : Hid ((.agg #[.int .i64 0, .int .u64 ((q : Int) + 1), .int .i64 (-1), .int .u64 0, .slice sa 1 sc, .slice ea 0 ec, .int .u32 1] : Value) = .agg (itemCells (itemN q) (.slice sa 1 sc) (.slice ea 0 ec))) := Lib.hid (by simp [itemCells, itemN])
            replace t0 : wr.cell? ⟨B, o + j * 7, Option.none⟩ = some (.int .i64 0) := t0
            replace t1 : wr.cell? ⟨B, o + j * 7 + 1, Option.none⟩ = some (.int .u64 ((q : Int) + 1)) := by rw [t1]; simp [itemN]
            replace t2 : wr.cell? ⟨B, o + j * 7 + 2, Option.none⟩ = some (.int .i64 (-1)) := t2
            replace t3 : wr.cell? ⟨B, o + j * 7 + 3, Option.none⟩ = some (.int .u64 0) := t3
            replace t4 : wr.cell? ⟨B, o + j * 7 + 4, Option.none⟩ = some (.slice sa 1 sc) := t4
            replace t5 : wr.cell? ⟨B, o + j * 7 + 5, Option.none⟩ = some (.slice ea 0 ec) := t5
            replace t6 : wr.cell? ⟨B, o + j * 7 + 6, Option.none⟩ = some (.int .u32 1) := t6
            clear his hok hx
            go_wp2_with fail
            rw [HA.out]
            refine (check_any _ (itemN q) _ _ 1 0 HX.out.1 HX.out.2 (itemN_n q (by omega)) (by decide)).mono ?_
            rintro e w5 ⟨rfl, g5⟩
            rw [itemN_check]
            clear t0 t1 t2 t3 t4 t5 t6
            have HG := Lib.hid (Gr.trans gj g5)
            clear g5 gj
            go_wp2
            go_roundw
            case rel => exact ⟨j + 1, q + 1, by omega, by have := HQ.out; omega, by go_num, by go_num, HG.out⟩
            case measure => simp [intOf]; omega
          · obtain rfl : j = len := by omega
            have HG := Lib.hid gj
            clear gj
            by_cases h0 : j = 0
            · subst h0
              have hkq : (k : Int) ≤ (q : Int) := by have := HZ.out rfl; have := HQ.out; omega
              have hkq2 : k ≤ q := by omega
              go_wp2_with fail
              refine (goes_any _).mono ?_
              rintro e w5 ⟨rfl, g5⟩
              have HG5 := Lib.hid (Gr.trans HG.out g5)
              clear g5
              go_wp2
              go_ret
              exact ⟨rfl, Below.trans HB3.out (HG5.out.mono HB3.out.size)⟩
            · have hqk : q0 < q ∧ q ≤ k := by have := HLK.out; have := HQ.out; omega
              have HQK := Lib.hid hqk
              clear hqk
              go_wp2
              go_roundw
              case rel => exact ⟨q, by have := HQK.out; omega, rfl, HR3.out.gr HG.out, Below.trans HB3.out (HG.out.mono HB3.out.size)⟩
              case measure => have := HQK.out; simp [intOf]; omega

open Go.ChangeShapes Go.WideShapes Go.ChangeAt Go.RowKit
open Go.ChangeMaps (open_string shut_string)
theorem own_streamNext : ownKnob Try.prog.godebug = none := by kernel_rfl
theorem laidOut_streamNext : laidOutB Try.prog = true := by kernel_rfl
set_option maxRecDepth 100000 in
theorem lifted_streamNext (os : Os) (started : os.Started) (H : Type) (enc : TypeId × Value → H) :
    ReturnsInHanded {} Try.checked os 4 .any (Rows.streamNextSpec.pre6 enc Try.prog Try.f4 Rows.streamNextRow.domain false) (Rows.streamNextSpec.post enc Try.prog Try.f4 false true false false) := by
  refine returnsInHanded_of_change (C := Try.checked) own_streamNext started (by kernel_rfl) Try.func4
    (ChangeSpec.witness6 (enc := enc) (C := Try.checked) false ⟨#[], #[.int .u8 0, .int .u8 0], []⟩ 8 (by kernel_rfl) (by kernel_rfl) (by kernel_rfl) (by kernel_rfl)) ?_
  intro W base args ds gs before hval0 hW hcnd _
  have hval : ∀ (j : Nat) t v, Try.f4.params[j]? = some t → args[j]? = some v → Value.okWide Try.prog W .any base t v := hval0
  have hW' := hW
  obtain ⟨p, q, hA0, hV, rfl, hfz, hnd⟩ := hW
  have hA : DataW.TrodAll enc Try.prog W 0 (fun _ => true) true Try.f4.params.toList args.toList ds p := hA0
  rw [Try.params4] at hA hval
  obtain ⟨v0, vs0, d0, ds0, p0, q0, hargs, rfl, rfl, k0, r0⟩ := trodAll_cons hA
  obtain ⟨v1, vs1, d1, ds1, p1, q1, rfl, rfl, rfl, k1, r1⟩ := trodAll_cons r0
  obtain ⟨rfl, rfl, rfl⟩ := trodAll_nil r1
  obtain rfl : args = #[v0, v1] := by cases args; simp_all
  obtain ⟨rfl, rfl⟩ := trodVars_none hV
  have lt0 : ∀ x ∈ p0, x.block < W.heap.size := by obtain ⟨m, hm⟩ := k0; exact DataW.trod_lt m _ _ _ hm
  have lt1 : ∀ x ∈ p1, x.block < W.heap.size := by obtain ⟨m, hm⟩ := k1; exact DataW.trod_lt m _ _ _ hm
  obtain ⟨a0, rfl, w0⟩ := open_nat rfl Try.underlying5 (hval 0 5 v0 rfl rfl) k0
  obtain ⟨a1, rfl, w1⟩ := open_nat rfl Try.underlying5 (hval 1 5 v1 rfl rfl) k1
  clear hA0 hval0
  refine (next_walk W a0 a1 w0 w1 ).mono fun e W' ⟨he, bel⟩ => ?_
  subst he
  exact ⟨_, rfl, _, _, _, [], _, [], hW', trodAll_mk1 (shut_bool Try.underlying4 _), (trodAll_cons_mk (Below.trod laidOut_streamNext (by kernel_rfl) (of_decide_eq_true (by kernel_rfl)) k0 bel lt0) (trodAll_cons_mk (Below.trod laidOut_streamNext (by kernel_rfl) (of_decide_eq_true (by kernel_rfl)) k1 bel lt1) trodAll_mk0)), rfl, bel.frame _, fun h => by cases h⟩

theorem over_streamNext : Rows.streamNextRow.holds Try.pinned (OpenSpec.ofChange Rows.streamNextSpec) :=
  OpenClaim.holds_of_wide 4 Try.f4 rfl rfl rfl rfl rfl rfl rfl ⟨rfl, rfl, rfl, rfl, rfl⟩ rfl rfl rfl rfl rfl (by kernel_rfl) Try.func4 (by kernel_rfl)
    (of_decide_eq_true (by kernel_rfl)) (by unfold Func.isWrapper; first | (rw [if_pos (by decide +kernel)]; kernel_rfl) | (rw [if_neg (by decide +kernel)]; exact ⟨rfl, rfl⟩))
    (fun os started H enc _ => lifted_streamNext os started H enc)

theorem streamNext_proved : Rows.StreamNextSaid := over_streamNext
#print axioms streamNext_proved
end Go.Proofs.Ytpdninnnpoiblaa
