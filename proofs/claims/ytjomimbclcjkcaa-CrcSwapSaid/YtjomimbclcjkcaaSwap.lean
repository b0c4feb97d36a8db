/-
  CrcSwap: two unlike bytes at most seven places apart cannot change places without being told. Every input; no conditions.
-/
import Derived.Test.YtjomimbclcjkcaaCopy
import Derived.Test.YtjomimbclcjkcaaCut
import Derived.Test.YtjomimbclcjkcaaOpen
import Derived.StillTailTactics
import Derived.BigQuiet
import Derived.Deep.QuietTactic
set_option linter.unusedVariables false
namespace Go.Proofs.Ytjomimbclcjkcaa
open Go.ChangeShapes Go.WideShapes Go.ChangeAt Go.RowKit
open Go.ChangeMaps (open_string shut_string)
open Plain
set_option maxHeartbeats 600000 in
theorem swap_walk (w : World) (v : Value) (l : List UInt8) (hl : Sl w v (bytes l)) (m n : Nat) (hm : m < 65536) (hn : n < 256) :
   Calls Try.prog 5 #[v, .int .u16 (m : Int), .int .u8 (n : Int)] w fun e w' => e = .returned (.bool true) ∧ Below w.heap.size w w' := by
  obtain ⟨a, cap, rfl, hc⟩ := hl.bytes
  by_cases h4 : 4000 < l.length
  · go_enter Try.func5, Try.ntmps5
    go_wp2
    all_goals (go_ret; exact ⟨rfl, Below.refl _ _⟩)
  by_cases h9 : l.length < 9
  · go_enter Try.func5, Try.ntmps5
    go_wp2_with (go_at_call 10; refine (goes_any _).mono ?_; rintro e w' ⟨rfl, hb⟩)
    go_ret
    exact ⟨rfl, hb⟩
  rcases hc with rfl | ⟨b, off, rfl, hb, hc⟩
  · simp at h9
  obtain ⟨g, cap1, w1, hr, hown, hgb, hglt, hbel⟩ := copy5 w b off cap l hl (by rintro rfl; simp at h9) (by omega)
  obtain ⟨k, hk, hk0⟩ : ∃ k : Nat, k < l.length - 8 ∧ (m : Int) % ((l.length : Int) - 8) = (k : Int) := ⟨m % (l.length - 8), Nat.mod_lt _ (by omega), by rw [show ((l.length : Int) - 8) = ((l.length - 8 : Nat) : Int) by omega, Int.natCast_emod]⟩
  obtain ⟨j, hj, hj0⟩ : ∃ j : Nat, j < 7 ∧ (n : Int) % 7 = (j : Int) := ⟨n % 7, by omega, by omega⟩
  obtain ⟨q, hq⟩ : ∃ q : Nat, q = k + 1 + j := ⟨_, rfl⟩
  have hq0 : (k : Int) + 1 + (j : Int) = (q : Int) := by omega
  -- the bytes that change places
  obtain ⟨x, hx⟩ : ∃ x, l[q]? = some x := ⟨_, List.getElem?_eq_getElem (by omega)⟩
  obtain ⟨y, hy⟩ : ∃ y, l[k]? = some y := ⟨_, List.getElem?_eq_getElem (by omega)⟩
  have cx : w1.cell? ⟨b, off + q, none⟩ = some (.int .u8 (x.toNat : Int)) := by
    rw [hbel.cell (p := ⟨b, off + q, none⟩) hb, hc _ (by omega)]
    obtain ⟨h, he⟩ := List.getElem?_eq_some_iff.1 hx
    rw [he]
  have cy0 : w1.cell? ⟨b, off + k, none⟩ = some (.int .u8 (y.toNat : Int)) := by
    rw [hbel.cell (p := ⟨b, off + k, none⟩) hb, hc _ (by omega)]
    obtain ⟨h, he⟩ := List.getElem?_eq_some_iff.1 hy
    rw [he]
  have gk : w1.cell? ⟨g, k, none⟩ = (bytes l)[k]? := World.ownsRow.cellAt (n := l.length) (by have := hown; unfold Own at this; rw [bytes_length] at this; exact this) k (by omega)
  have gk' : ∃ u, w1.cell? ⟨g, k, none⟩ = some u := ⟨_, by rw [gk, List.getElem?_eq_getElem (by rw [bytes_length]; omega)]⟩
  obtain ⟨u, gk1⟩ := gk'
  have hown' : Own w1 w.heap.size 5 (.slice (some ⟨g, 0, none⟩) (bytes l).length cap1) (bytes l) := by rw [bytes_length]; exact hown
  have fk : w1.frozen? ⟨g, k, none⟩ = false := World.ownsRow.frozenAt (n := (bytes l).length) hown' k
  obtain ⟨hown2, hg2⟩ := hown'.store k (.int .u8 (x.toNat : Int))
  have cy : (w1.setCell ⟨g, k, none⟩ (.int .u8 (x.toNat : Int))).cell? ⟨b, off + k, none⟩ = some (.int .u8 (y.toNat : Int)) := hg2.cell cy0 (by intro h; injection h with h; simp at h; omega)
  have fq : (w1.setCell ⟨g, k, none⟩ (.int .u8 (x.toNat : Int))).frozen? ⟨g, q, none⟩ = false := World.ownsRow.frozenAt (n := _) hown2 _
  obtain ⟨u2, gq⟩ : ∃ u, (w1.setCell ⟨g, k, none⟩ (.int .u8 (x.toNat : Int))).cell? ⟨g, q, none⟩ = some u :=
    ⟨_, by rw [World.ownsRow.cellAt hown2 _ (by rw [List.length_set, bytes_length]; omega), List.getElem?_eq_getElem (by rw [List.length_set, bytes_length]; omega)]⟩
  obtain ⟨hown3, hg3⟩ := hown2.store q (.int .u8 (y.toNat : Int))
  rw [bytes_set, bytes_set, bytes_length, List.length_set, List.length_set] at hown3
  have hb3 : Below w.heap.size w ((w1.setCell ⟨g, k, none⟩ (.int .u8 (x.toNat : Int))).setCell ⟨g, q, none⟩ (.int .u8 (y.toNat : Int))) :=
    (hbel.setCell (p := ⟨g, k, none⟩) hgb _).setCell (p := ⟨g, q, none⟩) hgb _
  have hx3 : Hid (l[q]? = some x) := Lib.hid hx
  have hy3 : Hid (l[k]? = some y) := Lib.hid hy
  clear gk hx hy cy0 hown hown' hown2
  have HQ : k < q ∧ q ≤ k + 7 := ⟨by omega, by omega⟩
  clear hq
  have HOWN3 := Lib.hid hown3
  clear hown3
  go_enter Try.func5, Try.ntmps5
  go_wp2_with (at_builtin; simp only [hk0, hj0]; refine wpList_run_append hr rfl _ _ rfl rfl rfl ?_; clear hk0 hj0 hq0)
  generalize (w1.setCell ⟨g, k, none⟩ (.int .u8 (x.toNat : Int))).setCell ⟨g, q, none⟩ (.int .u8 (y.toNat : Int)) = W3 at *
  have hown3 := HOWN3.out
  have sl3 := hown3.sl
  have sl0 := hl.below hb3
  clear hown3 HOWN3 cx cy gk1 fk fq gq hr hg2 hg3
  have ck : W3.cell? ⟨b, off + k, none⟩ = some (.int .u8 (y.toNat : Int)) := by
    rw [hb3.cell (p := ⟨b, off + k, none⟩) hb, hc _ (by omega)]
    obtain ⟨h, he⟩ := List.getElem?_eq_some_iff.1 hy3.out
    rw [he]
  have cq : W3.cell? ⟨b, off + q, none⟩ = some (.int .u8 (x.toNat : Int)) := by
    rw [hb3.cell (p := ⟨b, off + q, none⟩) hb, hc _ (by omega)]
    obtain ⟨h, he⟩ := List.getElem?_eq_some_iff.1 hx3.out
    rw [he]
  have told : ((((crc l).toNat : Int) == ((crc ((l.set k x).set q y)).toNat : Int)) == ((y.toNat : Int) == (x.toNat : Int))) = true := by
    refine beq_told _ _ _ ?_
    rw [swap_told l k q x y (by omega) (by omega) (by omega) hy3.out hx3.out]
    simp only [beq_iff_eq]
    constructor
    · rintro rfl; rfl
    · intro h; exact UInt8.toNat_inj.1 (by omega)
  refine wp_region_still_tail 16 (by kernel_rfl) (by kernel_rfl) ?_
  change wpStill _ _ W3.drew _ _ _
  simp only [List.take_succ_cons, List.take_zero, List.drop_succ_cons, List.drop_zero]
  have slA : Sl W3.drew (.slice (some ⟨b, off, none⟩) l.length cap) (bytes l) := sl0
  have slB : Sl W3.drew (.slice (some ⟨g, 0, none⟩) l.length cap1) (bytes ((l.set k x).set q y)) := sl3
  have hkl : k < l.length := by omega
  have hql : q < l.length := by omega
  repeat still_step
  still_call ((sum_any _ l _ slA (by omega)).mono fun e w' ⟨h, h'⟩ => ⟨h, h'.symm⟩)
  repeat still_step
  still_call ((sum_any _ _ _ slB (by simp; omega)).mono fun e w' ⟨h, h'⟩ => ⟨h, h'.symm⟩)
  repeat still_step
  refine wpStill_nil ?_
  go_wp2_with fail
  refine (goes_any _).mono ?_
  rintro e w' ⟨rfl, hb'⟩
  go_wp2_with fail
  go_ret
  exact ⟨rfl, hb3.drew.trans (hb'.mono hb3.drew.size)⟩

theorem own_crcSwap : ownKnob Try.prog.godebug = none := by kernel_rfl
theorem laidOut_crcSwap : laidOutB Try.prog = true := by kernel_rfl
set_option maxRecDepth 100000 in
theorem lifted_crcSwap (os : Os) (started : os.Started) (H : Type) (enc : TypeId × Value → H) :
    ReturnsInHanded {} Try.checked os 5 .any (Rows.crcSwapSpec.pre6 enc Try.prog Try.f5 Rows.crcSwapRow.domain false) (Rows.crcSwapSpec.post enc Try.prog Try.f5 false true false false) := by
  refine returnsInHanded_of_change (C := Try.checked) own_crcSwap started (by kernel_rfl) Try.func5
    (ChangeSpec.witness6 (enc := enc) (C := Try.checked) false ⟨#[], #[.slice none 0 0, .int .u16 0, .int .u8 0], []⟩ 8 (by kernel_rfl) (by kernel_rfl) (by kernel_rfl) (by kernel_rfl)) ?_
  intro W base args ds gs before hval0 hW hcnd _
  have hval : ∀ (j : Nat) t v, Try.f5.params[j]? = some t → args[j]? = some v → Value.okWide Try.prog W .any base t v := hval0
  have hW' := hW
  obtain ⟨p, q, hA0, hV, rfl, hfz, hnd⟩ := hW
  have hA : DataW.TrodAll enc Try.prog W 0 (fun _ => true) true Try.f5.params.toList args.toList ds p := hA0
  rw [Try.params5] at hA hval
  obtain ⟨v0, vs0, d0, ds0, p0, q0, hargs, rfl, rfl, k0, r0⟩ := trodAll_cons hA
  obtain ⟨v1, vs1, d1, ds1, p1, q1, rfl, rfl, rfl, k1, r1⟩ := trodAll_cons r0
  obtain ⟨v2, vs2, d2, ds2, p2, q2, rfl, rfl, rfl, k2, r2⟩ := trodAll_cons r1
  obtain ⟨rfl, rfl, rfl⟩ := trodAll_nil r2
  obtain rfl : args = #[v0, v1, v2] := by cases args; simp_all
  obtain ⟨rfl, rfl⟩ := trodVars_none hV
  have lt0 : ∀ x ∈ p0, x.block < W.heap.size := by obtain ⟨m, hm⟩ := k0; exact DataW.trod_lt m _ _ _ hm
  have lt1 : ∀ x ∈ p1, x.block < W.heap.size := by obtain ⟨m, hm⟩ := k1; exact DataW.trod_lt m _ _ _ hm
  have lt2 : ∀ x ∈ p2, x.block < W.heap.size := by obtain ⟨m, hm⟩ := k2; exact DataW.trod_lt m _ _ _ hm
  obtain ⟨l0, s0, w0⟩ := open_bytes Try.underlying22 Try.underlying5 (by kernel_rfl) (hval 0 22 v0 rfl rfl) k0
  obtain ⟨a1, rfl, w1⟩ := open_nat rfl Try.underlying27 (hval 1 27 v1 rfl rfl) k1
  obtain ⟨a2, rfl, w2⟩ := open_nat rfl Try.underlying5 (hval 2 5 v2 rfl rfl) k2
  clear hA0 hval0
  refine (swap_walk W v0 l0 s0 a1 a2 w1 w2  ).mono fun e W' ⟨he, bel⟩ => ?_
  subst he
  exact ⟨_, rfl, _, _, _, [], _, [], hW', trodAll_mk1 (shut_bool Try.underlying4 _), (trodAll_cons_mk (Below.trod laidOut_crcSwap (by kernel_rfl) (of_decide_eq_true (by kernel_rfl)) k0 bel lt0) (trodAll_cons_mk (Below.trod laidOut_crcSwap (by kernel_rfl) (of_decide_eq_true (by kernel_rfl)) k1 bel lt1) (trodAll_cons_mk (Below.trod laidOut_crcSwap (by kernel_rfl) (of_decide_eq_true (by kernel_rfl)) k2 bel lt2) trodAll_mk0))), rfl, bel.frame _, fun h => by cases h⟩

theorem over_crcSwap : Rows.crcSwapRow.holds Try.pinned (OpenSpec.ofChange Rows.crcSwapSpec) :=
  OpenClaim.holds_of_wide 5 Try.f5 rfl rfl rfl rfl rfl rfl rfl ⟨rfl, rfl, rfl, rfl, rfl⟩ rfl rfl rfl rfl rfl (by kernel_rfl) Try.func5 (by kernel_rfl)
    (of_decide_eq_true (by kernel_rfl)) (by unfold Func.isWrapper; first | (rw [if_pos (by decide +kernel)]; kernel_rfl) | (rw [if_neg (by decide +kernel)]; exact ⟨rfl, rfl⟩))
    (fun os started H enc _ => lifted_crcSwap os started H enc)

theorem crcSwap_proved : Rows.CrcSwapSaid := over_crcSwap
#print axioms crcSwap_proved
end Go.Proofs.Ytjomimbclcjkcaa
