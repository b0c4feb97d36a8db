/-
  WireBack: what is put is read back; one byte less or more is told. Every input; no conditions.
-/
import Derived.Test.YtiafpnibppjidaaParts
import Derived.Test.YtiafpnibppjidaaRdPuts
import Derived.Test.YtiafpnibppjidaaStructs
set_option linter.unusedVariables false
namespace Go.Proofs.Ytiafpnibppjidaa
open Go.RowKit

/-- The first k parts. -/
def firstP (P : Nat → PartOf) (k : Nat) : List PartOf := (List.range k).map P
def encP (P : Nat → PartOf) (k : Nat) : List UInt8 := pAll (firstP P k)
def restP (P : Nat → PartOf) (n k : Nat) : List UInt8 := pAll ((List.range' k (n - k)).map P)
theorem Sl.cut {w : World} {a : Option Addr} {cap : Nat} {xs : List Value} (h : Sl w (.slice a xs.length cap) xs) (k : Nat) (hk : k ≤ xs.length) : Sl w (.slice a k cap) (xs.take k) := by
  obtain ⟨a', cap', he, hcap, hx⟩ := h
  injection he with e1 e2 e3
  subst e1 e3
  have hl : (xs.take k).length = k := by simp [hk]
  refine ⟨a, cap, by rw [hl], by rw [hl]; omega, ?_⟩
  rcases hx with rfl | ⟨b, off, rfl, hlt, hx⟩
  · left; simp
  · exact .inr ⟨b, off, rfl, hlt, fun j hj => by rw [hx j (by omega)]; simp⟩
def ShortS (P : Nat → PartOf) (k : Nat) : Prop := ∀ j, j < k → (P j).s.length ≤ 200
theorem encP_succ (P : Nat → PartOf) (k : Nat) : encP P (k + 1) = encP P k ++ pPut (P k) := by simp [encP, firstP, pAll, List.range_succ]
theorem gAll_succ (P : Nat → PartOf) (k : Nat) (s : RS) : gAll (firstP P (k + 1)) s = (pGot (P k) (gAll (firstP P k) s)).2 := by simp [gAll, firstP, List.range_succ]
theorem restP_zero (P : Nat → PartOf) (n : Nat) : restP P n 0 = encP P n := by unfold restP encP firstP; rw [Nat.sub_zero, List.range_eq_range']
theorem restP_succ (P : Nat → PartOf) (n k : Nat) (h : k < n) : restP P n k = pPut (P k) ++ restP P n (k + 1) := by
  unfold restP
  rw [show n - k = (n - (k + 1)) + 1 by omega, List.range'_succ]
  simp [pAll]
theorem restP_end (P : Nat → PartOf) (n : Nat) : restP P n n = [] := by simp [restP, pAll]
theorem encP_len (P : Nat → PartOf) (k : Nat) (h : ∀ j, j < k → (P j).s.length ≤ 200) : (encP P k).length ≤ 204 * k := by
  induction k with
  | zero => simp [encP, firstP, pAll]
  | succ k ih =>
    have := ih fun j hj => h j (by omega)
    have := pPut_le (P k) (h k (by omega))
    rw [encP_succ, List.length_append]; omega
theorem encP_pos (P : Nat → PartOf) (k : Nat) (h : 0 < k) : 0 < (encP P k).length := by
  obtain ⟨m, rfl⟩ : ∃ m, k = m + 1 := ⟨k - 1, by omega⟩
  have := pPut_pos (P m)
  rw [encP_succ, List.length_append]; omega
theorem restP_len (P : Nat → PartOf) (n k : Nat) (h : k ≤ n) : (restP P n k).length ≤ (encP P n).length := by
  induction k with
  | zero => rw [restP_zero]; exact Nat.le_refl _
  | succ k ih =>
    have := ih (by omega)
    rw [restP_succ P n k (by omega), List.length_append] at this; omega
theorem gAll_left (ps : List PartOf) : ∀ s : RS, (gAll ps s).1.length ≤ s.1.length := by
  induction ps with
  | nil => intro s; exact Nat.le_refl _
  | cons p ps ih => intro s; exact Nat.le_trans (ih _) (pGot_left p s)
theorem below_got {B g : Nat} {w w1 w2 : World} (hb : Below B w w1) (hB : B ≤ w1.heap.size) (hg : w1.grownBy w2 (some g)) (h : B ≤ g) : Below B w w2 :=
  hb.grown hg hB (by rintro k hk; cases hk; exact h)

set_option maxHeartbeats 4000000 in
theorem back_walk (w : World) (va : Value) (n : Nat) (R : Nat → Nat → Value) (P : Nat → PartOf) (V : Nat → Value) (hr : Rows w va n 3 R)
    (hp : ∀ i, i < n → R i 0 = .int .u8 ((P i).d : Int) ∧ R i 1 = .int .u64 ((P i).v : Int) ∧ R i 2 = V i ∧ Sl w (V i) (bytes (P i).s) ∧ (P i).d < 256 ∧ (P i).v < 2 ^ 64) :
    Calls Try.prog 6 #[va] w fun e w' => e = .returned (.bool true) ∧ Below w.heap.size w w' := by
  obtain ⟨aa, ca, rfl, hca, hrow⟩ := hr
  by_cases h6 : 60 < n
  · go_enter Try.func6, Try.ntmps6
    go_wp2
    all_goals (go_ret; exact ⟨rfl, Below.refl _ _⟩)
  -- the cells of one part, in whatever world that has grown
  have hcells : ∀ k, k < n → ∃ B o av cv, aa = some ⟨B, o, none⟩ ∧ B < w.heap.size ∧ V k = .slice av (P k).s.length cv ∧
      (∀ W, Below w.heap.size w W → W.cell? ⟨B, o + k * 3, none⟩ = some (.int .u8 ((P k).d : Int)) ∧ W.cell? ⟨B, o + k * 3 + 1, none⟩ = some (.int .u64 ((P k).v : Int)) ∧ W.cell? ⟨B, o + k * 3 + 2, none⟩ = some (.slice av (P k).s.length cv)) := by
    intro k hk
    obtain ⟨B, o, rfl, hB, hcell⟩ := hrow.resolve_left (by omega)
    obtain ⟨p0, p1, p2, p3, p4, p5⟩ := hp k hk
    obtain ⟨av, cv, hv, _, _⟩ := p3.bytes
    refine ⟨B, o, av, cv, rfl, hB, hv, fun W hW => ⟨?_, ?_, ?_⟩⟩
    · rw [hW.cell (p := ⟨B, o + k * 3, none⟩) hB]; have := hcell k hk 0 (by decide); rw [p0] at this; exact this
    · rw [hW.cell (p := ⟨B, o + k * 3 + 1, none⟩) hB]; have := hcell k hk 1 (by decide); rw [p1] at this; exact this
    · rw [hW.cell (p := ⟨B, o + k * 3 + 2, none⟩) hB]; have := hcell k hk 2 (by decide); rw [p2, hv] at this; exact this
  have HC := Lib.hid hcells
  have HP := Lib.hid hp
  clear hcells hp hrow
  go_enter Try.func6, Try.ntmps6
  go_wp2
  go_loopw [3, 4] (fun b i wr => ∃ k : Nat, k ≤ n ∧ i = .int .i64 k ∧ Sl wr b (bytes (encP P k)) ∧ Below w.heap.size w wr ∧ ShortS P k) (fun _ i _ => n - (intOf i).toNat)
  case atStart => exact ⟨0, by omega, rfl, Sl.nil _ _ _, Below.refl _ _, fun j hj => absurd hj (Nat.not_lt_zero _)⟩
  case round =>
    obtain ⟨k, hk, rfl, sb, br, hle⟩ := hrel
    by_cases hlt : k < n
    · obtain ⟨B, o, av, cv, rfl, hB, hv, hc⟩ := HC.out k hlt
      obtain ⟨c0, c1, c2⟩ := hc _ br
      by_cases h2 : 200 < (P k).s.length
      · go_wp2
        go_ret
        exact ⟨rfl, br⟩
      have sv := (HP.out k hlt).2.2.2.1.below br
      rw [hv] at sv
      have hle' := encP_len P k hle
      have e1 := (HP.out k hlt).2.2.2.2.1
      have e2 := (HP.out k hlt).2.2.2.2.2
      clear hc hv
      go_wp2_with fail
      refine (put_any _ _ _ _ (P k) sb sv (by omega) e1 e2 (by omega)).mono ?_
      rintro e w2 ⟨v2, rfl, ho2, hb2⟩
      have b2 := br.trans (hb2.mono br.size)
      rw [← encP_succ] at ho2
      go_wp2
      go_roundw
      case rel => exact ⟨k + 1, by omega, by go_num, ho2.sl, b2, fun j hj => by
        rcases Nat.lt_or_ge j k with h | h
        · exact hle j h
        · obtain rfl : j = k := by omega
          omega⟩
      case measure => simp [intOf]; omega
    · obtain rfl : n = k := by omega
      have hlen := encP_len P n hle
      obtain ⟨ab, cb, rfl, hcb, _⟩ := sb.bytes
      go_wp2_with fail
      refine (new_any _ _ _ sb (by omega)).mono ?_
      rintro e w1 ⟨g, rfl, r1, hn1⟩
      have b1 := br.trans (hn1.mono br.size)
      have sb1 := sb.below hn1
      have hgb : bytes (encP P n) = [] ∨ ∀ k, (Value.slice ab (encP P n).length cb).ownBlock = some k → k ≠ g := by
        rcases sb.own_lt with h | h
        · exact .inl h
        · exact .inr fun k hk => by have := h k hk; have : wr.heap.size ≤ g := r1.1; omega
      have hgw : w.heap.size ≤ g := Nat.le_trans br.size r1.1
      have r1' : Rs w1 (From w.heap.size) g (restP P n 0, false) := by rw [restP_zero]; exact Rd.mono r1 (fun k h => Nat.le_trans br.size h)
      clear r1 sb hn1 br
      go_wp2
      go_loopw [6] (fun i wr => ∃ k : Nat, k ≤ n ∧ i = .int .i64 k ∧ Rs wr (From w.heap.size) g (restP P n k, false) ∧ Sl wr (.slice ab (encP P n).length cb) (bytes (encP P n)) ∧ Below w.heap.size w wr) (fun i _ => n - (intOf i).toNat)
      case atStart => exact ⟨0, by omega, rfl, r1', sb1, b1⟩
      case round =>
        clear sb1 b1 r1'
        obtain ⟨k, hk, rfl, rr, sb, br⟩ := hrel
        by_cases hlt : k < n
        · obtain ⟨B, o, av, cv, rfl, hB, hv, hc⟩ := HC.out k hlt
          obtain ⟨c0, c1, c2⟩ := hc _ br
          have sv0 := (HP.out k hlt).2.2.2.1
          rw [hv] at sv0
          have hne : bytes (P k).s = [] ∨ ∀ m, (Value.slice av (P k).s.length cv).ownBlock = some m → m ≠ g := by
            rcases sv0.own_lt with h | h
            · exact .inl h
            · exact .inr fun m hm => by have := h m hm; omega
          have sv := sv0.below br
          have e1 := (HP.out k hlt).2.2.2.2.1
          have e2 := (HP.out k hlt).2.2.2.2.2
          have hl2 : (restP P n k, false).1.length ≤ 1000000000 := by have := restP_len P n k (by omega); show (restP P n k).length ≤ _; omega
          have hpp := pGot_put (P k) ⟨e2, by have := hle k hlt; omega⟩ (restP P n (k + 1))
          rw [← restP_succ P n k hlt] at hpp
          clear hc hv sv0
          go_wp2_with fail
          refine (got_any _ _ g _ _ (P k) rr sv hne hl2 e1 e2).mono ?_
          rintro e w2 ⟨rfl, r2, hg2⟩
          rw [hpp] at r2 ⊢
          have b2 := below_got br br.size hg2 hgw
          have sb2 := sb.chN (Ch.of_grownBy (ρ := fun k => k = g) hg2 (fun k hk => by cases hk; rfl)) hgb
          clear rr sb br hg2 sv
          go_wp2
          go_roundw
          case rel => exact ⟨k + 1, by omega, by go_num, r2, sb2, b2⟩
          case measure => simp [intOf]; omega
        · obtain rfl : n = k := by omega
          rw [restP_end] at rr
          go_wp2_with fail
          refine (get_done _ _ _ _ rr (by decide)).mono ?_
          rintro e w2 ⟨rfl, rfl⟩
          rw [show rDone ([], false) = 0 from by decide]
          by_cases hn0 : n = 0
          · subst hn0
            have hl0 : (encP P 0).length = 0 := rfl
            go_wp2_with fail
            refine (puts_any _).mono ?_
            rintro e w' ⟨rfl, hb'⟩
            go_wp2_with fail
            go_ret
            exact ⟨rfl, br.trans (hb'.mono br.size)⟩
          have hpos := encP_pos P n (by omega)
          clear rr
          go_wp2_with fail
          have sx : Sl wr (.slice ab ((encP P n).length - 1) cb) (bytes ((encP P n).take ((encP P n).length - 1))) := by
            have sb' : Sl wr (.slice ab (bytes (encP P n)).length cb) (bytes (encP P n)) := by rw [bytes_length]; exact sb
            have := sb'.cut ((encP P n).length - 1) (by rw [bytes_length]; omega)
            rw [bytes_take] at this
            exact this
          refine (new_any2 _ _ _ sx (by simp; omega)).mono ?_
          rintro e w2 ⟨gx, rfl, rx, hx⟩
          have b2 := br.trans (hx.mono br.size)
          have sb2 := sb.below hx
          have hwx : w.heap.size ≤ wr.heap.size := br.size
          clear sb sx br
          obtain ⟨v3, w3, hr3, ho3, hg3⟩ := run_append_u8 (w2.alloc (.cells #[] 5)) w2.heap.size (.slice (some ⟨w2.heap.size, 0, none⟩) 0 0) (.slice ab (encP P n).length cb) [] (encP P n) (Own.nil_lit _ _ (Nat.le_refl _)) (sb2.below ((Below.refl _ _).alloc (Nat.le_refl _) _)) (by simp; omega) (by simp)
          obtain ⟨v4, w4, hr4, ho4, hg4⟩ := run_append_u8 (w3.alloc (.cells #[.int .u8 0] 5)) w2.heap.size v3 (.slice (some ⟨w3.heap.size, 0, none⟩) 1 1) ([] ++ encP P n) [0] (World.ownsRow.alloc ho3 _) (Sl.new w3 [.int .u8 0] _ _ _ _ rfl (by decide)) (by simp; omega) (Nat.le_trans (Nat.le_trans (by simp) hg3.size) (by simp))
          have b3 : Below w2.heap.size w2 w3 := ((Below.refl _ _).alloc (Nat.le_refl _) _).grown hg3 (by simp) (fun k hk => by simp [Value.ownBlock] at hk; omega)
          have b4 : Below w2.heap.size w2 w4 := (b3.alloc b3.size _).grown hg4 (Nat.le_trans b3.size (by simp)) (fun k hk => ho3.ownBlock_ge k hk)
          clear hg3 hg4 ho3 sb2
          go_wp2_with (at_builtin; first | refine wpList_run_append hr3 rfl _ _ rfl rfl rfl ?_ | refine wpList_run_append hr4 rfl _ _ rfl rfl rfl ?_)
          refine (new_any _ _ _ ho4.sl (by simp; omega)).mono ?_
          rintro e w5 ⟨gy, rfl, ry, hy⟩
          have b5 := b4.trans (hy.mono b4.size)
          have rx5 : Rs w5 (fun k => wr.heap.size ≤ k ∧ k < w2.heap.size) gx ((encP P n).take ((encP P n).length - 1), false) := Rd.grown rx (below_grownBy b5 none) (by simp)
          have ry5 : Rs w5 (From w2.heap.size) gy (encP P n ++ [0], false) := Rd.mono ry (fun k h => Nat.le_trans b4.size h)
          have bw5 := b2.trans (b5.mono b2.size)
          have hgx : wr.heap.size ≤ gx ∧ gx < w2.heap.size := rx.1
          have hgy : w2.heap.size ≤ gy := ry5.1
          clear rx ry b5 b4 hy b3 ho4 hr3 hr4 b2 hgb
          go_wp2
          go_loopw [9] (fun i W => ∃ k : Nat, k ≤ n ∧ i = .int .i64 k ∧ Rs W (fun k => wr.heap.size ≤ k ∧ k < w2.heap.size) gx (gAll (firstP P k) ((encP P n).take ((encP P n).length - 1), false)) ∧ Rs W (From w2.heap.size) gy (gAll (firstP P k) (encP P n ++ [0], false)) ∧ Below w.heap.size w W) (fun i _ => n - (intOf i).toNat)
          case atStart => exact ⟨0, by omega, rfl, rx5, ry5, bw5⟩
          case round =>
            clear rx5 ry5 bw5
            obtain ⟨k, hk, rfl, rx, ry, br⟩ := hrel
            by_cases hlt : k < n
            · obtain ⟨B, o, av, cv, rfl, hB, hv, hc⟩ := HC.out k hlt
              obtain ⟨c0, c1, c2⟩ := hc _ br
              have sv0 := (HP.out k hlt).2.2.2.1
              rw [hv] at sv0
              have hnx : bytes (P k).s = [] ∨ ∀ m, (Value.slice av (P k).s.length cv).ownBlock = some m → m ≠ gx := by
                rcases sv0.own_lt with h | h
                · exact .inl h
                · exact .inr fun m hm => by have := h m hm; omega
              have hny : bytes (P k).s = [] ∨ ∀ m, (Value.slice av (P k).s.length cv).ownBlock = some m → m ≠ gy := by
                rcases sv0.own_lt with h | h
                · exact .inl h
                · exact .inr fun m hm => by have := h m hm; omega
              have sv := sv0.below br
              have e1 := (HP.out k hlt).2.2.2.2.1
              have e2 := (HP.out k hlt).2.2.2.2.2
              have hlx : (gAll (firstP P k) ((encP P n).take ((encP P n).length - 1), false)).1.length ≤ 1000000000 := by have := gAll_left (firstP P k) ((encP P n).take ((encP P n).length - 1), false); simp at this; omega
              have hly : (gAll (firstP P k) (encP P n ++ [0], false)).1.length ≤ 1000000000 := by have := gAll_left (firstP P k) (encP P n ++ [0], false); simp at this; omega
              have HLX := Lib.hid hlx
              have HLY := Lib.hid hly
              clear sv hlx hly
              go_wp2_with fail
              refine (got_any _ _ gx _ _ (P k) rx (sv0.below br) hnx HLX.out e1 e2).mono ?_
              rintro e w6 ⟨rfl, rx6, hg6⟩
              rw [← gAll_succ] at rx6
              have ry6 := Rd.grown ry hg6 (fun k hk => by cases hk; show ¬ w2.heap.size ≤ gx; omega)
              have b6 := below_got br br.size hg6 (by omega)
              obtain ⟨c0, c1, c2⟩ := hc _ b6
              clear rx ry br hg6
              go_wp2_with fail
              refine (got_any _ _ gy _ _ (P k) ry6 (sv0.below b6) hny HLY.out e1 e2).mono ?_
              rintro e w7 ⟨rfl, ry7, hg7⟩
              have ry7' : Rs w7 (From w2.heap.size) gy (gAll (firstP P (k + 1)) (encP P n ++ [0], false)) := by rw [gAll_succ]; exact ry7
              have rx7 := Rd.grown rx6 hg7 (fun k hk => by cases hk; exact fun h => absurd h.2 (Nat.not_lt.2 hgy))
              have b7 := below_got b6 b6.size hg7 (by omega)
              clear rx6 ry6 b6 hg7 ry7 sv0 hc hv
              go_wp2
              go_roundw
              case rel => exact ⟨k + 1, by omega, by go_num, rx7, ry7', b7⟩
              case measure => simp [intOf]; omega
            · obtain rfl : n = k := by omega
              have hok : ∀ p ∈ firstP P n, p.ok := by
                intro p hp
                obtain ⟨j, hj, rfl⟩ := List.mem_map.1 hp
                have hj' := List.mem_range.1 hj
                exact ⟨(HP.out j hj').2.2.2.2.2, by have := hle j hj'; omega⟩
              obtain ⟨l', hx'⟩ := gAll_short (firstP P n) hok ((encP P n).take ((encP P n).length - 1)) (by simp; show _ < (encP P n).length; omega) (List.take_prefix _ _)
              have hy' := gAll_put (firstP P n) hok [0]
              rw [hx'] at rx
              rw [show encP P n = pAll (firstP P n) from rfl, hy'] at ry
              have hl' : l'.length ≤ 1000000000 := by
                have := gAll_left (firstP P n) ((encP P n).take ((encP P n).length - 1), false)
                rw [hx'] at this
                simp at this
                omega
              clear hx' hy'
              go_wp2_with fail
              refine (get_done _ _ _ _ rx hl').mono ?_
              rintro e w6 ⟨rfl, rfl⟩
              rw [rDone_bad]
              go_wp2_with fail
              refine (get_done _ _ _ _ ry (by decide)).mono ?_
              rintro e w6 ⟨rfl, rfl⟩
              rw [show rDone ([0], false) = 2 from by decide]
              go_wp2_with fail
              refine (puts_any _).mono ?_
              rintro e w' ⟨rfl, hb'⟩
              go_wp2_with fail
              go_ret
              exact ⟨rfl, br.trans (hb'.mono br.size)⟩

/-- As it is called: of each row's cells that they read. -/
theorem back_walk' (w : World) (va : Value) (n : Nat) (R : Nat → Nat → Value) (hr : Rows w va n 3 R)
    (hp : ∀ i, i < n → ∃ p : PartOf, R i 0 = .int .u8 (p.d : Int) ∧ R i 1 = .int .u64 (p.v : Int) ∧ Sl w (R i 2) (bytes p.s) ∧ p.d < 256 ∧ p.v < 2 ^ 64) :
    Calls Try.prog 6 #[va] w fun e w' => e = .returned (.bool true) ∧ Below w.heap.size w w' := by
  refine back_walk w va n R (fun i => if h : i < n then (hp i h).choose else ⟨0, 0, []⟩) (fun i => R i 2) hr fun i hi => ?_
  simp only [hi, dif_pos]
  have := (hp i hi).choose_spec
  exact ⟨this.1, this.2.1, trivial, this.2.2.1, this.2.2.2.1, this.2.2.2.2⟩

open Go.ChangeShapes Go.WideShapes Go.ChangeAt Go.RowKit
open Go.ChangeMaps (open_string shut_string)
theorem own_wireBack : ownKnob Try.prog.godebug = none := by kernel_rfl
theorem laidOut_wireBack : laidOutB Try.prog = true := by kernel_rfl
set_option maxRecDepth 100000 in
theorem lifted_wireBack (os : Os) (started : os.Started) (H : Type) (enc : TypeId × Value → H) :
    ReturnsInHanded {} Try.checked os 6 .any (Rows.wireBackSpec.pre6 enc Try.prog Try.f6 Rows.wireBackRow.domain false) (Rows.wireBackSpec.post enc Try.prog Try.f6 false true false false) := by
  refine returnsInHanded_of_change (C := Try.checked) own_wireBack started (by kernel_rfl) Try.func6
    (ChangeSpec.witness6 (enc := enc) (C := Try.checked) false ⟨#[], #[.slice none 0 0], []⟩ 8 (by kernel_rfl) (by kernel_rfl) (by kernel_rfl) (by kernel_rfl)) ?_
  intro W base args ds gs before hval0 hW hcnd _
  have hval : ∀ (j : Nat) t v, Try.f6.params[j]? = some t → args[j]? = some v → Value.okWide Try.prog W .any base t v := hval0
  have hW' := hW
  obtain ⟨p, q, hA0, hV, rfl, hfz, hnd⟩ := hW
  have hA : DataW.TrodAll enc Try.prog W 0 (fun _ => true) true Try.f6.params.toList args.toList ds p := hA0
  rw [Try.params6] at hA hval
  obtain ⟨v0, vs0, d0, ds0, p0, q0, hargs, rfl, rfl, k0, r0⟩ := trodAll_cons hA
  obtain ⟨rfl, rfl, rfl⟩ := trodAll_nil r0
  obtain rfl : args = #[v0] := by cases args; simp_all
  obtain ⟨rfl, rfl⟩ := trodVars_none hV
  have lt0 : ∀ x ∈ p0, x.block < W.heap.size := by obtain ⟨m, hm⟩ := k0; exact DataW.trod_lt m _ _ _ hm
  obtain ⟨n0, R0, s0, w0, f0⟩ := open_rows Try.underlying35 Try.underlying37 (by kernel_rfl) (by kernel_rfl) (by decide) (hval 0 35 v0 rfl rfl) k0
  clear hA0 hval0
  refine (back_walk' W v0 n0 R0 s0 (fun i hi => by obtain ⟨_, _, h0⟩ := f0 i hi 0 _ rfl; obtain ⟨_, _, h1⟩ := f0 i hi 1 _ rfl; obtain ⟨_, _, h2⟩ := f0 i hi 2 _ rfl; obtain ⟨d, hd, ld⟩ := cell_nat rfl Try.underlying5 h0; obtain ⟨v, hv, lv⟩ := cell_nat rfl Try.underlying22 h1; obtain ⟨s, hs, _⟩ := cell_bytes Try.underlying23 Try.underlying5 (by kernel_rfl) h2; exact ⟨⟨d, v, s⟩, hd, hv, hs, ld, lv⟩)).mono fun e W' ⟨he, bel⟩ => ?_
  subst he
  exact ⟨_, rfl, _, _, _, [], _, [], hW', trodAll_mk1 (shut_bool Try.underlying4 _), (trodAll_cons_mk (Below.trod laidOut_wireBack (by kernel_rfl) (of_decide_eq_true (by kernel_rfl)) k0 bel lt0) trodAll_mk0), rfl, bel.frame _, fun h => by cases h⟩

theorem over_wireBack : Rows.wireBackRow.holds Try.pinned (OpenSpec.ofChange Rows.wireBackSpec) :=
  OpenClaim.holds_of_wide 6 Try.f6 rfl rfl rfl rfl rfl rfl rfl ⟨rfl, rfl, rfl, rfl, rfl⟩ rfl rfl rfl rfl rfl (by kernel_rfl) Try.func6 (by kernel_rfl)
    (of_decide_eq_true (by kernel_rfl)) (by unfold Func.isWrapper; first | (rw [if_pos (by decide +kernel)]; kernel_rfl) | (rw [if_neg (by decide +kernel)]; exact ⟨rfl, rfl⟩))
    (fun os started H enc _ => lifted_wireBack os started H enc)

theorem wireBack_proved : Rows.WireBackSaid := over_wireBack
#print axioms wireBack_proved
end Go.Proofs.Ytiafpnibppjidaa
