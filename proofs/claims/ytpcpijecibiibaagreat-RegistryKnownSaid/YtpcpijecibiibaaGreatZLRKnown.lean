/-
  RegistryKnown: what is known of registries holds.
-/
import Derived.Test.YtpcpijecibiibaaGreatZRgE
import Derived.JoinedCond
set_option linter.unusedVariables false
set_option linter.unusedSimpArgs false
set_option maxRecDepth 100000
namespace Go.Proofs.YtpcpijecibiibaaGreat
open Go.RowKit
theorem own_cells {W : World} {base : Nat} {e : TypeId} {v : Value} {xs : List Value} (h : Own W base e v xs) (hn : xs ≠ []) : ∃ b cap cur, v = .slice (some ⟨b, 0, none⟩) xs.length cap ∧ base ≤ b ∧ CellsAt W b cur e ∧ cur.take xs.length = xs := by
  rcases h.2 with ⟨_, h1⟩ | ⟨g, cap, cur, hv, hb, hh, hc, _, _, ht⟩
  · exact absurd (List.eq_nil_of_length_eq_zero h1) hn
  · exact ⟨g, cap, cur.toList, hv, hb, hh, by simpa using ht⟩
theorem take_get {cur xs : List Value} (h : cur.take xs.length = xs) (k : Nat) (hk : k < xs.length) : cur[k]? = xs[k]? := by
  have h2 : (cur.take xs.length)[k]? = xs[k]? := by rw [h]
  rw [List.getElem?_take, if_pos hk] at h2
  exact h2
theorem apply_nil (W : World) (v : Value) (l : List UInt8) (hs : Sl W v (bytes l)) (hl : l.length ≤ 1000000000) : Calls Tryz.prog 12 #[.pointer none, v] W fun e W' => e = .returned (.tuple #[]) ∧ Gr W W' :=
  (apply_any W (fun _ => False) (.pointer none) ⟨0, []⟩ (.inl ⟨rfl, rfl⟩) ⟨by simp, by simp, fun t ht => (by cases ht)⟩ v l hs hl).mono fun e W' ⟨h1, h2⟩ => ⟨h1, by
    rcases h2 with ⟨_, _, h⟩ | ⟨g, h, _⟩
    · exact h
    · cases h⟩
theorem nilV (W : World) : RegV W (fun _ => False) (.pointer none) ⟨0, []⟩ := .inl ⟨rfl, rfl⟩
theorem bad_want {r : RegD} {s n : Int} (hs : I64 s) (hn : I64 n) (h : (kindP 8).all (mayPart (wantX s n)) = false) : applyG r (putV (wantX s n)).1 = r :=
  applyP_not (wantX_ok hs hn) (wantX_big s n) fun m => by
    have h2 : (kindP 8).all (mayPart (wantX s n)) = true := m.2.1
    rw [h] at h2; cases h2
def tz : Tok := tok0 3
def kst : Nat → RegD
  | 0 => ⟨3, [tz, tz, tz, tz]⟩
  | 1 => ⟨3, [tz, tz, tz, ⟨1, 0, [0, 0, 0], []⟩]⟩
  | 2 => ⟨3, [tz, tz, tz, ⟨1, 0, [0, 0, 0], [1]⟩]⟩
  | 3 => ⟨3, [tz, tz, tz, ⟨1, 0, [0, 0, 0], [1, 2]⟩]⟩
  | 4 => ⟨3, [tz, tz, tz, ⟨2, 1, [5, 0, 0], [2]⟩]⟩
  | _ => ⟨3, [tz, tz, tz, ⟨3, 2, [5, 7, 0], []⟩]⟩
theorem k_want (k : Nat) (h : k < 3) : applyG (kst k) (putV (wantX (k : Int) 3)).1 = kst (k + 1) := by
  have : k = 0 ∨ k = 1 ∨ k = 2 := by omega
  rcases this with rfl | rfl | rfl <;> exact (applyW ⟨by decide, by decide⟩ ⟨by decide, by decide⟩).trans rfl
theorem k_b1 : applyG (kst 3) (putV (backX 0 3 1 [1, 2])).1 = kst 3 := (applyB ⟨by decide, by decide⟩ ⟨by decide, by decide⟩ (by decide) (by simp) (by decide)).trans rfl
theorem k_b2 : applyG (kst 3) (putV (backX 1 3 1 [1, 2, 3])).1 = kst 3 := (applyB ⟨by decide, by decide⟩ ⟨by decide, by decide⟩ (by decide) (by simp) (by decide)).trans rfl
theorem k_b3 : applyG (kst 3) (putV (backX 0 3 1 [5, 0, 0])).1 = kst 4 := (applyB ⟨by decide, by decide⟩ ⟨by decide, by decide⟩ (by decide) (by simp) (by decide)).trans rfl
theorem k_b4 : applyG (kst 4) (putV (backX 1 3 2 [1, 7, 0])).1 = kst 5 := (applyB ⟨by decide, by decide⟩ ⟨by decide, by decide⟩ (by decide) (by simp) (by decide)).trans rfl
set_option maxHeartbeats 60000000 in
theorem known_walk (w : World) : Calls Tryz.prog 8 #[] w fun e w' => e = .returned (.bool true) ∧ Below w.heap.size w w' := by
  go_enter Tryz.func8, Tryz.ntmps8
  go_wp2_with fail
  refine (want2 _ 0 0 ⟨by decide, by decide⟩ ⟨by decide, by decide⟩).mono ?_
  rintro en wA ⟨E, rfl, HB, gA⟩
  have G := Lib.hid gA
  clear gA
  go_wp2_with fail
  refine (HB.out _ (Gr.refl _)).mono ?_
  rintro en wB ⟨v, rfl, sB, gB⟩
  obtain ⟨aB, cB, hvB⟩ := sB.oneCells
  rw [bytes_length] at hvB
  subst hvB
  have SB := Lib.hid sB
  replace G := Lib.hid (G.out.trans gB)
  clear gB sB HB
  go_wp2_with fail
  refine (apply_nil _ _ _ SB.out (put_len _)).mono ?_
  rintro en wC ⟨rfl, gC⟩
  replace G := Lib.hid (G.out.trans gC)
  clear gC SB
  go_wp2_with fail
  refine (holder_any _ _ _ _ (nilV _) 0).mono ?_
  rintro en wD ⟨he, gD⟩
  obtain rfl : en = .returned (.tuple #[.int .i64 (-1), .int .u64 0, .bool false]) := he
  replace G := Lib.hid (G.out.trans gD)
  clear gD
  go_wp2_with fail
  refine (queue_any _ _ _ _ (nilV _) 0 (by decide)).mono ?_
  rintro en wE ⟨vq, rfl, oq, gE⟩
  obtain ⟨aq, cq, hsh⟩ := oq.shape
  replace hsh : vq = .slice aq 0 cq := hsh
  subst hsh
  replace G := Lib.hid (G.out.trans gE)
  clear gE oq
  go_wp2_with fail
  refine (frontier_any _ _ _ _ (nilV _) 0 (by decide)).mono ?_
  rintro en wF ⟨vf, rfl, oF, gF⟩
  obtain ⟨af, cf, hsh⟩ := oF.shape
  replace hsh : vf = .slice af 0 cf := hsh
  subst hsh
  have G0 := Lib.hid (G.out.trans gF)
  clear gF oF G
  as_aux_lemma =>
  go_wp2_with fail
  refine (new_own wF 3 4).mono ?_
  rintro en w1 ⟨gv, P, rfl, hR, g1⟩
  have R : Hid (RegN wF w1 gv P (kst 0)) := Lib.hid hR
  have G := Lib.hid g1
  clear hR g1
  go_wp2_with fail
  refine (want2 _ 3 0 ⟨by decide, by decide⟩ ⟨by decide, by decide⟩).mono ?_
  rintro en wA ⟨E, rfl, HB, gA⟩
  replace R := Lib.hid (R.out.gr gA)
  replace G := Lib.hid (G.out.trans gA)
  clear gA
  obtain ⟨L, hL⟩ : ∃ L, L = (putV (wantX 3 0)).1 := ⟨_, rfl⟩
  have LL : Hid (L.length ≤ 1000000000) := Lib.hid (by rw [hL]; exact put_len _)
  have AP : Hid (applyG (kst 0) L = kst 0) := Lib.hid (by rw [hL]; exact bad_want ⟨by decide, by decide⟩ ⟨by decide, by decide⟩ rfl)
  replace HB : Hid (∀ W, Gr wA W → Calls Tryz.prog 13 #[.agg E] W (RetSl W L)) := Lib.hid (by rw [hL]; exact HB.out)
  clear hL
  go_wp2_with fail
  refine (HB.out _ (Gr.refl _)).mono ?_
  rintro en wB ⟨v, rfl, sB, gB⟩
  obtain ⟨aB, cB, hvB⟩ := sB.oneCells
  rw [bytes_length] at hvB
  subst hvB
  have SB := Lib.hid sB
  replace R := Lib.hid (R.out.gr gB)
  replace G := Lib.hid (G.out.trans gB)
  clear gB sB HB
  go_wp2_with fail
  refine (apply_own wF _ _ _ _ R.out _ _ SB.out LL.out G.out.size).mono ?_
  rintro en wC ⟨rfl, ⟨P2, hR, _, hPn⟩, hc⟩
  replace G := Lib.hid (R.out.after G.out hc)
  rw [AP.out] at hR
  replace R := Lib.hid hR
  clear hR hc SB hPn LL AP
  go_wp2_with fail
  refine (want2 _ 0 4 ⟨by decide, by decide⟩ ⟨by decide, by decide⟩).mono ?_
  rintro en wA ⟨E, rfl, HB, gA⟩
  replace R := Lib.hid (R.out.gr gA)
  replace G := Lib.hid (G.out.trans gA)
  clear gA
  obtain ⟨L, hL⟩ : ∃ L, L = (putV (wantX 0 4)).1 := ⟨_, rfl⟩
  have LL : Hid (L.length ≤ 1000000000) := Lib.hid (by rw [hL]; exact put_len _)
  have AP : Hid (applyG (kst 0) L = kst 0) := Lib.hid (by rw [hL]; exact bad_want ⟨by decide, by decide⟩ ⟨by decide, by decide⟩ rfl)
  replace HB : Hid (∀ W, Gr wA W → Calls Tryz.prog 13 #[.agg E] W (RetSl W L)) := Lib.hid (by rw [hL]; exact HB.out)
  clear hL
  go_wp2_with fail
  refine (HB.out _ (Gr.refl _)).mono ?_
  rintro en wB ⟨v, rfl, sB, gB⟩
  obtain ⟨aB, cB, hvB⟩ := sB.oneCells
  rw [bytes_length] at hvB
  subst hvB
  have SB := Lib.hid sB
  replace R := Lib.hid (R.out.gr gB)
  replace G := Lib.hid (G.out.trans gB)
  clear gB sB HB
  go_wp2_with fail
  refine (apply_own wF _ _ _ _ R.out _ _ SB.out LL.out G.out.size).mono ?_
  rintro en wC ⟨rfl, ⟨P2, hR, _, hPn⟩, hc⟩
  replace G := Lib.hid (R.out.after G.out hc)
  rw [AP.out] at hR
  replace R := Lib.hid hR
  clear hR hc SB hPn LL AP
  go_wp2_with fail
  refine (holder_any _ _ _ _ R.out.v 0).mono ?_
  rintro en w2 ⟨he, g5⟩
  obtain rfl : en = .returned (.tuple #[.int .i64 (-1), .int .u64 0, .bool false]) := he
  replace R := Lib.hid (R.out.gr g5)
  replace G := Lib.hid (G.out.trans g5)
  clear g5
  go_wp2_with fail
  obtain ⟨P0, hP0⟩ : ∃ P0 : Nat → Prop, P0 = P2 := ⟨_, rfl⟩
  rw [← hP0] at R
  clear hP0
  go_loopw [9] (fun i wr => ∃ (k : Nat) (P : Nat → Prop), k ≤ 3 ∧ i = .int .i64 k ∧ RegN wF wr gv P (kst k) ∧ Gr wF wr) (fun i _ => 3 - (intOf i).toNat)
  case atStart => exact ⟨0, P0, Nat.zero_le _, rfl, R.out, G.out⟩
  case round =>
    clear R G
    obtain ⟨k, P3, hk, rfl, hR, hG⟩ := hrel
    obtain ⟨wo, rfl⟩ : ∃ wo : World, wo = wr := ⟨_, rfl⟩
    have R := Lib.hid hR
    have G := Lib.hid hG
    clear hR hG
    by_cases hlt : k < 3
    · as_aux_lemma =>
      have i2 : ((k : Int) < 3) = True := by simp <;> omega
      have HLT := Lib.hid hlt
      clear hlt hk
      go_wp2_with fail
      refine (want2 _ (k : Int) 3 ⟨by have := HLT.out; omega, by have := HLT.out; omega⟩ ⟨by decide, by decide⟩).mono ?_
      rintro en wA ⟨E, rfl, HB, gA⟩
      replace R := Lib.hid (R.out.gr gA)
      replace G := Lib.hid (G.out.trans gA)
      clear gA
      obtain ⟨L, hL⟩ : ∃ L, L = (putV (wantX (k : Int) 3)).1 := ⟨_, rfl⟩
      have LL : Hid (L.length ≤ 1000000000) := Lib.hid (by rw [hL]; exact put_len _)
      have AP : Hid (applyG (kst k) L = kst (k + 1)) := Lib.hid (by rw [hL]; exact k_want k HLT.out)
      replace HB : Hid (∀ W, Gr wA W → Calls Tryz.prog 13 #[.agg E] W (RetSl W L)) := Lib.hid (by rw [hL]; exact HB.out)
      clear hL
      go_wp2_with fail
      refine (HB.out _ (Gr.refl _)).mono ?_
      rintro en wB ⟨v, rfl, sB, gB⟩
      obtain ⟨aB, cB, hvB⟩ := sB.oneCells
      rw [bytes_length] at hvB
      subst hvB
      have SB := Lib.hid sB
      replace R := Lib.hid (R.out.gr gB)
      replace G := Lib.hid (G.out.trans gB)
      clear gB sB HB
      go_wp2_with fail
      refine (apply_own wF _ _ _ _ R.out _ _ SB.out LL.out G.out.size).mono ?_
      rintro en wC ⟨rfl, ⟨P2, hR, _, hPn⟩, hc⟩
      replace G := Lib.hid (R.out.after G.out hc)
      rw [AP.out] at hR
      replace R := Lib.hid hR
      clear hR hc SB hPn LL AP
      clear i2
      have kw : wrap64 ((k : Int) + 1) = (k : Int) + 1 := by have := HLT.out; unfold wrap64; omega
      go_wp2
      go_roundw
      case rel => exact ⟨k + 1, _, by have := HLT.out; omega, by go_num, R.out, G.out⟩
      case measure =>
        have hk3 := HLT.out
        have h9 : 3 - (k + 1) < 3 - k := by omega
        (try rw [kw])
        clear kw
        simp [intOf]; omega
    · as_aux_lemma =>
      obtain rfl : k = 3 := by omega
      clear hlt hk
      obtain ⟨wC, hwC⟩ : ∃ wC, wC = wo := ⟨_, rfl⟩
      rw [← hwC] at R G ⊢
      clear hwC
      go_wp2_with fail
      refine (back2 _ 0 3 1 _ [1, 2] (Sl.new wC [.int .u64 1, .int .u64 2] _ _ 2 2 rfl (by decide)) ⟨by decide, by decide⟩ ⟨by decide, by decide⟩ (by decide) (by simp) (by decide)).mono ?_
      rintro en wA ⟨E, rfl, HB, gA0⟩
      have gA := ((Gr.refl wC).alloc _).trans gA0
      clear gA0
      replace R := Lib.hid (R.out.gr gA)
      replace G := Lib.hid (G.out.trans gA)
      clear gA
      obtain ⟨L, hL⟩ : ∃ L, L = (putV (backX 0 3 1 [1, 2])).1 := ⟨_, rfl⟩
      have LL : Hid (L.length ≤ 1000000000) := Lib.hid (by rw [hL]; exact put_len _)
      have AP : Hid (applyG (kst 3) L = kst 3) := Lib.hid (by rw [hL]; exact k_b1)
      replace HB : Hid (∀ W, Gr wA W → Calls Tryz.prog 13 #[.agg E] W (RetSl W L)) := Lib.hid (by rw [hL]; exact HB.out)
      clear hL
      go_wp2_with fail
      refine (HB.out _ (Gr.refl _)).mono ?_
      rintro en wB ⟨v, rfl, sB, gB⟩
      obtain ⟨aB, cB, hvB⟩ := sB.oneCells
      rw [bytes_length] at hvB
      subst hvB
      have SB := Lib.hid sB
      replace R := Lib.hid (R.out.gr gB)
      replace G := Lib.hid (G.out.trans gB)
      clear gB sB HB
      go_wp2_with fail
      refine (apply_own wF _ _ _ _ R.out _ _ SB.out LL.out G.out.size).mono ?_
      rintro en wC ⟨rfl, ⟨P2, hR, _, hPn⟩, hc⟩
      replace G := Lib.hid (R.out.after G.out hc)
      rw [AP.out] at hR
      replace R := Lib.hid hR
      clear hR hc SB hPn LL AP
      go_wp2_with fail
      refine (back2 _ 1 3 1 _ [1, 2, 3] (Sl.new wC [.int .u64 1, .int .u64 2, .int .u64 3] _ _ 3 3 rfl (by decide)) ⟨by decide, by decide⟩ ⟨by decide, by decide⟩ (by decide) (by simp) (by decide)).mono ?_
      rintro en wA ⟨E, rfl, HB, gA0⟩
      have gA := ((Gr.refl wC).alloc _).trans gA0
      clear gA0
      replace R := Lib.hid (R.out.gr gA)
      replace G := Lib.hid (G.out.trans gA)
      clear gA
      obtain ⟨L, hL⟩ : ∃ L, L = (putV (backX 1 3 1 [1, 2, 3])).1 := ⟨_, rfl⟩
      have LL : Hid (L.length ≤ 1000000000) := Lib.hid (by rw [hL]; exact put_len _)
      have AP : Hid (applyG (kst 3) L = kst 3) := Lib.hid (by rw [hL]; exact k_b2)
      replace HB : Hid (∀ W, Gr wA W → Calls Tryz.prog 13 #[.agg E] W (RetSl W L)) := Lib.hid (by rw [hL]; exact HB.out)
      clear hL
      go_wp2_with fail
      refine (HB.out _ (Gr.refl _)).mono ?_
      rintro en wB ⟨v, rfl, sB, gB⟩
      obtain ⟨aB, cB, hvB⟩ := sB.oneCells
      rw [bytes_length] at hvB
      subst hvB
      have SB := Lib.hid sB
      replace R := Lib.hid (R.out.gr gB)
      replace G := Lib.hid (G.out.trans gB)
      clear gB sB HB
      go_wp2_with fail
      refine (apply_own wF _ _ _ _ R.out _ _ SB.out LL.out G.out.size).mono ?_
      rintro en wC ⟨rfl, ⟨P2, hR, _, hPn⟩, hc⟩
      replace G := Lib.hid (R.out.after G.out hc)
      rw [AP.out] at hR
      replace R := Lib.hid hR
      clear hR hc SB hPn LL AP
      go_wp2_with fail
      refine (holder_any _ _ _ _ R.out.v 3).mono ?_
      rintro en w5 ⟨he, g5⟩
      obtain rfl : en = .returned (.tuple #[.int .i64 0, .int .u64 1, .bool true]) := he
      replace R := Lib.hid (R.out.gr g5)
      replace G := Lib.hid (G.out.trans g5)
      clear g5
      have G5S : Hid (wF.heap.size ≤ w5.heap.size) := Lib.hid G.out.size
      go_wp2_with fail
      refine (queue_any _ _ _ _ R.out.v 3 (by decide)).mono ?_
      rintro en w6 ⟨vq, rfl, oq, g6⟩
      replace oq : Own w6 w5.heap.size 3 vq (ints [1, 2]) := oq
      have OF := R.out.off oq
      obtain ⟨bq, cq, curq, hsh, hbq, kq, htk⟩ := own_cells oq (by simp [ints])
      replace hsh : vq = .slice (some ⟨bq, 0, none⟩) 2 cq := hsh
      subst hsh
      have NP : ¬ P2 bq := (OF.2 bq rfl).1
      have KQ := Lib.hid kq
      have C0 : Hid (curq[0]? = some (.int .i64 1)) := Lib.hid (take_get htk 0 (by simp [ints]))
      replace R := Lib.hid (R.out.gr g6)
      replace G := Lib.hid (G.out.trans g6)
      have HBQ : Hid (wF.heap.size ≤ bq) := Lib.hid (by have := G5S.out; omega)
      clear g6 oq OF kq htk hbq G5S
      have y0 : w6.cell? ⟨bq, 0, none⟩ = some (.int .i64 1) := by rw [KQ.out.cell]; exact C0.out
      go_wp2_with fail
      refine (frontier_any _ _ _ _ R.out.v 3 (by decide)).mono ?_
      rintro en w7 ⟨vf, rfl, of, g7⟩
      obtain ⟨af, cf, hsh⟩ := of.shape
      replace hsh : vf = .slice af 3 cf := hsh
      subst hsh
      replace KQ := Lib.hid (KQ.out.gr g7)
      replace R := Lib.hid (R.out.gr g7)
      replace G := Lib.hid (G.out.trans g7)
      clear g7 of y0
      have y0 : w7.cell? ⟨bq, 0, none⟩ = some (.int .i64 1) := by rw [KQ.out.cell]; exact C0.out
      have z0 := KQ.out.frozen 0
      go_wp2_with fail
      obtain ⟨w8, hw8⟩ : ∃ w8, w8 = w7.setCell ⟨bq, 0, none⟩ (.int .i64 9) := ⟨_, rfl⟩
      rw [← hw8]
      have c8 : Ch (fun k => k = bq) w7 w8 := by rw [hw8]; exact ch_setCell' _ _ _ _
      replace R := Lib.hid (R.out.keep c8 (fun k hk e => NP (e ▸ hk)))
      replace G : Hid (Gr wF _) := Lib.hid (Below.trans G.out (c8.below G.out.size (fun k hk => by have : k = bq := hk; have := HBQ.out; omega)))
      clear c8 hw8 y0 z0 KQ C0 NP HBQ
      as_aux_lemma =>
      go_wp2_with fail
      refine (frontier_any _ _ _ _ R.out.v 3 (by decide)).mono ?_
      rintro en w9 ⟨vf, rfl, of, g9⟩
      replace of : Own w9 w8.heap.size 39 vf (nums [0, 0, 0]) := of
      have OF := R.out.off of
      obtain ⟨bf, cf2, curf, hsh, hbf, kf, htk⟩ := own_cells of (by simp [nums])
      replace hsh : vf = .slice (some ⟨bf, 0, none⟩) 3 cf2 := hsh
      subst hsh
      have NP : ¬ P2 bf := (OF.2 bf rfl).1
      have y0 : w9.cell? ⟨bf, 0, none⟩ = some (.int .u64 0) := by rw [kf.cell]; exact take_get htk 0 (by simp [nums])
      have z0 := kf.frozen 0
      have HBF : Hid (wF.heap.size ≤ bf) := Lib.hid (by have := G.out.size; omega)
      replace R := Lib.hid (R.out.gr g9)
      replace G := Lib.hid (G.out.trans g9)
      clear g9 of OF kf htk hbf
      go_upto_region 22 with fail
      obtain ⟨wC, hwC⟩ : ∃ wC, wC = w9.setCell ⟨bf, 0, none⟩ (.int .u64 9) := ⟨_, rfl⟩
      rw [← hwC]
      have c8 : Ch (fun k => k = bf) w9 wC := by rw [hwC]; exact ch_setCell' _ _ _ _
      replace R := Lib.hid (R.out.keep c8 (fun k hk e => NP (e ▸ hk)))
      replace G : Hid (Gr wF _) := Lib.hid (Below.trans G.out (c8.below G.out.size (fun k hk => by have : k = bf := hk; have := HBF.out; omega)))
      clear c8 hwC y0 z0 NP HBF
      go_wp2_with fail
      refine (back2 _ 0 3 1 _ [5, 0, 0] (Sl.new wC [.int .u64 5, .int .u64 0, .int .u64 0] _ _ 3 3 rfl (by decide)) ⟨by decide, by decide⟩ ⟨by decide, by decide⟩ (by decide) (by simp) (by decide)).mono ?_
      rintro en wA ⟨E, rfl, HB, gA0⟩
      have gA := ((Gr.refl wC).alloc _).trans gA0
      clear gA0
      replace R := Lib.hid (R.out.gr gA)
      replace G := Lib.hid (G.out.trans gA)
      clear gA
      obtain ⟨L, hL⟩ : ∃ L, L = (putV (backX 0 3 1 [5, 0, 0])).1 := ⟨_, rfl⟩
      have LL : Hid (L.length ≤ 1000000000) := Lib.hid (by rw [hL]; exact put_len _)
      have AP : Hid (applyG (kst 3) L = kst 4) := Lib.hid (by rw [hL]; exact k_b3)
      replace HB : Hid (∀ W, Gr wA W → Calls Tryz.prog 13 #[.agg E] W (RetSl W L)) := Lib.hid (by rw [hL]; exact HB.out)
      clear hL
      go_wp2_with fail
      refine (HB.out _ (Gr.refl _)).mono ?_
      rintro en wB ⟨v, rfl, sB, gB⟩
      obtain ⟨aB, cB, hvB⟩ := sB.oneCells
      rw [bytes_length] at hvB
      subst hvB
      have SB := Lib.hid sB
      replace R := Lib.hid (R.out.gr gB)
      replace G := Lib.hid (G.out.trans gB)
      clear gB sB HB
      go_wp2_with fail
      refine (apply_own wF _ _ _ _ R.out _ _ SB.out LL.out G.out.size).mono ?_
      rintro en wC ⟨rfl, ⟨P2, hR, _, hPn⟩, hc⟩
      replace G := Lib.hid (R.out.after G.out hc)
      rw [AP.out] at hR
      replace R := Lib.hid hR
      clear hR hc SB hPn LL AP
      go_wp2_with fail
      refine (holder_any _ _ _ _ R.out.v 3).mono ?_
      rintro en wG ⟨he, g5⟩
      obtain rfl : en = .returned (.tuple #[.int .i64 1, .int .u64 2, .bool true]) := he
      replace R := Lib.hid (R.out.gr g5)
      replace G := Lib.hid (G.out.trans g5)
      clear g5
      as_aux_lemma =>
      go_wp2_with fail
      refine (back2 _ 1 3 2 _ [1, 7, 0] (Sl.new wG [.int .u64 1, .int .u64 7, .int .u64 0] _ _ 3 3 rfl (by decide)) ⟨by decide, by decide⟩ ⟨by decide, by decide⟩ (by decide) (by simp) (by decide)).mono ?_
      rintro en wA ⟨E, rfl, HB, gA0⟩
      have gA := ((Gr.refl wG).alloc _).trans gA0
      clear gA0
      replace R := Lib.hid (R.out.gr gA)
      replace G := Lib.hid (G.out.trans gA)
      clear gA
      obtain ⟨L, hL⟩ : ∃ L, L = (putV (backX 1 3 2 [1, 7, 0])).1 := ⟨_, rfl⟩
      have LL : Hid (L.length ≤ 1000000000) := Lib.hid (by rw [hL]; exact put_len _)
      have AP : Hid (applyG (kst 4) L = kst 5) := Lib.hid (by rw [hL]; exact k_b4)
      replace HB : Hid (∀ W, Gr wA W → Calls Tryz.prog 13 #[.agg E] W (RetSl W L)) := Lib.hid (by rw [hL]; exact HB.out)
      clear hL
      go_wp2_with fail
      refine (HB.out _ (Gr.refl _)).mono ?_
      rintro en wB ⟨v, rfl, sB, gB⟩
      obtain ⟨aB, cB, hvB⟩ := sB.oneCells
      rw [bytes_length] at hvB
      subst hvB
      have SB := Lib.hid sB
      replace R := Lib.hid (R.out.gr gB)
      replace G := Lib.hid (G.out.trans gB)
      clear gB sB HB
      go_wp2_with fail
      refine (apply_own wF _ _ _ _ R.out _ _ SB.out LL.out G.out.size).mono ?_
      rintro en wC ⟨rfl, ⟨P2, hR, _, hPn⟩, hc⟩
      replace G := Lib.hid (R.out.after G.out hc)
      rw [AP.out] at hR
      replace R := Lib.hid hR
      clear hR hc SB hPn LL AP
      go_wp2_with fail
      refine (holder_any _ _ _ _ R.out.v 3).mono ?_
      rintro en wH ⟨he, g5⟩
      obtain rfl : en = .returned (.tuple #[.int .i64 2, .int .u64 3, .bool true]) := he
      replace R := Lib.hid (R.out.gr g5)
      replace G := Lib.hid (G.out.trans g5)
      clear g5
      go_wp2_with fail
      refine (frontier_any _ _ _ _ R.out.v 3 (by decide)).mono ?_
      rintro en wI ⟨vf, rfl, of, gI⟩
      replace of : Own wI wH.heap.size 39 vf (nums [5, 7, 0]) := of
      obtain ⟨bf, cf2, curf, hsh, hbf, kf, htk⟩ := own_cells of (by simp [nums])
      replace hsh : vf = .slice (some ⟨bf, 0, none⟩) 3 cf2 := hsh
      subst hsh
      have y0 : wI.cell? ⟨bf, 0, none⟩ = some (.int .u64 5) := by rw [kf.cell]; exact take_get htk 0 (by simp [nums])
      have y1 : wI.cell? ⟨bf, 1, none⟩ = some (.int .u64 7) := by rw [kf.cell]; exact take_get htk 1 (by simp [nums])
      have y2 : wI.cell? ⟨bf, 2, none⟩ = some (.int .u64 0) := by rw [kf.cell]; exact take_get htk 2 (by simp [nums])
      replace G : Hid (Gr w _) := Lib.hid (G0.out.trans (G.out.trans gI))
      clear gI of kf htk hbf R
      as_aux_lemma =>
      go_wp2_with fail
      refine (rnew_any _ 4 1).mono ?_
      rintro en wJ ⟨g4, P4, rfl, hR4, _, gJ⟩
      have V4 : Hid (RegV wJ P4 (.pointer (some ⟨g4, 0, none⟩)) ⟨0, []⟩) := Lib.hid (.inr ⟨g4, rfl, hR4⟩)
      replace G : Hid (Gr w _) := Lib.hid (G.out.trans gJ)
      clear hR4 gJ y0 y1 y2
      go_wp2_with fail
      refine (frontier_any _ _ _ _ V4.out 0 (by decide)).mono ?_
      rintro en wK ⟨vf4, rfl, oF, gK⟩
      obtain ⟨af4, cf4, hsh⟩ := oF.shape
      replace hsh : vf4 = .slice af4 0 cf4 := hsh
      subst hsh
      replace G : Hid (Gr w _) := Lib.hid (G.out.trans gK)
      clear gK oF V4
      go_wp2_with fail
      refine (rnew_any _ 1 5).mono ?_
      rintro en wL ⟨g5, P5, rfl, hR5, _, gL⟩
      have V5 : Hid (RegV wL P5 (.pointer (some ⟨g5, 0, none⟩)) ⟨0, []⟩) := Lib.hid (.inr ⟨g5, rfl, hR5⟩)
      replace G : Hid (Gr w _) := Lib.hid (G.out.trans gL)
      clear hR5 gL
      go_wp2_with fail
      refine (frontier_any _ _ _ _ V5.out 0 (by decide)).mono ?_
      rintro en wM ⟨vf5, rfl, oF, gM⟩
      obtain ⟨af5, cf5, hsh⟩ := oF.shape
      replace hsh : vf5 = .slice af5 0 cf5 := hsh
      subst hsh
      replace G : Hid (Gr w _) := Lib.hid (G.out.trans gM)
      clear gM oF V5
      go_wp2_with fail
      refine (goes_any _).mono ?_
      rintro en wN ⟨rfl, gN⟩
      replace G : Hid (Gr w _) := Lib.hid (G.out.trans gN)
      clear gN
      go_wp2
      go_ret
      exact ⟨rfl, G.out⟩
open Go.ChangeShapes Go.WideShapes Go.ChangeAt Go.RowKit
open Go.ChangeMaps (open_string shut_string)
theorem own_registryKnown : ownKnob Tryz.prog.godebug = none := by kernel_rfl
theorem laidOut_registryKnown : laidOutB Tryz.prog = true := by kernel_rfl
set_option maxRecDepth 100000 in
theorem lifted_registryKnown (os : Os) (started : os.Started) (H : Type) (enc : TypeId × Value → H) :
    ReturnsInHanded {} Tryz.checked os 8 .any (Rows.registryKnownSpec.pre6 enc Tryz.prog Tryz.f8 Rows.registryKnownRow.domain false) (Rows.registryKnownSpec.post enc Tryz.prog Tryz.f8 false true false false) := by
  refine returnsInHanded_of_change (C := Tryz.checked) own_registryKnown started (by kernel_rfl) Tryz.func8
    (ChangeSpec.witness6 (enc := enc) (C := Tryz.checked) false ⟨#[], #[], []⟩ 8 (by kernel_rfl) (by kernel_rfl) (by kernel_rfl) (by kernel_rfl)) ?_
  intro W base args ds gs before hval0 hW hcnd _
  have hval : ∀ (j : Nat) t v, Tryz.f8.params[j]? = some t → args[j]? = some v → Value.okWide Tryz.prog W .any base t v := hval0
  have hW' := hW
  obtain ⟨p, q, hA0, hV, rfl, hfz, hnd⟩ := hW
  have hA : DataW.TrodAll enc Tryz.prog W 0 (fun _ => true) true Tryz.f8.params.toList args.toList ds p := hA0
  rw [Tryz.params8] at hA hval
  obtain ⟨rfl, rfl, rfl⟩ := trodAll_none hA
  obtain ⟨rfl, rfl⟩ := trodVars_none hV
  clear hA0 hval0
  simp only [List.append_nil] at hW'
  refine (known_walk W ).mono fun e W' ⟨he, bel⟩ => ?_
  subst he
  exact ⟨_, rfl, _, _, _, [], _, [], hW', trodAll_mk1 (shut_bool Tryz.underlying4 _), trodAll_mk0, rfl, bel.frame _, fun h => by cases h⟩
theorem over_registryKnown : Rows.registryKnownRow.holds Tryz.pinned (OpenSpec.ofChange Rows.registryKnownSpec) :=
  OpenClaim.holds_of_wide 8 Tryz.f8 rfl rfl rfl rfl rfl rfl rfl ⟨rfl, rfl, rfl, rfl, rfl⟩ rfl rfl rfl rfl rfl (by kernel_rfl) Tryz.func8 (by kernel_rfl)
    (of_decide_eq_true (by kernel_rfl)) (by unfold Func.isWrapper; first | (rw [if_pos (by decide +kernel)]; kernel_rfl) | (rw [if_neg (by decide +kernel)]; exact ⟨rfl, rfl⟩))
    (fun os started H enc _ => lifted_registryKnown os started H enc)
theorem registryKnown_proved : Rows.RegistryKnownSaid := over_registryKnown
#print axioms registryKnown_proved
end Go.Proofs.YtpcpijecibiibaaGreat
