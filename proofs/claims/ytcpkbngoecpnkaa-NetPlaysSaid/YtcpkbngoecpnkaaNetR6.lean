/-
  The document's net: Act.
-/
import Derived.Test.YtcpkbngoecpnkaaNetR5
set_option linter.unusedVariables false
namespace Go.Proofs.Ytcpkbngoecpnkaa
open Go.RowKit

/-- What the document's Act answers. -/
def actR (cuts : List (AdD × AdD)) (ls : List LetD) (d : Nat) (i : Int) : LetD × Int × List LetD :=
  if mayV i ls.length = 0 then
    (if d = 1 then (if cutsR cuts (ls.getD i.toNat zl).src (ls.getD i.toNat zl).dst then (zl, 65, ls) else (ls.getD i.toNat zl, 0, ls.eraseIdx i.toNat))
     else if d = 2 then (zl, 0, ls.eraseIdx i.toNat)
     else if d = 3 then (if 4096 ≤ ls.length then (zl, 4, ls) else (zl, 0, ls ++ [ls.getD i.toNat zl]))
     else (zl, 0, ls.eraseIdx i.toNat ++ [ls.getD i.toNat zl]))
  else (zl, 1, ls)
theorem rdid_fin {w0 w w1 w5 : World} {Q B : Nat} {sv lv cv lv1 cv1 : Value} {sizes : List Int} {ps1 : List (LetD × Value)} {ls : List LetD} {cuts : List (AdD × AdD)} {cs : Array Value} (k1 : RNet w0 w1 Q sv lv1 cv1 ps1 cuts sizes) (k2 : ps1.map Prod.fst = ls) (k3 : Ch (refB Q lv cv) w w1)
    (k4 : ∀ j, lv1.ownBlock = some j → lv.ownBlock = some j ∨ w.heap.size ≤ j) (k5 : ∀ j, cv1.ownBlock = some j → cv.ownBlock = some j ∨ w.heap.size ≤ j) (f2 : Ch (fun j => j = B) w1 w5) (c : CellsAt w1 B cs 35) (hB : w.heap.size ≤ B) (hw : w0.heap.size ≤ w.heap.size) (nb : ¬ refB Q lv1 cv1 B) : RDid w0 w Q sv lv cv sizes ls cuts w5 := by
  refine ⟨lv1, cv1, ps1, k1.keep (Kb.ch f2 (fun j cs' t fr hj hc => ?_)) (fun j hj => f2.block j (k1.ltB j hj).2 (fun e => ?_)) (Below.trans k1.gr (f2.below k1.gr.size (fun j hj => ?_))), k2, k3.transN f2 (fun j hj hlt => ?_), k4, k5⟩
  · have e : j = B := hj
    subst e
    rw [cells_type hc c]
    exact ⟨by decide, by decide⟩
  · have e9 : j = B := e
    exact nb (e9 ▸ hj)
  · have e : j = B := hj
    omega
  · have e : j = B := hj
    omega
theorem map_eraseR {α β : Type} (f : α → β) (l : List α) (k : Nat) : (l.eraseIdx k).map f = (l.map f).eraseIdx k := by
  rw [List.eraseIdx_eq_take_drop_succ, List.eraseIdx_eq_take_drop_succ, List.map_append, List.map_take, List.map_drop]

theorem RNet.nbNew {w0 w : World} {Q B : Nat} {sv lv cv : Value} {ps : List (LetD × Value)} {cuts : List (AdD × AdD)} {sizes : List Int} (h : RNet w0 w Q sv lv cv ps cuts sizes) (hB : w.heap.size ≤ B) : ¬ refB Q lv cv B := fun e => by
  have := (h.ltB B e).2; omega
theorem actR_no {cuts : List (AdD × AdD)} {ls : List LetD} {d : Nat} {i : Int} (h : mayV i ls.length ≠ 0) : actR cuts ls d i = (zl, 1, ls) := by unfold actR; rw [if_neg h]
theorem actR_yes {cuts : List (AdD × AdD)} {ls : List LetD} {d k : Nat} (hk : k < ls.length) : actR cuts ls d (k : Int) =
    (if d = 1 then (if cutsR cuts ls[k].src ls[k].dst then (zl, 65, ls) else (ls[k], 0, ls.eraseIdx k))
     else if d = 2 then (zl, 0, ls.eraseIdx k)
     else if d = 3 then (if 4096 ≤ ls.length then (zl, 4, ls) else (zl, 0, ls ++ [ls[k]]))
     else (zl, 0, ls.eraseIdx k ++ [ls[k]])) := by
  have hm : mayV (k : Int) ls.length = 0 := by unfold mayV; rw [if_neg (by omega), if_neg (by omega)]
  have hg : ls.getD k zl = ls[k] := by simp [List.getD_eq_getElem?_getD, List.getElem?_eq_getElem hk]
  unfold actR
  rw [if_pos hm, Int.toNat_natCast, hg]
set_option maxHeartbeats 0 in
set_option maxRecDepth 100000 in
/-- the document's Act -/
theorem refact_any {w0 w : World} {Q : Nat} {sv lv cv : Value} {ps : List (LetD × Value)} {cuts : List (AdD × AdD)} {sizes : List Int} {ls : List LetD} (h : RNet w0 w Q sv lv cv ps cuts sizes) (hm : ps.map Prod.fst = ls) (hln : ps.length ≤ 4096) (hcl : cuts.length ≤ 10000) (d : Nat) (hd : d = 1 ∨ d = 2 ∨ d = 3 ∨ d = 4) (i : Int) {r : LetD × Int × List LetD} (hr : actR cuts ls d i = r) :
    Calls Try.prog 24 #[.pointer (some ⟨Q, 0, Option.none⟩), .int .u8 (d : Int), .int .i64 i] w fun e w' => ∃ bv, e = .returned (.tuple #[letV r.1 bv, .int .i64 r.2.1]) ∧ Own w' w0.heap.size 5 bv (bytes r.1.b) ∧ RDid w0 w Q sv lv cv sizes r.2.2 cuts w' := by
  obtain ⟨a, cap, rfl⟩ := h.capL
  obtain ⟨wz, hwz⟩ : ∃ wz, wz = w.alloc (.cells #[.int .i64 0, .int .i64 0, .int .i64 0, .int .i64 0, .slice none 0 0] 35) := ⟨_, rfl⟩
  have hwz9 : wz.heap.size = w.heap.size + 1 := by rw [hwz]; simp
  have gz : Gr w wz := by rw [hwz]; exact (Gr.refl w).alloc _
  have cz : CellsAt wz w.heap.size #[.int .i64 0, .int .i64 0, .int .i64 0, .int .i64 0, .slice none 0 0] 35 := by rw [hwz]; exact CellsAt.new _ _ _
  have hll : ls.length = ps.length := by rw [← hm, List.length_map]
  obtain ⟨L, hL⟩ : ∃ L, L = ps.length := ⟨_, rfl⟩
  have H0 := Lib.hid h
  rw [← hL] at H0 hln hll
  rw [← hL]
  have H := Lib.hid (H0.out.go gz)
  have NZ := Lib.hid (H0.out.nbNew (show w.heap.size ≤ w.heap.size from Nat.le_refl _))
  have CZ := Lib.hid cz
  have GZ := Lib.hid gz
  have HWZ := Lib.hid hwz9
  clear hwz9
  have HL := Lib.hid hL
  have HM := Lib.hid hm
  have HW := Lib.hid H0.out.gr.size
  clear h hm hL gz cz
  go_enter Try.func24, Try.ntmps24
  go_upto_region 1 with fail
  rw [← hwz]
  clear hwz
  have y1 := H.out.obj.cell 1
  by_cases hi : mayV i L = 0
  · obtain ⟨k, rfl, hk⟩ := mayV_lt hi
    clear hi
    have hkp : k < ps.length := by rw [← HL.out]; exact hk
    have hkl : k < ls.length := by rw [hll]; exact hk
    rw [actR_yes hkl] at hr
    obtain ⟨g, cap9, e9, _, hgl, p0, p1, p2, p3, p4, hown⟩ := H.out.lets.at k hkp
    have hx9 : ls[k] = (ps[k]'hkp).1 := by simp [← HM.out]
    rw [hx9] at hr
    have HX9 := Lib.hid hx9
    clear hx9
    injection e9 with e1 e2 e3
    subst e1 e3
    clear e2
    obtain ⟨x, hx⟩ : ∃ x, x = ps[k]'hkp := ⟨_, rfl⟩
    rw [← hx] at p0 p1 p2 p3 p4 hown hr
    have HX := Lib.hid hx
    clear hx
    obtain ⟨⟨⟨x1, x2⟩, ⟨x3, x4⟩, b⟩, bx⟩ := x
    simp only at p0 p1 p2 p3 p4 hown hr
    have hsl := hown.sl
    obtain ⟨ab, cb, rfl, _⟩ := hsl.bytes
    have HOWN := Lib.hid hown
    obtain ⟨wx, hwx⟩ : ∃ wx, wx = wz.alloc (.cells #[.int .i64 x1, .int .i64 x2, .int .i64 x3, .int .i64 x4, .slice ab b.length cb] 35) := ⟨_, rfl⟩
    have gx : Gr wz wx := by rw [hwx]; exact (Gr.refl _).alloc _
    have CX : Hid (CellsAt wx wz.heap.size #[.int .i64 x1, .int .i64 x2, .int .i64 x3, .int .i64 x4, .slice ab b.length cb] 35) := Lib.hid (by rw [hwx]; exact CellsAt.new _ _ _)
    have hk0 : (0 : Int) ≤ (k : Int) := by omega
    have hk1 : (k : Int) < (L : Int) := by omega
    go_upto_region 4 with fail
    rw [← hwx]
    have HX2 := Lib.hid (H.out.go gx)
    have CZ2 := Lib.hid (CZ.out.gr gx)
    have GX := Lib.hid (Gr.trans GZ.out gx)
    have HOWN2 := Lib.hid (HOWN.out.gr gx)
    have LZ : Hid (wz.heap.size = w.heap.size + 1) := HWZ
    clear hwx gx p0 p1 p2 p3 p4 y1 hsl hown HOWN H CZ
    rcases hd with rfl | rfl | rfl | rfl
    · obtain ⟨qc, hqc⟩ : ∃ qc, qc = cutsR cuts (x1, x2) (x3, x4) := ⟨_, rfl⟩
      have hr1 : r = if qc then (zl, 65, ls) else ((⟨(x1, x2), (x3, x4), b⟩ : LetD), 0, ls.eraseIdx k) := by rw [← hr, hqc]; rfl
      have HQC := Lib.hid hqc
      clear hr hqc
      have p0 := CX.out.cell 0
      have p1 := CX.out.cell 1
      have p2 := CX.out.cell 2
      have p3 := CX.out.cell 3
      go_wp2_with fail
      clear p0 p1 p2 p3
      refine (refcuts_any HX2.out (by omega) (x1, x2) (x3, x4)).mono ?_
      rintro e w3 ⟨rfl, g3⟩
      rw [← HQC.out]
      have H3 := Lib.hid (HX2.out.go g3)
      have C3 := Lib.hid (CZ2.out.gr g3)
      have G3 := Lib.hid (Gr.trans GX.out g3)
      have CX3 := Lib.hid (CX.out.gr g3)
      have HO3 := Lib.hid (HOWN2.out.gr g3)
      clear g3
      cases qc with
      | true =>
        rw [if_pos rfl] at hr1
        subst hr1
        go_wp2_with (refine wpList_store_all 35 _ _ rfl rfl rfl rfl C3.out (by kernel_rfl) rfl (by simp; repeat' (first | rfl | constructor)) ?_; intro w5 f1 f2)
        (try simp only [Exit.inBlock, Exit.then])
        refine bodyPost_ret (v := .tuple #[.agg #[.int .i64 0, .int .i64 0, .int .i64 0, .int .i64 0, .slice none 0 0], .int .i64 65]) ?_ rfl ⟨.slice none 0 0, rfl, Own.nil0 _ _ _, rdid_fin H3.out HM.out (Ch.of_gr G3.out) (fun j hj => .inl hj) (fun j hj => .inl hj) f2 C3.out (Nat.le_refl _) HW.out NZ.out⟩
        have m0 := f1.cell 0
        have m1 := f1.cell 1
        have m2 := f1.cell 2
        have m3 := f1.cell 3
        have m4 := f1.cell 4
        simp only [List.getElem?_toArray, List.getElem?_cons_zero, List.getElem?_cons_succ] at m0 m1 m2 m3 m4
        simp [results, Try.f24, go_sem, m0, m1, m2, m3, m4]
      | false =>
        rw [if_neg (by decide)] at hr1
        subst hr1
        go_wp2_with fail
        refine (refwithout_any H3.out (by rw [← HL.out]; omega) k hkp).mono ?_
        rintro e w4 ⟨rfl, lv', k1, k3, k4⟩
        obtain ⟨a3, c3, e3⟩ := k1.capL
        have hm3 : (ps.eraseIdx k).map Prod.fst = ls.eraseIdx k := by rw [← HM.out, map_eraseR]
        have K := Lib.hid (And.intro k1 (And.intro k3 (And.intro k4 hm3)))
        have hQ : Q < w.heap.size := H0.out.obj.lt
        have C4 := Lib.hid (C3.out.ch k3 (fun e => by have e9 : w.heap.size = Q := e; omega))
        have CX4 := Lib.hid (CX3.out.ch k3 (fun e => by have e9 : wz.heap.size = Q := e; have := LZ.out; omega))
        have HO4 := Lib.hid (HO3.out.kb (.inl rfl) (Kb.ch k3 (fun j cs t fr hj hc => by have e : j = Q := hj; subst e; rw [cells_type hc H3.out.obj]; exact ⟨by decide, by decide⟩)))
        have NB : Hid (¬ refB Q lv' cv w.heap.size) := Lib.hid (fun e => by
          rcases e with e | e | e
          · omega
          · have := K.out.2.2.1 _ e; have := G3.out.size; have := C3.out.lt; omega
          · exact NZ.out (.inr (.inr e)))
        have F4 : Hid (∀ j, lv'.ownBlock = some j → (Value.slice (some ⟨g, 0, Option.none⟩) L cap).ownBlock = some j ∨ w.heap.size ≤ j) := Lib.hid fun j hj => .inr (Nat.le_trans G3.out.size (K.out.2.2.1 j hj))
        clear k1 k3 k4 hm3 e3 C3 CX3 HO3
        have p0 := CX4.out.cell 0
        have p1 := CX4.out.cell 1
        have p2 := CX4.out.cell 2
        have p3 := CX4.out.cell 3
        have p4 := CX4.out.cell 4
        go_wp2_with (refine wpList_store_all 35 _ _ rfl rfl rfl rfl C4.out (by kernel_rfl) rfl (by simp; repeat' (first | rfl | constructor)) ?_; intro w5 f1 f2)
        (try simp only [Exit.inBlock, Exit.then])
        refine bodyPost_ret (v := .tuple #[.agg #[.int .i64 x1, .int .i64 x2, .int .i64 x3, .int .i64 x4, .slice ab b.length cb], .int .i64 0]) ?_ rfl ⟨.slice ab b.length cb, rfl, (HO4.out.kb (.inl rfl) (Kb.ch f2 (fun j cs t fr hj hc => by have e : j = w.heap.size := hj; subst e; rw [cells_type hc C4.out]; exact ⟨by decide, by decide⟩))), rdid_fin K.out.1 K.out.2.2.2 ((Ch.of_gr G3.out).transN K.out.2.1 (fun j hj _ => .inl hj)) F4.out (fun j hj => .inl hj) f2 C4.out (Nat.le_refl _) HW.out NB.out⟩
        have m0 := f1.cell 0
        have m1 := f1.cell 1
        have m2 := f1.cell 2
        have m3 := f1.cell 3
        have m4 := f1.cell 4
        simp only [List.getElem?_toArray, List.getElem?_cons_zero, List.getElem?_cons_succ] at m0 m1 m2 m3 m4
        simp [results, Try.f24, go_sem, m0, m1, m2, m3, m4]
    · have hr1 : r = (zl, 0, ls.eraseIdx k) := hr.symm
      subst hr1
      clear hr
      go_wp2_with fail
      refine (refwithout_any HX2.out (by rw [← HL.out]; omega) k hkp).mono ?_
      rintro e w3 ⟨rfl, lv', k1, k3, k4⟩
      obtain ⟨a3, c3, e3⟩ := k1.capL
      have hm3 : (ps.eraseIdx k).map Prod.fst = ls.eraseIdx k := by rw [← HM.out, map_eraseR]
      have K := Lib.hid (And.intro k1 (And.intro k3 (And.intro k4 hm3)))
      have C3 := Lib.hid (CZ2.out.ch k3 (fun e => by have e9 : w.heap.size = Q := e; have := H0.out.obj.lt; omega))
      have NB : Hid (¬ refB Q lv' cv w.heap.size) := Lib.hid (fun e => by
        rcases e with e | e | e
        · have := H0.out.obj.lt; omega
        · have := K.out.2.2.1 _ e; have := GX.out.size; have := CZ2.out.lt; omega
        · exact NZ.out (.inr (.inr e)))
      have F4 : Hid (∀ j, lv'.ownBlock = some j → (Value.slice (some ⟨g, 0, Option.none⟩) L cap).ownBlock = some j ∨ w.heap.size ≤ j) := Lib.hid fun j hj => .inr (Nat.le_trans GX.out.size (K.out.2.2.1 j hj))
      clear k1 k3 k4 hm3 e3
      go_wp2_with (refine wpList_store_all 35 _ _ rfl rfl rfl rfl C3.out (by kernel_rfl) rfl (by simp; repeat' (first | rfl | constructor)) ?_; intro w5 f1 f2)
      (try simp only [Exit.inBlock, Exit.then])
      refine bodyPost_ret (v := .tuple #[.agg #[.int .i64 0, .int .i64 0, .int .i64 0, .int .i64 0, .slice none 0 0], .int .i64 0]) ?_ rfl ⟨.slice none 0 0, rfl, Own.nil0 _ _ _, rdid_fin K.out.1 K.out.2.2.2 ((Ch.of_gr GX.out).transN K.out.2.1 (fun j hj _ => .inl hj)) F4.out (fun j hj => .inl hj) f2 C3.out (Nat.le_refl _) HW.out NB.out⟩
      have m0 := f1.cell 0
      have m1 := f1.cell 1
      have m2 := f1.cell 2
      have m3 := f1.cell 3
      have m4 := f1.cell 4
      simp only [List.getElem?_toArray, List.getElem?_cons_zero, List.getElem?_cons_succ] at m0 m1 m2 m3 m4
      simp [results, Try.f24, go_sem, m0, m1, m2, m3, m4]
    · by_cases hfull : 4096 ≤ L
      · have hr1 : r = (zl, 4, ls) := by rw [← hr, if_neg (by decide), if_neg (by decide), if_pos rfl, if_pos (by rw [hll]; exact hfull)]
        subst hr1
        clear hr
        have y1 := HX2.out.obj.cell 1
        go_wp2_with (refine wpList_store_all 35 _ _ rfl rfl rfl rfl CZ2.out (by kernel_rfl) rfl (by simp; repeat' (first | rfl | constructor)) ?_; intro w5 f1 f2)
        (try simp only [Exit.inBlock, Exit.then])
        refine bodyPost_ret (v := .tuple #[.agg #[.int .i64 0, .int .i64 0, .int .i64 0, .int .i64 0, .slice none 0 0], .int .i64 4]) ?_ rfl ⟨.slice none 0 0, rfl, Own.nil0 _ _ _, rdid_fin HX2.out HM.out (Ch.of_gr GX.out) (fun j hj => .inl hj) (fun j hj => .inl hj) f2 CZ2.out (Nat.le_refl _) HW.out NZ.out⟩
        have m0 := f1.cell 0
        have m1 := f1.cell 1
        have m2 := f1.cell 2
        have m3 := f1.cell 3
        have m4 := f1.cell 4
        simp only [List.getElem?_toArray, List.getElem?_cons_zero, List.getElem?_cons_succ] at m0 m1 m2 m3 m4
        simp [results, Try.f24, go_sem, m0, m1, m2, m3, m4]
      · have hr1 : r = (zl, 0, ls ++ [(⟨(x1, x2), (x3, x4), b⟩ : LetD)]) := by rw [← hr, if_neg (by decide), if_neg (by decide), if_pos rfl, if_neg (by rw [hll]; exact hfull)]
        subst hr1
        clear hr
        obtain ⟨LVX, hlvx⟩ : ∃ v, v = Value.slice (some ⟨g, 0, Option.none⟩) L cap := ⟨_, rfl⟩
        have HLVX := Lib.hid hlvx
        clear hlvx
        have NBW : Hid (¬ refB Q (Value.slice (some ⟨g, 0, Option.none⟩) L cap) cv w.heap.size) := NZ
        have F4 : Hid (∀ j, (Value.slice (some ⟨g, 0, Option.none⟩) L cap).ownBlock = some j → (Value.slice (some ⟨g, 0, Option.none⟩) L cap).ownBlock = some j ∨ w.heap.size ≤ j) := Lib.hid fun j hj => .inl hj
        have FB : Hid (∀ j, refB Q (Value.slice (some ⟨g, 0, Option.none⟩) L cap) cv j → j < w.heap.size → refB Q (Value.slice (some ⟨g, 0, Option.none⟩) L cap) cv j) := Lib.hid fun j hj _ => hj
        have GS : Hid (w.heap.size ≤ wx.heap.size) := Lib.hid GX.out.size
        have y1 := HX2.out.obj.cell 1
        have q0 := CX.out.cell 0
        have q1 := CX.out.cell 1
        have q2 := CX.out.cell 2
        have q3 := CX.out.cell 3
        have q4 := CX.out.cell 4
        go_upto_region 15 with fail
        by_cases hroom : ∃ g9 cap', (some ⟨g, 0, Option.none⟩ : Option Addr) = some ⟨g9, 0, Option.none⟩ ∧ cap = cap' ∧ L + 1 ≤ cap'
        · obtain ⟨g2, cap', eg2, rfl, hcap⟩ := hroom
          have hgb : (Value.slice (some ⟨g, 0, Option.none⟩ : Option Addr) L cap).ownBlock = some g2 := by rw [eg2]; rfl
          have hgl : g2 < wx.heap.size := (HX2.out.lets.lt g2 hgb).2
          have y1n : ¬ Q = g2 := fun e => HX2.out.QR.1 (by rw [e]; exact hgb)
          have hgc := HX2.out.lets.cells g2 hgb
          have q0n : ¬ wz.heap.size = g2 := fun e => by have h9 := (H0.out.lets.lt g2 hgb).2; have := LZ.out; omega
          have q1n := q0n
          have q2n := q0n
          have q3n := q0n
          have q4n := q0n
          have HCAP := Lib.hid hcap
          have HEG := Lib.hid eg2
          have HGB := Lib.hid hgb
          clear eg2 hgb
          have HOT : Hid (∀ W, Ch (fun j => j = g2) wx.drew W → Own W w0.heap.size 5 (.slice ab b.length cb) (bytes b)) := Lib.hid fun W hW => HOWN2.out.blockT fun j cs fr hj hown => (hW.block j (Array.getElem?_eq_some_iff.1 hj).1 (fun e => by have e9 : j = g2 := e; rw [e9] at hj; cases cells_type hj hgc.choose_spec))
          clear hcap
          apply wp_region_draw_turnTail 8 (fun j => j = g2) (fun j W => (j ≤ 0 → W.heap[g2]? = wx.heap[g2]?) ∧ (j = 1 → ∃ bv, (KEq (.slice ab b.length cb)) bv W ∧ LetsR W w0.heap.size (.slice (some ⟨g2, 0, Option.none⟩) (L + 1) cap) (ps ++ [((⟨(x1, x2), (x3, x4), b⟩ : LetD), bv)]))) (.eq _ :: .eq _ :: .eq _ :: .eq _ :: .eq _ :: .eq _ :: .ok (NewRow wx.heap.size (⟨(x1, x2), (x3, x4), b⟩ : LetD) (KEq (.slice ab b.length cb))) :: .useEq (.slice (some ⟨g2, 0, Option.none⟩) (L + 1) cap) :: []) (by kernel_rfl) (by kernel_rfl) ⟨NewRow.monoT _ _ g2 hgl (KEq.monoT _ _), trivial⟩
            (fun k W W' hg h => ⟨fun e => (hg.block g2 (Array.getElem?_eq_some_iff.1 ((h.1 e).trans hgc.choose_spec)).1).trans (h.1 e), fun e => by obtain ⟨bv, k1, k2⟩ := h.2 e; exact ⟨bv, (KEq.mono _) _ _ _ hg k1, k2.gr hg⟩⟩) ⟨fun _ => rfl, fun e => absurd e (by decide)⟩
          apply wpT_eq
          · intro W hW hs
            unfold opT
            go_simp
            first | exact resT_eq_mk _ _ _ | rfl
          simp only [Act.put, List.setIfInBounds_toArray, List.set_cons_zero, List.set_cons_succ]
          apply wpT_eq
          · intro W hW hs
            unfold opT
            go_simp
            first | exact resT_eq_mk _ _ _ | rfl
          simp only [Act.put, List.setIfInBounds_toArray, List.set_cons_zero, List.set_cons_succ]
          apply wpT_eq
          · intro W hW hs
            unfold opT
            go_simp
            first | exact resT_eq_mk _ _ _ | rfl
          simp only [Act.put, List.setIfInBounds_toArray, List.set_cons_zero, List.set_cons_succ]
          apply wpT_eq
          · intro W hW hs
            unfold opT
            go_simp
            first | exact resT_eq_mk _ _ _ | rfl
          simp only [Act.put, List.setIfInBounds_toArray, List.set_cons_zero, List.set_cons_succ]
          apply wpT_eq
          · intro W hW hs
            have y1' := hW.drew0 y1 y1n
            unfold opT
            go_simp
            first | exact resT_eq_mk _ _ _ | rfl
          simp only [Act.put, List.setIfInBounds_toArray, List.set_cons_zero, List.set_cons_succ]
          apply wpT_eq
          · intro W hW hs
            have q0' := hW.drew0 q0 q0n
            have q1' := hW.drew0 q1 q1n
            have q2' := hW.drew0 q2 q2n
            have q3' := hW.drew0 q3 q3n
            have q4' := hW.drew0 q4 q4n
            unfold opT
            go_simp
            first | exact resT_eq_mk _ _ _ | rfl
          simp only [Act.put, List.setIfInBounds_toArray, List.set_cons_zero, List.set_cons_succ]
          apply wpT_ok
          · intro W hW hs
            unfold opT
            go_simp
            refine resT_mk ((Gr.refl _).alloc _) ?_
            exact ⟨W.heap.size, _, rfl, hW.size, CellsAt.new W _ 35, rfl⟩
          intro vy
          simp only [Act.put, List.setIfInBounds_toArray, List.set_cons_zero, List.set_cons_succ]
          apply wpT_useEq
          · intro W hW hS hs
            have hy : NewRow wx.heap.size (⟨(x1, x2), (x3, x4), b⟩ : LetD) (KEq (.slice ab b.length cb)) vy W := hs _ (.head _) rfl
            obtain ⟨w9, hr9, ⟨bv9, hi9⟩, hc9⟩ := app_room HX2.out.lets hW (hS.1 (by decide)) (by rw [← HL.out, HEG.out]) (by rw [← HL.out]; exact HCAP.out) (KEq.monoT _ _) hy (fun bv hb => by have e : bv = (.slice ab b.length cb) := hb; rw [e]; exact HOT.out W hW) (by rw [← HL.out]; omega) HX2.out.gr.size
            rw [← HL.out] at hr9 hi9
            exact opT_run_append hr9 rfl _ _ rfl rfl rfl ⟨hc9, ⟨fun e => absurd e (by decide), fun _ => ⟨bv9, hi9⟩⟩⟩ rfl
          simp only [Act.put, List.setIfInBounds_toArray, List.set_cons_zero, List.set_cons_succ]
          apply wpT_nil
          intro wq hW hS hsAll
          obtain ⟨bvn, q9, z1⟩ := hS.2 rfl
          have z2 : Ch (fun j => (Value.slice (some ⟨g, 0, Option.none⟩ : Option Addr) L cap).ownBlock = some j) wx wq := (hW.drewL).mono (fun k hk => by have e : k = g2 := hk; rw [e]; exact HGB.out)
          have z3 : ∀ j, ((.slice (some ⟨g2, 0, Option.none⟩) (L + 1) cap) : Value).ownBlock = some j → (Value.slice (some ⟨g, 0, Option.none⟩ : Option Addr) L cap).ownBlock = some j ∨ wx.heap.size ≤ j := fun j hj => .inl (by rw [HEG.out]; exact hj)
          have eb : bvn = (.slice ab b.length cb) := q9
          subst eb
          clear hsAll hS hW q9 y1 q0 q1 q2 q3 q4
          obtain ⟨r1, r2⟩ := HX2.out.stored z2 z1
          have R1 := Lib.hid r1
          have R2 := Lib.hid r2
          have Q3 := Lib.hid z3
          have qN := HX2.out.obj.ch z2 (fun e => HX2.out.QR.1 e)
          have k1 := qN.cell 1
          have k2 := qN.frozen 1
          have C9 := Lib.hid (CZ2.out.ch r2 NBW.out)
          have NB9 : Hid (∀ lv9, (∀ j, lv9.ownBlock = some j → LVX.ownBlock = some j ∨ wx.heap.size ≤ j) → ¬ refB Q lv9 cv w.heap.size) := Lib.hid (fun lv9 h9 e => by
            rcases e with e | e | e
            · exact NBW.out (.inl e)
            · rcases h9 _ e with e9 | e9
              · exact NBW.out (.inr (.inl (by rw [← HLVX.out]; exact e9)))
              · have := CZ2.out.lt; omega
            · exact NBW.out (.inr (.inr e)))
          rw [HLVX.out] at NB9
          clear r1 r2 z1 z2 z3 qN
          go_wp2_with (refine wpList_store_all 35 _ _ rfl rfl rfl rfl C9.out (by kernel_rfl) rfl (by simp; repeat' (first | rfl | constructor)) ?_; intro w5 f1 f2)
          (try simp only [Exit.inBlock, Exit.then])
          refine bodyPost_ret (v := .tuple #[.agg #[.int .i64 0, .int .i64 0, .int .i64 0, .int .i64 0, .slice none 0 0], .int .i64 0]) ?_ rfl ⟨.slice none 0 0, rfl, Own.nil0 _ _ _, rdid_fin R1.out (by rw [List.map_append, HM.out]; rfl) ((Ch.of_gr GX.out).transN R2.out (fun j hj hlt => FB.out j hj hlt)) (fun j hj => (Q3.out j hj).elim (fun e => F4.out j e) (fun e => .inr (Nat.le_trans GS.out e))) (fun j hj => .inl hj) f2 C9.out (Nat.le_refl _) HW.out (NB9.out _ Q3.out)⟩
          have m0 := f1.cell 0
          have m1 := f1.cell 1
          have m2 := f1.cell 2
          have m3 := f1.cell 3
          have m4 := f1.cell 4
          simp only [List.getElem?_toArray, List.getElem?_cons_zero, List.getElem?_cons_succ] at m0 m1 m2 m3 m4
          simp [results, Try.f24, go_sem, m0, m1, m2, m3, m4]
        · have hno : ¬ ∃ g9 cap', Value.slice (some ⟨g, 0, Option.none⟩ : Option Addr) L cap = .slice (some ⟨g9, 0, Option.none⟩) L cap' ∧ L + 1 ≤ cap' := fun ⟨g9, cap', e, h9⟩ => by
            injection e with e1 e2 e3
            exact hroom ⟨g9, cap', e1, e3, h9⟩
          clear hroom
          have HNO := Lib.hid hno
          clear hno
          apply wp_region_draw_tail 8 (.eq _ :: .eq _ :: .eq _ :: .eq _ :: .eq _ :: .eq _ :: .ok (NewRow wx.heap.size (⟨(x1, x2), (x3, x4), b⟩ : LetD) (KEq (.slice ab b.length cb))) :: .ok (LongRow wx.heap.size w0.heap.size ps (⟨(x1, x2), (x3, x4), b⟩ : LetD) (KEq (.slice ab b.length cb))) :: []) (by kernel_rfl) (by kernel_rfl) ⟨NewRow.mono _ _ (KEq.mono _), LongRow.mono _ _ _ _ (KEq.mono _), trivial⟩
          apply wpG_eq
          · intro W hW hs
            unfold opG
            go_simp
            first | exact resG_eq_mk _ _ _ | rfl
          simp only [Act.put, List.setIfInBounds_toArray, List.set_cons_zero, List.set_cons_succ]
          apply wpG_eq
          · intro W hW hs
            unfold opG
            go_simp
            first | exact resG_eq_mk _ _ _ | rfl
          simp only [Act.put, List.setIfInBounds_toArray, List.set_cons_zero, List.set_cons_succ]
          apply wpG_eq
          · intro W hW hs
            unfold opG
            go_simp
            first | exact resG_eq_mk _ _ _ | rfl
          simp only [Act.put, List.setIfInBounds_toArray, List.set_cons_zero, List.set_cons_succ]
          apply wpG_eq
          · intro W hW hs
            unfold opG
            go_simp
            first | exact resG_eq_mk _ _ _ | rfl
          simp only [Act.put, List.setIfInBounds_toArray, List.set_cons_zero, List.set_cons_succ]
          apply wpG_eq
          · intro W hW hs
            have y1' := hW.drew0 y1
            unfold opG
            go_simp
            first | exact resG_eq_mk _ _ _ | rfl
          simp only [Act.put, List.setIfInBounds_toArray, List.set_cons_zero, List.set_cons_succ]
          apply wpG_eq
          · intro W hW hs
            have q0' := hW.drew0 q0
            have q1' := hW.drew0 q1
            have q2' := hW.drew0 q2
            have q3' := hW.drew0 q3
            have q4' := hW.drew0 q4
            unfold opG
            go_simp
            first | exact resG_eq_mk _ _ _ | rfl
          simp only [Act.put, List.setIfInBounds_toArray, List.set_cons_zero, List.set_cons_succ]
          apply wpG_ok
          · intro W hW hs
            unfold opG
            go_simp
            refine resG_mk ((Gr.refl _).alloc _) ?_
            exact ⟨W.heap.size, _, rfl, hW.size, CellsAt.new W _ 35, rfl⟩
          intro vy
          simp only [Act.put, List.setIfInBounds_toArray, List.set_cons_zero, List.set_cons_succ]
          apply wpG_ok
          · intro W hW hs
            have hy : NewRow wx.heap.size (⟨(x1, x2), (x3, x4), b⟩ : LetD) (KEq (.slice ab b.length cb)) vy W := hs _ (.head _) rfl
            obtain ⟨v9, w9, hr9, hi9, hc9⟩ := app_new HX2.out.lets hW (by rw [← HL.out]; exact HNO.out) (KEq.mono _) hy (fun bv hb => by have e : bv = (.slice ab b.length cb) := hb; rw [e]; exact HOWN2.out.gr (Gr.trans ((Gr.refl wx).drew) hW)) (by rw [← HL.out]; omega) HX2.out.gr.size
            exact opG_run_append hr9 rfl _ _ rfl rfl rfl hc9 hi9
          intro vz
          simp only [Act.put, List.setIfInBounds_toArray, List.set_cons_zero, List.set_cons_succ]
          apply wpG_nil
          intro wq hW hsAll
          have hz : LongRow wx.heap.size w0.heap.size ps (⟨(x1, x2), (x3, x4), b⟩ : LetD) (KEq (.slice ab b.length cb)) vz wq := hsAll _ (.head _)
          obtain ⟨bvn, q9, ⟨az, cz, rfl⟩, z1, z3'⟩ := hz
          rw [← HL.out] at z1 z3' ⊢
          have z2 : Ch (fun j => (Value.slice (some ⟨g, 0, Option.none⟩ : Option Addr) L cap).ownBlock = some j) wx wq := Ch.of_gr (Gr.trans ((Gr.refl wx).drew) hW)
          have z3 : ∀ j, (Value.slice az (L + 1) cz).ownBlock = some j → (Value.slice (some ⟨g, 0, Option.none⟩ : Option Addr) L cap).ownBlock = some j ∨ wx.heap.size ≤ j := fun j hj => .inr (z3' j hj)
          have eb : bvn = (.slice ab b.length cb) := q9
          subst eb
          clear hsAll hW z3' q9 y1 q0 q1 q2 q3 q4
          obtain ⟨r1, r2⟩ := HX2.out.stored z2 z1
          have R1 := Lib.hid r1
          have R2 := Lib.hid r2
          have Q3 := Lib.hid z3
          have qN := HX2.out.obj.ch z2 (fun e => HX2.out.QR.1 e)
          have k1 := qN.cell 1
          have k2 := qN.frozen 1
          have C9 := Lib.hid (CZ2.out.ch r2 NBW.out)
          have NB9 : Hid (∀ lv9, (∀ j, lv9.ownBlock = some j → LVX.ownBlock = some j ∨ wx.heap.size ≤ j) → ¬ refB Q lv9 cv w.heap.size) := Lib.hid (fun lv9 h9 e => by
            rcases e with e | e | e
            · exact NBW.out (.inl e)
            · rcases h9 _ e with e9 | e9
              · exact NBW.out (.inr (.inl (by rw [← HLVX.out]; exact e9)))
              · have := CZ2.out.lt; omega
            · exact NBW.out (.inr (.inr e)))
          rw [HLVX.out] at NB9
          clear r1 r2 z1 z2 z3 qN
          go_wp2_with (refine wpList_store_all 35 _ _ rfl rfl rfl rfl C9.out (by kernel_rfl) rfl (by simp; repeat' (first | rfl | constructor)) ?_; intro w5 f1 f2)
          (try simp only [Exit.inBlock, Exit.then])
          refine bodyPost_ret (v := .tuple #[.agg #[.int .i64 0, .int .i64 0, .int .i64 0, .int .i64 0, .slice none 0 0], .int .i64 0]) ?_ rfl ⟨.slice none 0 0, rfl, Own.nil0 _ _ _, rdid_fin R1.out (by rw [List.map_append, HM.out]; rfl) ((Ch.of_gr GX.out).transN R2.out (fun j hj hlt => FB.out j hj hlt)) (fun j hj => (Q3.out j hj).elim (fun e => F4.out j e) (fun e => .inr (Nat.le_trans GS.out e))) (fun j hj => .inl hj) f2 C9.out (Nat.le_refl _) HW.out (NB9.out _ Q3.out)⟩
          have m0 := f1.cell 0
          have m1 := f1.cell 1
          have m2 := f1.cell 2
          have m3 := f1.cell 3
          have m4 := f1.cell 4
          simp only [List.getElem?_toArray, List.getElem?_cons_zero, List.getElem?_cons_succ] at m0 m1 m2 m3 m4
          simp [results, Try.f24, go_sem, m0, m1, m2, m3, m4]
    · have hr1 : r = (zl, 0, ls.eraseIdx k ++ [(⟨(x1, x2), (x3, x4), b⟩ : LetD)]) := by rw [← hr, if_neg (by decide), if_neg (by decide), if_neg (by decide)]
      subst hr1
      clear hr
      go_wp2_with fail
      refine (refwithout_any HX2.out (by rw [← HL.out]; omega) k hkp).mono ?_
      rintro e w3 ⟨rfl, lv', k1, k3, k4⟩
      obtain ⟨a3, c3, e3⟩ := k1.capL
      obtain ⟨L3, hL3⟩ : ∃ L3, L3 = (ps.eraseIdx k).length := ⟨_, rfl⟩
      rw [← hL3] at e3
      subst e3
      have hL3b : L3 ≤ 4096 := by rw [hL3]; have := List.length_eraseIdx_le ps k; rw [← HL.out] at this; omega
      have HL3 := Lib.hid hL3
      have hm3 : (ps.eraseIdx k).map Prod.fst = ls.eraseIdx k := by rw [← HM.out, map_eraseR]
      have K := Lib.hid (And.intro k1 (And.intro k3 (And.intro k4 hm3)))
      have hQ : Q < w.heap.size := H0.out.obj.lt
      have C3 := Lib.hid (CZ2.out.ch k3 (fun e => by have e9 : w.heap.size = Q := e; omega))
      have CX3 := Lib.hid (CX.out.ch k3 (fun e => by have e9 : wz.heap.size = Q := e; have := LZ.out; omega))
      have HO3 := Lib.hid (HOWN2.out.kb (.inl rfl) (Kb.ch k3 (fun j cs t fr hj hc => by have e : j = Q := hj; subst e; rw [cells_type hc HX2.out.obj]; exact ⟨by decide, by decide⟩)))
      have NBW : Hid (¬ refB Q (.slice a3 L3 c3) cv w.heap.size) := Lib.hid (fun e => by
        rcases e with e | e | e
        · omega
        · have := K.out.2.2.1 _ e; have := GX.out.size; have := CZ2.out.lt; omega
        · exact NZ.out (.inr (.inr e)))
      have F4 : Hid (∀ j, (Value.slice a3 L3 c3).ownBlock = some j → (Value.slice (some ⟨g, 0, Option.none⟩) L cap).ownBlock = some j ∨ w.heap.size ≤ j) := Lib.hid fun j hj => .inr (Nat.le_trans GX.out.size (K.out.2.2.1 j hj))
      have FB : Hid (∀ j, refB Q (Value.slice a3 L3 c3) cv j → j < w.heap.size → refB Q (Value.slice (some ⟨g, 0, Option.none⟩) L cap) cv j) := Lib.hid fun j hj hlt => by
        rcases hj with e | e | e
        · exact .inl e
        · have := K.out.2.2.1 j e; have := GX.out.size; omega
        · exact .inr (.inr e)
      have GS : Hid (w.heap.size ≤ w3.heap.size) := Lib.hid (Nat.le_trans GX.out.size k3.size)
      obtain ⟨LVX, hlvx⟩ : ∃ v, v = Value.slice a3 L3 c3 := ⟨_, rfl⟩
      have HLVX := Lib.hid hlvx
      clear k1 k3 k4 hm3 hlvx hL3 hQ
      have y1 := K.out.1.obj.cell 1
      have q0 := CX3.out.cell 0
      have q1 := CX3.out.cell 1
      have q2 := CX3.out.cell 2
      have q3 := CX3.out.cell 3
      have q4 := CX3.out.cell 4
      go_upto_region 18 with fail
      by_cases hroom : ∃ g9 cap', a3 = some ⟨g9, 0, Option.none⟩ ∧ c3 = cap' ∧ L3 + 1 ≤ cap'
      · obtain ⟨g2, cap', eg2, rfl, hcap⟩ := hroom
        have hgb : (Value.slice a3 L3 c3).ownBlock = some g2 := by rw [eg2]; rfl
        have hgl : g2 < w3.heap.size := (K.out.1.lets.lt g2 hgb).2
        have y1n : ¬ Q = g2 := fun e => K.out.1.QR.1 (by rw [e]; exact hgb)
        have hgc := K.out.1.lets.cells g2 hgb
        have q0n : ¬ wz.heap.size = g2 := fun e => by have := K.out.2.2.1 g2 hgb; have := CX.out.lt; omega
        have q1n := q0n
        have q2n := q0n
        have q3n := q0n
        have q4n := q0n
        have HCAP := Lib.hid hcap
        have HEG := Lib.hid eg2
        have HGB := Lib.hid hgb
        clear eg2 hgb
        have HOT : Hid (∀ W, Ch (fun j => j = g2) w3.drew W → Own W w0.heap.size 5 (.slice ab b.length cb) (bytes b)) := Lib.hid fun W hW => HO3.out.blockT fun j cs fr hj hown => (hW.block j (Array.getElem?_eq_some_iff.1 hj).1 (fun e => by have e9 : j = g2 := e; rw [e9] at hj; cases cells_type hj hgc.choose_spec))
        clear hcap
        apply wp_region_draw_turnTail 8 (fun j => j = g2) (fun j W => (j ≤ 0 → W.heap[g2]? = w3.heap[g2]?) ∧ (j = 1 → ∃ bv, (KEq (.slice ab b.length cb)) bv W ∧ LetsR W w0.heap.size (.slice (some ⟨g2, 0, Option.none⟩) (L3 + 1) c3) ((ps.eraseIdx k) ++ [((⟨(x1, x2), (x3, x4), b⟩ : LetD), bv)]))) (.eq _ :: .eq _ :: .eq _ :: .eq _ :: .eq _ :: .eq _ :: .ok (NewRow w3.heap.size (⟨(x1, x2), (x3, x4), b⟩ : LetD) (KEq (.slice ab b.length cb))) :: .useEq (.slice (some ⟨g2, 0, Option.none⟩) (L3 + 1) c3) :: []) (by kernel_rfl) (by kernel_rfl) ⟨NewRow.monoT _ _ g2 hgl (KEq.monoT _ _), trivial⟩
          (fun k W W' hg h => ⟨fun e => (hg.block g2 (Array.getElem?_eq_some_iff.1 ((h.1 e).trans hgc.choose_spec)).1).trans (h.1 e), fun e => by obtain ⟨bv, k1, k2⟩ := h.2 e; exact ⟨bv, (KEq.mono _) _ _ _ hg k1, k2.gr hg⟩⟩) ⟨fun _ => rfl, fun e => absurd e (by decide)⟩
        apply wpT_eq
        · intro W hW hs
          unfold opT
          go_simp
          first | exact resT_eq_mk _ _ _ | rfl
        simp only [Act.put, List.setIfInBounds_toArray, List.set_cons_zero, List.set_cons_succ]
        apply wpT_eq
        · intro W hW hs
          unfold opT
          go_simp
          first | exact resT_eq_mk _ _ _ | rfl
        simp only [Act.put, List.setIfInBounds_toArray, List.set_cons_zero, List.set_cons_succ]
        apply wpT_eq
        · intro W hW hs
          unfold opT
          go_simp
          first | exact resT_eq_mk _ _ _ | rfl
        simp only [Act.put, List.setIfInBounds_toArray, List.set_cons_zero, List.set_cons_succ]
        apply wpT_eq
        · intro W hW hs
          unfold opT
          go_simp
          first | exact resT_eq_mk _ _ _ | rfl
        simp only [Act.put, List.setIfInBounds_toArray, List.set_cons_zero, List.set_cons_succ]
        apply wpT_eq
        · intro W hW hs
          have y1' := hW.drew0 y1 y1n
          unfold opT
          go_simp
          first | exact resT_eq_mk _ _ _ | rfl
        simp only [Act.put, List.setIfInBounds_toArray, List.set_cons_zero, List.set_cons_succ]
        apply wpT_eq
        · intro W hW hs
          have q0' := hW.drew0 q0 q0n
          have q1' := hW.drew0 q1 q1n
          have q2' := hW.drew0 q2 q2n
          have q3' := hW.drew0 q3 q3n
          have q4' := hW.drew0 q4 q4n
          unfold opT
          go_simp
          first | exact resT_eq_mk _ _ _ | rfl
        simp only [Act.put, List.setIfInBounds_toArray, List.set_cons_zero, List.set_cons_succ]
        apply wpT_ok
        · intro W hW hs
          unfold opT
          go_simp
          refine resT_mk ((Gr.refl _).alloc _) ?_
          exact ⟨W.heap.size, _, rfl, hW.size, CellsAt.new W _ 35, rfl⟩
        intro vy
        simp only [Act.put, List.setIfInBounds_toArray, List.set_cons_zero, List.set_cons_succ]
        apply wpT_useEq
        · intro W hW hS hs
          have hy : NewRow w3.heap.size (⟨(x1, x2), (x3, x4), b⟩ : LetD) (KEq (.slice ab b.length cb)) vy W := hs _ (.head _) rfl
          obtain ⟨w9, hr9, ⟨bv9, hi9⟩, hc9⟩ := app_room K.out.1.lets hW (hS.1 (by decide)) (by rw [← HL3.out, HEG.out]) (by rw [← HL3.out]; exact HCAP.out) (KEq.monoT _ _) hy (fun bv hb => by have e : bv = (.slice ab b.length cb) := hb; rw [e]; exact HOT.out W hW) (by rw [← HL3.out]; omega) K.out.1.gr.size
          rw [← HL3.out] at hr9 hi9
          exact opT_run_append hr9 rfl _ _ rfl rfl rfl ⟨hc9, ⟨fun e => absurd e (by decide), fun _ => ⟨bv9, hi9⟩⟩⟩ rfl
        simp only [Act.put, List.setIfInBounds_toArray, List.set_cons_zero, List.set_cons_succ]
        apply wpT_nil
        intro wq hW hS hsAll
        obtain ⟨bvn, q9, z1⟩ := hS.2 rfl
        have z2 : Ch (fun j => (Value.slice a3 L3 c3).ownBlock = some j) w3 wq := (hW.drewL).mono (fun k hk => by have e : k = g2 := hk; rw [e]; exact HGB.out)
        have z3 : ∀ j, ((.slice (some ⟨g2, 0, Option.none⟩) (L3 + 1) c3) : Value).ownBlock = some j → (Value.slice a3 L3 c3).ownBlock = some j ∨ w3.heap.size ≤ j := fun j hj => .inl (by rw [HEG.out]; exact hj)
        have eb : bvn = (.slice ab b.length cb) := q9
        subst eb
        clear hsAll hS hW q9 y1 q0 q1 q2 q3 q4
        obtain ⟨r1, r2⟩ := K.out.1.stored z2 z1
        have R1 := Lib.hid r1
        have R2 := Lib.hid r2
        have Q3 := Lib.hid z3
        have qN := K.out.1.obj.ch z2 (fun e => K.out.1.QR.1 e)
        have k1 := qN.cell 1
        have k2 := qN.frozen 1
        have C9 := Lib.hid (C3.out.ch r2 NBW.out)
        have NB9 : Hid (∀ lv9, (∀ j, lv9.ownBlock = some j → LVX.ownBlock = some j ∨ w3.heap.size ≤ j) → ¬ refB Q lv9 cv w.heap.size) := Lib.hid (fun lv9 h9 e => by
          rcases e with e | e | e
          · exact NBW.out (.inl e)
          · rcases h9 _ e with e9 | e9
            · exact NBW.out (.inr (.inl (by rw [← HLVX.out]; exact e9)))
            · have := C3.out.lt; omega
          · exact NBW.out (.inr (.inr e)))
        rw [HLVX.out] at NB9
        clear r1 r2 z1 z2 z3 qN
        go_wp2_with (refine wpList_store_all 35 _ _ rfl rfl rfl rfl C9.out (by kernel_rfl) rfl (by simp; repeat' (first | rfl | constructor)) ?_; intro w5 f1 f2)
        (try simp only [Exit.inBlock, Exit.then])
        refine bodyPost_ret (v := .tuple #[.agg #[.int .i64 0, .int .i64 0, .int .i64 0, .int .i64 0, .slice none 0 0], .int .i64 0]) ?_ rfl ⟨.slice none 0 0, rfl, Own.nil0 _ _ _, rdid_fin R1.out (by rw [List.map_append, K.out.2.2.2]; rfl) (((Ch.of_gr GX.out).transN K.out.2.1 (fun j hj _ => .inl hj)).transN R2.out (fun j hj hlt => FB.out j hj hlt)) (fun j hj => (Q3.out j hj).elim (fun e => F4.out j e) (fun e => .inr (Nat.le_trans GS.out e))) (fun j hj => .inl hj) f2 C9.out (Nat.le_refl _) HW.out (NB9.out _ Q3.out)⟩
        have m0 := f1.cell 0
        have m1 := f1.cell 1
        have m2 := f1.cell 2
        have m3 := f1.cell 3
        have m4 := f1.cell 4
        simp only [List.getElem?_toArray, List.getElem?_cons_zero, List.getElem?_cons_succ] at m0 m1 m2 m3 m4
        simp [results, Try.f24, go_sem, m0, m1, m2, m3, m4]
      · have hno : ¬ ∃ g9 cap', Value.slice a3 L3 c3 = .slice (some ⟨g9, 0, Option.none⟩) L3 cap' ∧ L3 + 1 ≤ cap' := fun ⟨g9, cap', e, h9⟩ => by
          injection e with e1 e2 e3
          exact hroom ⟨g9, cap', e1, e3, h9⟩
        clear hroom
        have HNO := Lib.hid hno
        clear hno
        apply wp_region_draw_tail 8 (.eq _ :: .eq _ :: .eq _ :: .eq _ :: .eq _ :: .eq _ :: .ok (NewRow w3.heap.size (⟨(x1, x2), (x3, x4), b⟩ : LetD) (KEq (.slice ab b.length cb))) :: .ok (LongRow w3.heap.size w0.heap.size (ps.eraseIdx k) (⟨(x1, x2), (x3, x4), b⟩ : LetD) (KEq (.slice ab b.length cb))) :: []) (by kernel_rfl) (by kernel_rfl) ⟨NewRow.mono _ _ (KEq.mono _), LongRow.mono _ _ _ _ (KEq.mono _), trivial⟩
        apply wpG_eq
        · intro W hW hs
          unfold opG
          go_simp
          first | exact resG_eq_mk _ _ _ | rfl
        simp only [Act.put, List.setIfInBounds_toArray, List.set_cons_zero, List.set_cons_succ]
        apply wpG_eq
        · intro W hW hs
          unfold opG
          go_simp
          first | exact resG_eq_mk _ _ _ | rfl
        simp only [Act.put, List.setIfInBounds_toArray, List.set_cons_zero, List.set_cons_succ]
        apply wpG_eq
        · intro W hW hs
          unfold opG
          go_simp
          first | exact resG_eq_mk _ _ _ | rfl
        simp only [Act.put, List.setIfInBounds_toArray, List.set_cons_zero, List.set_cons_succ]
        apply wpG_eq
        · intro W hW hs
          unfold opG
          go_simp
          first | exact resG_eq_mk _ _ _ | rfl
        simp only [Act.put, List.setIfInBounds_toArray, List.set_cons_zero, List.set_cons_succ]
        apply wpG_eq
        · intro W hW hs
          have y1' := hW.drew0 y1
          unfold opG
          go_simp
          first | exact resG_eq_mk _ _ _ | rfl
        simp only [Act.put, List.setIfInBounds_toArray, List.set_cons_zero, List.set_cons_succ]
        apply wpG_eq
        · intro W hW hs
          have q0' := hW.drew0 q0
          have q1' := hW.drew0 q1
          have q2' := hW.drew0 q2
          have q3' := hW.drew0 q3
          have q4' := hW.drew0 q4
          unfold opG
          go_simp
          first | exact resG_eq_mk _ _ _ | rfl
        simp only [Act.put, List.setIfInBounds_toArray, List.set_cons_zero, List.set_cons_succ]
        apply wpG_ok
        · intro W hW hs
          unfold opG
          go_simp
          refine resG_mk ((Gr.refl _).alloc _) ?_
          exact ⟨W.heap.size, _, rfl, hW.size, CellsAt.new W _ 35, rfl⟩
        intro vy
        simp only [Act.put, List.setIfInBounds_toArray, List.set_cons_zero, List.set_cons_succ]
        apply wpG_ok
        · intro W hW hs
          have hy : NewRow w3.heap.size (⟨(x1, x2), (x3, x4), b⟩ : LetD) (KEq (.slice ab b.length cb)) vy W := hs _ (.head _) rfl
          obtain ⟨v9, w9, hr9, hi9, hc9⟩ := app_new K.out.1.lets hW (by rw [← HL3.out]; exact HNO.out) (KEq.mono _) hy (fun bv hb => by have e : bv = (.slice ab b.length cb) := hb; rw [e]; exact HO3.out.gr (Gr.trans ((Gr.refl w3).drew) hW)) (by rw [← HL3.out]; omega) K.out.1.gr.size
          exact opG_run_append hr9 rfl _ _ rfl rfl rfl hc9 hi9
        intro vz
        simp only [Act.put, List.setIfInBounds_toArray, List.set_cons_zero, List.set_cons_succ]
        apply wpG_nil
        intro wq hW hsAll
        have hz : LongRow w3.heap.size w0.heap.size (ps.eraseIdx k) (⟨(x1, x2), (x3, x4), b⟩ : LetD) (KEq (.slice ab b.length cb)) vz wq := hsAll _ (.head _)
        obtain ⟨bvn, q9, ⟨az, cz, rfl⟩, z1, z3'⟩ := hz
        rw [← HL3.out] at z1 z3' ⊢
        have z2 : Ch (fun j => (Value.slice a3 L3 c3).ownBlock = some j) w3 wq := Ch.of_gr (Gr.trans ((Gr.refl w3).drew) hW)
        have z3 : ∀ j, (Value.slice az (L3 + 1) cz).ownBlock = some j → (Value.slice a3 L3 c3).ownBlock = some j ∨ w3.heap.size ≤ j := fun j hj => .inr (z3' j hj)
        have eb : bvn = (.slice ab b.length cb) := q9
        subst eb
        clear hsAll hW z3' q9 y1 q0 q1 q2 q3 q4
        obtain ⟨r1, r2⟩ := K.out.1.stored z2 z1
        have R1 := Lib.hid r1
        have R2 := Lib.hid r2
        have Q3 := Lib.hid z3
        have qN := K.out.1.obj.ch z2 (fun e => K.out.1.QR.1 e)
        have k1 := qN.cell 1
        have k2 := qN.frozen 1
        have C9 := Lib.hid (C3.out.ch r2 NBW.out)
        have NB9 : Hid (∀ lv9, (∀ j, lv9.ownBlock = some j → LVX.ownBlock = some j ∨ w3.heap.size ≤ j) → ¬ refB Q lv9 cv w.heap.size) := Lib.hid (fun lv9 h9 e => by
          rcases e with e | e | e
          · exact NBW.out (.inl e)
          · rcases h9 _ e with e9 | e9
            · exact NBW.out (.inr (.inl (by rw [← HLVX.out]; exact e9)))
            · have := C3.out.lt; omega
          · exact NBW.out (.inr (.inr e)))
        rw [HLVX.out] at NB9
        clear r1 r2 z1 z2 z3 qN
        go_wp2_with (refine wpList_store_all 35 _ _ rfl rfl rfl rfl C9.out (by kernel_rfl) rfl (by simp; repeat' (first | rfl | constructor)) ?_; intro w5 f1 f2)
        (try simp only [Exit.inBlock, Exit.then])
        refine bodyPost_ret (v := .tuple #[.agg #[.int .i64 0, .int .i64 0, .int .i64 0, .int .i64 0, .slice none 0 0], .int .i64 0]) ?_ rfl ⟨.slice none 0 0, rfl, Own.nil0 _ _ _, rdid_fin R1.out (by rw [List.map_append, K.out.2.2.2]; rfl) (((Ch.of_gr GX.out).transN K.out.2.1 (fun j hj _ => .inl hj)).transN R2.out (fun j hj hlt => FB.out j hj hlt)) (fun j hj => (Q3.out j hj).elim (fun e => F4.out j e) (fun e => .inr (Nat.le_trans GS.out e))) (fun j hj => .inl hj) f2 C9.out (Nat.le_refl _) HW.out (NB9.out _ Q3.out)⟩
        have m0 := f1.cell 0
        have m1 := f1.cell 1
        have m2 := f1.cell 2
        have m3 := f1.cell 3
        have m4 := f1.cell 4
        simp only [List.getElem?_toArray, List.getElem?_cons_zero, List.getElem?_cons_succ] at m0 m1 m2 m3 m4
        simp [results, Try.f24, go_sem, m0, m1, m2, m3, m4]
  · have hr1 : r = (zl, 1, ls) := by rw [← hr]; exact actR_no (by rw [hll]; exact hi)
    subst hr1
    clear hr
    by_cases h0 : i < 0
    · skip
      go_wp2_with (refine wpList_store_all 35 _ _ rfl rfl rfl rfl CZ.out (by kernel_rfl) rfl (by simp; repeat' (first | rfl | constructor)) ?_; intro w5 f1 f2)
      (try simp only [Exit.inBlock, Exit.then])
      refine bodyPost_ret (v := .tuple #[.agg #[.int .i64 0, .int .i64 0, .int .i64 0, .int .i64 0, .slice none 0 0], .int .i64 1]) ?_ rfl ⟨.slice none 0 0, rfl, Own.nil0 _ _ _, rdid_fin H.out HM.out (Ch.of_gr GZ.out) (fun j hj => .inl hj) (fun j hj => .inl hj) f2 CZ.out (Nat.le_refl _) HW.out NZ.out⟩
      have m0 := f1.cell 0
      have m1 := f1.cell 1
      have m2 := f1.cell 2
      have m3 := f1.cell 3
      have m4 := f1.cell 4
      simp only [List.getElem?_toArray, List.getElem?_cons_zero, List.getElem?_cons_succ] at m0 m1 m2 m3 m4
      simp [results, Try.f24, go_sem, m0, m1, m2, m3, m4]
    · have h1 : (L : Int) ≤ i := by
        unfold mayV at hi
        rw [if_neg h0] at hi
        by_cases h1 : (L : Int) ≤ i
        · exact h1
        · rw [if_neg h1] at hi; exact absurd rfl hi
      go_wp2_with (refine wpList_store_all 35 _ _ rfl rfl rfl rfl CZ.out (by kernel_rfl) rfl (by simp; repeat' (first | rfl | constructor)) ?_; intro w5 f1 f2)
      (try simp only [Exit.inBlock, Exit.then])
      refine bodyPost_ret (v := .tuple #[.agg #[.int .i64 0, .int .i64 0, .int .i64 0, .int .i64 0, .slice none 0 0], .int .i64 1]) ?_ rfl ⟨.slice none 0 0, rfl, Own.nil0 _ _ _, rdid_fin H.out HM.out (Ch.of_gr GZ.out) (fun j hj => .inl hj) (fun j hj => .inl hj) f2 CZ.out (Nat.le_refl _) HW.out NZ.out⟩
      have m0 := f1.cell 0
      have m1 := f1.cell 1
      have m2 := f1.cell 2
      have m3 := f1.cell 3
      have m4 := f1.cell 4
      simp only [List.getElem?_toArray, List.getElem?_cons_zero, List.getElem?_cons_succ] at m0 m1 m2 m3 m4
      simp [results, Try.f24, go_sem, m0, m1, m2, m3, m4]
end Go.Proofs.Ytcpkbngoecpnkaa
