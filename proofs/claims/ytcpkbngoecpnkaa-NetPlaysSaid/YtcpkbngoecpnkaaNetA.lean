/-
  An act, done by the program's net.
-/
import Derived.Test.YtcpkbngoecpnkaaNetW
set_option linter.unusedVariables false
namespace Go.Proofs.Ytcpkbngoecpnkaa
open Go.RowKit

def actV (a : ActD) (bv : Value) : Value := .agg #[.int .u8 (a.op : Int), .int .i64 a.i, .int .i64 a.l.src.1, .int .i64 a.l.src.2, .int .i64 a.l.dst.1, .int .i64 a.l.dst.2, bv]
/-- What an act answers: the letter, the number, the letters behind it, the links behind it. -/
def doesV (sizes : List Int) (cut : AdD × AdD → Bool) (ls : List LetD) (a : ActD) : LetD × Int × List LetD × (AdD × AdD → Bool) :=
  match a.op % 7 with
  | 0 => (zl, sendE sizes ls.length a.l, (if sendE sizes ls.length a.l = 0 then ls ++ [a.l] else ls), cut)
  | 1 => ((takeV sizes cut ls a.i).1, (takeV sizes cut ls a.i).2.1, (takeV sizes cut ls a.i).2.2, cut)
  | 2 => (zl, mayV a.i ls.length, (if mayV a.i ls.length = 0 then ls.eraseIdx a.i.toNat else ls), cut)
  | 3 => (zl, doubleE ls.length a.i, (if doubleE ls.length a.i = 0 then ls ++ (ls[a.i.toNat]?).toList else ls), cut)
  | 4 => (zl, mayV a.i ls.length, holdL ls a.i, cut)
  | 5 => (zl, turnE sizes a.l.src a.l.dst, ls, if linkV sizes a.l.src a.l.dst then setCut cut (keyV a.l.src a.l.dst) true else cut)
  | _ => (zl, turnE sizes a.l.src a.l.dst, ls, if linkV sizes a.l.src a.l.dst then setCut cut (keyV a.l.src a.l.dst) false else cut)
/-- An act was done. -/
def Done (w : World) (base N M n : Nat) (lv : Value) (sizes : List Int) (r : LetD × Int × List LetD × (AdD × AdD → Bool)) (w' : World) : Prop :=
  ∃ lv' ps', NetIs w' base N M (n + 1) lv' ps' sizes r.2.2.2 ∧ ps'.map Prod.fst = r.2.2.1 ∧ Ch (netB N M lv) w w' ∧ ∀ j, lv'.ownBlock = some j → lv.ownBlock = some j ∨ w.heap.size ≤ j
theorem done_fin {w w0 w1 w5 : World} {base N M n n1 B : Nat} {lv lv1 : Value} {ps1 : List (LetD × Value)} {sizes : List Int} {cs : Array Value} {r : LetD × Int × List LetD × (AdD × AdD → Bool)} (g0 : Gr w w0) (k3 : Ch (netB N M lv) w0 w1) (f2 : Ch (fun j => j = B) w1 w5) (hB : w.heap.size ≤ B)
    (c : CellsAt w1 B cs 35) (hn1 : n1 ≤ n + 1) (k1 : NetIs w1 base N M n1 lv1 ps1 sizes r.2.2.2) (k2 : ps1.map Prod.fst = r.2.2.1) (hnb : ¬ netB N M lv1 B) (k4 : ∀ j, lv1.ownBlock = some j → lv.ownBlock = some j ∨ w0.heap.size ≤ j) : Done w base N M n lv sizes r w5 := by
  refine ⟨lv1, ps1, (k1.keep (Kb.ch f2 (fun j cs' t fr hj hc => ?_)) (fun j hj => f2.block j (k1.ltB j hj).2 (fun e => ?_))).mono hn1, k2, ((Ch.of_gr g0).transN k3 (fun j hj _ => hj)).transN f2 (fun j hj hlt => ?_), fun j hj => (k4 j hj).imp id (Nat.le_trans g0.size)⟩
  · have e : j = B := hj
    subst e
    rw [cells_type hc c]
    exact ⟨by decide, by decide⟩
  · have e9 : j = B := e
    exact hnb (e9 ▸ hj)
  · have e : j = B := hj
    omega
theorem fresh_nbl {w : World} {B N M n : Nat} {lv : Value} {ps : List (LetD × Value)} {sizes : List Int} {cut : AdD × AdD → Bool} (h : NetIs w B N M n lv ps sizes cut) {X : Nat} (hX : w.heap.size ≤ X) : ¬ netB N M lv X := fun e => by
  have := (h.ltB X e).2
  omega

set_option maxHeartbeats 4000000 in
set_option maxRecDepth 100000 in
theorem does_any {w : World} {base N M n : Nat} {lv : Value} {ps : List (LetD × Value)} {sizes : List Int} {cut : AdD × AdD → Bool} {ls : List LetD} (h : NetIs w base N M n lv ps sizes cut) (hm : ps.map Prod.fst = ls) (hn : n < 1000000) (a : ActD) (bv : Value) (hok : ActOk a)
    (hls : ∀ l ∈ ls, LetOk l ∧ l.b.length ≤ 2097152) (hb : Sl w bv (bytes a.l.b)) (hbl : a.l.b.length ≤ 2097152) (hne : a.l.b ≠ [] → ∀ j, bv.ownBlock = some j → lv.ownBlock ≠ some j) {r : LetD × Int × List LetD × (AdD × AdD → Bool)} (hr : doesV sizes cut ls a = r) :
    Calls Try.prog 21 #[.pointer (some ⟨N, 0, Option.none⟩), actV a bv] w fun e w' => ∃ bv', e = .returned (.tuple #[letV r.1 bv', .int .i64 r.2.1]) ∧ Own w' base 5 bv' (bytes r.1.b) ∧ Done w base N M n lv sizes r w' := by
  obtain ⟨op, ix, ⟨⟨a1, a2⟩, ⟨b1, b2⟩, b⟩⟩ := a
  obtain ⟨ab, cb, rfl, _⟩ := hb.bytes
  obtain ⟨w0, hw0⟩ : ∃ w0, w0 = (w.alloc (.cells #[.int .u8 (op : Int), .int .i64 ix, .int .i64 a1, .int .i64 a2, .int .i64 b1, .int .i64 b2, .slice ab b.length cb] 37)).alloc (.cells #[.int .i64 0, .int .i64 0, .int .i64 0, .int .i64 0, .slice none 0 0] 35) := ⟨_, rfl⟩
  have g0 : Gr w w0 := by rw [hw0]; exact ((Gr.refl w).alloc _).alloc _
  have cA : CellsAt w0 w.heap.size #[.int .u8 (op : Int), .int .i64 ix, .int .i64 a1, .int .i64 a2, .int .i64 b1, .int .i64 b2, .slice ab b.length cb] 37 := by rw [hw0]; exact (CellsAt.new _ _ _).gr ((Gr.refl _).alloc _)
  have cB : CellsAt w0 (w.heap.size + 1) #[.int .i64 0, .int .i64 0, .int .i64 0, .int .i64 0, .slice none 0 0] 35 := by rw [hw0]; exact CellsAt.newAt (w.alloc (.cells #[.int .u8 (op : Int), .int .i64 ix, .int .i64 a1, .int .i64 a2, .int .i64 b1, .int .i64 b2, .slice ab b.length cb] 37)) _ _ (by simp)
  have H := Lib.hid (h.gr g0)
  have HB := Lib.hid (And.intro (hb.below g0) (And.intro hbl hne))
  have NB := Lib.hid (fresh_nbl h (show w.heap.size ≤ w.heap.size + 1 by omega))
  have G0 := Lib.hid g0
  have HM := Lib.hid hm
  have HLS := Lib.hid hls
  have HOK := Lib.hid hok
  have CA := Lib.hid cA
  have CB := Lib.hid cB
  obtain ⟨d, hd⟩ : ∃ d, d = op % 7 := ⟨_, rfl⟩
  have hd7 : d < 7 := by omega
  have hmod : ((op : Int).tmod 7) = (d : Int) := by rw [Int.tmod_eq_emod_of_nonneg (by omega)]; omega
  have hmod2 : ((op : Int) % 7) = (d : Int) := by omega
  unfold doesV at hr
  simp only [← hd] at hr
  have HR := Lib.hid hr
  have HMOD := Lib.hid (And.intro hmod hmod2)
  have HOP : Hid (op < 256) := Lib.hid hok.1
  unfold actV
  simp only
  clear hb hbl hne hm hls hok cA cB g0 h hr hmod hmod2 hd
  have y0 := CA.out.cell 0
  go_enter Try.func21, Try.ntmps21
  go_upto_region 2 with fail
  rw [← hw0]
  clear y0 hw0
  first | rw [HMOD.out.1] | rw [HMOD.out.2]
  have yi := CA.out.cell 1
  have y1 := CA.out.cell 2
  have y2 := CA.out.cell 3
  have y3 := CA.out.cell 4
  have y4 := CA.out.cell 5
  have y5 := CA.out.cell 6
  clear HMOD
  obtain rfl | rfl | rfl | rfl | rfl | rfl | rfl : d = 0 ∨ d = 1 ∨ d = 2 ∨ d = 3 ∨ d = 4 ∨ d = 5 ∨ d = 6 := by omega
  · have hr : _ = r := HR.out
    obtain ⟨z, hz⟩ : ∃ z, sendE sizes ls.length (⟨(a1, a2), (b1, b2), b⟩ : LetD) = z := ⟨_, rfl⟩
    rw [show (sendE sizes ls.length (⟨(a1, a2), (b1, b2), b⟩ : LetD)) = z from hz] at hr
    have HZ := Lib.hid hz
    clear hz
    obtain ⟨l2, hl2⟩ : ∃ l2, (if z = 0 then ls ++ [(⟨(a1, a2), (b1, b2), b⟩ : LetD)] else ls) = l2 := ⟨_, rfl⟩
    have HL2 := Lib.hid hl2
    have hr' : (zl, z, l2, cut) = r := by rw [← hr, ← hl2]; rfl
    clear hl2 hr
    subst hr'
    clear HR
    go_wp2_with fail
    clear yi y1 y2 y3 y4 y5
    refine (send_w H.out HM.out (⟨(a1, a2), (b1, b2), b⟩ : LetD) (.slice ab b.length cb) HB.out.1 (Nat.le_trans HB.out.2.1 (by decide)) HB.out.2.2 HZ.out HL2.out).mono ?_
    rintro e w1 ⟨rfl, lv1, ps1, k1, k2, k3, k4⟩
    have C1 := Lib.hid (CB.out.ch k3 NB.out)
    have nb1 : ¬ netB N M lv1 (w.heap.size + 1) := netB_step k4 CB.out.lt NB.out
    have KK := Lib.hid (And.intro k1 (And.intro k2 (And.intro k3 (And.intro k4 nb1))))
    clear k1 k2 k3 k4 nb1
    go_wp2_with (refine wpList_store_all 35 _ _ rfl rfl rfl rfl C1.out (by kernel_rfl) rfl (by simp; repeat' (first | rfl | constructor)) ?_; intro w5 f1 f2)
    (try simp only [Exit.inBlock, Exit.then])
    refine bodyPost_ret (v := .tuple #[.agg #[.int .i64 0, .int .i64 0, .int .i64 0, .int .i64 0, .slice none 0 0], .int .i64 _]) ?_ rfl ⟨.slice none 0 0, rfl, Own.nil0 _ _ _, done_fin G0.out KK.out.2.2.1 f2 (by omega) C1.out (Nat.le_succ _) KK.out.1 KK.out.2.1 KK.out.2.2.2.2 KK.out.2.2.2.1⟩
    have m0 := f1.cell 0
    have m1 := f1.cell 1
    have m2 := f1.cell 2
    have m3 := f1.cell 3
    have m4 := f1.cell 4
    simp only [List.getElem?_toArray, List.getElem?_cons_zero, List.getElem?_cons_succ] at m0 m1 m2 m3 m4
    simp [results, Try.f21, go_sem, m0, m1, m2, m3, m4]
  · have hr : _ = r := HR.out
    obtain ⟨⟨⟨⟨x1, x2⟩, ⟨x3, x4⟩, xb⟩, z, ls1⟩, hrr⟩ : ∃ rr, takeV sizes cut ls ix = rr := ⟨_, rfl⟩
    have HRR := Lib.hid hrr
    have hr' : ((⟨(x1, x2), (x3, x4), xb⟩ : LetD), z, ls1, cut) = r := by rw [← hr, hrr]; rfl
    clear hrr hr
    subst hr'
    clear HR
    go_wp2_with fail
    clear yi y1 y2 y3 y4 y5
    refine (take_w H.out HM.out (fun l hl => (HLS.out l hl).1) ix HRR.out).mono ?_
    rintro e w1 ⟨bx, rfl, ox, lv1, ps1, k1, k2, k3, k4⟩
    obtain ⟨ax, cx, rfl⟩ := ox.shape
    have OX : Hid (Own w1 base 5 (.slice ax (bytes xb).length cx) (bytes xb)) := Lib.hid ox
    obtain ⟨bl, hbl⟩ : ∃ n, n = (bytes xb).length := ⟨_, rfl⟩
    have hk2 : ps1.map Prod.fst = ls1 := k2
    simp only at ox ⊢
    rw [← hbl] at OX ⊢
    rw [show letV (⟨(x1, x2), (x3, x4), xb⟩ : LetD) (.slice ax bl cx) = .agg #[.int .i64 x1, .int .i64 x2, .int .i64 x3, .int .i64 x4, .slice ax bl cx] from rfl]
    clear hbl ox k2
    have k2 := hk2
    clear hk2
    have C1 := Lib.hid (CB.out.ch k3 NB.out)
    have nb1 : ¬ netB N M lv1 (w.heap.size + 1) := netB_step k4 CB.out.lt NB.out
    have KK := Lib.hid (And.intro k1 (And.intro k2 (And.intro k3 (And.intro k4 nb1))))
    clear k1 k2 k3 k4 nb1
    go_wp2_with (refine wpList_store_all 35 _ _ rfl rfl rfl rfl C1.out (by kernel_rfl) rfl (by simp; repeat' (first | rfl | constructor)) ?_; intro w5 f1 f2)
    (try simp only [Exit.inBlock, Exit.then])
    refine bodyPost_ret (v := .tuple #[.agg #[.int .i64 x1, .int .i64 x2, .int .i64 x3, .int .i64 x4, .slice ax bl cx], .int .i64 _]) ?_ rfl ⟨.slice ax bl cx, rfl, (OX.out.kb (.inl rfl) (Kb.ch f2 (fun j cs t fr hj hc => by have e : j = w.heap.size + 1 := hj; subst e; rw [cells_type hc C1.out]; exact ⟨by decide, by decide⟩))), done_fin G0.out KK.out.2.2.1 f2 (by omega) C1.out (Nat.le_succ _) KK.out.1 KK.out.2.1 KK.out.2.2.2.2 KK.out.2.2.2.1⟩
    have m0 := f1.cell 0
    have m1 := f1.cell 1
    have m2 := f1.cell 2
    have m3 := f1.cell 3
    have m4 := f1.cell 4
    simp only [List.getElem?_toArray, List.getElem?_cons_zero, List.getElem?_cons_succ] at m0 m1 m2 m3 m4
    simp [results, Try.f21, go_sem, m0, m1, m2, m3, m4]
  · have hr : _ = r := HR.out
    obtain ⟨z, hz⟩ : ∃ z, mayV ix ls.length = z := ⟨_, rfl⟩
    rw [show (mayV ix ls.length) = z from hz] at hr
    have HZ := Lib.hid hz
    clear hz
    obtain ⟨l2, hl2⟩ : ∃ l2, (if z = 0 then ls.eraseIdx ix.toNat else ls) = l2 := ⟨_, rfl⟩
    have HL2 := Lib.hid hl2
    have hr' : (zl, z, l2, cut) = r := by rw [← hr, ← hl2]; rfl
    clear hl2 hr
    subst hr'
    clear HR
    go_wp2_with fail
    clear yi y1 y2 y3 y4 y5
    refine (drop_w H.out HM.out ix HZ.out HL2.out).mono ?_
    rintro e w1 ⟨rfl, lv1, ps1, k1, k2, k3, k4⟩
    have C1 := Lib.hid (CB.out.ch k3 NB.out)
    have nb1 : ¬ netB N M lv1 (w.heap.size + 1) := netB_step k4 CB.out.lt NB.out
    have KK := Lib.hid (And.intro k1 (And.intro k2 (And.intro k3 (And.intro k4 nb1))))
    clear k1 k2 k3 k4 nb1
    go_wp2_with (refine wpList_store_all 35 _ _ rfl rfl rfl rfl C1.out (by kernel_rfl) rfl (by simp; repeat' (first | rfl | constructor)) ?_; intro w5 f1 f2)
    (try simp only [Exit.inBlock, Exit.then])
    refine bodyPost_ret (v := .tuple #[.agg #[.int .i64 0, .int .i64 0, .int .i64 0, .int .i64 0, .slice none 0 0], .int .i64 _]) ?_ rfl ⟨.slice none 0 0, rfl, Own.nil0 _ _ _, done_fin G0.out KK.out.2.2.1 f2 (by omega) C1.out (Nat.le_succ _) KK.out.1 KK.out.2.1 KK.out.2.2.2.2 KK.out.2.2.2.1⟩
    have m0 := f1.cell 0
    have m1 := f1.cell 1
    have m2 := f1.cell 2
    have m3 := f1.cell 3
    have m4 := f1.cell 4
    simp only [List.getElem?_toArray, List.getElem?_cons_zero, List.getElem?_cons_succ] at m0 m1 m2 m3 m4
    simp [results, Try.f21, go_sem, m0, m1, m2, m3, m4]
  · have hr : _ = r := HR.out
    obtain ⟨z, hz⟩ : ∃ z, doubleE ls.length ix = z := ⟨_, rfl⟩
    rw [show (doubleE ls.length ix) = z from hz] at hr
    have HZ := Lib.hid hz
    clear hz
    obtain ⟨l2, hl2⟩ : ∃ l2, (if z = 0 then ls ++ (ls[ix.toNat]?).toList else ls) = l2 := ⟨_, rfl⟩
    have HL2 := Lib.hid hl2
    have hr' : (zl, z, l2, cut) = r := by rw [← hr, ← hl2]; rfl
    clear hl2 hr
    subst hr'
    clear HR
    go_wp2_with fail
    clear yi y1 y2 y3 y4 y5
    refine (double_w H.out HM.out ix (fun l hl => (HLS.out l hl).2) HZ.out HL2.out).mono ?_
    rintro e w1 ⟨rfl, lv1, ps1, k1, k2, k3, k4⟩
    have C1 := Lib.hid (CB.out.ch k3 NB.out)
    have nb1 : ¬ netB N M lv1 (w.heap.size + 1) := netB_step k4 CB.out.lt NB.out
    have KK := Lib.hid (And.intro k1 (And.intro k2 (And.intro k3 (And.intro k4 nb1))))
    clear k1 k2 k3 k4 nb1
    go_wp2_with (refine wpList_store_all 35 _ _ rfl rfl rfl rfl C1.out (by kernel_rfl) rfl (by simp; repeat' (first | rfl | constructor)) ?_; intro w5 f1 f2)
    (try simp only [Exit.inBlock, Exit.then])
    refine bodyPost_ret (v := .tuple #[.agg #[.int .i64 0, .int .i64 0, .int .i64 0, .int .i64 0, .slice none 0 0], .int .i64 _]) ?_ rfl ⟨.slice none 0 0, rfl, Own.nil0 _ _ _, done_fin G0.out KK.out.2.2.1 f2 (by omega) C1.out (Nat.le_succ _) KK.out.1 KK.out.2.1 KK.out.2.2.2.2 KK.out.2.2.2.1⟩
    have m0 := f1.cell 0
    have m1 := f1.cell 1
    have m2 := f1.cell 2
    have m3 := f1.cell 3
    have m4 := f1.cell 4
    simp only [List.getElem?_toArray, List.getElem?_cons_zero, List.getElem?_cons_succ] at m0 m1 m2 m3 m4
    simp [results, Try.f21, go_sem, m0, m1, m2, m3, m4]
  · have hr : _ = r := HR.out
    obtain ⟨z, hz⟩ : ∃ z, mayV ix ls.length = z := ⟨_, rfl⟩
    rw [show (mayV ix ls.length) = z from hz] at hr
    have HZ := Lib.hid hz
    clear hz
    obtain ⟨l2, hl2⟩ : ∃ l2, holdL ls ix = l2 := ⟨_, rfl⟩
    have HL2 := Lib.hid hl2
    have hr' : (zl, z, l2, cut) = r := by rw [← hr, ← hl2]; rfl
    clear hl2 hr
    subst hr'
    clear HR
    go_wp2_with fail
    clear yi y1 y2 y3 y4 y5
    refine (hold_w H.out HM.out ix HZ.out HL2.out).mono ?_
    rintro e w1 ⟨rfl, lv1, ps1, k1, k2, k3, k4⟩
    have C1 := Lib.hid (CB.out.ch k3 NB.out)
    have nb1 : ¬ netB N M lv1 (w.heap.size + 1) := netB_step k4 CB.out.lt NB.out
    have KK := Lib.hid (And.intro k1 (And.intro k2 (And.intro k3 (And.intro k4 nb1))))
    clear k1 k2 k3 k4 nb1
    go_wp2_with (refine wpList_store_all 35 _ _ rfl rfl rfl rfl C1.out (by kernel_rfl) rfl (by simp; repeat' (first | rfl | constructor)) ?_; intro w5 f1 f2)
    (try simp only [Exit.inBlock, Exit.then])
    refine bodyPost_ret (v := .tuple #[.agg #[.int .i64 0, .int .i64 0, .int .i64 0, .int .i64 0, .slice none 0 0], .int .i64 _]) ?_ rfl ⟨.slice none 0 0, rfl, Own.nil0 _ _ _, done_fin G0.out KK.out.2.2.1 f2 (by omega) C1.out (Nat.le_succ _) KK.out.1 KK.out.2.1 KK.out.2.2.2.2 KK.out.2.2.2.1⟩
    have m0 := f1.cell 0
    have m1 := f1.cell 1
    have m2 := f1.cell 2
    have m3 := f1.cell 3
    have m4 := f1.cell 4
    simp only [List.getElem?_toArray, List.getElem?_cons_zero, List.getElem?_cons_succ] at m0 m1 m2 m3 m4
    simp [results, Try.f21, go_sem, m0, m1, m2, m3, m4]
  · have hr : _ = r := HR.out
    obtain ⟨z, hz⟩ : ∃ z, turnE sizes (a1, a2) (b1, b2) = z := ⟨_, rfl⟩
    rw [show (turnE sizes (a1, a2) (b1, b2)) = z from hz] at hr
    have HZ := Lib.hid hz
    clear hz
    obtain ⟨ct, hct⟩ : ∃ ct, (if linkV sizes (a1, a2) (b1, b2) = true then setCut cut (keyV (a1, a2) (b1, b2)) true else cut) = ct := ⟨_, rfl⟩
    have HCT := Lib.hid hct
    have hr' : (zl, z, ls, ct) = r := by rw [← hr, ← hct]; rfl
    clear hct hr
    subst hr'
    clear HR
    go_wp2_with fail
    clear yi y1 y2 y3 y4 y5
    refine (cut_any H.out hn (a1, a2) (b1, b2) HOK.out.2.2.2.1 HOK.out.2.2.2.2).mono ?_
    rintro e w1 ⟨rfl, k1, k3⟩
    rw [HZ.out]
    rw [HCT.out] at k1
    have k2 := HM.out
    have k4 : ∀ j, lv.ownBlock = some j → lv.ownBlock = some j ∨ w0.heap.size ≤ j := fun j hj => .inl hj
    have C1 := Lib.hid (CB.out.ch k3 NB.out)
    have nb1 : ¬ netB N M lv (w.heap.size + 1) := netB_step k4 CB.out.lt NB.out
    have KK := Lib.hid (And.intro k1 (And.intro k2 (And.intro k3 (And.intro k4 nb1))))
    clear k1 k2 k3 k4 nb1
    go_wp2_with (refine wpList_store_all 35 _ _ rfl rfl rfl rfl C1.out (by kernel_rfl) rfl (by simp; repeat' (first | rfl | constructor)) ?_; intro w5 f1 f2)
    (try simp only [Exit.inBlock, Exit.then])
    refine bodyPost_ret (v := .tuple #[.agg #[.int .i64 0, .int .i64 0, .int .i64 0, .int .i64 0, .slice none 0 0], .int .i64 _]) ?_ rfl ⟨.slice none 0 0, rfl, Own.nil0 _ _ _, done_fin G0.out KK.out.2.2.1 f2 (by omega) C1.out (Nat.le_refl _) KK.out.1 KK.out.2.1 KK.out.2.2.2.2 KK.out.2.2.2.1⟩
    have m0 := f1.cell 0
    have m1 := f1.cell 1
    have m2 := f1.cell 2
    have m3 := f1.cell 3
    have m4 := f1.cell 4
    simp only [List.getElem?_toArray, List.getElem?_cons_zero, List.getElem?_cons_succ] at m0 m1 m2 m3 m4
    simp [results, Try.f21, go_sem, m0, m1, m2, m3, m4]
  · have hr : _ = r := HR.out
    obtain ⟨z, hz⟩ : ∃ z, turnE sizes (a1, a2) (b1, b2) = z := ⟨_, rfl⟩
    rw [show (turnE sizes (a1, a2) (b1, b2)) = z from hz] at hr
    have HZ := Lib.hid hz
    clear hz
    obtain ⟨ct, hct⟩ : ∃ ct, (if linkV sizes (a1, a2) (b1, b2) = true then setCut cut (keyV (a1, a2) (b1, b2)) false else cut) = ct := ⟨_, rfl⟩
    have HCT := Lib.hid hct
    have hr' : (zl, z, ls, ct) = r := by rw [← hr, ← hct]; rfl
    clear hct hr
    subst hr'
    clear HR
    go_wp2_with fail
    clear yi y1 y2 y3 y4 y5
    refine (heal_any H.out hn (a1, a2) (b1, b2) HOK.out.2.2.2.1 HOK.out.2.2.2.2).mono ?_
    rintro e w1 ⟨rfl, k1, k3⟩
    rw [HZ.out]
    rw [HCT.out] at k1
    have k2 := HM.out
    have k4 : ∀ j, lv.ownBlock = some j → lv.ownBlock = some j ∨ w0.heap.size ≤ j := fun j hj => .inl hj
    have C1 := Lib.hid (CB.out.ch k3 NB.out)
    have nb1 : ¬ netB N M lv (w.heap.size + 1) := netB_step k4 CB.out.lt NB.out
    have KK := Lib.hid (And.intro k1 (And.intro k2 (And.intro k3 (And.intro k4 nb1))))
    clear k1 k2 k3 k4 nb1
    go_wp2_with (refine wpList_store_all 35 _ _ rfl rfl rfl rfl C1.out (by kernel_rfl) rfl (by simp; repeat' (first | rfl | constructor)) ?_; intro w5 f1 f2)
    (try simp only [Exit.inBlock, Exit.then])
    refine bodyPost_ret (v := .tuple #[.agg #[.int .i64 0, .int .i64 0, .int .i64 0, .int .i64 0, .slice none 0 0], .int .i64 _]) ?_ rfl ⟨.slice none 0 0, rfl, Own.nil0 _ _ _, done_fin G0.out KK.out.2.2.1 f2 (by omega) C1.out (Nat.le_refl _) KK.out.1 KK.out.2.1 KK.out.2.2.2.2 KK.out.2.2.2.1⟩
    have m0 := f1.cell 0
    have m1 := f1.cell 1
    have m2 := f1.cell 2
    have m3 := f1.cell 3
    have m4 := f1.cell 4
    simp only [List.getElem?_toArray, List.getElem?_cons_zero, List.getElem?_cons_succ] at m0 m1 m2 m3 m4
    simp [results, Try.f21, go_sem, m0, m1, m2, m3, m4]
end Go.Proofs.Ytcpkbngoecpnkaa
