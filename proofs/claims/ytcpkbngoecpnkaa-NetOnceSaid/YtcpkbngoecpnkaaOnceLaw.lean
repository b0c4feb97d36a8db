/-
  NetOnce: what is taken was sent, and no more often than it was sent and doubled; what is under way, taken and dropped is all of that. Every input; no conditions.
-/
import Derived.Test.YtcpkbngoecpnkaaNetN
import Derived.Carry
import Derived.SizedLaws
set_option linter.unusedVariables false
namespace Go.Proofs.Ytcpkbngoecpnkaa
open Go.RowKit

theorem greatV_no {xs : List ActD} (h : greatV xs = false) : xs.length ≤ 60 ∧ ∀ x ∈ xs, x.l.b.length ≤ 200 := by
  unfold greatV at h
  simp only [Bool.or_eq_false_iff, decide_eq_false_iff_not, List.any_eq_false, decide_eq_true_eq] at h
  exact ⟨by omega, fun x hx => by have := h.2 x hx; omega⟩
def SmallO (l : LetD) : Prop := LetOk l ∧ l.b.length ≤ 200
theorem key_len {l : LetD} (h : SmallO l) : (keyB l).length ≤ 1000 := by unfold keyB; simp; have := h.2; omega
def RowL (ls : List LetD) : Sp := fun r W => ∃ a c, r = .slice (some ⟨a, 0, Option.none⟩) ls.length c ∧ Lets W r ls
theorem RowL.mono (ls : List LetD) : MonoSp (RowL ls) := fun _ _ _ g ⟨a, c, e, h⟩ => ⟨a, c, e, h.gr g⟩
section
variable {w W W' : World} {N M G c n : Nat} {cut : AdD × AdD → Bool} {ls was : List LetD} {v : Value}
theorem Was.congr {mf mf' : List UInt8 → Int} (h : Was w W N M G c n cut ls mf v was) (e : ∀ k, mf k = mf' k) : Was w W N M G c n cut ls mf' v was := by
  rw [← show mf = mf' from funext e]; exact h
theorem Was.add {ls2 : List LetD} (h : Was w W N M G c n cut ls2 (cnt ls) v was) (hn : n < 1000000) (l : LetD) (hl : SmallO l) (hL : ls.length ≤ 1000) (e : ls2 = ls ++ [l]) {z : Int} (hz : z = cnt ls (keyB l)) :
    ∃ w', (Instr.mapUpdate 59 (.map (some G)) (str (keyB l)) (.int .i64 (z + 1))).run Try.prog W = .ok () w' ∧ Was w w' N M G c (n + 1) cut ls2 (cnt ls2) v was ∧ Ch (fun j => j = G) W w' := by
  subst hz
  refine h.update hn (keyB l) (key_len hl) _ (by have := cnt_nonneg ls (keyB l); have := cnt_le ls (keyB l); omega) (cnt ls2) (fun k' => ?_)
  rw [e, cnt_append, cnt_one]
  by_cases e9 : k' = keyB l
  · rw [if_pos e9, if_pos e9, e9]
  · rw [if_neg e9, if_neg e9]; omega
theorem Was.sub {ls2 : List LetD} (h : Was w W N M G c n cut ls2 (cnt ls) v was) (hn : n < 1000000) (i : Nat) (hi : i < ls.length) (hl : SmallO ls[i]) (hL : ls.length ≤ 1000) (e : ls2 = ls.eraseIdx i) {z : Int} (hz : z = cnt ls (keyB ls[i])) :
    ∃ w', (Instr.mapUpdate 59 (.map (some G)) (str (keyB ls[i])) (.int .i64 (z - 1))).run Try.prog W = .ok () w' ∧ Was w w' N M G c (n + 1) cut ls2 (cnt ls2) v was ∧ Ch (fun j => j = G) W w' := by
  subst hz
  refine h.update hn (keyB ls[i]) (key_len hl) _ (by have := cnt_nonneg ls (keyB ls[i]); have := cnt_le ls (keyB ls[i]); omega) (cnt ls2) (fun k' => ?_)
  rw [e]
  have h9 := cnt_erase hi k'
  by_cases e9 : k' = keyB ls[i]
  · rw [if_pos e9] at h9 ⊢
    rw [← e9]; omega
  · rw [if_neg e9] at h9 ⊢; omega
theorem cnt_drop {ls : List LetD} {q : Nat} (hq : q < ls.length) (k : List UInt8) : cnt (ls.drop q) k = cnt (ls.drop (q + 1)) k + if k = keyB ls[q] then 1 else 0 := by
  rw [List.drop_eq_getElem_cons hq, show ls[q] :: ls.drop (q + 1) = [ls[q]] ++ ls.drop (q + 1) from rfl, cnt_append, cnt_one]
  omega
theorem Was.step {q : Nat} (h : Was w W N M G c n cut ls (cnt (was.drop q)) v was) (hn : n < 1000000) (hq : q < was.length) (hl : SmallO was[q]) (hL : was.length ≤ 1000) {z : Int} (hz : z = cnt (was.drop q) (keyB was[q])) :
    ∃ w', (Instr.mapUpdate 59 (.map (some G)) (str (keyB was[q])) (.int .i64 (z - 1))).run Try.prog W = .ok () w' ∧ Was w w' N M G c (n + 1) cut ls (cnt (was.drop (q + 1))) v was ∧ Ch (fun j => j = G) W w' := by
  subst hz
  refine h.update hn (keyB was[q]) (key_len hl) _ (by have := cnt_nonneg (was.drop q) (keyB was[q]); have := cnt_le (was.drop q) (keyB was[q]); rw [List.length_drop] at this; omega) _ (fun k' => ?_)
  have h9 := cnt_drop hq k'
  by_cases e9 : k' = keyB was[q]
  · rw [if_pos e9] at h9 ⊢
    rw [← e9]; omega
  · rw [if_neg e9] at h9 ⊢; omega
end
section
variable {w W W' : World} {N M G c n : Nat} {cut : AdD × AdD → Bool} {ls was : List LetD} {mf : List UInt8 → Int} {v : Value}
theorem Was.mapG (h : Was w W N M G c n cut ls mf v was) : ∃ es ck, W.heap[G]? = some (.map es ck) := by
  obtain ⟨lv, ps, f, qs, h1, h2, ⟨D, ⟨es, clock, hG, _⟩, _⟩, _⟩ := h
  exact ⟨es, clock, hG⟩
theorem Sl.pastG {xs : List Value} (h : Sl W v xs) (hc : Ch (fun j => j = G) W W') (hG : ∃ es ck, W.heap[G]? = some (.map es ck)) : Sl W' v xs := by
  obtain ⟨es, ck, hG⟩ := hG
  obtain ⟨a, cap, rfl, hcap, h⟩ := h
  refine ⟨a, cap, rfl, hcap, ?_⟩
  rcases h with h | ⟨b, off, rfl, hlt, h⟩
  · exact .inl h
  · by_cases hx : xs = []
    · exact .inl hx
    · have hne : b ≠ G := fun e => by
        have hpos : 0 < xs.length := List.length_pos_iff.2 hx
        have h0 := h 0 hpos
        subst e
        simp [World.cell?, hG] at h0
      exact .inr ⟨b, off, rfl, Nat.lt_of_lt_of_le hlt hc.size, fun k hk => by rw [← h k hk]; exact World.cell?_of_block (a := ⟨b, off + k, Option.none⟩) (hc.block b hlt hne)⟩
theorem CellsAt.pastG {b : Nat} {cs : Array Value} {t : TypeId} (h : CellsAt W b cs t) (hc : Ch (fun j => j = G) W W') (hG : ∃ es ck, W.heap[G]? = some (.map es ck)) : CellsAt W' b cs t :=
  h.ch hc (fun e => by obtain ⟨es, ck, hG⟩ := hG; have e9 : b = G := e; unfold CellsAt at h; rw [e9, hG] at h; cases h)
theorem cell_pastG {b i : Nat} {u : Value} (h : W.cell? ⟨b, i, Option.none⟩ = some u) (hc : Ch (fun j => j = G) W W') (hG : ∃ es ck, W.heap[G]? = some (.map es ck)) : W'.cell? ⟨b, i, Option.none⟩ = some u :=
  hc.cellT h (fun e => by obtain ⟨es, ck, hG⟩ := hG; have e9 : b = G := e; subst e9; simp [World.cell?, hG] at h)
theorem Was.capL (h : Was w W N M G c n cut ls mf v was) {a : Option Addr} {m cap : Nat} (e : v = .slice a m cap) : m ≤ cap := by
  obtain ⟨R, ⟨a9, c9, e9, h9, _⟩, _⟩ := h.reads
  rw [e] at e9
  injection e9 with _ e7 e8
  omega
end
set_option maxHeartbeats 0 in
set_option maxRecDepth 100000 in
theorem once_walk (w : World) (v0 : Value) (xs : List ActD) (hA : Acts w v0 xs) (hm : xs.length ≤ maxLen) :
    Calls Try.prog 6 #[v0] w fun e w' => e = .returned (.bool true) ∧ Below w.heap.size w w' := by
  obtain ⟨a0, c0, rfl⟩ := hA.shape
  have hgt := great_any w _ xs hA hm
  obtain ⟨gv, hgv⟩ : ∃ gv, gv = greatV xs := ⟨_, rfl⟩
  rw [← hgv] at hgt
  have HGV := Lib.hid hgv
  have HA := Lib.hid hA
  obtain ⟨n, hn⟩ : ∃ n, n = xs.length := ⟨_, rfl⟩
  rw [← hn] at hgt hm ⊢
  have HN := Lib.hid hn
  unfold maxLen at hm
  clear hgv hA hn
  go_enter Try.func6, Try.ntmps6
  go_wp2_with fail
  refine hgt.mono ?_
  rintro e w1 ⟨rfl, hw1⟩
  subst w1
  clear hgt
  cases gv with
  | true =>
    go_wp2
    go_ret
    exact ⟨rfl, Below.refl _ _⟩
  | false =>
  have HGR := Lib.hid (greatV_no HGV.out.symm)
  have hn60 : n ≤ 60 := by rw [HN.out]; exact HGR.out.1
  obtain ⟨w0, hw0⟩ : ∃ w0, w0 = w.alloc (.cells #[.int .i64 2, .int .i64 3, .int .i64 1] 3) := ⟨_, rfl⟩
  have g0 : Gr w w0 := by rw [hw0]; exact (Gr.refl w).alloc _
  have hs0 : Sl w0 (.slice (some ⟨w.heap.size, 0, none⟩) 3 3) (ints [2, 3, 1]) := by rw [hw0]; exact Sl.new w (ints [2, 3, 1]) 3 (0, 0) 3 3 rfl (Nat.le_refl _)
  go_wp2_with fail
  rw [← hw0]
  refine (new_any w0 _ [2, 3, 1] hs0).mono ?_
  rintro e w2 hp
  obtain ⟨N, M, rfl, h1, g1⟩ := newPost_ok (by rfl) hp
  have H2 := Lib.hid (And.intro (h1.monoB (base' := w.heap.size) g0.size) (show Gr w w2 from Gr.trans g0 g1))
  clear hw0 g0 hs0 hp h1 g1
  have hmm := @run_makeMap Try.prog
  go_upto_region 8 with fail
  clear hmm
  obtain ⟨G, hG⟩ : ∃ G, G = w2.heap.size := ⟨_, rfl⟩
  have HO : Hid (Once w (w2.alloc (.map #[] 0)) N M G 0 0 (fun _ => false) [] (cnt [])) := Lib.hid ⟨_, [], _, H2.out.1.gr ((Gr.refl _).alloc _), rfl, by rw [hG]; exact MapIs.made w2 9 3 (.int .i64 0), fun k => rfl, by rw [hG]; exact fresh_nb H2.out.1 (Nat.le_refl _), by rw [hG]; exact H2.out.2.size, H2.out.2.alloc _⟩
  obtain ⟨w3, hw3⟩ : ∃ w3, w3 = w2.alloc (.map #[] 0) := ⟨_, rfl⟩
  rw [← hG, ← hw3]
  rw [← hw3] at HO
  clear hG hw3 H2
  go_wp2
  go_loopw [6, 7, 8, 9, 10] (fun s6 s7 s8 s9 s10 W => ∃ (k c m : Nat) (cut : AdD × AdD → Bool) (ls : List LetD), k ≤ n ∧ s7 = .int .i64 k ∧ s6 = .int .i64 (ls.length : Int) ∧ Once w W N M G c m cut ls (cnt ls) ∧ c ≤ k ∧ m ≤ k ∧ ls.length ≤ k ∧ ∀ l ∈ ls, SmallO l) (fun _ s7 _ _ _ _ => n - (intOf s7).toNat)
  case atStart => exact ⟨0, 0, 0, _, [], Nat.zero_le _, rfl, rfl, HO.out, Nat.le_refl _, Nat.le_refl _, Nat.le_refl _, fun l h => by cases h⟩
  case round =>
    clear HO
    obtain ⟨k, c, m, cut, ls, hk, rfl, rfl, hO, hc, hmk, hll, hsm⟩ := hrel
    have HO := Lib.hid hO
    have HSM := Lib.hid hsm
    have HBIG : Hid (∀ l ∈ ls, LetOk l ∧ l.b.length ≤ 2097152) := Lib.hid fun l hl => ⟨(hsm l hl).1, Nat.le_trans (hsm l hl).2 (by decide)⟩
    obtain ⟨L, hL⟩ : ∃ L, L = ls.length := ⟨_, rfl⟩
    rw [← hL] at hll ⊢
    have HL := Lib.hid hL
    clear hO hsm hL
    by_cases hlt : k < n
    · skip
      obtain ⟨B, o, bv, rfl, hBl, hbv, q0, q1, q2, q3, q4, q5, q6, hsl, hok⟩ := HA.out.at k (by rw [← HN.out]; exact hlt)
      have hx2 : (xs[k]'(by rw [← HN.out]; exact hlt)).l.b.length ≤ 200 := HGR.out.2 _ (List.getElem_mem _)
      obtain ⟨x, hx⟩ : ∃ x, x = xs[k]'(by rw [← HN.out]; exact hlt) := ⟨_, rfl⟩
      rw [← hx] at q0 q1 q2 q3 q4 q5 hsl hok hx2 hbv
      clear hx
      obtain ⟨op, ix, ⟨⟨x1, x2⟩, ⟨x3, x4⟩, b⟩⟩ := x
      simp only at q0 q1 q2 q3 q4 q5 hsl hok hx2 hbv
      obtain ⟨ab, cb, rfl, _⟩ := hsl.bytes
      have HS : Hid (∀ W, Gr w W → Sl W (.slice ab b.length cb) (bytes b)) := Lib.hid fun W hW => hsl.below hW
      have HBV := Lib.hid hbv
      have HACT : Hid (ActOk ⟨op, ix, ⟨(x1, x2), (x3, x4), b⟩⟩) := Lib.hid hok
      have HX : Hid (SmallO ⟨(x1, x2), (x3, x4), b⟩) := Lib.hid ⟨hok.2.2.2, hx2⟩
      have T : Hid (∀ W, Gr w W → W.cell? ⟨B, o + k * 7, Option.none⟩ = some (.int .u8 (op : Int)) ∧ W.cell? ⟨B, o + k * 7 + 1, Option.none⟩ = some (.int .i64 ix) ∧ W.cell? ⟨B, o + k * 7 + 2, Option.none⟩ = some (.int .i64 x1) ∧ W.cell? ⟨B, o + k * 7 + 3, Option.none⟩ = some (.int .i64 x2) ∧ W.cell? ⟨B, o + k * 7 + 4, Option.none⟩ = some (.int .i64 x3) ∧ W.cell? ⟨B, o + k * 7 + 5, Option.none⟩ = some (.int .i64 x4) ∧ W.cell? ⟨B, o + k * 7 + 6, Option.none⟩ = some (.slice ab b.length cb)) :=
        Lib.hid fun W g => ⟨g.cellT q0, g.cellT q1, g.cellT q2, g.cellT q3, g.cellT q4, g.cellT q5, g.cellT q6⟩
      clear q0 q1 q2 q3 q4 q5 q6 hsl hok hbv hx2
      have hk0 : (0 : Int) ≤ (k : Int) := by omega
      have hk1 : (k : Int) < (n : Int) := by omega
      have hop256 : op < 256 := HACT.out.1
      go_wp2_with fail
      refine (Once.lets HO.out (fun l hl => (HBIG.out l hl).2)).mono ?_
      rintro e w3 ⟨vw, rfl, hW3, g3⟩
      obtain ⟨aw, cw, rfl⟩ := hW3.shape
      rw [← HL.out]
      have W3 := Lib.hid hW3
      clear hW3 g3 HO
      obtain ⟨t0, t1, t2, t3, t4, t5, t6⟩ := T.out _ W3.out.below
      obtain ⟨⟨⟨⟨r1, r2⟩, ⟨r3, r4⟩, rb⟩, z, ls2, cut2⟩, hr⟩ : ∃ r, doesV S231 cut ls ⟨op, ix, ⟨(x1, x2), (x3, x4), b⟩⟩ = r := ⟨_, rfl⟩
      have HRR := Lib.hid hr
      go_wp2_with fail
      clear t0 t1 t2 t3 t4 t5 t6
      refine (Was.does W3.out (by omega) ⟨op, ix, ⟨(x1, x2), (x3, x4), b⟩⟩ (.slice ab b.length cb) HACT.out HBIG.out (HS.out _ W3.out.below) (Nat.le_trans HX.out.2 (by decide)) HBV.out hr).mono ?_
      rintro e w4 ⟨bx, rfl, hsx, hW4⟩
      have hsx' : Sl w4 bx (bytes rb) := hsx
      obtain ⟨ax, cx, rfl, _⟩ := hsx'.bytes
      have W4 : Hid (Was w w4 N M G (c + 1) m cut2 ls2 (cnt ls) (.slice aw ls.length cw) ls) := Lib.hid hW4
      rw [← HL.out] at W4
      have S4 := Lib.hid hsx'
      rw [show letV (((⟨(r1, r2), (r3, r4), rb⟩ : LetD), z, ls2, cut2) : LetD × Int × List LetD × (AdD × AdD → Bool)).1 (.slice ax rb.length cx) = .agg #[.int .i64 r1, .int .i64 r2, .int .i64 r3, .int .i64 r4, .slice ax rb.length cx] from rfl]
      clear hW4 hsx hsx' W3 hr
      go_upto_region 13 with fail
      obtain ⟨w5, hw5⟩ : ∃ w5, w5 = w4.alloc (.cells #[.int .i64 r1, .int .i64 r2, .int .i64 r3, .int .i64 r4, .slice ax rb.length cx] 35) := ⟨_, rfl⟩
      have g5 : Gr w4 w5 := by rw [hw5]; exact (Gr.refl _).alloc _
      have C5 : Hid (CellsAt w5 w4.heap.size #[.int .i64 r1, .int .i64 r2, .int .i64 r3, .int .i64 r4, .slice ax rb.length cx] 35) := Lib.hid (by rw [hw5]; exact CellsAt.new _ _ _)
      have W5 := Lib.hid (W4.out.go g5)
      have S5 := Lib.hid (S4.out.below g5)
      rw [← hw5]
      clear hw5 g5 W4 S4
      have hl2 : ls2.length ≤ k + 1 := by
        have h9 := doesV_len (sizes := S231) (cut := cut) (ls := ls) (a := ⟨op, ix, ⟨(x1, x2), (x3, x4), b⟩⟩)
        rw [HRR.out, ← HL.out] at h9
        have h9' : ls2.length ≤ L + 1 := h9
        omega
      have HSM2 : Hid (∀ l ∈ ls2, SmallO l) := Lib.hid fun l hl => by
        have h9 := doesV_mem (sizes := S231) (cut := cut) (ls := ls) (a := ⟨op, ix, ⟨(x1, x2), (x3, x4), b⟩⟩) (x := l) (by rw [HRR.out]; exact hl)
        rcases h9 with h9 | h9
        · exact HSM.out l h9
        · rw [h9]; exact HX.out
      by_cases hz : z = 0
      · subst hz
        have hop7 : op % 7 < 7 := Nat.mod_lt _ (by decide)
        have HL60 : Hid (ls.length ≤ 1000) := Lib.hid (by rw [← HL.out]; omega)
        obtain hd | hd | hd | hd | hd | hd | hd : op % 7 = 0 ∨ op % 7 = 1 ∨ op % 7 = 2 ∨ op % 7 = 3 ∨ op % 7 = 4 ∨ op % 7 = 5 ∨ op % 7 = 6 := by omega
        · have hm1 : ((op : Int) % 7) = 0 := by omega
          have hm2 : ((op : Int).tmod 7) = 0 := by rw [Int.tmod_eq_emod_of_nonneg (by omega)]; omega
          have e1 : ls2 = ls ++ [(⟨(x1, x2), (x3, x4), b⟩ : LetD)] := by
            have h9 := doesV_0 (sizes := S231) (cut := cut) (ls := ls) (a := (⟨op, ix, (⟨(x1, x2), (x3, x4), b⟩ : LetD)⟩ : ActD)) hd (by rw [HRR.out])
            rw [HRR.out] at h9
            exact h9
          have E1 := Lib.hid e1
          clear e1
          obtain ⟨t0, t1, t2, t3, t4, t5, t6⟩ := T.out _ W5.out.below
          go_wp2_with fail
          clear t0 t1 t2 t3 t4 t5 t6
          refine (key_any w5 (⟨(x1, x2), (x3, x4), b⟩ : LetD) (.slice ab b.length cb) (HS.out _ W5.out.below) (by have := HX.out.2; omega)).mono ?_
          rintro e w6 ⟨rfl, g6⟩
          have W6 := Lib.hid (W5.out.go g6)
          have G6 := Lib.hid g6
          obtain ⟨cz, hcz⟩ : ∃ cz, cz = cnt ls (keyB (⟨(x1, x2), (x3, x4), b⟩ : LetD)) := ⟨_, rfl⟩
          have hlk := W6.out.look (keyB (⟨(x1, x2), (x3, x4), b⟩ : LetD)) (key_len HX.out)
          rw [← hcz] at hlk
          have hc0 : 0 ≤ cz := by rw [hcz]; exact cnt_nonneg _ _
          have hc1 : cz ≤ 1000 := by have := cnt_le ls (keyB (⟨(x1, x2), (x3, x4), b⟩ : LetD)); have := HL60.out; omega
          obtain ⟨w7, hu, hW7, hcG⟩ := Was.add W6.out (by omega) (⟨(x1, x2), (x3, x4), b⟩ : LetD) HX.out HL60.out E1.out hcz
          have HLK := Lib.hid hlk
          have HU := Lib.hid hu
          have W7 := Lib.hid hW7
          have GG := Lib.hid hcG
          clear hlk hu hW7 hcG g6 hcz
          go_wp2_with (first | (refine wpList_run_lookup HLK.out rfl _ _ rfl rfl rfl ?_; clear HLK) | (refine wpList_run_update HU.out rfl _ _ _ rfl rfl rfl rfl ?_; clear HU) | fail)
          refine (Once.len W7.out.once).mono ?_
          rintro e w8 ⟨rfl, hw8⟩
          subst w8
          have hlz : Hid ((ls2.length : Int) = (L : Int) + 1) := Lib.hid (by rw [E1.out, List.length_append, ← HL.out]; simp)
          rw [hlz.out]
          go_wp2
          exact ⟨⟨k + 1, c + 1, m + 1, cut2, ls2, by omega, by go_num, by rw [hlz.out], W7.out.once, by omega, by omega, by omega, HSM2.out⟩, by simp [intOf]; omega⟩
        · have hm1 : ((op : Int) % 7) = 1 := by omega
          have hm2 : ((op : Int).tmod 7) = 1 := by rw [Int.tmod_eq_emod_of_nonneg (by omega)]; omega
          obtain ⟨k', hk', ei, er, el⟩ : ∃ (k' : Nat) (hk' : k' < ls.length), ix = (k' : Int) ∧ (⟨(r1, r2), (r3, r4), rb⟩ : LetD) = ls[k'] ∧ ls2 = ls.eraseIdx k' := by
            have h9 := doesV_1 (sizes := S231) (cut := cut) (ls := ls) (a := (⟨op, ix, (⟨(x1, x2), (x3, x4), b⟩ : LetD)⟩ : ActD)) hd (by rw [HRR.out])
            rw [HRR.out] at h9
            exact h9
          subst ei
          have hkL : k' < L := by rw [HL.out]; exact hk'
          have hkI0 : (0 : Int) ≤ (k' : Int) := by omega
          have hkI1 : (k' : Int) < (L : Int) := by omega
          have EL := Lib.hid el
          clear el
          have hrs : SmallO (⟨(r1, r2), (r3, r4), rb⟩ : LetD) := by rw [er]; exact HSM.out _ (List.getElem_mem _)
          have HRS := Lib.hid hrs
          have ER := Lib.hid er
          clear hrs er
          obtain ⟨Bw, ow, bw, eB, hBw, _, _, _, _, _, _⟩ := W5.out.reads.at k' hk'
          subst eB
          have hLcw : L ≤ cw := W5.out.capL rfl
          have p0 := C5.out.cell 0
          have p1 := C5.out.cell 1
          have p2 := C5.out.cell 2
          have p3 := C5.out.cell 3
          have p4 := C5.out.cell 4
          obtain ⟨t0, t1, t2, t3, t4, t5, t6⟩ := T.out _ W5.out.below
          go_wp2_with fail
          clear t0 t1 t2 t3 t4 t5 t6
          clear p0 p1 p2 p3 p4
          refine (key_any w5 (⟨(r1, r2), (r3, r4), rb⟩ : LetD) (.slice ax rb.length cx) (S5.out) (by have := HRS.out.2; omega)).mono ?_
          rintro e w6 ⟨rfl, g6⟩
          have W6 := Lib.hid (W5.out.go g6)
          have G6 := Lib.hid g6
          obtain ⟨cz, hcz⟩ : ∃ cz, cz = cnt ls (keyB (⟨(r1, r2), (r3, r4), rb⟩ : LetD)) := ⟨_, rfl⟩
          have hlk := W6.out.look (keyB (⟨(r1, r2), (r3, r4), rb⟩ : LetD)) (key_len HRS.out)
          rw [← hcz] at hlk
          have hc0 : 0 ≤ cz := by rw [hcz]; exact cnt_nonneg _ _
          have hc1 : cz ≤ 1000 := by have := cnt_le ls (keyB (⟨(r1, r2), (r3, r4), rb⟩ : LetD)); have := HL60.out; omega
          obtain ⟨w7, hu, hW7, hcG⟩ := Was.sub W6.out (by omega) k' hk' (by rw [← ER.out]; exact HRS.out) HL60.out EL.out (z := cz) (by rw [hcz, ER.out])
          rw [← ER.out] at hu
          have HLK := Lib.hid hlk
          have HU := Lib.hid hu
          have W7 := Lib.hid hW7
          have GG := Lib.hid hcG
          clear hlk hu hW7 hcG g6 hcz
          have C7 := Lib.hid ((C5.out.gr G6.out).pastG GG.out W6.out.mapG)
          have S7 := Lib.hid ((S5.out.below G6.out).pastG GG.out W6.out.mapG)
          go_upto_region 25 with (first | (refine wpList_run_lookup HLK.out rfl _ _ rfl rfl rfl ?_; clear HLK) | (refine wpList_run_update HU.out rfl _ _ _ rfl rfl rfl rfl ?_; clear HU) | fail)
          have HW1 : Hid (IntKind.i64.wrap ((k' : Int) + 1) = (k' : Int) + 1) := Lib.hid (by simp [IntKind.wrap, IntKind.bits, IntKind.signed]; omega)
          obtain ⟨c2, hc2⟩ : ∃ c2, c2 = cnt ls2 (keyB (⟨(r1, r2), (r3, r4), rb⟩ : LetD)) := ⟨_, rfl⟩
          have HC2 := Lib.hid hc2
          have hc20 : ¬ c2 < 0 := by have := cnt_nonneg ls2 (keyB (⟨(r1, r2), (r3, r4), rb⟩ : LetD)); omega
          have hSub : Hid (∀ W, Gr w7 W → Lets W (.slice (some ⟨Bw, ow + k' * 5, Option.none⟩) 1 (cw - k')) [(⟨(r1, r2), (r3, r4), rb⟩ : LetD)]) := Lib.hid fun W hW => by
            have h9 := ((W7.out.go hW).reads).sub k' hk' (c' := cw - k') (by omega)
            rw [← ER.out] at h9
            exact h9
          have hcv : ¬ cw = k' := by omega
          clear hc2 hc0 hc1
          apply wp_region_draw_grow (.eq _ :: .eq _ :: .eq (.string ⟨(keyB (⟨(r1, r2), (r3, r4), rb⟩ : LetD)).toArray⟩) :: .eq (.int .i64 c2) :: .eq _ :: .eq _ :: .eq _ :: .ok (RowL [(⟨(r1, r2), (r3, r4), rb⟩ : LetD)]) :: .eq _ :: .eq _ :: .eq _ :: .eq _ :: .eq _ :: .eq _ :: .eq _ :: .eq _ :: .eq _ :: .eq _ :: .eq _ :: .eq _ :: .eq (.slice (some ⟨Bw, ow + k' * 5, Option.none⟩) 1 (cw - k')) :: .eq (.bool true) :: .eq _ :: .eq _ :: []) (by kernel_rfl) (by kernel_rfl) ⟨RowL.mono _, trivial⟩
          apply wpG_eq
          · intro W hW hs
            unfold opG
            go_simp
            first | exact resG_eq_mk _ _ _ | rfl
          simp only [Act.put, List.setIfInBounds_toArray, List.set_cons_zero, List.set_cons_succ]
          apply wpG_eq
          · intro W hW hs
            have p0 := hW.drew0 (C7.out.cell 0)
            have p1 := hW.drew0 (C7.out.cell 1)
            have p2 := hW.drew0 (C7.out.cell 2)
            have p3 := hW.drew0 (C7.out.cell 3)
            have p4 := hW.drew0 (C7.out.cell 4)
            unfold opG
            go_simp
            first | exact resG_eq_mk _ _ _ | rfl
          simp only [Act.put, List.setIfInBounds_toArray, List.set_cons_zero, List.set_cons_succ]
          apply wpG_eq
          · intro W hW hs
            have gW := Gr.trans ((Gr.refl w7).drew) hW
            unfold opG
            go_simp
            refine resG_call ((key_any W (⟨(r1, r2), (r3, r4), rb⟩ : LetD) (.slice ax rb.length cx) (S7.out.below gW) (by have := HRS.out.2; omega)).mono ?_)
            rintro e W2 ⟨rfl, g2⟩
            exact ⟨_, rfl, g2, rfl⟩
          simp only [Act.put, List.setIfInBounds_toArray, List.set_cons_zero, List.set_cons_succ]
          apply wpG_eq
          · intro W hW hs
            have gW := Gr.trans ((Gr.refl w7).drew) hW
            have hl9 := (W7.out.go gW).look (keyB (⟨(r1, r2), (r3, r4), rb⟩ : LetD)) (key_len HRS.out)
            rw [← HC2.out] at hl9
            exact opG_run_lookup hl9 (by rfl) _ _ rfl rfl rfl
          simp only [Act.put, List.setIfInBounds_toArray, List.set_cons_zero, List.set_cons_succ]
          apply wpG_eq
          · intro W hW hs
            unfold opG
            go_simp
            first | exact resG_eq_mk _ _ _ | rfl
          simp only [Act.put, List.setIfInBounds_toArray, List.set_cons_zero, List.set_cons_succ]
          apply wpG_eq
          · intro W hW hs
            unfold opG
            go_simp
            first | exact resG_eq_mk _ _ _ | rfl
          simp only [Act.put, List.setIfInBounds_toArray, List.set_cons_zero, List.set_cons_succ]
          apply wpG_eq
          · intro W hW hs
            have p0 := hW.drew0 (C7.out.cell 0)
            have p1 := hW.drew0 (C7.out.cell 1)
            have p2 := hW.drew0 (C7.out.cell 2)
            have p3 := hW.drew0 (C7.out.cell 3)
            have p4 := hW.drew0 (C7.out.cell 4)
            unfold opG
            go_simp
            first | exact resG_eq_mk _ _ _ | rfl
          simp only [Act.put, List.setIfInBounds_toArray, List.set_cons_zero, List.set_cons_succ]
          apply wpG_ok
          · intro W hW hs
            unfold opG
            go_simp
            exact resG_mk ((Gr.refl W).alloc _) ⟨_, 1, rfl, Lets.one (CellsAt.new _ _ _) (S7.out.below (Gr.trans (Gr.trans ((Gr.refl w7).drew) hW) ((Gr.refl W).alloc _)))⟩
          intro vy
          simp only [Act.put, List.setIfInBounds_toArray, List.set_cons_zero, List.set_cons_succ]
          apply wpG_eq
          · intro W hW hs
            unfold opG
            go_simp
            first | exact resG_eq_mk _ _ _ | rfl
          simp only [Act.put, List.setIfInBounds_toArray, List.set_cons_zero, List.set_cons_succ]
          apply wpG_eq
          · intro W hW hs
            unfold opG
            go_simp
            first | exact resG_eq_mk _ _ _ | rfl
          simp only [Act.put, List.setIfInBounds_toArray, List.set_cons_zero, List.set_cons_succ]
          apply wpG_eq
          · intro W hW hs
            unfold opG
            go_simp
            first | exact resG_eq_mk _ _ _ | rfl
          simp only [Act.put, List.setIfInBounds_toArray, List.set_cons_zero, List.set_cons_succ]
          apply wpG_eq
          · intro W hW hs
            unfold opG
            go_simp
            first | exact resG_eq_mk _ _ _ | rfl
          simp only [Act.put, List.setIfInBounds_toArray, List.set_cons_zero, List.set_cons_succ]
          apply wpG_eq
          · intro W hW hs
            unfold opG
            go_simp
            first | exact resG_eq_mk _ _ _ | rfl
          simp only [Act.put, List.setIfInBounds_toArray, List.set_cons_zero, List.set_cons_succ]
          apply wpG_eq
          · intro W hW hs
            have gW := Gr.trans ((Gr.refl w7).drew) hW
            obtain ⟨t0, t1, t2, t3, t4, t5, t6⟩ := T.out W (Below.trans W7.out.below (gW.mono W7.out.below.size))
            unfold opG
            go_simp
            first | exact resG_eq_mk _ _ _ | rfl
          simp only [Act.put, List.setIfInBounds_toArray, List.set_cons_zero, List.set_cons_succ]
          apply wpG_eq
          · intro W hW hs
            unfold opG
            go_simp
            first | exact resG_eq_mk _ _ _ | rfl
          simp only [Act.put, List.setIfInBounds_toArray, List.set_cons_zero, List.set_cons_succ]
          apply wpG_eq
          · intro W hW hs
            unfold opG
            go_simp
            first | exact resG_eq_mk _ _ _ | rfl
          simp only [Act.put, List.setIfInBounds_toArray, List.set_cons_zero, List.set_cons_succ]
          apply wpG_eq
          · intro W hW hs
            unfold opG
            go_simp
            first | exact resG_eq_mk _ _ _ | rfl
          simp only [Act.put, List.setIfInBounds_toArray, List.set_cons_zero, List.set_cons_succ]
          apply wpG_eq
          · intro W hW hs
            unfold opG
            go_simp
            first | exact resG_eq_mk _ _ _ | rfl
          simp only [Act.put, List.setIfInBounds_toArray, List.set_cons_zero, List.set_cons_succ]
          apply wpG_eq
          · intro W hW hs
            have gW := Gr.trans ((Gr.refl w7).drew) hW
            obtain ⟨t0, t1, t2, t3, t4, t5, t6⟩ := T.out W (Below.trans W7.out.below (gW.mono W7.out.below.size))
            unfold opG
            go_simp
            first | exact resG_eq_mk _ _ _ | rfl
          simp only [Act.put, List.setIfInBounds_toArray, List.set_cons_zero, List.set_cons_succ]
          apply wpG_eq
          · intro W hW hs
            unfold opG
            go_simp
            rw [HW1.out]
            exact ⟨Gr.refl _, rfl⟩
          simp only [Act.put, List.setIfInBounds_toArray, List.set_cons_zero, List.set_cons_succ]
          apply wpG_eq
          · intro W hW hs
            unfold opG
            go_simp
            rw [if_pos ⟨by omega, by omega⟩]
            exact ⟨Gr.refl _, rfl⟩
          simp only [Act.put, List.setIfInBounds_toArray, List.set_cons_zero, List.set_cons_succ]
          apply wpG_eq
          · intro W hW hs
            have gW := Gr.trans ((Gr.refl w7).drew) hW
            have h9 : RowL [(⟨(r1, r2), (r3, r4), rb⟩ : LetD)] vy W := hs _ (.head _) rfl
            have H9 : Hid (Lets W vy [(⟨(r1, r2), (r3, r4), rb⟩ : LetD)]) := Lib.hid (by obtain ⟨_, _, _, h⟩ := h9; exact h)
            clear h9 hs
            unfold opG
            go_simp
            refine resG_call ((same_true W vy _ [(⟨(r1, r2), (r3, r4), rb⟩ : LetD)] H9.out (hSub.out W gW) (by simp)).mono ?_)
            rintro e W2 ⟨rfl, g2⟩
            exact ⟨_, rfl, g2, rfl⟩
          simp only [Act.put, List.setIfInBounds_toArray, List.set_cons_zero, List.set_cons_succ]
          apply wpG_eq
          · intro W hW hs
            unfold opG
            go_simp
            first | exact resG_eq_mk _ _ _ | rfl
          simp only [Act.put, List.setIfInBounds_toArray, List.set_cons_zero, List.set_cons_succ]
          apply wpG_eq
          · intro W hW hs
            unfold opG
            go_simp
            first | exact resG_eq_mk _ _ _ | rfl
          simp only [Act.put, List.setIfInBounds_toArray, List.set_cons_zero, List.set_cons_succ]
          apply wpG_nil
          intro wq hWq hsAll
          have W8 := Lib.hid (W7.out.go (Gr.trans ((Gr.refl w7).drew) hWq))
          clear hsAll hWq W7 C7 S7 hSub
          go_wp2_with fail
          refine (Once.len W8.out.once).mono ?_
          rintro e w8 ⟨rfl, hw8⟩
          subst w8
          have hlz : Hid ((ls2.length : Int) = (L : Int) - 1) := Lib.hid (by rw [EL.out, List.length_eraseIdx, if_pos hk', ← HL.out]; omega)
          rw [hlz.out]
          go_wp2
          exact ⟨⟨k + 1, c + 1, m + 1, cut2, ls2, by omega, by go_num, by rw [hlz.out], W8.out.once, by omega, by omega, by omega, HSM2.out⟩, by simp [intOf]; omega⟩
        · have hm1 : ((op : Int) % 7) = 2 := by omega
          have hm2 : ((op : Int).tmod 7) = 2 := by rw [Int.tmod_eq_emod_of_nonneg (by omega)]; omega
          obtain ⟨k', hk', ei, el⟩ : ∃ (k' : Nat) (hk' : k' < ls.length), ix = (k' : Int) ∧ ls2 = ls.eraseIdx k' := by
            have h9 := doesV_2 (sizes := S231) (cut := cut) (ls := ls) (a := (⟨op, ix, (⟨(x1, x2), (x3, x4), b⟩ : LetD)⟩ : ActD)) hd (by rw [HRR.out])
            rw [HRR.out] at h9
            exact h9
          subst ei
          have hkL : k' < L := by rw [HL.out]; exact hk'
          have hkI0 : (0 : Int) ≤ (k' : Int) := by omega
          have hkI1 : (k' : Int) < (L : Int) := by omega
          have EL := Lib.hid el
          clear el
          obtain ⟨Bw, ow, bw, eB, hBw, p0, p1, p2, p3, p4, hsw⟩ := W5.out.reads.at k' hk'
          subst eB
          obtain ⟨y, hy⟩ : ∃ y, y = ls[k'] := ⟨_, rfl⟩
          have hys : SmallO y := by rw [hy]; exact HSM.out _ (List.getElem_mem _)
          rw [← hy] at p0 p1 p2 p3 hsw
          have HY := Lib.hid hy
          clear hy
          obtain ⟨⟨y1, y2⟩, ⟨y3, y4⟩, yb⟩ := y
          simp only at p0 p1 p2 p3 hsw
          obtain ⟨ay, cy, rfl, _⟩ := hsw.bytes
          have HSW := Lib.hid hsw
          have HYS := Lib.hid hys
          clear hsw hys
          obtain ⟨t0, t1, t2, t3, t4, t5, t6⟩ := T.out _ W5.out.below
          go_wp2_with fail
          clear t0 t1 t2 t3 t4 t5 t6
          clear p0 p1 p2 p3 p4
          refine (key_any w5 (⟨(y1, y2), (y3, y4), yb⟩ : LetD) (.slice ay yb.length cy) (HSW.out) (by have := HYS.out.2; omega)).mono ?_
          rintro e w6 ⟨rfl, g6⟩
          have W6 := Lib.hid (W5.out.go g6)
          have G6 := Lib.hid g6
          obtain ⟨cz, hcz⟩ : ∃ cz, cz = cnt ls (keyB (⟨(y1, y2), (y3, y4), yb⟩ : LetD)) := ⟨_, rfl⟩
          have hlk := W6.out.look (keyB (⟨(y1, y2), (y3, y4), yb⟩ : LetD)) (key_len HYS.out)
          rw [← hcz] at hlk
          have hc0 : 0 ≤ cz := by rw [hcz]; exact cnt_nonneg _ _
          have hc1 : cz ≤ 1000 := by have := cnt_le ls (keyB (⟨(y1, y2), (y3, y4), yb⟩ : LetD)); have := HL60.out; omega
          obtain ⟨w7, hu, hW7, hcG⟩ := Was.sub W6.out (by omega) k' hk' (by rw [← HY.out]; exact HYS.out) HL60.out EL.out (z := cz) (by rw [hcz, HY.out])
          rw [← HY.out] at hu
          have HLK := Lib.hid hlk
          have HU := Lib.hid hu
          have W7 := Lib.hid hW7
          have GG := Lib.hid hcG
          clear hlk hu hW7 hcG g6 hcz
          go_wp2_with (first | (refine wpList_run_lookup HLK.out rfl _ _ rfl rfl rfl ?_; clear HLK) | (refine wpList_run_update HU.out rfl _ _ _ rfl rfl rfl rfl ?_; clear HU) | fail)
          refine (Once.len W7.out.once).mono ?_
          rintro e w8 ⟨rfl, hw8⟩
          subst w8
          have hlz : Hid ((ls2.length : Int) = (L : Int) - 1) := Lib.hid (by rw [EL.out, List.length_eraseIdx, if_pos hk', ← HL.out]; omega)
          rw [hlz.out]
          go_wp2
          exact ⟨⟨k + 1, c + 1, m + 1, cut2, ls2, by omega, by go_num, by rw [hlz.out], W7.out.once, by omega, by omega, by omega, HSM2.out⟩, by simp [intOf]; omega⟩
        · have hm1 : ((op : Int) % 7) = 3 := by omega
          have hm2 : ((op : Int).tmod 7) = 3 := by rw [Int.tmod_eq_emod_of_nonneg (by omega)]; omega
          obtain ⟨k', hk', ei, el⟩ : ∃ (k' : Nat) (hk' : k' < ls.length), ix = (k' : Int) ∧ ls2 = ls ++ [ls[k']] := by
            have h9 := doesV_3 (sizes := S231) (cut := cut) (ls := ls) (a := (⟨op, ix, (⟨(x1, x2), (x3, x4), b⟩ : LetD)⟩ : ActD)) hd (by rw [HRR.out])
            rw [HRR.out] at h9
            exact h9
          subst ei
          have hkL : k' < L := by rw [HL.out]; exact hk'
          have hkI0 : (0 : Int) ≤ (k' : Int) := by omega
          have hkI1 : (k' : Int) < (L : Int) := by omega
          have EL := Lib.hid el
          clear el
          obtain ⟨Bw, ow, bw, eB, hBw, p0, p1, p2, p3, p4, hsw⟩ := W5.out.reads.at k' hk'
          subst eB
          obtain ⟨y, hy⟩ : ∃ y, y = ls[k'] := ⟨_, rfl⟩
          have hys : SmallO y := by rw [hy]; exact HSM.out _ (List.getElem_mem _)
          rw [← hy] at p0 p1 p2 p3 hsw
          have HY := Lib.hid hy
          clear hy
          obtain ⟨⟨y1, y2⟩, ⟨y3, y4⟩, yb⟩ := y
          simp only at p0 p1 p2 p3 hsw
          obtain ⟨ay, cy, rfl, _⟩ := hsw.bytes
          have HSW := Lib.hid hsw
          have HYS := Lib.hid hys
          clear hsw hys
          obtain ⟨t0, t1, t2, t3, t4, t5, t6⟩ := T.out _ W5.out.below
          go_wp2_with fail
          clear t0 t1 t2 t3 t4 t5 t6
          clear p0 p1 p2 p3 p4
          refine (key_any w5 (⟨(y1, y2), (y3, y4), yb⟩ : LetD) (.slice ay yb.length cy) (HSW.out) (by have := HYS.out.2; omega)).mono ?_
          rintro e w6 ⟨rfl, g6⟩
          have W6 := Lib.hid (W5.out.go g6)
          have G6 := Lib.hid g6
          obtain ⟨cz, hcz⟩ : ∃ cz, cz = cnt ls (keyB (⟨(y1, y2), (y3, y4), yb⟩ : LetD)) := ⟨_, rfl⟩
          have hlk := W6.out.look (keyB (⟨(y1, y2), (y3, y4), yb⟩ : LetD)) (key_len HYS.out)
          rw [← hcz] at hlk
          have hc0 : 0 ≤ cz := by rw [hcz]; exact cnt_nonneg _ _
          have hc1 : cz ≤ 1000 := by have := cnt_le ls (keyB (⟨(y1, y2), (y3, y4), yb⟩ : LetD)); have := HL60.out; omega
          obtain ⟨w7, hu, hW7, hcG⟩ := Was.add W6.out (by omega) (⟨(y1, y2), (y3, y4), yb⟩ : LetD) HYS.out HL60.out (by rw [EL.out, HY.out]) hcz
          have HLK := Lib.hid hlk
          have HU := Lib.hid hu
          have W7 := Lib.hid hW7
          have GG := Lib.hid hcG
          clear hlk hu hW7 hcG g6 hcz
          go_wp2_with (first | (refine wpList_run_lookup HLK.out rfl _ _ rfl rfl rfl ?_; clear HLK) | (refine wpList_run_update HU.out rfl _ _ _ rfl rfl rfl rfl ?_; clear HU) | fail)
          refine (Once.len W7.out.once).mono ?_
          rintro e w8 ⟨rfl, hw8⟩
          subst w8
          have hlz : Hid ((ls2.length : Int) = (L : Int) + 1) := Lib.hid (by rw [EL.out, List.length_append, ← HL.out]; simp)
          rw [hlz.out]
          go_wp2
          exact ⟨⟨k + 1, c + 1, m + 1, cut2, ls2, by omega, by go_num, by rw [hlz.out], W7.out.once, by omega, by omega, by omega, HSM2.out⟩, by simp [intOf]; omega⟩
        · have hm1 : ((op : Int) % 7) = 4 := by omega
          have hm2 : ((op : Int).tmod 7) = 4 := by rw [Int.tmod_eq_emod_of_nonneg (by omega)]; omega
          obtain ⟨k', hk', ei, el⟩ : ∃ (k' : Nat) (hk' : k' < ls.length), ix = (k' : Int) ∧ ls2 = ls.eraseIdx k' ++ [ls[k']] := by
            have h9 := doesV_4 (sizes := S231) (cut := cut) (ls := ls) (a := (⟨op, ix, (⟨(x1, x2), (x3, x4), b⟩ : LetD)⟩ : ActD)) hd (by rw [HRR.out])
            rw [HRR.out] at h9
            exact h9
          subst ei
          have hkL : k' < L := by rw [HL.out]; exact hk'
          have hkI0 : (0 : Int) ≤ (k' : Int) := by omega
          have hkI1 : (k' : Int) < (L : Int) := by omega
          have EL := Lib.hid el
          clear el
          have W6 : Hid (Was w w5 N M G (c + 1) m cut2 ls2 (cnt ls2) (.slice aw L cw) ls) := Lib.hid (W5.out.congr (fun k9 => by rw [EL.out, cnt_append, cnt_one]; exact cnt_erase hk' k9))
          obtain ⟨t0, t1, t2, t3, t4, t5, t6⟩ := T.out _ W5.out.below
          go_wp2_with fail
          clear t0 t1 t2 t3 t4 t5 t6
          refine (Once.len W6.out.once).mono ?_
          rintro e w8 ⟨rfl, hw8⟩
          subst w8
          have hlz : Hid ((ls2.length : Int) = (L : Int)) := Lib.hid (by rw [EL.out, List.length_append, List.length_eraseIdx, if_pos hk', ← HL.out]; simp; omega)
          rw [hlz.out]
          go_wp2
          exact ⟨⟨k + 1, c + 1, m, cut2, ls2, by omega, by go_num, by rw [hlz.out], W6.out.once, by omega, by omega, by omega, HSM2.out⟩, by simp [intOf]; omega⟩
        · have hm1 : ((op : Int) % 7) = 5 := by omega
          have hm2 : ((op : Int).tmod 7) = 5 := by rw [Int.tmod_eq_emod_of_nonneg (by omega)]; omega
          have e1 : ls2 = ls := by
            have h9 := doesV_56 (sizes := S231) (cut := cut) (ls := ls) (a := (⟨op, ix, (⟨(x1, x2), (x3, x4), b⟩ : LetD)⟩ : ActD)) (.inl hd)
            rw [HRR.out] at h9
            exact h9
          have W6 : Hid (Was w w5 N M G (c + 1) m cut2 ls2 (cnt ls2) (.slice aw L cw) ls) := Lib.hid (W5.out.congr (fun k9 => by rw [e1]))
          have E1 := Lib.hid e1
          clear e1
          obtain ⟨t0, t1, t2, t3, t4, t5, t6⟩ := T.out _ W5.out.below
          go_wp2_with fail
          clear t0 t1 t2 t3 t4 t5 t6
          refine (Once.len W6.out.once).mono ?_
          rintro e w8 ⟨rfl, hw8⟩
          subst w8
          have hlz : Hid ((ls2.length : Int) = (L : Int)) := Lib.hid (by rw [E1.out, ← HL.out])
          rw [hlz.out]
          go_wp2
          exact ⟨⟨k + 1, c + 1, m, cut2, ls2, by omega, by go_num, by rw [hlz.out], W6.out.once, by omega, by omega, by omega, HSM2.out⟩, by simp [intOf]; omega⟩
        · have hm1 : ((op : Int) % 7) = 6 := by omega
          have hm2 : ((op : Int).tmod 7) = 6 := by rw [Int.tmod_eq_emod_of_nonneg (by omega)]; omega
          have e1 : ls2 = ls := by
            have h9 := doesV_56 (sizes := S231) (cut := cut) (ls := ls) (a := (⟨op, ix, (⟨(x1, x2), (x3, x4), b⟩ : LetD)⟩ : ActD)) (.inr hd)
            rw [HRR.out] at h9
            exact h9
          have W6 : Hid (Was w w5 N M G (c + 1) m cut2 ls2 (cnt ls2) (.slice aw L cw) ls) := Lib.hid (W5.out.congr (fun k9 => by rw [e1]))
          have E1 := Lib.hid e1
          clear e1
          obtain ⟨t0, t1, t2, t3, t4, t5, t6⟩ := T.out _ W5.out.below
          go_wp2_with fail
          clear t0 t1 t2 t3 t4 t5 t6
          refine (Once.len W6.out.once).mono ?_
          rintro e w8 ⟨rfl, hw8⟩
          subst w8
          have hlz : Hid ((ls2.length : Int) = (L : Int)) := Lib.hid (by rw [E1.out, ← HL.out])
          rw [hlz.out]
          go_wp2
          exact ⟨⟨k + 1, c + 1, m, cut2, ls2, by omega, by go_num, by rw [hlz.out], W6.out.once, by omega, by omega, by omega, HSM2.out⟩, by simp [intOf]; omega⟩
      · have hls : ls2 = ls := by
          have h9 := doesV_no (sizes := S231) (cut := cut) (ls := ls) (a := ⟨op, ix, ⟨(x1, x2), (x3, x4), b⟩⟩) (by rw [HRR.out]; exact hz)
          rw [HRR.out] at h9
          exact h9
        subst hls
        clear HRR
        go_wp2_with fail
        refine (Once.letters W5.out.once (fun l hl => (HBIG.out l hl).2)).mono ?_
        rintro e w6 ⟨vz, rfl, ⟨ps', hz1, hz2⟩, g6⟩
        have W6 := Lib.hid (W5.out.go g6)
        have L6 : Hid (Lets w6 vz ls2) := Lib.hid (by rw [← hz2]; exact hz1.reads)
        clear hz1 hz2 g6 W5 C5 S5
        go_wp2_with fail
        refine (same_true _ _ vz ls2 W6.out.reads L6.out (by rw [← HL.out]; omega)).mono ?_
        rintro e w7 ⟨rfl, g7⟩
        have W7 := Lib.hid (W6.out.go g7)
        clear g7 W6 L6
        go_wp2
        exact ⟨⟨k + 1, c + 1, m, cut2, ls2, by omega, by go_num, by rw [HL.out], W7.out.once, by omega, by omega, by omega, HSM2.out⟩, by simp [intOf]; omega⟩
    · obtain rfl : k = n := by omega
      have HLEN : Hid (ls.length ≤ 1000) := Lib.hid (by rw [← HL.out]; omega)
      go_wp2_with fail
      refine (Once.lets HO.out (fun l hl => (HBIG.out l hl).2)).mono ?_
      rintro e w3 ⟨vw, rfl, hW3, g3⟩
      obtain ⟨aw, cw, rfl⟩ := hW3.shape
      rw [← HL.out]
      have W3 : Hid (Was w w3 N M G c m cut ls (cnt ls) (.slice aw L cw) ls) := Lib.hid (by rw [HL.out]; exact hW3)
      clear hW3 g3 HO
      go_wp2
      go_loopw [12] (fun i W => ∃ q m' : Nat, q ≤ L ∧ i = .int .i64 q ∧ m' ≤ k + q ∧ Was w W N M G c m' cut ls (cnt (ls.drop q)) (.slice aw L cw) ls) (fun i _ => L - (intOf i).toNat)
      case atStart => exact ⟨0, m, Nat.zero_le _, rfl, by omega, W3.out⟩
      case round =>
        clear W3
        obtain ⟨q, m', hq, rfl, hm', hW⟩ := hrel
        have W4 := Lib.hid hW
        clear hW
        by_cases hlt2 : q < L
        · have hql : q < ls.length := by rw [← HL.out]; exact hlt2
          obtain ⟨Bw, ow, bw, eB, hBw, p0, p1, p2, p3, p4, hsw⟩ := W4.out.reads.at q hql
          subst eB
          obtain ⟨y, hy⟩ : ∃ y, y = ls[q] := ⟨_, rfl⟩
          have hys : SmallO y := by rw [hy]; exact HSM.out _ (List.getElem_mem _)
          rw [← hy] at p0 p1 p2 p3 hsw
          have HY := Lib.hid hy
          clear hy
          obtain ⟨⟨y1, y2⟩, ⟨y3, y4⟩, yb⟩ := y
          simp only at p0 p1 p2 p3 hsw
          obtain ⟨ay, cy, rfl, _⟩ := hsw.bytes
          have HSW := Lib.hid hsw
          have HYS := Lib.hid hys
          have HP := Lib.hid (And.intro p0 (And.intro p1 (And.intro p2 (And.intro p3 p4))))
          clear hsw hys
          have hq0 : (0 : Int) ≤ (q : Int) := by omega
          have hq1 : (q : Int) < (L : Int) := by omega
          go_wp2_with fail
          clear p0 p1 p2 p3 p4
          refine (key_any wr (⟨(y1, y2), (y3, y4), yb⟩ : LetD) (.slice ay yb.length cy) HSW.out (by have := HYS.out.2; omega)).mono ?_
          rintro e w6 ⟨rfl, g6⟩
          have W6 := Lib.hid (W4.out.go g6)
          have S6 := Lib.hid (HSW.out.below g6)
          have P6 := Lib.hid (And.intro (g6.cellT HP.out.1) (And.intro (g6.cellT HP.out.2.1) (And.intro (g6.cellT HP.out.2.2.1) (And.intro (g6.cellT HP.out.2.2.2.1) (g6.cellT HP.out.2.2.2.2)))))
          obtain ⟨cz, hcz⟩ : ∃ cz, cz = cnt (ls.drop q) (keyB (⟨(y1, y2), (y3, y4), yb⟩ : LetD)) := ⟨_, rfl⟩
          have hlk := W6.out.look (keyB (⟨(y1, y2), (y3, y4), yb⟩ : LetD)) (key_len HYS.out)
          rw [← hcz] at hlk
          have hc0 : 0 ≤ cz := by rw [hcz]; exact cnt_nonneg _ _
          have hc1 : cz ≤ 1000 := by have := cnt_le (ls.drop q) (keyB (⟨(y1, y2), (y3, y4), yb⟩ : LetD)); rw [List.length_drop] at this; have := HLEN.out; omega
          obtain ⟨w7, hu, hW7, hcG⟩ := Was.step W6.out (by omega) hql (by rw [← HY.out]; exact HYS.out) HLEN.out (z := cz) (by rw [hcz, HY.out])
          rw [← HY.out] at hu
          have HLK := Lib.hid hlk
          have HU := Lib.hid hu
          have W7 := Lib.hid hW7
          have S7 := Lib.hid (S6.out.pastG hcG W6.out.mapG)
          have P7 := Lib.hid (And.intro (cell_pastG P6.out.1 hcG W6.out.mapG) (And.intro (cell_pastG P6.out.2.1 hcG W6.out.mapG) (And.intro (cell_pastG P6.out.2.2.1 hcG W6.out.mapG) (And.intro (cell_pastG P6.out.2.2.2.1 hcG W6.out.mapG) (cell_pastG P6.out.2.2.2.2 hcG W6.out.mapG)))))
          clear hlk hu hW7 hcG g6 hcz W4 HSW HP
          go_upto_region 40 with (first | (refine wpList_run_lookup HLK.out rfl _ _ rfl rfl rfl ?_; clear HLK) | (refine wpList_run_update HU.out rfl _ _ _ rfl rfl rfl rfl ?_; clear HU) | fail)
          clear W6 S6 P6 hc0 hc1
          obtain ⟨p0, p1, p2, p3, p4⟩ := P7.out
          go_wp2_with fail
          clear p0 p1 p2 p3 p4
          refine (key_any w7 (⟨(y1, y2), (y3, y4), yb⟩ : LetD) (.slice ay yb.length cy) S7.out (by have := HYS.out.2; omega)).mono ?_
          rintro e w8 ⟨rfl, g8⟩
          have W8 := Lib.hid (W7.out.go g8)
          obtain ⟨c2, hc2⟩ : ∃ c2, c2 = cnt (ls.drop (q + 1)) (keyB (⟨(y1, y2), (y3, y4), yb⟩ : LetD)) := ⟨_, rfl⟩
          have hlk := W8.out.look (keyB (⟨(y1, y2), (y3, y4), yb⟩ : LetD)) (key_len HYS.out)
          rw [← hc2] at hlk
          have hc20 : ¬ c2 < 0 := by have := cnt_nonneg (ls.drop (q + 1)) (keyB (⟨(y1, y2), (y3, y4), yb⟩ : LetD)); omega
          have HLK := Lib.hid hlk
          clear hlk hc2 g8 W7 S7 P7
          go_wp2_with (first | (refine wpList_run_lookup HLK.out rfl _ _ rfl rfl rfl ?_; clear HLK) | fail)
          exact ⟨⟨q + 1, m' + 1, by omega, by go_num, by omega, W8.out⟩, by simp [intOf]; omega⟩
        · obtain rfl : q = L := by omega
          go_wp2_with fail
          refine (goes_any _).mono ?_
          rintro e w8 ⟨rfl, g8⟩
          have W8 := Lib.hid (W4.out.go g8)
          clear g8 W4
          go_wp2
          go_ret
          exact ⟨rfl, W8.out.below⟩

open Go.ChangeShapes Go.WideShapes Go.ChangeAt Go.RowKit
open Go.ChangeMaps (open_string shut_string)
theorem own_netOnce : ownKnob Try.prog.godebug = none := by kernel_rfl
theorem laidOut_netOnce : laidOutB Try.prog = true := by kernel_rfl
set_option maxRecDepth 100000 in
theorem lifted_netOnce (os : Os) (started : os.Started) (H : Type) (enc : TypeId × Value → H) :
    ReturnsInHanded {} Try.checked os 6 .any (Rows.netOnceSpec.pre6 enc Try.prog Try.f6 Rows.netOnceRow.domain false) (Rows.netOnceSpec.post enc Try.prog Try.f6 false true false false) := by
  refine returnsInHanded_of_change (C := Try.checked) own_netOnce started (by kernel_rfl) Try.func6
    (ChangeSpec.witness6 (enc := enc) (C := Try.checked) false ⟨#[], #[.slice Option.none 0 0], []⟩ 8 (by kernel_rfl) (by kernel_rfl) (by kernel_rfl) (by kernel_rfl)) ?_
  intro W base args ds gs before hval0 hW hcnd _
  have hval : ∀ (j : Nat) t v, Try.f6.params[j]? = some t → args[j]? = some v → Value.okWide Try.prog W .any base t v := hval0
  have hW' := hW
  obtain ⟨p, q, hA0, hV, rfl, hfz, hnd⟩ := hW
  have hA : DataW.TrodAll enc Try.prog W 0 (fun _ => true) true Try.f6.params.toList args.toList ds p := hA0
  rw [Try.params6] at hA hval
  obtain ⟨v0, vs0, d0, ds0, p0, q0, hargs, rfl, rfl, k0, r0⟩ := trodAll_cons hA
  obtain ⟨rfl, rfl, rfl⟩ := trodAll_nil r0
  obtain rfl : args = #[v0] := by cases args; simp_all
  obtain ⟨rfl, rfl⟩ := trodVars_none hV
  have lt0 : ∀ x ∈ p0, x.block < W.heap.size := by obtain ⟨m, hm⟩ := k0; exact DataW.trod_lt m _ _ _ hm
  obtain ⟨l0, s0, m0⟩ := open_acts (hval 0 22 v0 rfl rfl) k0
  clear hA0 hval0
  refine (once_walk W v0 l0 s0 m0).mono fun e W' ⟨he, bel⟩ => ?_
  subst he
  exact ⟨_, rfl, _, _, _, [], _, [], hW', trodAll_mk1 (shut_bool Try.underlying4 _), (trodAll_cons_mk (Below.trod laidOut_netOnce (by kernel_rfl) (of_decide_eq_true (by kernel_rfl)) k0 bel lt0) trodAll_mk0), rfl, bel.frame _, fun h => by cases h⟩

theorem over_netOnce : Rows.netOnceRow.holds Try.pinned (OpenSpec.ofChange Rows.netOnceSpec) :=
  OpenClaim.holds_of_wide 6 Try.f6 rfl rfl rfl rfl rfl rfl rfl ⟨rfl, rfl, rfl, rfl, rfl⟩ rfl rfl rfl rfl rfl (by kernel_rfl) Try.func6 (by kernel_rfl)
    (of_decide_eq_true (by kernel_rfl)) (by unfold Func.isWrapper; first | (rw [if_pos (by decide +kernel)]; kernel_rfl) | (rw [if_neg (by decide +kernel)]; exact ⟨rfl, rfl⟩))
    (fun os started H enc _ => lifted_netOnce os started H enc)

theorem netOnce_proved : Rows.NetOnceSaid := over_netOnce
#print axioms netOnce_proved
end Go.Proofs.Ytcpkbngoecpnkaa
