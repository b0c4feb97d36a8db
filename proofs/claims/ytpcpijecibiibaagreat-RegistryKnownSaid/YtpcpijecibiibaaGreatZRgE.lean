/-
  Package registry: what its laws call.
  Package registry: the law's own trial.
-/
import Derived.Test.YtpcpijecibiibaaGreatZRgD
import Derived.Test.YtpcpijecibiibaaGreatZK
section
set_option linter.unusedVariables false
set_option linter.unusedSimpArgs false
set_option maxRecDepth 100000
namespace Go.Proofs.YtpcpijecibiibaaGreat
open Go.RowKit
theorem results_row1 {P : Program} {fn : Func} {p : Tmp} {ty : TypeId} {n : Nat} (rt : RowTy P ty n) (h : fn.results = #[.cell p ty]) (tmps : Array Value) (w : World) {g : Nat} {cs : List Value} {t : TypeId}
    (hp : tmps.getD p undef = .pointer (some ⟨g, 0, none⟩)) (hg : CellsAt w g cs t) (hn : cs.length = n) : (results fn tmps).run P w = .ok (.agg cs.toArray) w := by
  have hp' : tmps[p]?.getD undef = .pointer (some ⟨g, 0, none⟩) := by simpa using hp
  simp [results, h, hp', asAddr, run_load_row rt hg hn]
def wantX (s r : Int) : EntD := { zeroX with kind := 8, site := s, region := r }
def backX (s r : Int) (e : Nat) (f : List Nat) : EntD := { zeroX with kind := 9, site := s, region := r, epoch := e, frontier := f }
theorem wantX_ok {s r : Int} (hs : I64 s) (hr : I64 r) : EntOk (wantX s r) := { zeroX_ok 8 (by decide) with site := hs, region := hr }
theorem backX_ok {s r : Int} {e : Nat} {f : List Nat} (hs : I64 s) (hr : I64 r) (he : e < 2 ^ 64) (hf : ∀ k ∈ f, k < 2 ^ 64) : EntOk (backX s r e f) := { zeroX_ok 9 (by decide) with site := hs, region := hr, epoch := he, frontier := hf }
theorem wantX_big (s r : Int) : EntBig (wantX s r) := { zeroX_bd.big with frontier := by show (0 : Nat) ≤ _; decide }
theorem backX_big (s r : Int) (e : Nat) {f : List Nat} (hf : f.length ≤ 10) : EntBig (backX s r e f) := { zeroX_bd.big with frontier := by show f.length ≤ _; omega }
/-- The registry when an entry's bytes were applied. -/
def applyP (r : RegD) (x : EntD) : RegD := applyG r (putV x).1
theorem applyP_may {r : RegD} {x : EntD} (ok : EntOk x) (big : EntBig x) (hm : mayX x) (hl : (tellB x).length ≤ 4096) : applyP r x = applyX r x := by
  have e : putV x = (tellB x, 0) := by rw [putV_may ok big.fit (by decide) hm, if_neg (by omega)]
  unfold applyP applyG
  rw [e]
  show (if (getV (tellB x)).2 = 0 then applyX r (getV (tellB x)).1 else r) = _
  rw [getV_tell ok hm hl]
  rfl
theorem getV_nil : (getV []).2 = 2 := by rfl
theorem applyP_not {r : RegD} {x : EntD} (ok : EntOk x) (big : EntBig x) (hm : ¬ mayX x) : applyP r x = r := by
  have e : putV x = ([], 1) := putV_not ok big.fit (by decide) hm
  unfold applyP applyG
  rw [e]
  show (if (getV []).2 = 0 then applyX r (getV []).1 else r) = _
  rw [getV_nil]
  rfl
/-- The registry is a call's own: made behind w. -/
def RegN (w W : World) (gv : Value) (P : Nat → Prop) (r : RegD) : Prop := ∃ g, gv = .pointer (some ⟨g, 0, none⟩) ∧ RegIs W P g r ∧ (∀ k, P k → w.heap.size ≤ k) ∧ RegOk r
theorem RegN.keep {ρ : Nat → Prop} {w W W' : World} {gv : Value} {P : Nat → Prop} {r : RegD} (h : RegN w W gv P r) (c : Ch ρ W W') (hn : ∀ k, P k → ¬ ρ k) : RegN w W' gv P r := by
  obtain ⟨g, e, h1, h2, h3⟩ := h
  exact ⟨g, e, h1.keep c hn, h2, h3⟩
theorem RegN.gr {w W W' : World} {gv : Value} {P : Nat → Prop} {r : RegD} (h : RegN w W gv P r) (c : Gr W W') : RegN w W' gv P r := h.keep (Ch.of_gr (ρ := fun _ => False) c) (fun _ _ h => h)
theorem RegN.v {w W : World} {gv : Value} {P : Nat → Prop} {r : RegD} (h : RegN w W gv P r) : RegV W P gv r := by
  obtain ⟨g, e, h1, _⟩ := h
  exact .inr ⟨g, e, h1⟩
/-- Apply on it: the registry takes new blocks only. -/
def AppliedN (w W : World) (gv : Value) (P : Nat → Prop) (r' : RegD) (e : Ending) (W' : World) : Prop := e = .returned (.tuple #[]) ∧ (∃ P', RegN w W' gv P' r' ∧ (∀ k, P k → P' k) ∧ (∀ k, P' k → P k ∨ W.heap.size ≤ k)) ∧ Ch P W W'
theorem apply_own (w W : World) (gv : Value) (P : Nat → Prop) (r : RegD) (h : RegN w W gv P r) (v : Value) (l : List UInt8) (hs : Sl W v (bytes l)) (hl : l.length ≤ 1000000000) (hsz : w.heap.size ≤ W.heap.size) :
    Calls Tryz.prog 12 #[gv, v] W (AppliedN w W gv P (applyG r l)) := by
  have hv := h.v
  obtain ⟨g, e, h1, h2, h3⟩ := h
  refine (apply_any W P gv r hv h3 v l hs hl).mono ?_
  rintro en W' ⟨rfl, hh⟩
  rcases hh with ⟨h4, _⟩ | ⟨g', e', _, ⟨P', r1, r2, r3⟩, hc⟩
  · rw [h4] at e; cases e
  · refine ⟨rfl, ⟨P', ⟨g', e', r1, fun k hk => (r3 k hk).elim (h2 k) (fun h => Nat.le_trans hsz h), applyG_ok h3 l⟩, r2, r3⟩, ch_mono hc fun k hk => hk.1⟩
theorem new_own (w : World) (s r : Int) : Calls Tryz.prog 10 #[.int .i64 s, .int .i64 r] w fun e W => ∃ gv P, e = .returned gv ∧ RegN w W gv P (newG s r) ∧ Gr w W := (rnew_any w s r).mono fun e W ⟨g, P, h1, h2, h3, h4⟩ => ⟨_, P, h1, ⟨g, rfl, h2, h3, newG_ok s r⟩, h4⟩
/-- The law's bytes. -/
theorem rbytes_any (w : World) (x : EntD) (q : EntV) (hp : EntP Any w x q) (ok : EntOk x) (big : EntBig x) : Calls Tryz.prog 13 #[.agg (entCells x q).toArray] w (RetSl w (putV x).1) := by
  have PUT : Hid (∀ W, Gr w W → Calls Tryz.prog 20 #[.agg (entCells x q).toArray] W (RetPut W x)) := Lib.hid fun W hW => put_any W x q (hp.gr hW) ok big
  obtain ⟨L, hL⟩ : ∃ L, L = (putV x).1 := ⟨_, rfl⟩
  obtain ⟨pe, hpe⟩ : ∃ pe, pe = (putV x).2 := ⟨_, rfl⟩
  have RP : Hid (∀ W e W', RetPut W x e W' → ∃ v, e = .returned (.tuple #[v, .int .i64 pe]) ∧ Sl W' v (bytes L) ∧ Gr W W') := Lib.hid fun W e W' h => by rw [hL, hpe]; exact h
  obtain ⟨E, hE⟩ : ∃ E, E = entCells x q := ⟨_, rfl⟩
  have EN : Hid (E.length = 23) := Lib.hid (by rw [hE]; rfl)
  rw [← hE] at PUT ⊢
  rw [← hL]
  clear hL hpe hE hp ok big
  go_enter Tryz.func13, Tryz.ntmps13
  go_wp2_with (first | (refine wpList_boxE _ rfl rfl rfl ?_) | fail)
  intro w1 k1 g1 n1
  obtain ⟨b1, hb1⟩ : ∃ b1, b1 = w.heap.size := ⟨_, rfl⟩
  rw [← hb1] at k1 ⊢
  have K1 := Lib.hid k1
  have G1 := Lib.hid g1
  clear k1 g1 n1 hb1
  go_wp2_with (first | (refine wpList_loadE entTy _ rfl rfl rfl K1.out EN.out ?_) | fail)
  refine (PUT.out w1 G1.out).mono ?_
  intro en w2 h2
  obtain ⟨v2, rfl, s2, g2⟩ := RP.out _ _ _ h2
  obtain ⟨a2, c2, hv2⟩ := s2.oneCells
  rw [bytes_length] at hv2
  subst hv2
  have S2 := Lib.hid s2
  have G2 := Lib.hid (G1.out.trans g2)
  clear h2 g2 s2
  go_wp2
  go_ret
  exact ⟨_, rfl, S2.out, G2.out⟩
theorem built_want (s r : Int) : Tryz.prog.built 44 [(0, .int .u8 8), (6, .int .i64 s), (7, .int .i64 r)] = some (entCells (wantX s r) zeroQ).toArray := by kernel_rfl
theorem rwant_any (w : World) (s r : Int) : Calls Tryz.prog 23 #[.int .i64 s, .int .i64 r] w fun e w' => e = .returned (.agg (entCells (wantX s r) zeroQ).toArray) ∧ Gr w w' := by
  obtain ⟨E, hE⟩ : ∃ E, E = entCells (wantX s r) zeroQ := ⟨_, rfl⟩
  have EN : Hid (E.length = 23) := Lib.hid (by rw [hE]; rfl)
  have E1 : Hid (oneAll E) := Lib.hid (by rw [hE]; rfl)
  have BU : Hid (Tryz.prog.built 44 [(0, .int .u8 8), (6, .int .i64 s), (7, .int .i64 r)] = some E.toArray) := Lib.hid (by rw [hE]; exact built_want s r)
  rw [← hE]
  clear hE
  go_enter Tryz.func23, Tryz.ntmps23
  go_wp2_with (first | (refine wpList_buildTo rfl 44 _ rfl (some 7) rfl E.toArray (by simp only [List.map_toArray, List.map_cons, List.map_nil]; exact BU.out) ?_) | (refine wpList_storeE entTy _ _ rfl rfl rfl rfl (CellsAt.new _ _ _) EN.out rfl E1.out ?_) | fail)
  intro w2 k2 ch2
  have g2 : Gr w w2 := Below.trans ((Gr.refl w).alloc _) (ch2.below ((Gr.refl w).alloc _).size (fun k hk => by have : k = w.heap.size := hk; omega))
  have K2 := Lib.hid k2
  have G2 := Lib.hid g2
  clear k2 ch2 g2
  go_wp2
  exact bodyPost_ret (v := .agg E.toArray) (results_row1 (fn := Tryz.f23) entTy rfl _ _ rfl K2.out EN.out) rfl ⟨rfl, G2.out⟩
theorem want_ent (w : World) (s r : Int) : EntP Any w (wantX s r) zeroQ := ⟨OpP.of (SlP.nil _ _ _ _) (OpsP.nil _ _ _ _), ItemP.zero _ _, SlP.nil _ _ _ _⟩
theorem back_ent {w : World} (s r : Int) (e : Nat) {f : List Nat} {v : Value} (h : Sl w v (nums f)) : EntP Any w (backX s r e f) { zeroQ with fv := v } := ⟨OpP.of (SlP.nil _ _ _ _) (OpsP.nil _ _ _ _), ItemP.zero _ _, ⟨h, .inr fun _ _ => trivial⟩⟩
theorem built_back (s r : Int) (e : Nat) (f : List Nat) (a : Option Addr) (n c : Nat) : Tryz.prog.built 44 [(0, .int .u8 9), (6, .int .i64 s), (7, .int .i64 r), (8, .int .u64 (e : Int)), (9, .slice a n c)] = some (entCells (backX s r e f) { zeroQ with fv := .slice a n c }).toArray := by kernel_rfl
theorem rback_any (w : World) (s r : Int) (e : Nat) (v : Value) (f : List Nat) (hs : Sl w v (nums f)) : Calls Tryz.prog 24 #[.int .i64 s, .int .i64 r, .int .u64 (e : Int), v] w fun en w' => en = .returned (.agg (entCells (backX s r e f) { zeroQ with fv := v }).toArray) ∧ Gr w w' := by
  obtain ⟨E, hE⟩ : ∃ E, E = entCells (backX s r e f) { zeroQ with fv := v } := ⟨_, rfl⟩
  have EN : Hid (E.length = 23) := Lib.hid (by rw [hE]; rfl)
  have E1 : Hid (oneAll E) := Lib.hid (by rw [hE]; exact (back_ent s r e hs).one)
  obtain ⟨a, c, hv⟩ := hs.oneCells
  obtain ⟨n, hn⟩ : ∃ n, n = (nums f).length := ⟨_, rfl⟩
  rw [← hn] at hv
  subst hv
  have BU : Hid (Tryz.prog.built 44 [(0, .int .u8 9), (6, .int .i64 s), (7, .int .i64 r), (8, .int .u64 (e : Int)), (9, .slice a n c)] = some E.toArray) := Lib.hid (by rw [hE]; exact built_back s r e f a n c)
  rw [← hE]
  clear hE hs hn
  go_enter Tryz.func24, Tryz.ntmps24
  go_wp2_with (first | (refine wpList_buildTo rfl 44 _ rfl (some 13) rfl E.toArray (by simp only [List.map_toArray, List.map_cons, List.map_nil]; exact BU.out) ?_) | (refine wpList_storeE entTy _ _ rfl rfl rfl rfl (CellsAt.new _ _ _) EN.out rfl E1.out ?_) | fail)
  intro w2 k2 ch2
  have g2 : Gr w w2 := Below.trans ((Gr.refl w).alloc _) (ch2.below ((Gr.refl w).alloc _).size (fun k hk => by have : k = w.heap.size := hk; omega))
  have K2 := Lib.hid k2
  have G2 := Lib.hid g2
  clear k2 ch2 g2
  go_wp2
  exact bodyPost_ret (v := .agg E.toArray) (results_row1 (fn := Tryz.f24) entTy rfl _ _ rfl K2.out EN.out) rfl ⟨rfl, G2.out⟩
end Go.Proofs.YtpcpijecibiibaaGreat
end
section
set_option linter.unusedVariables false
set_option linter.unusedSimpArgs false
set_option maxRecDepth 100000
namespace Go.Proofs.YtpcpijecibiibaaGreat
open Go.RowKit
theorem put_len (x : EntD) : (putV x).1.length ≤ 1000000000 := by
  unfold putV
  split
  · simp
  · split
    · simp
    · split
      · simp
      · rename_i h; simp only; omega
theorem RegN.after {w W W' : World} {gv : Value} {P : Nat → Prop} {r : RegD} (h : RegN w W gv P r) (G : Gr w W) (c : Ch P W W') : Gr w W' := by
  obtain ⟨g, _, _, h2, _⟩ := h
  exact Below.trans G (c.below G.size h2)
/-- A row is an entry: its bytes are those of x. -/
def IsEnt (w : World) (E : Array Value) (x : EntD) : Prop := ∀ W, Gr w W → Calls Tryz.prog 13 #[.agg E] W (RetSl W (putV x).1)
theorem isEnt {w : World} {x : EntD} {q : EntV} (hp : EntP Any w x q) (ok : EntOk x) (big : EntBig x) : IsEnt w (entCells x q).toArray x := fun W hW => rbytes_any W x q (hp.gr hW) ok big
theorem want2 (w : World) (s r : Int) (hs : I64 s) (hr : I64 r) : Calls Tryz.prog 23 #[.int .i64 s, .int .i64 r] w fun e w' => ∃ E, e = .returned (.agg E) ∧ Hid (IsEnt w' E (wantX s r)) ∧ Gr w w' :=
  (rwant_any w s r).mono fun e w' ⟨h1, h2⟩ => ⟨_, h1, Lib.hid (isEnt (want_ent w' s r) (wantX_ok hs hr) (wantX_big s r)), h2⟩
theorem back2 (w : World) (s r : Int) (ep : Nat) (v : Value) (f : List Nat) (hv : Sl w v (nums f)) (hs : I64 s) (hr : I64 r) (he : ep < 2 ^ 64) (hf : ∀ k ∈ f, k < 2 ^ 64) (hl : f.length ≤ 10) : Calls Tryz.prog 24 #[.int .i64 s, .int .i64 r, .int .u64 (ep : Int), v] w fun e w' => ∃ E, e = .returned (.agg E) ∧ Hid (IsEnt w' E (backX s r ep f)) ∧ Gr w w' :=
  (rback_any w s r ep v f hv).mono fun e w' ⟨h1, h2⟩ => ⟨_, h1, Lib.hid (isEnt (back_ent s r ep (hv.below h2)) (backX_ok hs hr he hf) (backX_big s r ep hl)), h2⟩
theorem applyW {r : RegD} {s n : Int} (hs : 0 ≤ s ∧ s ≤ 2) (hn : 0 ≤ n ∧ n ≤ 3) : applyG r (putV (wantX s n)).1 = applyX r (wantX s n) := by
  obtain ⟨a, rfl⟩ := Int.eq_ofNat_of_zero_le hs.1
  obtain ⟨b, rfl⟩ := Int.eq_ofNat_of_zero_le hn.1
  have ha : a = 0 ∨ a = 1 ∨ a = 2 := by omega
  have hb : b = 0 ∨ b = 1 ∨ b = 2 ∨ b = 3 := by omega
  rcases ha with rfl | rfl | rfl <;> rcases hb with rfl | rfl | rfl | rfl <;>
    exact applyP_may (wantX_ok (by unfold I64; omega) (by unfold I64; omega)) (wantX_big _ _) ⟨rfl, rfl, rfl⟩ (by decide)
theorem applyB {r : RegD} {s n : Int} {e : Nat} {f : List Nat} (hs : 0 ≤ s ∧ s ≤ 2) (hn : 0 ≤ n ∧ n ≤ 3) (he : e < 2 ^ 64) (hf : ∀ k ∈ f, k < 2 ^ 64) (hl : f.length ≤ 3) : applyG r (putV (backX s n e f)).1 = applyX r (backX s n e f) := by
  refine applyP_may (backX_ok (by unfold I64; omega) (by unfold I64; omega) he hf) (backX_big _ _ _ (by omega)) ⟨rfl, ?_, rfl⟩ ?_
  · have h1 : decide (0 ≤ s) = true := by simp; omega
    have h2 : decide (s < 3) = true := by simp; omega
    have h3 : decide (0 ≤ n) = true := by simp; omega
    have h4 : decide (n < 4) = true := by simp; omega
    have h5 : decide (f.length ≤ 3) = true := by simp; omega
    show ((decide (0 ≤ s) && decide (s < 3)) && ((decide (0 ≤ n) && decide (n < 4)) && (true && (decide (f.length ≤ 3) && true)))) = true
    rw [h1, h2, h3, h4, h5]; rfl
  · have : (tellB (backX s n e f)).length = (be 1 9).length + ((partB (backX s n e f) .site).length + ((partB (backX s n e f) .wher).length + ((partB (backX s n e f) .epoch).length + ((partB (backX s n e f) .stamp).length + 0)))) := by
      show (be 1 9 ++ (partB (backX s n e f) .site ++ (partB (backX s n e f) .wher ++ (partB (backX s n e f) .epoch ++ (partB (backX s n e f) .stamp ++ []))))).length = _
      simp only [List.length_append, List.length_nil]
    rw [this]
    simp [partB, valOf, valB, backX, be_length, stampB_length]
    omega
/-- A slice that lies off a registry. -/
def OffP (P : Nat → Prop) (W : World) (v : Value) (xs : List Value) : Prop := Sl W v xs ∧ ∀ k, v.ownBlock = some k → ¬ P k ∧ k < W.heap.size
theorem OffP.gr {P : Nat → Prop} {W W' : World} {v : Value} {xs : List Value} (h : OffP P W v xs) (g : Gr W W') : OffP P W' v xs := ⟨h.1.below g, fun k hk => ⟨(h.2 k hk).1, Nat.lt_of_lt_of_le (h.2 k hk).2 g.size⟩⟩
theorem OffP.applied {P P' : Nat → Prop} {W W' : World} {v : Value} {xs : List Value} (h : OffP P W v xs) (hn : ∀ k, P' k → P k ∨ W.heap.size ≤ k) (c : Ch P W W') : OffP P' W' v xs :=
  ⟨h.1.ch c (fun k hk => (h.2 k hk).1), fun k hk => ⟨fun e => (hn k e).elim (h.2 k hk).1 (fun e => by have := (h.2 k hk).2; omega), Nat.lt_of_lt_of_le (h.2 k hk).2 c.size⟩⟩
theorem RegN.off {w W W' : World} {gv : Value} {P : Nat → Prop} {r : RegD} {e : TypeId} {v : Value} {xs : List Value} (h : RegN w W gv P r) (o : Own W' W.heap.size e v xs) : OffP P W' v xs := by
  obtain ⟨g, _, h1, _⟩ := h
  exact ⟨o.sl, fun k hk => ⟨fun e => by have := h1.2.1 k e; have := (o.lt k hk).1; omega, (o.lt k hk).2⟩⟩
def t1a : Tok := ⟨1, 1, [0, 0], []⟩
def t1b : Tok := ⟨1, 1, [0, 0], [0]⟩
def t1c : Tok := ⟨2, 0, [3, 4], []⟩
theorem goes1 : applyG (newG 2 1) (putV (wantX 1 0)).1 = ⟨2, [t1a]⟩ := (applyW ⟨by decide, by decide⟩ ⟨by decide, by decide⟩).trans rfl
theorem goes2 : applyG ⟨2, [t1a]⟩ (putV (wantX 0 0)).1 = ⟨2, [t1b]⟩ := (applyW ⟨by decide, by decide⟩ ⟨by decide, by decide⟩).trans rfl
theorem goes3 : applyG ⟨2, [t1b]⟩ (putV (wantX 0 0)).1 = ⟨2, [t1b]⟩ := (applyW ⟨by decide, by decide⟩ ⟨by decide, by decide⟩).trans rfl
theorem goes4 : applyG ⟨2, [t1b]⟩ (putV (backX 1 0 2 [3, 4])).1 = ⟨2, [t1b]⟩ := (applyB ⟨by decide, by decide⟩ ⟨by decide, by decide⟩ (by decide) (by simp) (by decide)).trans rfl
theorem goes5 : applyG ⟨2, [t1b]⟩ (putV (backX 1 0 1 [3, 4])).1 = ⟨2, [t1c]⟩ := (applyB ⟨by decide, by decide⟩ ⟨by decide, by decide⟩ (by decide) (by simp) (by decide)).trans rfl
set_option maxHeartbeats 4000000 in
theorem goes_any (w : World) : Calls Tryz.prog 18 #[] w fun e w' => e = .returned (.bool true) ∧ Gr w w' := by
  go_enter Tryz.func18, Tryz.ntmps18
  go_wp2_with fail
  refine (new_own w 2 1).mono ?_
  rintro en w1 ⟨gv, P, rfl, hR, g1⟩
  have R := Lib.hid hR
  have G := Lib.hid g1
  clear hR g1
  go_wp2_with fail
  refine (want2 _ 1 0 ⟨by decide, by decide⟩ ⟨by decide, by decide⟩).mono ?_
  rintro en wA ⟨E, rfl, HB, gA⟩
  replace R := Lib.hid (R.out.gr gA)
  replace G := Lib.hid (G.out.trans gA)
  clear gA
  go_wp2_with fail
  refine (HB.out _ (Gr.refl _)).mono ?_
  rintro en wB ⟨v, rfl, sB, gB⟩
  obtain ⟨aB, cB, hvB⟩ := sB.oneCells
  rw [bytes_length] at hvB
  subst hvB
  have SB := Lib.hid sB
  replace R := Lib.hid (R.out.gr gB)
  replace G := Lib.hid (G.out.trans gB)
  clear gB sB HB
  go_wp2_with fail
  refine (apply_own w _ _ _ _ R.out _ _ SB.out (put_len _) G.out.size).mono ?_
  rintro en wC ⟨rfl, ⟨P2, hR, _, hPn⟩, hc⟩
  replace G := Lib.hid (R.out.after G.out hc)
  replace R := Lib.hid hR
  clear hR hc SB hPn
  rw [goes1] at R
  go_wp2_with fail
  refine (holder_any _ _ _ _ R.out.v 0).mono ?_
  rintro en w2 ⟨he, g2⟩
  obtain rfl : en = .returned (.tuple #[.int .i64 1, .int .u64 1, .bool true]) := he
  replace R := Lib.hid (R.out.gr g2)
  replace G := Lib.hid (G.out.trans g2)
  clear g2
  go_wp2_with fail
  refine (want2 _ 0 0 ⟨by decide, by decide⟩ ⟨by decide, by decide⟩).mono ?_
  rintro en wA ⟨E, rfl, HB, gA⟩
  replace R := Lib.hid (R.out.gr gA)
  replace G := Lib.hid (G.out.trans gA)
  clear gA
  go_wp2_with fail
  refine (HB.out _ (Gr.refl _)).mono ?_
  rintro en wB ⟨v, rfl, sB, gB⟩
  obtain ⟨aB, cB, hvB⟩ := sB.oneCells
  rw [bytes_length] at hvB
  subst hvB
  have SB := Lib.hid sB
  replace R := Lib.hid (R.out.gr gB)
  replace G := Lib.hid (G.out.trans gB)
  clear gB sB HB
  go_wp2_with fail
  refine (apply_own w _ _ _ _ R.out _ _ SB.out (put_len _) G.out.size).mono ?_
  rintro en wC ⟨rfl, ⟨P2, hR, _, hPn⟩, hc⟩
  replace G := Lib.hid (R.out.after G.out hc)
  replace R := Lib.hid hR
  clear hR hc SB hPn
  rw [goes2] at R
  go_wp2_with fail
  refine (want2 _ 0 0 ⟨by decide, by decide⟩ ⟨by decide, by decide⟩).mono ?_
  rintro en wA ⟨E, rfl, HB, gA⟩
  replace R := Lib.hid (R.out.gr gA)
  replace G := Lib.hid (G.out.trans gA)
  clear gA
  go_wp2_with fail
  refine (HB.out _ (Gr.refl _)).mono ?_
  rintro en wB ⟨v, rfl, sB, gB⟩
  obtain ⟨aB, cB, hvB⟩ := sB.oneCells
  rw [bytes_length] at hvB
  subst hvB
  have SB := Lib.hid sB
  replace R := Lib.hid (R.out.gr gB)
  replace G := Lib.hid (G.out.trans gB)
  clear gB sB HB
  go_wp2_with fail
  refine (apply_own w _ _ _ _ R.out _ _ SB.out (put_len _) G.out.size).mono ?_
  rintro en wC ⟨rfl, ⟨P2, hR, _, hPn⟩, hc⟩
  replace G := Lib.hid (R.out.after G.out hc)
  replace R := Lib.hid hR
  clear hR hc SB hPn
  rw [goes3] at R
  go_wp2_with fail
  refine (queue_any _ _ _ _ R.out.v 0 (by decide)).mono ?_
  rintro en w3 ⟨vq, rfl, oq, g3⟩
  have O : Hid (OffP _ w3 vq (ints [0])) := Lib.hid (R.out.off oq)
  obtain ⟨aq, cq, hsh⟩ := oq.shape
  rw [ints_length] at hsh
  replace hsh : vq = .slice aq 1 cq := hsh
  subst hsh
  replace R := Lib.hid (R.out.gr g3)
  replace G := Lib.hid (G.out.trans g3)
  clear g3 oq
  go_wp2_with fail
  refine (back2 _ 1 0 2 _ [3, 4] (Sl.new w3 [.int .u64 3, .int .u64 4] _ _ 2 2 rfl (by decide)) ⟨by decide, by decide⟩ ⟨by decide, by decide⟩ (by decide) (by simp) (by decide)).mono ?_
  rintro en wA ⟨E, rfl, HB, gA0⟩
  have gA := ((Gr.refl w3).alloc _).trans gA0
  clear gA0
  replace R := Lib.hid (R.out.gr gA)
  replace O := Lib.hid (O.out.gr gA)
  replace G := Lib.hid (G.out.trans gA)
  clear gA
  go_wp2_with fail
  refine (HB.out _ (Gr.refl _)).mono ?_
  rintro en wB ⟨v, rfl, sB, gB⟩
  obtain ⟨aB, cB, hvB⟩ := sB.oneCells
  rw [bytes_length] at hvB
  subst hvB
  have SB := Lib.hid sB
  replace R := Lib.hid (R.out.gr gB)
  replace O := Lib.hid (O.out.gr gB)
  replace G := Lib.hid (G.out.trans gB)
  clear gB sB HB
  go_wp2_with fail
  refine (apply_own w _ _ _ _ R.out _ _ SB.out (put_len _) G.out.size).mono ?_
  rintro en wC ⟨rfl, ⟨P2, hR, _, hPn⟩, hc⟩
  replace G := Lib.hid (R.out.after G.out hc)
  replace O := Lib.hid (O.out.applied hPn hc)
  replace R := Lib.hid hR
  clear hR hc SB hPn
  rw [goes4] at R
  go_wp2_with fail
  refine (back2 _ 1 0 1 _ [3, 4] (Sl.new wC [.int .u64 3, .int .u64 4] _ _ 2 2 rfl (by decide)) ⟨by decide, by decide⟩ ⟨by decide, by decide⟩ (by decide) (by simp) (by decide)).mono ?_
  rintro en wA ⟨E, rfl, HB, gA0⟩
  have gA := ((Gr.refl wC).alloc _).trans gA0
  clear gA0
  replace R := Lib.hid (R.out.gr gA)
  replace O := Lib.hid (O.out.gr gA)
  replace G := Lib.hid (G.out.trans gA)
  clear gA
  go_wp2_with fail
  refine (HB.out _ (Gr.refl _)).mono ?_
  rintro en wB ⟨v, rfl, sB, gB⟩
  obtain ⟨aB, cB, hvB⟩ := sB.oneCells
  rw [bytes_length] at hvB
  subst hvB
  have SB := Lib.hid sB
  replace R := Lib.hid (R.out.gr gB)
  replace O := Lib.hid (O.out.gr gB)
  replace G := Lib.hid (G.out.trans gB)
  clear gB sB HB
  go_wp2_with fail
  refine (apply_own w _ _ _ _ R.out _ _ SB.out (put_len _) G.out.size).mono ?_
  rintro en wC ⟨rfl, ⟨P2, hR, _, hPn⟩, hc⟩
  replace G := Lib.hid (R.out.after G.out hc)
  replace O := Lib.hid (O.out.applied hPn hc)
  replace R := Lib.hid hR
  clear hR hc SB hPn
  rw [goes5] at R
  go_wp2_with fail
  refine (holder_any _ _ _ _ R.out.v 0).mono ?_
  rintro en w5 ⟨he, g5⟩
  obtain rfl : en = .returned (.tuple #[.int .i64 0, .int .u64 2, .bool true]) := he
  replace R := Lib.hid (R.out.gr g5)
  replace G := Lib.hid (G.out.trans g5)
  replace O := Lib.hid (O.out.gr g5)
  clear g5
  have y0 : ∃ b o, aq = some ⟨b, o, none⟩ ∧ w5.cell? ⟨b, o, none⟩ = some (.int .i64 0) := by
    obtain ⟨a', c', e, _, h⟩ := O.out.1
    injection e with e1 e2 e3
    rcases h with h | ⟨b, o, e4, _, hc⟩
    · cases h
    · exact ⟨b, o, e1.trans e4, hc 0 (by decide)⟩
  obtain ⟨bq, oq, rfl, y0⟩ := y0
  go_wp2_with fail
  refine (frontier_any _ _ _ _ R.out.v 0 (by decide)).mono ?_
  rintro en w6 ⟨vf, rfl, of, g6⟩
  replace of : Own w6 w5.heap.size 39 vf (nums [3, 4]) := of
  have SF := Lib.hid (of.sl.below ((Gr.refl w6).alloc (.cells #[.int .u64 3, .int .u64 4] 39)))
  obtain ⟨af, cf, hsh⟩ := of.shape
  replace hsh : vf = .slice af 2 cf := hsh
  subst hsh
  replace G := Lib.hid (G.out.trans g6)
  clear g6 of
  go_wp2_with fail
  refine (nums_says _ _ _ [3, 4] [3, 4] SF.out (Sl.new w6 [.int .u64 3, .int .u64 4] _ _ 2 2 rfl (by decide)) (by decide) (by decide)).mono ?_
  rintro en w7 ⟨z, rfl, hz, g7⟩
  obtain rfl : z = true := hz.2 rfl
  replace G := Lib.hid (G.out.trans (((Gr.refl w6).alloc _).trans g7))
  clear g7 hz
  go_wp2
  go_ret
  exact ⟨rfl, G.out⟩
end Go.Proofs.YtpcpijecibiibaaGreat
end
