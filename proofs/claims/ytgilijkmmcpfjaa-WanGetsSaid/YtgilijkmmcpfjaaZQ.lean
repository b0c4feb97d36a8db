/-
  Of the document: what reads stamps of messages of package wan.
  Of the document: what stands while Get of messages of package wan reads.
-/
import Derived.Test.YtgilijkmmcpfjaaZM
import Derived.Test.YtgilijkmmcpfjaaZDItem
import Derived.Test.YtgilijkmmcpfjaaZU
import Derived.Test.YtgilijkmmcpfjaaZW
section
set_option linter.unusedVariables false
set_option linter.unusedSimpArgs false
set_option maxRecDepth 100000
namespace Go.Proofs.Ytgilijkmmcpfjaa
open Go.RowKit
set_option maxHeartbeats 1000000 in
theorem stampedW_any (w : World) (base : Nat → Prop) (g : Nat) (s : RS) (hr : Ds w base g s) (hb : ∀ k, base k → k < w.heap.size) :
    Calls Try.prog 37 #[.pointer (some ⟨g, 0, none⟩)] w (DGotN w base g (dStamp s).1 (dStamp s).2) := by
  obtain ⟨n, hn⟩ : ∃ n, n = (rCount ((3 : Nat) : Int) s).1 := ⟨_, rfl⟩
  obtain ⟨s1, hs1⟩ : ∃ s1, s1 = (rCount ((3 : Nat) : Int) s).2 := ⟨_, rfl⟩
  have e1 : dStamp s = dMany rUint n s1 := by rw [hn, hs1]; rfl
  have hn3 : n ≤ 3 := by rw [hn]; exact rCount_most 3 s
  have CO := ds_count w base g s 3 (by decide) hr
  rw [← hn, ← hs1] at CO
  rw [e1]
  have hgl := hr.lt
  have CC := Lib.hid CO
  have ENDS : Hid (∀ k acc sk, (k = n ∨ sk.2 = true) → dMany rUint n s1 = (acc ++ (dMany rUint (n - k) sk).1, (dMany rUint (n - k) sk).2) → ∀ w' v, Own w' w.heap.size 24 v (nums acc) → Ds w' base g sk → w.grownBy w' (some g) → DGotN w base g (dMany rUint n s1).1 (dMany rUint n s1).2 (.returned v) w') := Lib.hid fun k acc sk h1 h2 w' v o r g' => by
    rw [dMany_end rUint n k s1 sk acc h1 h2]
    exact ⟨v, rfl, o, r, g'⟩
  obtain ⟨D, hD⟩ : ∃ D, D = dMany rUint n s1 := ⟨_, rfl⟩
  have STEP : Hid (∀ k acc sk, k < n → sk.2 = false → D = (acc ++ (dMany rUint (n - k) sk).1, (dMany rUint (n - k) sk).2) → D = (acc ++ [(rUint sk).1] ++ (dMany rUint (n - (k + 1)) (rUint sk).2).1, (dMany rUint (n - (k + 1)) (rUint sk).2).2)) := Lib.hid fun k acc sk h1 h2 h3 => by
    rw [hD] at h3 ⊢
    exact dMany_step rUint n k s1 sk acc h1 h2 h3
  have D0 : Hid (D = ([] ++ (dMany rUint (n - 0) s1).1, (dMany rUint (n - 0) s1).2)) := Lib.hid (by rw [hD]; rfl)
  rw [← hD] at ENDS ⊢
  clear CO hn hs1 e1 hD
  go_enter Try.func37, Try.ntmps37
  go_wp2_with fail
  refine CC.out.mono ?_
  rintro e w1 ⟨rfl, hr1, hg1⟩
  go_wp2
  go_loopw [4, 5] (fun v i wr => ∃ (k : Nat) (acc : List Nat) (sk : RS), k ≤ n ∧ acc.length = k ∧ i = .int .i64 k ∧ Hid (D = (acc ++ (dMany rUint (n - k) sk).1, (dMany rUint (n - k) sk).2)) ∧ Own wr w.heap.size 24 v (nums acc) ∧ Ds wr base g sk ∧ w.grownBy wr (some g)) (fun _ i _ => n - (intOf i).toNat)
  case atStart => exact ⟨0, [], s1, Nat.zero_le _, rfl, rfl, D0, Own.nil0 _ _ _, hr1, hg1⟩
  case round =>
    clear hr1 hg1
    obtain ⟨k, acc, sk, hk, hlen, rfl, hd, ho, hr2, hg2⟩ := hrel
    obtain ⟨wo, rfl⟩ : ∃ wo : World, wo = wr := ⟨_, rfl⟩
    have HLEN := Lib.hid hlen
    clear hlen
    by_cases hlt : k < n
    · obtain ⟨c2, -⟩ := hr2.bad
      have i2 : (k : Int) < (n : Int) := by omega
      cases hbad : sk.2 with
      | true =>
        rw [hbad] at c2
        have KN := Lib.hid (ENDS.out k acc sk (.inr hbad) hd.out wo _ ho hr2 hg2)
        clear hbad hr2 hg2 ho hd
        go_wp2
        go_ret
        exact KN.out
      | false =>
        rw [hbad] at c2
        have HD2 := Lib.hid (STEP.out k acc sk hlt hbad hd.out)
        have U := rUint_lt sk
        obtain ⟨x, hx⟩ : ∃ x, x = (rUint sk).1 := ⟨_, rfl⟩
        obtain ⟨s3, hs3⟩ : ∃ s3, s3 = (rUint sk).2 := ⟨_, rfl⟩
        have GU := ds_uint wo base g sk hr2
        rw [← hx, ← hs3] at GU HD2
        rw [← hx] at U
        have GU2 := Lib.hid GU
        clear GU hx hs3 hbad hd
        have i1 : (0 : Int) ≤ (k : Int) := by omega
        go_wp2_with fail
        refine GU2.out.mono ?_
        rintro e w3 ⟨rfl, hr3, hg3⟩
        have o3 := ho.ch (Ch.of_grownBy (ρ := fun j => j = g) hg3 (fun k hk => by cases hk; rfl)) (fun j hj => by have := (ho.lt j hj).1; omega)
        have hsz : w.heap.size ≤ w3.heap.size := (grownBy_trans hg2 hg3).size
        obtain ⟨v4, w4, hrun, p1, p2⟩ := run_append_n (w3.alloc (.cells #[.int .u64 (x : Int)] 24)) w.heap.size u4 (.slice (some ⟨w3.heap.size, 0, none⟩) 1 1) acc [x] (World.ownsRow.alloc o3 _) (Sl.new w3 [_] _ _ _ _ rfl (by decide)) (by rw [HLEN.out]; simp; omega) (by simp; omega)
        have r4 := ds_newO (hr3.gr ((Gr.refl w3).alloc _)) p2 (fun j hj hq => by have := (o3.lt j hj).1; have := hb j hq; omega)
        have g4 : w.grownBy w4 (some g) := grown_newO (grownBy_trans (grownBy_trans hg2 hg3) (gr_grown ((Gr.refl w3).alloc _) g)) p2 (fun j hj => (o3.lt j hj).1)
        have P1 := Lib.hid p1
        have R4 := Lib.hid r4
        have G4 := Lib.hid g4
        have HRUN := Lib.hid hrun
        clear hrun p1 p2 r4 g4 o3 ho hr2 hr3 hg2 hg3 c2
        go_wp2_with (at_builtin; refine wpList_run_append HRUN.out rfl _ _ rfl rfl rfl ?_; clear HRUN)
        go_roundw
        case rel => exact ⟨k + 1, acc ++ [x], s3, by omega, by rw [List.length_append, HLEN.out]; rfl, by go_num, HD2, P1.out, R4.out, G4.out⟩
        case measure => simp [intOf]; omega
    · obtain rfl : k = n := by omega
      have KN := Lib.hid (ENDS.out k acc sk (.inl rfl) hd.out wo _ ho hr2 hg2)
      clear hr2 hg2 ho hd
      go_wp2
      go_ret
      exact KN.out
end Go.Proofs.Ytgilijkmmcpfjaa
end
section
set_option linter.unusedVariables false
set_option linter.unusedSimpArgs false
set_option maxRecDepth 100000
namespace Go.Proofs.Ytgilijkmmcpfjaa
open Go.RowKit
/-- Block w.heap.size holds the zero message, block b the message x so far with the slices q; the reader g is in the state s. -/
structure GRow (w W : World) (base : Nat → Prop) (g : Nat) (s : RS) (b : Nat) (x : WanD) (q : W3) : Prop where
  zero : CellsAt W w.heap.size zeroWL 26
  ds : Ds W base g s
  cells : CellsAt W b (wC x q) 26
  grw : Gr w W
  hg : g = w.heap.size + 1
  hb : b = w.heap.size + 2
  lt : ∀ k, base k → k < b
section
variable {w W W' : World} {base : Nat → Prop} {g : Nat} {s s' : RS} {b : Nat} {x x' : WanD} {q q' : W3}
theorem GRow.call (h : GRow w W base g s b x q) (hr : Ds W' base g s') (hg : W.grownBy W' (some g)) : GRow w W' base g s' b x q :=
  ⟨h.zero.other hg (fun e => by have h1 := h.hg; injection e with e; omega), hr, h.cells.other hg (fun e => by have h1 := h.hg; have h2 := h.hb; injection e with e; omega),
    Below.trans (show Below w.heap.size w W from h.grw) (grownBy_below hg h.grw.size (fun k hk => by have h1 := h.hg; cases hk; omega)), h.hg, h.hb, h.lt⟩
theorem GRow.part (h : GRow w W base g s b x q) (q' : W3) (hc : CellsAt W' b (wC x' q') 26) (hg : W.grownBy W' (some b)) : GRow w W' base g s b x' q' :=
  ⟨h.zero.other hg (fun e => by have h2 := h.hb; injection e with e; omega), ds_new h.ds hg (fun k => by have := h.lt b k; omega), hc,
    Below.trans (show Below w.heap.size w W from h.grw) (grownBy_below hg h.grw.size (fun k hk => by have h2 := h.hb; cases hk; omega)), h.hg, h.hb, h.lt⟩
theorem GRow.gr (h : GRow w W base g s b x q) (hg : Gr W W') : GRow w W' base g s b x q := ⟨h.zero.gr hg, h.ds.gr hg, h.cells.gr hg, h.grw.trans hg, h.hg, h.hb, h.lt⟩
theorem GRow.app {o : Option Nat} (h : GRow w W base g s b x q) (hg : W.grownBy W' o) (ho : ∀ j, o = some j → b < j) : GRow w W' base g s b x q :=
  ⟨h.zero.other hg (fun e => by have h2 := h.hb; have := ho _ e; omega), ds_newO h.ds hg (fun j hj hq => by have := ho j hj; have := h.lt j hq; omega), h.cells.other hg (fun e => by have := ho _ e; omega),
    Below.trans (show Below w.heap.size w W from h.grw) (grownBy_below hg h.grw.size (fun k hk => by have h2 := h.hb; have := ho k hk; omega)), h.hg, h.hb, h.lt⟩
theorem GRow.blt (h : GRow w W base g s b x q) : ∀ k, base k → k < W.heap.size := fun k hk => Nat.lt_trans (h.lt k hk) h.cells.lt
def GWan (w W : World) (base : Nat → Prop) (g : Nat) (s : RS) (b : Nat) (x : WanD) : Prop := ∃ q, GRow w W base g s b x q ∧ wP (fun j => b < j) W x q
theorem GWan.call (h : GWan w W base g s b x) (hr : Ds W' base g s') (hg : W.grownBy W' (some g)) : GWan w W' base g s' b x := by
  obtain ⟨q, h1, h2⟩ := h
  exact ⟨q, h1.call hr hg, h2.keep (Keep.of_grown hg (fun e => by have h3 := h1.hg; have h4 := h1.hb; omega))⟩
theorem GWan.part (h : GWan w W base g s b x) (q' : W3) (hc : CellsAt W' b (wC x' q') 26) (hp : wP (fun j => b < j) W' x' q') (hg : W.grownBy W' (some b)) : GWan w W' base g s b x' := by
  obtain ⟨q, h1, h2⟩ := h
  exact ⟨q', h1.part q' hc hg, hp⟩
theorem GWan.gr (h : GWan w W base g s b x) (hg : Gr W W') : GWan w W' base g s b x := by
  obtain ⟨q, h1, h2⟩ := h
  exact ⟨q, h1.gr hg, h2.gr hg⟩
theorem GWan.zero (h : GWan w W base g s b x) : CellsAt W w.heap.size zeroWL 26 := by obtain ⟨q, h1, h2⟩ := h; exact h1.zero
theorem GWan.ds (h : GWan w W base g s b x) : Ds W base g s := by obtain ⟨q, h1, h2⟩ := h; exact h1.ds
theorem GWan.ent (h : GWan w W base g s b x) : ∃ q, CellsAt W b (wC x q) 26 ∧ wP (fun j => b < j) W x q := by obtain ⟨q, h1, h2⟩ := h; exact ⟨q, h1.cells, h2⟩
theorem GWan.grw (h : GWan w W base g s b x) : Gr w W := by obtain ⟨q, h1, h2⟩ := h; exact h1.grw
theorem GWan.hb (h : GWan w W base g s b x) : b = w.heap.size + 2 := by obtain ⟨q, h1, h2⟩ := h; exact h1.hb
theorem GWan.blt (h : GWan w W base g s b x) : ∀ k, base k → k < W.heap.size := by obtain ⟨q, h1, h2⟩ := h; exact h1.blt
theorem GWan.kind (h : GWan w W base g s b x) (k : Nat) (hk : x.kind = k) : W.cell? ⟨b, 0, none⟩ = some (.int .u8 (k : Int)) := by
  obtain ⟨q, h3, h4⟩ := h.ent
  subst hk
  exact h3.cell 0
theorem GRow.start (w : World) (v : Value) (l : List UInt8) (a : Option Addr) (c : Nat) (hv : v = .slice a l.length c) (hs : Sl w v (bytes l)) (hl : l.length ≤ 1000000000) :
    GRow w (((w.alloc (.cells zeroWL.toArray 26)).alloc (.cells #[v, .int .i64 0, .bool false] 71)).alloc (.cells zeroWL.toArray 26)) (fun k => k < w.heap.size ∨ k = w.heap.size + 1) (w.heap.size + 1) (l, false) (w.heap.size + 2) zeroW zeroWQ := by
  subst hv
  obtain ⟨w1, hw1⟩ : ∃ w1, w1 = w.alloc (.cells zeroWL.toArray 26) := ⟨_, rfl⟩
  have g1 : Gr w w1 := by rw [hw1]; exact (Gr.refl w).alloc _
  have e1 : w1.heap.size = w.heap.size + 1 := by rw [hw1]; simp
  have k1 : CellsAt w1 w.heap.size zeroWL 26 := by rw [hw1]; exact CellsAt.new w zeroWL _
  rw [← hw1]
  obtain ⟨w2, hw2⟩ : ∃ w2, w2 = w1.alloc (.cells #[.slice a l.length c, .int .i64 0, .bool false] 71) := ⟨_, rfl⟩
  have g2 : Gr w1 w2 := by rw [hw2]; exact (Gr.refl w1).alloc _
  have e2 : w2.heap.size = w.heap.size + 2 := by rw [hw2]; simp [e1]
  have k2 : CellsAt w2 (w.heap.size + 1) [.slice a l.length c, .int .i64 0, .bool false] 71 := by rw [hw2, ← e1]; exact CellsAt.new w1 [_, _, _] _
  rw [← hw2]
  obtain ⟨w3, hw3⟩ : ∃ w3, w3 = w2.alloc (.cells zeroWL.toArray 26) := ⟨_, rfl⟩
  have g3 : Gr w2 w3 := by rw [hw3]; exact (Gr.refl w2).alloc _
  have k3 : CellsAt w3 (w.heap.size + 2) zeroWL 26 := by rw [hw3, ← e2]; exact CellsAt.new w2 zeroWL _
  rw [← hw3]
  have s3 := hs.below (g1.trans (g2.trans g3))
  refine ⟨(k1.gr g2).gr g3, ⟨.inr rfl, a, c, l, ⟨0, k2.gr g3, Nat.zero_le _, rfl⟩, s3, ?_, hl⟩, k3, g1.trans (g2.trans g3), rfl, rfl, fun k hk => by omega⟩
  obtain ⟨a', c', he, hc, hcase⟩ := hs
  injection he with h1 h2 h3
  subst h1
  rcases hcase with h | ⟨bk, o, rfl, hb, _⟩
  · exact .inl h
  · right
    intro k hk
    obtain rfl : bk = k := by simpa [Value.ownBlock] using hk
    exact ⟨.inl hb, by omega⟩
end
theorem item_short (s : RS) : ItemShort (dItem s).1 :=
  ⟨Nat.le_trans (dList_rng (f := rUint) (d := fun _ => True) 3 (fun _ => trivial) _).2 (by decide), Nat.le_trans (dList_rng (f := dEff) (d := fun _ => True) 16 (fun _ => trivial) _).2 (by decide)⟩
theorem stampD_le (s : RS) : (dStamp s).1.length ≤ 3 := (dList_rng (f := rUint) (d := fun _ => True) 3 (fun _ => trivial) s).2
theorem rOpt_le {α : Type} {f : RS → List α × RS} {n : Nat} (c : Bool) (h : ∀ s, (f s).1.length ≤ n) (s : RS) : (rOpt c f [] s).1.length ≤ n := by
  cases c with
  | true => exact h s
  | false => exact Nat.zero_le _
theorem dWan_short (s : RS) : WanShort (dWan s).1 := by
  refine ⟨Nat.le_trans (rOpt_le _ stampD_le _) (by decide), Nat.le_trans (rOpt_le (f := dList 8 dItem) (n := 8) _ (fun s => (dList_rng (d := fun _ => True) 8 (fun _ => trivial) s).2) _) (by decide), Nat.le_trans (rOpt_le _ stampD_le _) (by decide), ?_⟩
  have : ∀ (c : Bool) (s : RS), ∀ y ∈ (rOpt c (dList 8 dItem) [] s).1, ItemShort y := fun c s => by
    cases c with
    | true => exact (dList_rng 8 item_short s).1
    | false => intro y hy; cases hy
  exact this _ _
/-- What the document's Get hands back. -/
def RetDW (w : World) (l : List UInt8) (e : Ending) (w' : World) : Prop := ∃ q : W3, e = .returned (.tuple #[.agg (wC (dGetW l).1 q).toArray, .int .i64 (dGetW l).2]) ∧ wP (From w.heap.size) w' (dGetW l).1 q ∧ Gr w w'
theorem retDW_out {w : World} {l : List UInt8} (h : (rByte (l, false)).1 < 17 ∨ 22 < (rByte (l, false)).1) (w' : World) (hg : Gr w w') : RetDW w l (.returned (.tuple #[.agg zeroWL.toArray, .int .i64 2])) w' := by
  have e : dGetW l = (zeroW, 2) := by unfold dGetW; rw [if_pos h]
  exact ⟨zeroWQ, by rw [e]; rfl, by rw [e]; exact wP.zero _ _, hg⟩
theorem retDW_no {w : World} {l : List UInt8} {x : WanD} {s : RS} (hd : dWan (l, false) = (x, s)) (h : ¬ ((putW x).2 = 0 ∧ rDone s = 0 ∧ (putW x).1 = l)) (w' : World) (hg : Gr w w') : RetDW w l (.returned (.tuple #[.agg zeroWL.toArray, .int .i64 2])) w' := by
  have e : dGetW l = (zeroW, 2) := by
    unfold dGetW
    rw [hd]
    split
    · rfl
    · first | rfl | rw [if_neg h]
  exact ⟨zeroWQ, by rw [e]; rfl, by rw [e]; exact wP.zero _ _, hg⟩
theorem retDW_yes {w : World} {l : List UInt8} {x : WanD} {s : RS} (hr : ¬ ((rByte (l, false)).1 < 17 ∨ 22 < (rByte (l, false)).1)) (hd : dWan (l, false) = (x, s)) (h : (putW x).2 = 0 ∧ rDone s = 0 ∧ (putW x).1 = l) (w' : World) (hg : Gr w w') (q : W3) (hp : wP (From w.heap.size) w' x q) : RetDW w l (.returned (.tuple #[.agg (wC x q).toArray, .int .i64 0])) w' := by
  have e : dGetW l = (x, 0) := by unfold dGetW; rw [hd, if_neg hr]; exact if_pos h
  exact ⟨q, by rw [e], by rw [e]; exact hp, hg⟩
/-- What is at hand where the reading is done. -/
theorem dwget_pack {w W : World} {base : Nat → Prop} {g b : Nat} {s : RS} {x : WanD} {l : List UInt8} (hr : ¬ ((rByte (l, false)).1 < 17 ∨ 22 < (rByte (l, false)).1)) (hD : dWan (l, false) = (x, s)) (M : GWan w W base g s b x) :
    ∃ (q : W3) (E : List Value) (pe : Int) (cL : List UInt8) (dn : Bool), Hid (CellsAt W b E 26) ∧ Hid (E.length = 7) ∧ Hid (oneAll E) ∧ Hid (wP (fun j => b < j) W x q) ∧
      Hid (pe = 0 → dn = true → cL = l → ∀ w', Gr w w' → wP (From w.heap.size) w' x q → RetDW w l (.returned (.tuple #[.agg E.toArray, .int .i64 0])) w') ∧
      Hid (¬ (pe = 0 ∧ dn = true ∧ cL = l) → ∀ w', Gr w w' → RetDW w l (.returned (.tuple #[.agg zeroWL.toArray, .int .i64 2])) w') ∧
      Hid (∀ W', Ds W' base g s → Calls Try.prog 41 #[.pointer (some ⟨g, 0, none⟩)] W' fun e w' => e = .returned (.bool dn) ∧ Gr W' w') ∧
      Hid (Calls Try.prog 11 #[.agg E.toArray] W (fun e w' => ∃ v, e = .returned (.tuple #[v, .int .i64 pe]) ∧ Sl w' v (bytes cL) ∧ Gr W w')) := by
  have ok : WanOk x := by have h := dWan_ok (l, false); rw [hD] at h; exact h
  have sh : WanShort x := by have h := dWan_short (l, false); rw [hD] at h; exact h
  obtain ⟨q, K, hp⟩ := M.ent
  refine ⟨q, wC x q, (putW x).2, (putW x).1, decide (rDone s = 0), Lib.hid K, Lib.hid rfl, Lib.hid hp.one, Lib.hid hp, Lib.hid fun h1 h2 h3 w' hg' hp' => ?_, Lib.hid fun h w' hg' => ?_, Lib.hid fun W' h => ds_done W' base g s h, Lib.hid ?_⟩
  · exact retDW_yes hr hD ⟨h1, by simpa using h2, h3⟩ w' hg' q hp'
  · exact retDW_no hD (fun hc => h ⟨hc.1, by simpa using hc.2.1, hc.2.2⟩) w' hg'
  · exact dputW_any W x _ _ _ (hp.mono (fun _ _ => trivial)) ok sh
theorem dwget_zero {w W : World} {base : Nat → Prop} {g b : Nat} {s : RS} {x : WanD} {l : List UInt8} {p : Prop} (M : GWan w W base g s b x) (NN : p → ∀ w', Gr w w' → RetDW w l (.returned (.tuple #[.agg zeroWL.toArray, .int .i64 2])) w') (hp : p) :
    Hid (CellsAt W w.heap.size zeroWL 26) ∧ Hid (∀ W', Ch (fun j => j = w.heap.size) W W' → RetDW w l (.returned (.tuple #[.agg zeroWL.toArray, .int .i64 2])) W') :=
  ⟨Lib.hid M.zero, Lib.hid fun W' hc => NN hp W' (Below.trans M.grw (hc.below M.grw.size (fun j hj => by have : j = w.heap.size := hj; omega)))⟩
theorem dwget_last {w W W' : World} {base : Nat → Prop} {g b : Nat} {s : RS} {x : WanD} {l : List UInt8} {q : W3} {e : Ending} (M : GWan w W base g s b x) (EP : wP (fun j => b < j) W x q) (FIN : ∀ w', Gr w w' → wP (From w.heap.size) w' x q → RetDW w l e w') (ch : Ch (fun j => j = w.heap.size) W W') : RetDW w l e W' :=
  FIN W' (Below.trans M.grw (ch.below M.grw.size (fun j hj => by have : j = w.heap.size := hj; omega))) ((EP.keep (Keep.of_ch ch (fun j h1 h2 => by have := M.hb; have h3 : b < j := h1; have h4 : j = w.heap.size := h2; omega))).mono (Q := From w.heap.size) (fun j hj => by have := M.hb; show w.heap.size ≤ j; omega))
end Go.Proofs.Ytgilijkmmcpfjaa
end
