/-
  The walk of TokensPlays: regions from 0 to 4.
-/
import Derived.Test.YthckedmfjmbopaaPlaysPlain
import Derived.Test.YthckedmfjmbopaaTokGoes
import Derived.Test.YthckedmfjmbopaaTokRow
set_option linter.unusedVariables false
namespace Go.Proofs.Ythckedmfjmbopaa
open Go.RowKit

set_option maxRecDepth 100000 in
set_option maxHeartbeats 4000000 in
theorem plays_in (w : World) (va : Value) (la : List ActD) (m : Nat) (hm : m ≤ 4) (h : Acts w va la) (hl : la.length ≤ maxLen) :
    Calls Try.prog 3 #[.int .i64 (m : Int), va] w fun e w' => e = .returned (.bool true) ∧ Below w.heap.size w w' := by
  obtain ⟨a, cap, rfl⟩ : ∃ a cap, va = .slice a la.length cap := by obtain ⟨R, ⟨a, cap, e, _⟩, _⟩ := h; exact ⟨a, cap, e⟩
  cases hgr : greatV la with
  | true =>
    go_enter Try.func3, Try.ntmps3
    go_wp2_with fail
    refine (great_any _ _ la h hl).mono ?_
    rintro e w' ⟨rfl, rfl⟩
    rw [hgr]
    go_wp2
    go_ret
    exact ⟨rfl, Below.refl _ _⟩
  | false =>
  obtain ⟨h100, hsm⟩ := greatV_small hgr
  have rg : regions (m : Int) = (m : Int) := by unfold regions; rw [if_neg (by omega)]
  have m1 : (0 : Int) ≤ (m : Int) := by omega
  have m2 : (m : Int) ≤ 4 := by omega
  have h' := h
  have HS := Lib.hid hsm
  have H := Lib.hid h
  have RG := Lib.hid rg
  clear hsm rg
  go_enter Try.func3, Try.ntmps3
  go_wp2_with fail
  refine (great_any _ _ la h' hl).mono ?_
  rintro e w' ⟨rfl, rfl⟩
  rw [hgr]
  clear h h' hgr hl
  go_wp2_with fail
  refine (new_any _ (m : Int) (by omega) (by omega)).mono ?_
  rintro e w1 ⟨g, rfl, hg, tt, b1⟩
  rw [RG.out] at tt
  obtain ⟨w2, hmk, tr, b2⟩ := run_make_tok w1 m hm
  have hgl := tt.lt
  have b3 := step0 b1 b2
  have hr0 := b1.size
  replace tt := tt.below b2
  clear b1 b2
  go_wp2
  rw [show w1.heap.size = w1.heap.size from rfl]
  generalize w1.heap.size = gr at *
  clear hmk
  go_loopw [8, 9, 10, 11, 12, 13, 14, 15, 16, 17, 18, 19, 20, 21, 22] (fun i s9 s10 s11 s12 s13 s14 s15 s16 s17 s18 s19 s20 s21 s22 wr => ∃ (k : Nat) (T : Nat → Tok) (ba br : Nat → Prop), k ≤ la.length ∧ i = .int .i64 k ∧ Tab wr ba g (m : Nat) T ∧ RefT wr br gr m T ∧ ¬ ba gr ∧ ¬ br g ∧ Below w.heap.size w wr) (fun i _ _ _ _ _ _ _ _ _ _ _ _ _ _ _ => la.length - (intOf i).toNat)
  case atStart => exact ⟨0, _, _, _, Nat.zero_le _, rfl, tt, tr, fun h => h, fun h => h, b3⟩
  case round =>
    clear tt tr b3
    obtain ⟨k, T, ba, br, hk, rfl, tt, tr, hbag, hbrg, bw⟩ := hrel
    obtain ⟨wo, rfl⟩ : ∃ wo : World, wo = wr := ⟨_, rfl⟩
    by_cases hlt : k < la.length
    · obtain ⟨hlf, hlv⟩ := HS.out k hlt
      obtain ⟨B, o, fa, fc, va, vc, rfl, hB, c0, c1, c2, c3, c4, sf, sv, hd, hr1, hr2, he⟩ := H.out.row k hlt
      obtain ⟨x, hx⟩ : ∃ x, x = la[k] := ⟨_, rfl⟩
      rw [← hx] at hlf hlv c0 c1 c2 c3 c4 hd hr1 hr2 he sf sv
      have d0 := (bw.cell (p := ⟨B, o + k * 5, none⟩) hB).trans c0
      have d1 := (bw.cell (p := ⟨B, o + k * 5 + 1, none⟩) hB).trans c1
      have d2 := (bw.cell (p := ⟨B, o + k * 5 + 2, none⟩) hB).trans c2
      have d3 := (bw.cell (p := ⟨B, o + k * 5 + 3, none⟩) hB).trans c3
      have d4 := (bw.cell (p := ⟨B, o + k * 5 + 4, none⟩) hB).trans c4
      have sf1 := sf.below bw
      have sv1 := sv.below bw
      have lf : x.f.length ≤ 1000000 := by omega
      have lv : x.v.length ≤ 1000000 := by omega
      have i1 : (0 : Int) ≤ (k : Int) := by omega
      have i2 : (k : Int) < (la.length : Int) := by omega
      clear hx c0 c1 c2 c3 c4
      -- the copies
      obtain ⟨W1, hW1⟩ : ∃ W1, W1 = (wo.alloc (.cells #[.int .u8 (x.d : Int), .int .i64 x.r, .int .u64 (x.e : Int), .slice fa x.f.length fc, .slice va x.v.length vc] 30)).alloc (.cells #[.int .u8 (x.d : Int), .int .i64 x.r, .int .u64 (x.e : Int), .slice fa x.f.length fc, .slice va x.v.length vc] 30) := ⟨_, rfl⟩
      have g1 : Gr wo W1 := by rw [hW1]; exact ((Gr.refl wo).alloc _).alloc _
      have z1 : W1.heap.size = wo.heap.size + 1 + 1 := by rw [hW1]; simp
      obtain ⟨v3, W2, hrun3, o3, g2⟩ := run_append_new W1 _ x.f (sf1.below g1) lf
      obtain ⟨na, nc, rfl⟩ := o3.shape
      rw [nums_length] at o3 hrun3
      have hb12 := box2 (w := wo) (w1 := W2) #[.int .u8 (x.d : Int), .int .i64 x.r, .int .u64 (x.e : Int), .slice fa x.f.length fc, .slice va x.v.length vc] #[.int .u8 (x.d : Int), .int .i64 x.r, .int .u64 (x.e : Int), .slice fa x.f.length fc, .slice va x.v.length vc] 30 (by rw [← hW1]; exact g2)
      rw [hW1, World.size_alloc, World.size_alloc] at hrun3
      obtain ⟨q1, q2⟩ := hb12
      obtain ⟨W3, hW3⟩ : ∃ W3, W3 = W2.setCell ⟨wo.heap.size + 1, 3, none⟩ (.slice na x.f.length nc) := ⟨_, rfl⟩
      have bw2 : Below wo.heap.size wo W2 := step0 g1 g2
      have bw3 : Below wo.heap.size wo W3 := by rw [hW3]; exact bw2.setCell (p := ⟨wo.heap.size + 1, 3, none⟩) (by simp) _
      have q1' : W3.heap[wo.heap.size]? = some (.cells #[.int .u8 (x.d : Int), .int .i64 x.r, .int .u64 (x.e : Int), .slice fa x.f.length fc, .slice va x.v.length vc] 30 (0, 0)) := by
        rw [hW3, Below.heap_setCell W2 ⟨wo.heap.size + 1, 3, none⟩ _ _ (by simp)]; exact q1
      have q2' : W3.heap[wo.heap.size + 1]? = some (.cells #[.int .u8 (x.d : Int), .int .i64 x.r, .int .u64 (x.e : Int), .slice na x.f.length nc, .slice va x.v.length vc] 30 (0, 0)) := by
        rw [hW3]; simp [World.setCell, Array.getElem?_modify, q2]
      have o3' : Own W3 W1.heap.size 27 (.slice na x.f.length nc) (nums x.f) := by
        rw [hW3]
        exact World.ownsRow.kept o3 (row := some (wo.heap.size + 1)) ⟨rfl, rfl, rfl, by simp, fun k hk hne => Below.heap_setCell W2 ⟨wo.heap.size + 1, 3, none⟩ _ k (fun e => hne (by rw [e]))⟩ (by
          cases hv : (Value.slice na x.f.length nc).ownBlock with
          | none => exact .inl rfl
          | some j => right; intro e; injection e with e; have := (World.ownsRow.lt o3 j hv).1; omega)
      obtain ⟨v4, W4, hrun4, o4, g4⟩ := run_append_new W3 _ x.v (sv.below (step0 bw bw3)) lv
      obtain ⟨nb, nd, rfl⟩ := o4.shape
      rw [nums_length] at o4 hrun4
      have z3 : W3.heap.size = W2.heap.size := by rw [hW3]; simp
      rw [z3, hW3] at hrun4
      obtain ⟨W5, hW5⟩ : ∃ W5, W5 = W4.setCell ⟨wo.heap.size + 1, 4, none⟩ (.slice nb x.v.length nd) := ⟨_, rfl⟩
      have bw4 : Below wo.heap.size wo W4 := step0 bw3 g4
      have bw5 : Below wo.heap.size wo W5 := by rw [hW5]; exact bw4.setCell (p := ⟨wo.heap.size + 1, 4, none⟩) (by simp) _
      have zz2 := bw2.size
      have zz1 := g2.size
      have q1 : W5.heap[wo.heap.size]? = some (.cells #[.int .u8 (x.d : Int), .int .i64 x.r, .int .u64 (x.e : Int), .slice fa x.f.length fc, .slice va x.v.length vc] 30 (0, 0)) := by
        rw [hW5, Below.heap_setCell W4 ⟨wo.heap.size + 1, 4, none⟩ _ _ (by simp), g4.block _ (by omega)]; exact q1'
      have q2 : W5.heap[wo.heap.size + 1]? = some (.cells #[.int .u8 (x.d : Int), .int .i64 x.r, .int .u64 (x.e : Int), .slice na x.f.length nc, .slice nb x.v.length nd] 30 (0, 0)) := by
        have := (g4.block (wo.heap.size + 1) (by omega)).trans q2'
        rw [hW5]; simp [World.setCell, Array.getElem?_modify, this]
      have own_set : ∀ {W : World} {Bs : Nat} {u : Value} {l : List Nat} (v : Value), Own W Bs 27 u (nums l) → wo.heap.size + 1 < Bs → Own (W.setCell ⟨wo.heap.size + 1, 4, none⟩ v) Bs 27 u (nums l) := by
        intro W Bs u l v ho hBs
        exact World.ownsRow.kept ho (row := some (wo.heap.size + 1)) ⟨rfl, rfl, rfl, by simp, fun k hk hne => Below.heap_setCell W ⟨wo.heap.size + 1, 4, none⟩ _ k (fun e => hne (by rw [e]))⟩ (by
          cases hv : u.ownBlock with
          | none => exact .inl rfl
          | some j => right; intro e; injection e with e; have := (World.ownsRow.lt ho j hv).1; omega)
      have oF : Own W5 W1.heap.size 27 (.slice na x.f.length nc) (nums x.f) := by rw [hW5]; exact own_set _ (o3'.gr g4) (by omega)
      have oV : Own W5 W3.heap.size 27 (.slice nb x.v.length nd) (nums x.v) := by rw [hW5]; exact own_set _ o4 (by omega)
      have hFlt := fun j hj => World.ownsRow.lt o3 j hj
      have tt5 := tt.below bw5
      have tr5 := tr.below bw5
      have hb0 := tt.2.1
      have hbr0 := tr.2.1
      have hgg := tt.lt
      have hgr2 := tr.lt
      have w2b2 := (box2 (w := wo) (w1 := W2) #[.int .u8 (x.d : Int), .int .i64 x.r, .int .u64 (x.e : Int), .slice fa x.f.length fc, .slice va x.v.length vc] #[.int .u8 (x.d : Int), .int .i64 x.r, .int .u64 (x.e : Int), .slice fa x.f.length fc, .slice va x.v.length vc] 30 (by rw [← hW1]; exact g2))
      have e1 : W2.cell? ⟨wo.heap.size + 1, 3, none⟩ = some (.slice fa x.f.length fc) := by simp [World.cell?, w2b2.2]
      have f1 : W2.frozen? ⟨wo.heap.size + 1, 3, none⟩ = false := by simp [World.frozen?, w2b2.2]
      have e2 : W2.cell? ⟨wo.heap.size, 4, none⟩ = some (.slice va x.v.length vc) := by simp [World.cell?, w2b2.1]
      have q4 := (g4.block (wo.heap.size + 1) (by omega)).trans q2'
      have u0 : W4.cell? ⟨wo.heap.size + 1, 0, none⟩ = some (.int .u8 (x.d : Int)) := by simp [World.cell?, q4]
      have u1 : W4.cell? ⟨wo.heap.size + 1, 1, none⟩ = some (.int .i64 x.r) := by simp [World.cell?, q4]
      have u2 : W4.cell? ⟨wo.heap.size + 1, 2, none⟩ = some (.int .u64 (x.e : Int)) := by simp [World.cell?, q4]
      have u3 : W4.cell? ⟨wo.heap.size + 1, 3, none⟩ = some (.slice na x.f.length nc) := by simp [World.cell?, q4]
      have u4 : W4.cell? ⟨wo.heap.size + 1, 4, none⟩ = some (.slice va x.v.length vc) := by simp [World.cell?, q4]
      have v4 : W4.frozen? ⟨wo.heap.size + 1, 4, none⟩ = false := by simp [World.frozen?, q4]
      have sz2 : wo.heap.size + 1 < W2.heap.size := by omega
      have sz2' : wo.heap.size < W2.heap.size := by omega
      have HR3 := Lib.hid hrun3
      have HR4 := Lib.hid hrun4
      have HW5 := Lib.hid hW5
      have HX := Lib.hid (And.intro bw5 (And.intro q1 (And.intro q2 (And.intro oF (And.intro oV (And.intro tt5 (And.intro tr5 (And.intro hFlt (And.intro hb0 (And.intro hbr0 (And.intro z1 (And.intro zz1 (And.intro z3 (show W3.heap.size ≤ W5.heap.size from by rw [hW5]; simpa using g4.size))))))))))))))
      have SF := Lib.hid sf
      have SV := Lib.hid sv
      clear hrun3 hrun4 hW5 hW3 hW1 bw5 q1 q2 oF oV tt5 tr5 hFlt hb0 hbr0 q4 w2b2 q1' q2' o3' o3 o4 g1 g2 g4 bw2 bw3 bw4 own_set z1 z3 zz1 zz2 sf sv sf1 sv1
      go_wp2_with (at_builtin; first | (refine wpList_run_append HR3.out rfl _ _ rfl rfl rfl ?_; clear HR3) | (refine wpList_run_append HR4.out rfl _ _ rfl rfl rfl ?_; clear HR4))
      rw [← HW5.out]
      obtain ⟨bw5, q1, q2, oF, oV, tt5, tr5, hFlt, hb0, hbr0, z1, zz1, z3, zW5⟩ := HX.out
      have hgne : gr ≠ g := by omega
      have hW1s : wo.heap.size + 1 < W1.heap.size := by omega
      have hW3s : W1.heap.size ≤ W3.heap.size := by omega
      have s5 := bw5.size
      refine (does_any _ ba g _ T x _ _ tt5 (by omega) oF.sl oV.sl lf lv hd he).mono ?_
      rintro en w6 ⟨rfl, ch, ba', tt6, hba'⟩
      have tr6 := tr5.ch ch hgne (fun j hj e => hbrg (by rw [← e]; exact hj))
      have Q1 := Lib.hid ((ch.block wo.heap.size (Array.getElem?_eq_some_iff.1 q1).1 (by omega)).trans q1)
      have Q2 := Lib.hid ((ch.block (wo.heap.size + 1) (Array.getElem?_eq_some_iff.1 q2).1 (by omega)).trans q2)
      have LB2 : wo.heap.size + 1 < w6.heap.size := Nat.lt_of_lt_of_le (Array.getElem?_eq_some_iff.1 q2).1 ch.size
      have KC3 := Lib.hid (show w6.cell? ⟨wo.heap.size + 1, 3, none⟩ = some (.slice na x.f.length nc) from by simp [World.cell?, Q2.out])
      have KC4 := Lib.hid (show w6.cell? ⟨wo.heap.size + 1, 4, none⟩ = some (.slice nb x.v.length nd) from by simp [World.cell?, Q2.out])
      have own_g : ∀ {Bs : Nat} {u : Value} {l : List Nat}, Own W5 Bs 27 u (nums l) → g < Bs → Own w6 Bs 27 u (nums l) := by
        intro Bs u l ho hBs
        exact World.ownsRow.kept ho (row := some g) ch.grownBy (by
          cases hv : u.ownBlock with
          | none => exact .inl rfl
          | some j => right; intro e; injection e with e; have := (World.ownsRow.lt ho j hv).1; omega)
      have oF6 := own_g oF (by omega)
      have oV6 := own_g oV (by omega)
      have bw6 : Below w.heap.size w w6 := (bw.trans (bw5.mono bw.size)).trans (ch.below (by have := bw.size; omega) (by rintro j rfl; exact hg))
      have hba6 : ¬ ba' gr := fun hx => (hba' gr hx).elim hbag (fun h => by omega)
      have TT6 := Lib.hid tt6
      have TR6 := Lib.hid tr6
      have BA := Lib.hid hba'
      have OV6 := Lib.hid oV6
      have HVL := Lib.hid (fun j (hj : (Value.slice nb x.v.length nd).ownBlock = some j) => World.ownsRow.lt oV j hj)
      have HFL := Lib.hid hFlt
      have z3' := z3
      have BW6 := Lib.hid bw6
      have HB0 := Lib.hid hb0
      have HBR0 := Lib.hid hbr0
      have HBAG := Lib.hid hbag
      have bwo := bw.size
      clear z3 HX q1 q2 oF oV tt5 tr5 hFlt ch own_g tt6 tr6 hba' oV6 u0 u1 u2 u3 u4 v4 e1 f1 e2 d0 d1 d2 d3 d4 HW5 tt tr bw bw5 bw6 hb0 hbr0 hbag hba6
      go_wp2
      go_loopw [12] (fun i wq => ∃ (kk : Nat) (L : List Nat), kk ≤ x.f.length ∧ i = .int .i64 kk ∧ L.length = x.f.length ∧ Own wq W1.heap.size 27 (.slice na x.f.length nc) (nums L) ∧ Ch (Own1 (.slice na x.f.length nc)) w6 wq) (fun i _ => x.f.length - (intOf i).toNat)
      case atStart => exact ⟨0, x.f, Nat.zero_le _, rfl, rfl, oF6, Ch.refl _⟩
      case round =>
        clear oF6
        obtain ⟨kk, L, hkk, rfl, hL, oL, cL⟩ := hrel
        have hB2 : ¬ Own1 (.slice na x.f.length nc) (wo.heap.size + 1) := fun e => by have := (World.ownsRow.lt oL _ e).1; omega
        have cc := (cL.cell (p := ⟨wo.heap.size + 1, 3, none⟩) LB2 hB2).trans KC3.out
        by_cases hlt2 : kk < x.f.length
        · have oL' : Own wr W1.heap.size 27 (.slice na L.length nc) (nums L) := by rw [hL]; exact oL
          obtain ⟨gf, cf, he, hg1, hg2, hcap⟩ := oL'.formN (by omega)
          injection he with he1 he2 he3
          subst he1 he3
          obtain ⟨c0, hc0⟩ : ∃ c, L[kk]? = some c := ⟨_, List.getElem?_eq_getElem (by omega)⟩
          have cg := oL'.cellN kk c0 hc0
          have fg := oL'.frozenN kk
          have hos := oL'.storeN kk ((c0 + 1) % 18446744073709551616)
          have hce : (((c0 + 1) % 18446744073709551616 : Nat) : Int) = IntKind.u64.wrap ((c0 : Int) + 1) := by rw [IntKind.wrap_u64]; omega
          rw [hce, hL] at hos
          have HOS := Lib.hid hos
          have HL := Lib.hid hL
          have CL := Lib.hid cL
          have j1 : (0 : Int) ≤ (kk : Int) := by omega
          have j2 : (kk : Int) < (x.f.length : Int) := by omega
          clear oL oL' hos hce hc0 cL hL hB2
          go_wp2
          go_roundw
          case rel => exact ⟨kk + 1, L.set kk ((c0 + 1) % 18446744073709551616), by omega, by go_num, by rw [List.length_set]; exact HL.out, HOS.out, CL.out.trans ⟨rfl, rfl, rfl, by simp, fun q _ hn => Below.heap_setCell wr ⟨gf, kk, none⟩ _ q (fun e => hn (by rw [e]; rfl))⟩⟩
          case measure => simp [intOf]; omega
        · have CF := Lib.hid cL
          have LB2' : wo.heap.size + 1 < wr.heap.size := by have := cL.size; omega
          have KD4 := Lib.hid ((cL.cell (p := ⟨wo.heap.size + 1, 4, none⟩) LB2 hB2).trans KC4.out)
          clear cL oL hL hB2
          obtain ⟨wv, rfl⟩ : ∃ wv : World, wv = wr := ⟨_, rfl⟩
          have oV7 : Own wv W3.heap.size 27 (.slice nb x.v.length nd) (nums x.v) := by
            refine ⟨OV6.out.1, OV6.out.2.imp id fun ⟨g', cap', cur, e1, e2, e3, e4⟩ => ⟨g', cap', cur, e1, e2, (CF.out.block g' (Array.getElem?_eq_some_iff.1 e3).1 ?_).trans e3, e4⟩⟩
            intro e
            have := HFL.out g' e
            omega
          go_wp2
          go_loopw [13] (fun i wq => ∃ (kk : Nat) (L : List Nat), kk ≤ x.v.length ∧ i = .int .i64 kk ∧ L.length = x.v.length ∧ Own wq W3.heap.size 27 (.slice nb x.v.length nd) (nums L) ∧ Ch (Own1 (.slice nb x.v.length nd)) wv wq) (fun i _ => x.v.length - (intOf i).toNat)
          case atStart => exact ⟨0, x.v, Nat.zero_le _, rfl, rfl, oV7, Ch.refl _⟩
          case round =>
            clear oV7
            obtain ⟨kk, L, hkk, rfl, hL, oL, cL⟩ := hrel
            have hB2 : ¬ Own1 (.slice nb x.v.length nd) (wo.heap.size + 1) := fun e => by have := (World.ownsRow.lt oL _ e).1; omega
            have cc := (cL.cell (p := ⟨wo.heap.size + 1, 4, none⟩) LB2' hB2).trans KD4.out
            by_cases hlt2 : kk < x.v.length
            · have oL' : Own wr W3.heap.size 27 (.slice nb L.length nd) (nums L) := by rw [hL]; exact oL
              obtain ⟨gf, cf, he, hg1, hg2, hcap⟩ := oL'.formN (by omega)
              injection he with he1 he2 he3
              subst he1 he3
              obtain ⟨c0, hc0⟩ : ∃ c, L[kk]? = some c := ⟨_, List.getElem?_eq_getElem (by omega)⟩
              have cg := oL'.cellN kk c0 hc0
              have fg := oL'.frozenN kk
              have hos := oL'.storeN kk ((c0 + 1) % 18446744073709551616)
              have hce : (((c0 + 1) % 18446744073709551616 : Nat) : Int) = IntKind.u64.wrap ((c0 : Int) + 1) := by rw [IntKind.wrap_u64]; omega
              rw [hce, hL] at hos
              have HOS := Lib.hid hos
              have HL := Lib.hid hL
              have CL := Lib.hid cL
              have j1 : (0 : Int) ≤ (kk : Int) := by omega
              have j2 : (kk : Int) < (x.v.length : Int) := by omega
              clear oL oL' hos hce hc0 cL hL hB2
              go_wp2
              go_roundw
              case rel => exact ⟨kk + 1, L.set kk ((c0 + 1) % 18446744073709551616), by omega, by go_num, by rw [List.length_set]; exact HL.out, HOS.out, CL.out.trans ⟨rfl, rfl, rfl, by simp, fun q _ hn => Below.heap_setCell wr ⟨gf, kk, none⟩ _ q (fun e => hn (by rw [e]; rfl))⟩⟩
              case measure => simp [intOf]; omega
            · have CV := Lib.hid cL
              have OVL := Lib.hid oL
              clear cL oL hL hB2
              obtain ⟨wx, rfl⟩ : ∃ wx : World, wx = wr := ⟨_, rfl⟩
              -- all that stood, behind both loops
              have nF : ∀ j, j < W1.heap.size ∨ W2.heap.size ≤ j → ¬ Own1 (.slice na x.f.length nc) j := fun j hj e => by have := HFL.out j e; omega
              have nV : ∀ j, j < W3.heap.size ∨ W5.heap.size ≤ j → ¬ Own1 (.slice nb x.v.length nd) j := fun j hj e => by have := HVL.out j e; omega
              have q6 := Q1.out
              have l6 := (Array.getElem?_eq_some_iff.1 q6).1
              have qv := (CF.out.block wo.heap.size l6 (nF _ (.inl (by omega)))).trans q6
              have qx := (CV.out.block wo.heap.size (Array.getElem?_eq_some_iff.1 qv).1 (nV _ (.inl (by omega)))).trans qv
              have r0 : wx.cell? ⟨wo.heap.size, 0, none⟩ = some (.int .u8 (x.d : Int)) := by simp [World.cell?, qx]
              have r1 : wx.cell? ⟨wo.heap.size, 1, none⟩ = some (.int .i64 x.r) := by simp [World.cell?, qx]
              have r2 : wx.cell? ⟨wo.heap.size, 2, none⟩ = some (.int .u64 (x.e : Int)) := by simp [World.cell?, qx]
              have r3 : wx.cell? ⟨wo.heap.size, 3, none⟩ = some (.slice fa x.f.length fc) := by simp [World.cell?, qx]
              have r4 : wx.cell? ⟨wo.heap.size, 4, none⟩ = some (.slice va x.v.length vc) := by simp [World.cell?, qx]
              have lx := (Array.getElem?_eq_some_iff.1 qx).1
              have hbap : ∀ j, ba' j → ¬ Own1 (.slice na x.f.length nc) j ∧ ¬ Own1 (.slice nb x.v.length nd) j := fun j hj => by
                rcases BA.out j hj with h | h
                · have := HB0.out j h; exact ⟨nF j (.inl (by omega)), nV j (.inl (by omega))⟩
                · exact ⟨nF j (.inr (by omega)), nV j (.inr h)⟩
              have ttx := (TT6.out.ch CF.out (nF g (.inl (by omega))) (fun j hj => (hbap j hj).1)).ch CV.out (nV g (.inl (by omega))) (fun j hj => (hbap j hj).2)
              have trx := (TR6.out.ch CF.out (nF gr (.inl (by omega))) (fun j hj => nF j (.inl (by have := HBR0.out j hj; omega)))).ch CV.out (nV gr (.inl (by omega))) (fun j hj => nV j (.inl (by have := HBR0.out j hj; omega)))
              have bwx : Below w.heap.size w wx := (BW6.out.trans (CF.out.below (by have := BW6.out.size; omega) (fun j hj => by have := HFL.out j hj; have := bwo; omega))).trans (CV.out.below (by have := BW6.out.size; have := CF.out.size; omega) (fun j hj => by have := HVL.out j hj; have := bwo; omega))
              have hbag' : ¬ ba' gr := fun hx => (BA.out gr hx).elim HBAG.out (fun h => by omega)
              have SFX := Lib.hid (SF.out.below bwx)
              have SVX := Lib.hid (SV.out.below bwx)
              have QX := Lib.hid qx
              clear CF CV HFL HVL OVL nF nV q6 qv qx hbap TT6 TR6 BW6 BA HB0 HBR0 Q1 Q2 KC3 KC4 KD4 OV6
              by_cases hin : 0 ≤ x.r ∧ x.r < (m : Nat)
              · obtain ⟨q, hq⟩ := Int.eq_ofNat_of_zero_le hin.1
                have hqm : q < m := by omega
                have o1 : (0 : Int) ≤ (q : Int) := by omega
                have o2 : (q : Int) < (m : Int) := by omega
                obtain ⟨ta, tc, a0, a1, a2, a3, ts, tb, tl, tf⟩ := trx.row q hqm
                have f0 := tf (q * 4)
                have f1 := tf (q * 4 + 1)
                have f2 := tf (q * 4 + 2)
                have f3 := tf (q * 4 + 3)
                have hdo := doesV_in T x m q hqm hq
                have TTX := Lib.hid ttx
                have TRX := Lib.hid trx
                have BWX := Lib.hid bwx
                have HDO := Lib.hid hdo
                have TS := Lib.hid ts
                have TB := Lib.hid tb
                clear ttx trx bwx hdo ts tb tf hin
                by_cases hd2 : x.d % 2 = 0
                · have hm0 : ((x.d : Int) % 2 == 0) = true := by simp; omega
                  have hX := HDO.out
                  rw [if_pos hd2] at hX
                  obtain ⟨X, hXX⟩ : ∃ X, X = inTok x.e x.f x.v (T q) := ⟨_, rfl⟩
                  rw [← hXX] at hX
                  have lX : X.1.f.length ≤ 1000000 := by
                    rw [hXX]
                    unfold inTok; split; exact tl; split; exact tl; exact lf
                  have hX1 := congrArg Prod.fst hX
                  have hcode := congrArg Prod.snd hX
                  simp only at hX1 hcode
                  have HX1 := Lib.hid hX1
                  have HXX := Lib.hid hXX
                  skip
                  clear hX hX1 hXX
                  go_wp2_with fail
                  refine (refin_any _ (T q) x.e _ _ _ x.f x.v (TS.out.below (below_a _ _)) (SFX.out.below (below_a _ _)) (SVX.out.below (below_a _ _)) lf lv).mono ?_
                  rintro en w9 ⟨u, rfl, su, hu, gu⟩
                  rw [← HXX.out] at su ⊢
                  obtain ⟨ua, uc, rfl⟩ := su.oneCells
                  rw [nums_length] at su hu ⊢
                  obtain ⟨⟨Xe, Xf, Xh, Xo⟩, Xc⟩ := X
                  simp only at su hu hcode lX ⊢
                  have gw9 : Gr wx w9 := step0 (below_a wx _) gu
                  have qb : w9.heap[wx.heap.size]? = some (.cells #[.int .u64 ((T q).e : Int), .slice ta (T q).f.length tc, .bool (T q).held, .bool (T q).out] 34 (0, 0)) := by
                    rw [gu.block _ (by simp)]
                    show (wx.heap.push _)[wx.heap.size]? = _
                    simp
                  obtain ⟨n0, n1, n2, n3, nz⟩ := set4_cells qb
                  have z0 := nz 0
                  have z1 := nz 1
                  have z2 := nz 2
                  have z3 := nz 3
                  have grl : gr < wx.heap.size := TRX.out.lt
                  have ggl : g < wx.heap.size := TTX.out.lt
                  have b0 := (gw9.cell (p := ⟨gr, q * 4, none⟩) grl).trans a0
                  have b1 := (gw9.cell (p := ⟨gr, q * 4 + 1, none⟩) grl).trans a1
                  have b2 := (gw9.cell (p := ⟨gr, q * 4 + 2, none⟩) grl).trans a2
                  have b3 := (gw9.cell (p := ⟨gr, q * 4 + 3, none⟩) grl).trans a3
                  have y0 := (gw9.frozen (p := ⟨gr, q * 4, none⟩) grl).trans f0
                  have y1 := (gw9.frozen (p := ⟨gr, q * 4 + 1, none⟩) grl).trans f1
                  have y2 := (gw9.frozen (p := ⟨gr, q * 4 + 2, none⟩) grl).trans f2
                  have y3 := (gw9.frozen (p := ⟨gr, q * 4 + 3, none⟩) grl).trans f3
                  have l9 : wx.heap.size + 1 ≤ w9.heap.size := by have := gu.size; simpa using this
                  -- what stands behind the two stores
                  have c10 := set4_ch w9 wx.heap.size (.int .u64 (Xe : Int)) (.slice ua Xf.length uc) (.bool Xh) (.bool Xo)
                  have hub : ∀ j, (Value.slice ua Xf.length uc).ownBlock = some j → j ≠ gr ∧ j < w9.heap.size ∧ j ≠ wx.heap.size ∧ j ≠ g := fun j hj => by
                    rcases hu j hj with h | ⟨h, h'⟩
                    · have h1 := TB.out j h
                      have h2 := TRX.out.2.1 j h1
                      exact ⟨fun e => TRX.out.1 (e ▸ h1), by omega, by omega, fun e => hbrg (e ▸ h1)⟩
                    · simp at h
                      exact ⟨by omega, h', by omega, by omega⟩
                  have su10 := su.ch c10 (fun j hj e => (hub j hj).2.2.1 e)
                  have rz10 := (TRX.out.below gw9).ch c10 (fun e => by omega) (fun j hj e => by have := TRX.out.2.1 j hj; omega)
                  have tz10 := (TTX.out.below gw9).ch c10 (fun e => by omega) (fun j hj e => by have := TTX.out.2.1 j hj; omega)
                  have bz10 : Below w.heap.size w _ := BWX.out.trans ((gw9.mono (by have := BWX.out.size; omega)).trans (c10.below (by have := BWX.out.size; omega) (by rintro j rfl; exact BWX.out.size)))
                  have s10 : ((((w9.setCell ⟨wx.heap.size, 0, none⟩ (.int .u64 (Xe : Int))).setCell ⟨wx.heap.size, 1, none⟩ (.slice ua Xf.length uc)).setCell ⟨wx.heap.size, 2, none⟩ (.bool Xh)).setCell ⟨wx.heap.size, 3, none⟩ (.bool Xo)).heap.size = w9.heap.size := by simp
                  obtain ⟨c11, rz⟩ := RefT.set (x := ⟨Xe, Xf, Xh, Xo⟩) rz10 hqm su10 (fun j hj => ⟨(hub j hj).1, by rw [s10]; exact (hub j hj).2.1⟩) lX
                  have tz := tz10.ch c11 (fun e => by omega) (fun j hj e => hbag' (e ▸ hj))
                  have bz := bz10.trans (c11.below (by rw [s10]; have := BWX.out.size; omega) (by rintro j rfl; exact hr0))
                  obtain ⟨br2, hbr2⟩ : ∃ br2 : Nat → Prop, br2 = fun j => br j ∨ (Value.slice ua Xf.length uc).ownBlock = some j := ⟨_, rfl⟩
                  have hbrg' : ¬ br2 g := by
                    rw [hbr2]
                    rintro (h | h)
                    · exact hbrg h
                    · exact (hub g h).2.2.2 rfl
                  rw [← hbr2, ← HX1.out] at rz
                  have CODE := Lib.hid hcode
                  have m1' := (gw9.cell (p := ⟨wo.heap.size, 1, none⟩) lx).trans r1
                  have ne1 : ¬ wx.heap.size = wo.heap.size := by omega
                  have ne2 : ¬ wo.heap.size = wx.heap.size := by omega
                  have ne3 : ¬ wx.heap.size = gr := by omega
                  have ne4 : ¬ gr = wx.heap.size := by omega
                  have GU := Lib.hid gw9
                  clear hcode
                  rw [CODE.out]
                  have TZ := Lib.hid tz
                  have RZ := Lib.hid rz
                  have BZ := Lib.hid bz
                  clear c10 c11 su10 rz10 tz10 bz10 s10 tz rz bz hub hu gu gw9 qb su hbr2 nz r0 r1 r2 r3 r4 cc a0 a1 a2 a3 f0 f1 f2 f3
                  go_wp2
                  obtain ⟨T2, hT2⟩ : ∃ T2, T2 = (doesV m T x).1 := ⟨_, rfl⟩
                  have TZ := Lib.hid (show Tab _ ba' g (m : Nat) T2 from by rw [hT2]; exact TZ.out)
                  have RZ := Lib.hid (show RefT _ br2 gr m T2 from by rw [hT2]; exact RZ.out)
                  clear hT2
                  go_loopw [16, 17, 18, 19, 20, 21, 22] (fun j s17 s18 s19 s20 s21 s22 wq => ∃ kk : Nat, kk ≤ 6 ∧ j = .int .i64 ((kk : Int) - 1) ∧ Tab wq ba' g (m : Nat) T2 ∧ RefT wq br2 gr m T2 ∧ Below w.heap.size w wq) (fun j _ _ _ _ _ _ _ => (5 - intOf j).toNat)
                  case atStart => exact ⟨0, by omega, rfl, TZ.out, RZ.out, BZ.out⟩
                  case round =>
                    as_aux_lemma =>
                      clear TZ RZ BZ
                      obtain ⟨ki, hki, rfl, tz, rz, bz⟩ := hrel
                      obtain ⟨wi, rfl⟩ : ∃ wi : World, wi = wr := ⟨_, rfl⟩
                      by_cases h6 : ki = 6
                      · subst h6
                        rw [show ((6 : Nat) : Int) - 1 = 5 from rfl]
                        go_wp2
                        go_roundw
                        case rel => exact ⟨k + 1, T2, ba', br2, by omega, by go_num, tz, rz, hbag', hbrg', bz⟩
                        case measure => simp [intOf]; omega
                      · by_cases h0 : ki = 0
                        · subst h0
                          rw [show ((0 : Nat) : Int) - 1 = -1 from rfl]
                          have HT := Lib.hid (show heldOf (m : Nat) T2 (-1) = tok0 from by unfold heldOf; rw [if_neg (by omega)])
                          clear h6
                          go_wp2_with fail
                          refine (held_any _ ba' g _ (-1) T2 (tz.below (below_a _ _)) (by omega)).mono ?_
                          rintro e wa ⟨rfl, ga⟩
                          rw [HT.out, show (if tok0.held = true then ((tok0.e : Nat) : Int) else 0) = 0 from rfl, show tok0.held = false from rfl]
                          have ga1 : Gr wi wa := step0 (below_a wi _) ga
                          have x0 := ga.cell (p := ⟨wi.heap.size, 0, none⟩) (by simp)
                          have x1 := ga.cell (p := ⟨wi.heap.size, 1, none⟩) (by simp)
                          have x2 := ga.cell (p := ⟨wi.heap.size, 2, none⟩) (by simp)
                          have x3 := ga.cell (p := ⟨wi.heap.size, 3, none⟩) (by simp)
                          have lz : wi.heap.size < wa.heap.size := by have := ga.size; simp at this; omega
                          clear ga
                          go_wp2_with fail
                          refine (last_any _ ba' g _ (-1) T2 (tz.below ga1) (by omega)).mono ?_
                          rintro e wb ⟨v, rfl, ov, gb⟩
                          rw [HT.out, show tok0.f = [] from rfl] at ov
                          rw [HT.out, show ((tok0.e : Nat) : Int) = 0 from rfl, show tok0.out = false from rfl]
                          have x0' := (gb.cell (p := ⟨wi.heap.size, 0, none⟩) lz).trans x0
                          have x1' := (gb.cell (p := ⟨wi.heap.size, 1, none⟩) lz).trans x1
                          have x2' := (gb.cell (p := ⟨wi.heap.size, 2, none⟩) lz).trans x2
                          have x3' := (gb.cell (p := ⟨wi.heap.size, 3, none⟩) lz).trans x3
                          clear x0 x1 x2 x3
                          go_wp2_with fail
                          refine (same_any _ _ _ [] [] ov.sl (Sl.nil _ _ _) (by decide) (by decide)).mono ?_
                          rintro e wc ⟨rfl, gc⟩
                          rw [sameV_self]
                          have gz : Gr wi wc := (ga1.trans gb).trans gc
                          go_wp2
                          go_roundw
                          case rel => exact ⟨0 + 1, by omega, by first | rfl | (congr 1; omega), tz.below gz, rz.below gz, step0 bz gz⟩
                          case measure => simp [intOf] <;> omega
                        · obtain ⟨q2, rfl⟩ : ∃ q2, ki = q2 + 1 := ⟨ki - 1, by omega⟩
                          rw [show ((q2 + 1 : Nat) : Int) - 1 = (q2 : Int) from by omega]
                          have p1 : (0 : Int) ≤ (q2 : Int) := by omega
                          have p3 : (q2 : Int) ≤ 4 := by omega
                          by_cases hin2 : q2 < m
                          · obtain ⟨ya, yc, y0, y1, y2, y3, ys, yb, yl, yf⟩ := rz.row q2 hin2
                            have ht : heldOf (m : Nat) T2 (q2 : Int) = T2 q2 := by unfold heldOf; rw [if_pos ⟨by omega, by omega⟩, Int.toNat_natCast]
                            have HT := Lib.hid ht
                            have grw : gr < wi.heap.size := rz.lt
                            have p2 : (q2 : Int) < (m : Int) := by omega
                            clear ht h6 h0 hin2 yf yb
                            generalize T2 q2 = t at *
                            obtain ⟨te, tl, th, to⟩ := t
                            simp only at y0 y1 y2 y3 ys yl
                            cases th with
                            | true =>
                              go_wp2_with fail
                              refine (held_any _ ba' g _ ((q2 : Int)) T2 (tz.below (below_a _ _)) (by omega)).mono ?_
                              rintro e wa ⟨rfl, ga⟩
                              rw [HT.out]
                              simp only [if_true]
                              have ga1 : Gr wi wa := step0 (below_a wi _) ga
                              have x0 := ga.cell (p := ⟨wi.heap.size, 0, none⟩) (by simp)
                              have x1 := ga.cell (p := ⟨wi.heap.size, 1, none⟩) (by simp)
                              have x2 := ga.cell (p := ⟨wi.heap.size, 2, none⟩) (by simp)
                              have x3 := ga.cell (p := ⟨wi.heap.size, 3, none⟩) (by simp)
                              have lz : wi.heap.size < wa.heap.size := by have := ga.size; simp at this; omega
                              clear ga
                              go_wp2_with fail
                              refine (last_any _ ba' g _ ((q2 : Int)) T2 (tz.below ga1) (by omega)).mono ?_
                              rintro e wb ⟨v, rfl, ov, gb⟩
                              rw [HT.out] at ov ⊢
                              simp only at ov ⊢
                              have x0' := (gb.cell (p := ⟨wi.heap.size, 0, none⟩) lz).trans x0
                              have x1' := (gb.cell (p := ⟨wi.heap.size, 1, none⟩) lz).trans x1
                              have x2' := (gb.cell (p := ⟨wi.heap.size, 2, none⟩) lz).trans x2
                              have x3' := (gb.cell (p := ⟨wi.heap.size, 3, none⟩) lz).trans x3
                              clear x0 x1 x2 x3
                              go_wp2_with fail
                              refine (same_any _ _ _ tl tl ov.sl (ys.below (ga1.trans gb)) yl yl).mono ?_
                              rintro e wc ⟨rfl, gc⟩
                              rw [sameV_self]
                              have gz : Gr wi wc := (ga1.trans gb).trans gc
                              go_wp2
                              go_roundw
                              case rel => exact ⟨q2 + 1 + 1, by omega, by first | rfl | (congr 1; omega), tz.below gz, rz.below gz, step0 bz gz⟩
                              case measure => simp [intOf] <;> omega
                            | false =>
                              go_wp2_with fail
                              refine (held_any _ ba' g _ ((q2 : Int)) T2 (tz.below (below_a _ _)) (by omega)).mono ?_
                              rintro e wa ⟨rfl, ga⟩
                              rw [HT.out]
                              simp only [Bool.false_eq_true, if_false]
                              have ga1 : Gr wi wa := step0 (below_a wi _) ga
                              have x0 := ga.cell (p := ⟨wi.heap.size, 0, none⟩) (by simp)
                              have x1 := ga.cell (p := ⟨wi.heap.size, 1, none⟩) (by simp)
                              have x2 := ga.cell (p := ⟨wi.heap.size, 2, none⟩) (by simp)
                              have x3 := ga.cell (p := ⟨wi.heap.size, 3, none⟩) (by simp)
                              have lz : wi.heap.size < wa.heap.size := by have := ga.size; simp at this; omega
                              clear ga
                              go_wp2_with fail
                              refine (last_any _ ba' g _ ((q2 : Int)) T2 (tz.below ga1) (by omega)).mono ?_
                              rintro e wb ⟨v, rfl, ov, gb⟩
                              rw [HT.out] at ov ⊢
                              simp only at ov ⊢
                              have x0' := (gb.cell (p := ⟨wi.heap.size, 0, none⟩) lz).trans x0
                              have x1' := (gb.cell (p := ⟨wi.heap.size, 1, none⟩) lz).trans x1
                              have x2' := (gb.cell (p := ⟨wi.heap.size, 2, none⟩) lz).trans x2
                              have x3' := (gb.cell (p := ⟨wi.heap.size, 3, none⟩) lz).trans x3
                              clear x0 x1 x2 x3
                              go_wp2_with fail
                              refine (same_any _ _ _ tl tl ov.sl (ys.below (ga1.trans gb)) yl yl).mono ?_
                              rintro e wc ⟨rfl, gc⟩
                              rw [sameV_self]
                              have gz : Gr wi wc := (ga1.trans gb).trans gc
                              go_wp2
                              go_roundw
                              case rel => exact ⟨q2 + 1 + 1, by omega, by first | rfl | (congr 1; omega), tz.below gz, rz.below gz, step0 bz gz⟩
                              case measure => simp [intOf] <;> omega
                          · have HT := Lib.hid (show heldOf (m : Nat) T2 (q2 : Int) = tok0 from by unfold heldOf; rw [if_neg (by omega)])
                            have p2 : (m : Int) ≤ (q2 : Int) := by omega
                            clear h6 h0
                            go_wp2_with fail
                            refine (held_any _ ba' g _ ((q2 : Int)) T2 (tz.below (below_a _ _)) (by omega)).mono ?_
                            rintro e wa ⟨rfl, ga⟩
                            rw [HT.out, show (if tok0.held = true then ((tok0.e : Nat) : Int) else 0) = 0 from rfl, show tok0.held = false from rfl]
                            have ga1 : Gr wi wa := step0 (below_a wi _) ga
                            have x0 := ga.cell (p := ⟨wi.heap.size, 0, none⟩) (by simp)
                            have x1 := ga.cell (p := ⟨wi.heap.size, 1, none⟩) (by simp)
                            have x2 := ga.cell (p := ⟨wi.heap.size, 2, none⟩) (by simp)
                            have x3 := ga.cell (p := ⟨wi.heap.size, 3, none⟩) (by simp)
                            have lz : wi.heap.size < wa.heap.size := by have := ga.size; simp at this; omega
                            clear ga
                            go_wp2_with fail
                            refine (last_any _ ba' g _ ((q2 : Int)) T2 (tz.below ga1) (by omega)).mono ?_
                            rintro e wb ⟨v, rfl, ov, gb⟩
                            rw [HT.out, show tok0.f = [] from rfl] at ov
                            rw [HT.out, show ((tok0.e : Nat) : Int) = 0 from rfl, show tok0.out = false from rfl]
                            have x0' := (gb.cell (p := ⟨wi.heap.size, 0, none⟩) lz).trans x0
                            have x1' := (gb.cell (p := ⟨wi.heap.size, 1, none⟩) lz).trans x1
                            have x2' := (gb.cell (p := ⟨wi.heap.size, 2, none⟩) lz).trans x2
                            have x3' := (gb.cell (p := ⟨wi.heap.size, 3, none⟩) lz).trans x3
                            clear x0 x1 x2 x3
                            go_wp2_with fail
                            refine (same_any _ _ _ [] [] ov.sl (Sl.nil _ _ _) (by decide) (by decide)).mono ?_
                            rintro e wc ⟨rfl, gc⟩
                            rw [sameV_self]
                            have gz : Gr wi wc := (ga1.trans gb).trans gc
                            go_wp2
                            go_roundw
                            case rel => exact ⟨q2 + 1 + 1, by omega, by first | rfl | (congr 1; omega), tz.below gz, rz.below gz, step0 bz gz⟩
                            case measure => simp [intOf] <;> omega
                · have hm0 : ((x.d : Int) % 2 == 0) = false := by simp; omega
                  have hX := HDO.out
                  rw [if_neg hd2] at hX
                  obtain ⟨X, hXX⟩ : ∃ X, X = outTok x.e x.v (T q) := ⟨_, rfl⟩
                  rw [← hXX] at hX
                  have lX : X.1.f.length ≤ 1000000 := by
                    rw [hXX]
                    unfold outTok; split; exact tl; exact lv
                  have hX1 := congrArg Prod.fst hX
                  have hcode := congrArg Prod.snd hX
                  simp only at hX1 hcode
                  have HX1 := Lib.hid hX1
                  have HXX := Lib.hid hXX
                  skip
                  clear hX hX1 hXX
                  go_wp2_with fail
                  refine (refgo_any _ (T q) x.e _ _ x.v (TS.out.below (below_a _ _)) (SVX.out.below (below_a _ _)) lv).mono ?_
                  rintro en w9 ⟨u, rfl, su, hu, gu⟩
                  rw [← HXX.out] at su ⊢
                  obtain ⟨ua, uc, rfl⟩ := su.oneCells
                  rw [nums_length] at su hu ⊢
                  obtain ⟨⟨Xe, Xf, Xh, Xo⟩, Xc⟩ := X
                  simp only at su hu hcode lX ⊢
                  have gw9 : Gr wx w9 := step0 (below_a wx _) gu
                  have qb : w9.heap[wx.heap.size]? = some (.cells #[.int .u64 ((T q).e : Int), .slice ta (T q).f.length tc, .bool (T q).held, .bool (T q).out] 34 (0, 0)) := by
                    rw [gu.block _ (by simp)]
                    show (wx.heap.push _)[wx.heap.size]? = _
                    simp
                  obtain ⟨n0, n1, n2, n3, nz⟩ := set4_cells qb
                  have z0 := nz 0
                  have z1 := nz 1
                  have z2 := nz 2
                  have z3 := nz 3
                  have grl : gr < wx.heap.size := TRX.out.lt
                  have ggl : g < wx.heap.size := TTX.out.lt
                  have b0 := (gw9.cell (p := ⟨gr, q * 4, none⟩) grl).trans a0
                  have b1 := (gw9.cell (p := ⟨gr, q * 4 + 1, none⟩) grl).trans a1
                  have b2 := (gw9.cell (p := ⟨gr, q * 4 + 2, none⟩) grl).trans a2
                  have b3 := (gw9.cell (p := ⟨gr, q * 4 + 3, none⟩) grl).trans a3
                  have y0 := (gw9.frozen (p := ⟨gr, q * 4, none⟩) grl).trans f0
                  have y1 := (gw9.frozen (p := ⟨gr, q * 4 + 1, none⟩) grl).trans f1
                  have y2 := (gw9.frozen (p := ⟨gr, q * 4 + 2, none⟩) grl).trans f2
                  have y3 := (gw9.frozen (p := ⟨gr, q * 4 + 3, none⟩) grl).trans f3
                  have l9 : wx.heap.size + 1 ≤ w9.heap.size := by have := gu.size; simpa using this
                  -- what stands behind the two stores
                  have c10 := set4_ch w9 wx.heap.size (.int .u64 (Xe : Int)) (.slice ua Xf.length uc) (.bool Xh) (.bool Xo)
                  have hub : ∀ j, (Value.slice ua Xf.length uc).ownBlock = some j → j ≠ gr ∧ j < w9.heap.size ∧ j ≠ wx.heap.size ∧ j ≠ g := fun j hj => by
                    rcases hu j hj with h | ⟨h, h'⟩
                    · have h1 := TB.out j h
                      have h2 := TRX.out.2.1 j h1
                      exact ⟨fun e => TRX.out.1 (e ▸ h1), by omega, by omega, fun e => hbrg (e ▸ h1)⟩
                    · simp at h
                      exact ⟨by omega, h', by omega, by omega⟩
                  have su10 := su.ch c10 (fun j hj e => (hub j hj).2.2.1 e)
                  have rz10 := (TRX.out.below gw9).ch c10 (fun e => by omega) (fun j hj e => by have := TRX.out.2.1 j hj; omega)
                  have tz10 := (TTX.out.below gw9).ch c10 (fun e => by omega) (fun j hj e => by have := TTX.out.2.1 j hj; omega)
                  have bz10 : Below w.heap.size w _ := BWX.out.trans ((gw9.mono (by have := BWX.out.size; omega)).trans (c10.below (by have := BWX.out.size; omega) (by rintro j rfl; exact BWX.out.size)))
                  have s10 : ((((w9.setCell ⟨wx.heap.size, 0, none⟩ (.int .u64 (Xe : Int))).setCell ⟨wx.heap.size, 1, none⟩ (.slice ua Xf.length uc)).setCell ⟨wx.heap.size, 2, none⟩ (.bool Xh)).setCell ⟨wx.heap.size, 3, none⟩ (.bool Xo)).heap.size = w9.heap.size := by simp
                  obtain ⟨c11, rz⟩ := RefT.set (x := ⟨Xe, Xf, Xh, Xo⟩) rz10 hqm su10 (fun j hj => ⟨(hub j hj).1, by rw [s10]; exact (hub j hj).2.1⟩) lX
                  have tz := tz10.ch c11 (fun e => by omega) (fun j hj e => hbag' (e ▸ hj))
                  have bz := bz10.trans (c11.below (by rw [s10]; have := BWX.out.size; omega) (by rintro j rfl; exact hr0))
                  obtain ⟨br2, hbr2⟩ : ∃ br2 : Nat → Prop, br2 = fun j => br j ∨ (Value.slice ua Xf.length uc).ownBlock = some j := ⟨_, rfl⟩
                  have hbrg' : ¬ br2 g := by
                    rw [hbr2]
                    rintro (h | h)
                    · exact hbrg h
                    · exact (hub g h).2.2.2 rfl
                  rw [← hbr2, ← HX1.out] at rz
                  have CODE := Lib.hid hcode
                  have m1' := (gw9.cell (p := ⟨wo.heap.size, 1, none⟩) lx).trans r1
                  have ne1 : ¬ wx.heap.size = wo.heap.size := by omega
                  have ne2 : ¬ wo.heap.size = wx.heap.size := by omega
                  have ne3 : ¬ wx.heap.size = gr := by omega
                  have ne4 : ¬ gr = wx.heap.size := by omega
                  have GU := Lib.hid gw9
                  clear hcode
                  rw [CODE.out]
                  have TZ := Lib.hid tz
                  have RZ := Lib.hid rz
                  have BZ := Lib.hid bz
                  clear c10 c11 su10 rz10 tz10 bz10 s10 tz rz bz hub hu gu gw9 qb su hbr2 nz r0 r1 r2 r3 r4 cc a0 a1 a2 a3 f0 f1 f2 f3
                  go_wp2
                  obtain ⟨T2, hT2⟩ : ∃ T2, T2 = (doesV m T x).1 := ⟨_, rfl⟩
                  have TZ := Lib.hid (show Tab _ ba' g (m : Nat) T2 from by rw [hT2]; exact TZ.out)
                  have RZ := Lib.hid (show RefT _ br2 gr m T2 from by rw [hT2]; exact RZ.out)
                  clear hT2
                  go_loopw [16, 17, 18, 19, 20, 21, 22] (fun j s17 s18 s19 s20 s21 s22 wq => ∃ kk : Nat, kk ≤ 6 ∧ j = .int .i64 ((kk : Int) - 1) ∧ Tab wq ba' g (m : Nat) T2 ∧ RefT wq br2 gr m T2 ∧ Below w.heap.size w wq) (fun j _ _ _ _ _ _ _ => (5 - intOf j).toNat)
                  case atStart => exact ⟨0, by omega, rfl, TZ.out, RZ.out, BZ.out⟩
                  case round =>
                    as_aux_lemma =>
                      clear TZ RZ BZ
                      obtain ⟨ki, hki, rfl, tz, rz, bz⟩ := hrel
                      obtain ⟨wi, rfl⟩ : ∃ wi : World, wi = wr := ⟨_, rfl⟩
                      by_cases h6 : ki = 6
                      · subst h6
                        rw [show ((6 : Nat) : Int) - 1 = 5 from rfl]
                        go_wp2
                        go_roundw
                        case rel => exact ⟨k + 1, T2, ba', br2, by omega, by go_num, tz, rz, hbag', hbrg', bz⟩
                        case measure => simp [intOf]; omega
                      · by_cases h0 : ki = 0
                        · subst h0
                          rw [show ((0 : Nat) : Int) - 1 = -1 from rfl]
                          have HT := Lib.hid (show heldOf (m : Nat) T2 (-1) = tok0 from by unfold heldOf; rw [if_neg (by omega)])
                          clear h6
                          go_wp2_with fail
                          refine (held_any _ ba' g _ (-1) T2 (tz.below (below_a _ _)) (by omega)).mono ?_
                          rintro e wa ⟨rfl, ga⟩
                          rw [HT.out, show (if tok0.held = true then ((tok0.e : Nat) : Int) else 0) = 0 from rfl, show tok0.held = false from rfl]
                          have ga1 : Gr wi wa := step0 (below_a wi _) ga
                          have x0 := ga.cell (p := ⟨wi.heap.size, 0, none⟩) (by simp)
                          have x1 := ga.cell (p := ⟨wi.heap.size, 1, none⟩) (by simp)
                          have x2 := ga.cell (p := ⟨wi.heap.size, 2, none⟩) (by simp)
                          have x3 := ga.cell (p := ⟨wi.heap.size, 3, none⟩) (by simp)
                          have lz : wi.heap.size < wa.heap.size := by have := ga.size; simp at this; omega
                          clear ga
                          go_wp2_with fail
                          refine (last_any _ ba' g _ (-1) T2 (tz.below ga1) (by omega)).mono ?_
                          rintro e wb ⟨v, rfl, ov, gb⟩
                          rw [HT.out, show tok0.f = [] from rfl] at ov
                          rw [HT.out, show ((tok0.e : Nat) : Int) = 0 from rfl, show tok0.out = false from rfl]
                          have x0' := (gb.cell (p := ⟨wi.heap.size, 0, none⟩) lz).trans x0
                          have x1' := (gb.cell (p := ⟨wi.heap.size, 1, none⟩) lz).trans x1
                          have x2' := (gb.cell (p := ⟨wi.heap.size, 2, none⟩) lz).trans x2
                          have x3' := (gb.cell (p := ⟨wi.heap.size, 3, none⟩) lz).trans x3
                          clear x0 x1 x2 x3
                          go_wp2_with fail
                          refine (same_any _ _ _ [] [] ov.sl (Sl.nil _ _ _) (by decide) (by decide)).mono ?_
                          rintro e wc ⟨rfl, gc⟩
                          rw [sameV_self]
                          have gz : Gr wi wc := (ga1.trans gb).trans gc
                          go_wp2
                          go_roundw
                          case rel => exact ⟨0 + 1, by omega, by first | rfl | (congr 1; omega), tz.below gz, rz.below gz, step0 bz gz⟩
                          case measure => simp [intOf] <;> omega
                        · obtain ⟨q2, rfl⟩ : ∃ q2, ki = q2 + 1 := ⟨ki - 1, by omega⟩
                          rw [show ((q2 + 1 : Nat) : Int) - 1 = (q2 : Int) from by omega]
                          have p1 : (0 : Int) ≤ (q2 : Int) := by omega
                          have p3 : (q2 : Int) ≤ 4 := by omega
                          by_cases hin2 : q2 < m
                          · obtain ⟨ya, yc, y0, y1, y2, y3, ys, yb, yl, yf⟩ := rz.row q2 hin2
                            have ht : heldOf (m : Nat) T2 (q2 : Int) = T2 q2 := by unfold heldOf; rw [if_pos ⟨by omega, by omega⟩, Int.toNat_natCast]
                            have HT := Lib.hid ht
                            have grw : gr < wi.heap.size := rz.lt
                            have p2 : (q2 : Int) < (m : Int) := by omega
                            clear ht h6 h0 hin2 yf yb
                            generalize T2 q2 = t at *
                            obtain ⟨te, tl, th, to⟩ := t
                            simp only at y0 y1 y2 y3 ys yl
                            cases th with
                            | true =>
                              go_wp2_with fail
                              refine (held_any _ ba' g _ ((q2 : Int)) T2 (tz.below (below_a _ _)) (by omega)).mono ?_
                              rintro e wa ⟨rfl, ga⟩
                              rw [HT.out]
                              simp only [if_true]
                              have ga1 : Gr wi wa := step0 (below_a wi _) ga
                              have x0 := ga.cell (p := ⟨wi.heap.size, 0, none⟩) (by simp)
                              have x1 := ga.cell (p := ⟨wi.heap.size, 1, none⟩) (by simp)
                              have x2 := ga.cell (p := ⟨wi.heap.size, 2, none⟩) (by simp)
                              have x3 := ga.cell (p := ⟨wi.heap.size, 3, none⟩) (by simp)
                              have lz : wi.heap.size < wa.heap.size := by have := ga.size; simp at this; omega
                              clear ga
                              go_wp2_with fail
                              refine (last_any _ ba' g _ ((q2 : Int)) T2 (tz.below ga1) (by omega)).mono ?_
                              rintro e wb ⟨v, rfl, ov, gb⟩
                              rw [HT.out] at ov ⊢
                              simp only at ov ⊢
                              have x0' := (gb.cell (p := ⟨wi.heap.size, 0, none⟩) lz).trans x0
                              have x1' := (gb.cell (p := ⟨wi.heap.size, 1, none⟩) lz).trans x1
                              have x2' := (gb.cell (p := ⟨wi.heap.size, 2, none⟩) lz).trans x2
                              have x3' := (gb.cell (p := ⟨wi.heap.size, 3, none⟩) lz).trans x3
                              clear x0 x1 x2 x3
                              go_wp2_with fail
                              refine (same_any _ _ _ tl tl ov.sl (ys.below (ga1.trans gb)) yl yl).mono ?_
                              rintro e wc ⟨rfl, gc⟩
                              rw [sameV_self]
                              have gz : Gr wi wc := (ga1.trans gb).trans gc
                              go_wp2
                              go_roundw
                              case rel => exact ⟨q2 + 1 + 1, by omega, by first | rfl | (congr 1; omega), tz.below gz, rz.below gz, step0 bz gz⟩
                              case measure => simp [intOf] <;> omega
                            | false =>
                              go_wp2_with fail
                              refine (held_any _ ba' g _ ((q2 : Int)) T2 (tz.below (below_a _ _)) (by omega)).mono ?_
                              rintro e wa ⟨rfl, ga⟩
                              rw [HT.out]
                              simp only [Bool.false_eq_true, if_false]
                              have ga1 : Gr wi wa := step0 (below_a wi _) ga
                              have x0 := ga.cell (p := ⟨wi.heap.size, 0, none⟩) (by simp)
                              have x1 := ga.cell (p := ⟨wi.heap.size, 1, none⟩) (by simp)
                              have x2 := ga.cell (p := ⟨wi.heap.size, 2, none⟩) (by simp)
                              have x3 := ga.cell (p := ⟨wi.heap.size, 3, none⟩) (by simp)
                              have lz : wi.heap.size < wa.heap.size := by have := ga.size; simp at this; omega
                              clear ga
                              go_wp2_with fail
                              refine (last_any _ ba' g _ ((q2 : Int)) T2 (tz.below ga1) (by omega)).mono ?_
                              rintro e wb ⟨v, rfl, ov, gb⟩
                              rw [HT.out] at ov ⊢
                              simp only at ov ⊢
                              have x0' := (gb.cell (p := ⟨wi.heap.size, 0, none⟩) lz).trans x0
                              have x1' := (gb.cell (p := ⟨wi.heap.size, 1, none⟩) lz).trans x1
                              have x2' := (gb.cell (p := ⟨wi.heap.size, 2, none⟩) lz).trans x2
                              have x3' := (gb.cell (p := ⟨wi.heap.size, 3, none⟩) lz).trans x3
                              clear x0 x1 x2 x3
                              go_wp2_with fail
                              refine (same_any _ _ _ tl tl ov.sl (ys.below (ga1.trans gb)) yl yl).mono ?_
                              rintro e wc ⟨rfl, gc⟩
                              rw [sameV_self]
                              have gz : Gr wi wc := (ga1.trans gb).trans gc
                              go_wp2
                              go_roundw
                              case rel => exact ⟨q2 + 1 + 1, by omega, by first | rfl | (congr 1; omega), tz.below gz, rz.below gz, step0 bz gz⟩
                              case measure => simp [intOf] <;> omega
                          · have HT := Lib.hid (show heldOf (m : Nat) T2 (q2 : Int) = tok0 from by unfold heldOf; rw [if_neg (by omega)])
                            have p2 : (m : Int) ≤ (q2 : Int) := by omega
                            clear h6 h0
                            go_wp2_with fail
                            refine (held_any _ ba' g _ ((q2 : Int)) T2 (tz.below (below_a _ _)) (by omega)).mono ?_
                            rintro e wa ⟨rfl, ga⟩
                            rw [HT.out, show (if tok0.held = true then ((tok0.e : Nat) : Int) else 0) = 0 from rfl, show tok0.held = false from rfl]
                            have ga1 : Gr wi wa := step0 (below_a wi _) ga
                            have x0 := ga.cell (p := ⟨wi.heap.size, 0, none⟩) (by simp)
                            have x1 := ga.cell (p := ⟨wi.heap.size, 1, none⟩) (by simp)
                            have x2 := ga.cell (p := ⟨wi.heap.size, 2, none⟩) (by simp)
                            have x3 := ga.cell (p := ⟨wi.heap.size, 3, none⟩) (by simp)
                            have lz : wi.heap.size < wa.heap.size := by have := ga.size; simp at this; omega
                            clear ga
                            go_wp2_with fail
                            refine (last_any _ ba' g _ ((q2 : Int)) T2 (tz.below ga1) (by omega)).mono ?_
                            rintro e wb ⟨v, rfl, ov, gb⟩
                            rw [HT.out, show tok0.f = [] from rfl] at ov
                            rw [HT.out, show ((tok0.e : Nat) : Int) = 0 from rfl, show tok0.out = false from rfl]
                            have x0' := (gb.cell (p := ⟨wi.heap.size, 0, none⟩) lz).trans x0
                            have x1' := (gb.cell (p := ⟨wi.heap.size, 1, none⟩) lz).trans x1
                            have x2' := (gb.cell (p := ⟨wi.heap.size, 2, none⟩) lz).trans x2
                            have x3' := (gb.cell (p := ⟨wi.heap.size, 3, none⟩) lz).trans x3
                            clear x0 x1 x2 x3
                            go_wp2_with fail
                            refine (same_any _ _ _ [] [] ov.sl (Sl.nil _ _ _) (by decide) (by decide)).mono ?_
                            rintro e wc ⟨rfl, gc⟩
                            rw [sameV_self]
                            have gz : Gr wi wc := (ga1.trans gb).trans gc
                            go_wp2
                            go_roundw
                            case rel => exact ⟨q2 + 1 + 1, by omega, by first | rfl | (congr 1; omega), tz.below gz, rz.below gz, step0 bz gz⟩
                            case measure => simp [intOf] <;> omega
              · have hor : x.r < 0 ∨ ((m : Nat) : Int) ≤ x.r := by omega
                have hdo := doesV_out T x m hor
                have hX1 := congrArg Prod.fst hdo
                have hcode := congrArg Prod.snd hdo
                simp only at hX1 hcode
                have TZ := Lib.hid (show Tab wx ba' g (m : Nat) (doesV (m : Nat) T x).1 from ttx)
                have RZ := Lib.hid (show RefT wx br gr m (doesV (m : Nat) T x).1 from by rw [hX1]; exact trx)
                have BZ := Lib.hid bwx
                have CODE := Lib.hid hcode
                obtain ⟨br2, hbr2⟩ : ∃ br2 : Nat → Prop, br2 = br := ⟨_, rfl⟩
                have hbrg' : ¬ br2 g := by rw [hbr2]; exact hbrg
                rw [← hbr2] at RZ
                clear hdo hX1 hcode ttx trx bwx hin hbr2
                rw [CODE.out]
                rcases hor with hor | hor
                · go_wp2
                  obtain ⟨T2, hT2⟩ : ∃ T2, T2 = (doesV m T x).1 := ⟨_, rfl⟩
                  have TZ := Lib.hid (show Tab _ ba' g (m : Nat) T2 from by rw [hT2]; exact TZ.out)
                  have RZ := Lib.hid (show RefT _ br2 gr m T2 from by rw [hT2]; exact RZ.out)
                  clear hT2
                  go_loopw [16, 17, 18, 19, 20, 21, 22] (fun j s17 s18 s19 s20 s21 s22 wq => ∃ kk : Nat, kk ≤ 6 ∧ j = .int .i64 ((kk : Int) - 1) ∧ Tab wq ba' g (m : Nat) T2 ∧ RefT wq br2 gr m T2 ∧ Below w.heap.size w wq) (fun j _ _ _ _ _ _ _ => (5 - intOf j).toNat)
                  case atStart => exact ⟨0, by omega, rfl, TZ.out, RZ.out, BZ.out⟩
                  case round =>
                    as_aux_lemma =>
                      clear TZ RZ BZ
                      obtain ⟨ki, hki, rfl, tz, rz, bz⟩ := hrel
                      obtain ⟨wi, rfl⟩ : ∃ wi : World, wi = wr := ⟨_, rfl⟩
                      by_cases h6 : ki = 6
                      · subst h6
                        rw [show ((6 : Nat) : Int) - 1 = 5 from rfl]
                        go_wp2
                        go_roundw
                        case rel => exact ⟨k + 1, T2, ba', br2, by omega, by go_num, tz, rz, hbag', hbrg', bz⟩
                        case measure => simp [intOf]; omega
                      · by_cases h0 : ki = 0
                        · subst h0
                          rw [show ((0 : Nat) : Int) - 1 = -1 from rfl]
                          have HT := Lib.hid (show heldOf (m : Nat) T2 (-1) = tok0 from by unfold heldOf; rw [if_neg (by omega)])
                          clear h6
                          go_wp2_with fail
                          refine (held_any _ ba' g _ (-1) T2 (tz.below (below_a _ _)) (by omega)).mono ?_
                          rintro e wa ⟨rfl, ga⟩
                          rw [HT.out, show (if tok0.held = true then ((tok0.e : Nat) : Int) else 0) = 0 from rfl, show tok0.held = false from rfl]
                          have ga1 : Gr wi wa := step0 (below_a wi _) ga
                          have x0 := ga.cell (p := ⟨wi.heap.size, 0, none⟩) (by simp)
                          have x1 := ga.cell (p := ⟨wi.heap.size, 1, none⟩) (by simp)
                          have x2 := ga.cell (p := ⟨wi.heap.size, 2, none⟩) (by simp)
                          have x3 := ga.cell (p := ⟨wi.heap.size, 3, none⟩) (by simp)
                          have lz : wi.heap.size < wa.heap.size := by have := ga.size; simp at this; omega
                          clear ga
                          go_wp2_with fail
                          refine (last_any _ ba' g _ (-1) T2 (tz.below ga1) (by omega)).mono ?_
                          rintro e wb ⟨v, rfl, ov, gb⟩
                          rw [HT.out, show tok0.f = [] from rfl] at ov
                          rw [HT.out, show ((tok0.e : Nat) : Int) = 0 from rfl, show tok0.out = false from rfl]
                          have x0' := (gb.cell (p := ⟨wi.heap.size, 0, none⟩) lz).trans x0
                          have x1' := (gb.cell (p := ⟨wi.heap.size, 1, none⟩) lz).trans x1
                          have x2' := (gb.cell (p := ⟨wi.heap.size, 2, none⟩) lz).trans x2
                          have x3' := (gb.cell (p := ⟨wi.heap.size, 3, none⟩) lz).trans x3
                          clear x0 x1 x2 x3
                          go_wp2_with fail
                          refine (same_any _ _ _ [] [] ov.sl (Sl.nil _ _ _) (by decide) (by decide)).mono ?_
                          rintro e wc ⟨rfl, gc⟩
                          rw [sameV_self]
                          have gz : Gr wi wc := (ga1.trans gb).trans gc
                          go_wp2
                          go_roundw
                          case rel => exact ⟨0 + 1, by omega, by first | rfl | (congr 1; omega), tz.below gz, rz.below gz, step0 bz gz⟩
                          case measure => simp [intOf] <;> omega
                        · obtain ⟨q2, rfl⟩ : ∃ q2, ki = q2 + 1 := ⟨ki - 1, by omega⟩
                          rw [show ((q2 + 1 : Nat) : Int) - 1 = (q2 : Int) from by omega]
                          have p1 : (0 : Int) ≤ (q2 : Int) := by omega
                          have p3 : (q2 : Int) ≤ 4 := by omega
                          by_cases hin2 : q2 < m
                          · obtain ⟨ya, yc, y0, y1, y2, y3, ys, yb, yl, yf⟩ := rz.row q2 hin2
                            have ht : heldOf (m : Nat) T2 (q2 : Int) = T2 q2 := by unfold heldOf; rw [if_pos ⟨by omega, by omega⟩, Int.toNat_natCast]
                            have HT := Lib.hid ht
                            have grw : gr < wi.heap.size := rz.lt
                            have p2 : (q2 : Int) < (m : Int) := by omega
                            clear ht h6 h0 hin2 yf yb
                            generalize T2 q2 = t at *
                            obtain ⟨te, tl, th, to⟩ := t
                            simp only at y0 y1 y2 y3 ys yl
                            cases th with
                            | true =>
                              go_wp2_with fail
                              refine (held_any _ ba' g _ ((q2 : Int)) T2 (tz.below (below_a _ _)) (by omega)).mono ?_
                              rintro e wa ⟨rfl, ga⟩
                              rw [HT.out]
                              simp only [if_true]
                              have ga1 : Gr wi wa := step0 (below_a wi _) ga
                              have x0 := ga.cell (p := ⟨wi.heap.size, 0, none⟩) (by simp)
                              have x1 := ga.cell (p := ⟨wi.heap.size, 1, none⟩) (by simp)
                              have x2 := ga.cell (p := ⟨wi.heap.size, 2, none⟩) (by simp)
                              have x3 := ga.cell (p := ⟨wi.heap.size, 3, none⟩) (by simp)
                              have lz : wi.heap.size < wa.heap.size := by have := ga.size; simp at this; omega
                              clear ga
                              go_wp2_with fail
                              refine (last_any _ ba' g _ ((q2 : Int)) T2 (tz.below ga1) (by omega)).mono ?_
                              rintro e wb ⟨v, rfl, ov, gb⟩
                              rw [HT.out] at ov ⊢
                              simp only at ov ⊢
                              have x0' := (gb.cell (p := ⟨wi.heap.size, 0, none⟩) lz).trans x0
                              have x1' := (gb.cell (p := ⟨wi.heap.size, 1, none⟩) lz).trans x1
                              have x2' := (gb.cell (p := ⟨wi.heap.size, 2, none⟩) lz).trans x2
                              have x3' := (gb.cell (p := ⟨wi.heap.size, 3, none⟩) lz).trans x3
                              clear x0 x1 x2 x3
                              go_wp2_with fail
                              refine (same_any _ _ _ tl tl ov.sl (ys.below (ga1.trans gb)) yl yl).mono ?_
                              rintro e wc ⟨rfl, gc⟩
                              rw [sameV_self]
                              have gz : Gr wi wc := (ga1.trans gb).trans gc
                              go_wp2
                              go_roundw
                              case rel => exact ⟨q2 + 1 + 1, by omega, by first | rfl | (congr 1; omega), tz.below gz, rz.below gz, step0 bz gz⟩
                              case measure => simp [intOf] <;> omega
                            | false =>
                              go_wp2_with fail
                              refine (held_any _ ba' g _ ((q2 : Int)) T2 (tz.below (below_a _ _)) (by omega)).mono ?_
                              rintro e wa ⟨rfl, ga⟩
                              rw [HT.out]
                              simp only [Bool.false_eq_true, if_false]
                              have ga1 : Gr wi wa := step0 (below_a wi _) ga
                              have x0 := ga.cell (p := ⟨wi.heap.size, 0, none⟩) (by simp)
                              have x1 := ga.cell (p := ⟨wi.heap.size, 1, none⟩) (by simp)
                              have x2 := ga.cell (p := ⟨wi.heap.size, 2, none⟩) (by simp)
                              have x3 := ga.cell (p := ⟨wi.heap.size, 3, none⟩) (by simp)
                              have lz : wi.heap.size < wa.heap.size := by have := ga.size; simp at this; omega
                              clear ga
                              go_wp2_with fail
                              refine (last_any _ ba' g _ ((q2 : Int)) T2 (tz.below ga1) (by omega)).mono ?_
                              rintro e wb ⟨v, rfl, ov, gb⟩
                              rw [HT.out] at ov ⊢
                              simp only at ov ⊢
                              have x0' := (gb.cell (p := ⟨wi.heap.size, 0, none⟩) lz).trans x0
                              have x1' := (gb.cell (p := ⟨wi.heap.size, 1, none⟩) lz).trans x1
                              have x2' := (gb.cell (p := ⟨wi.heap.size, 2, none⟩) lz).trans x2
                              have x3' := (gb.cell (p := ⟨wi.heap.size, 3, none⟩) lz).trans x3
                              clear x0 x1 x2 x3
                              go_wp2_with fail
                              refine (same_any _ _ _ tl tl ov.sl (ys.below (ga1.trans gb)) yl yl).mono ?_
                              rintro e wc ⟨rfl, gc⟩
                              rw [sameV_self]
                              have gz : Gr wi wc := (ga1.trans gb).trans gc
                              go_wp2
                              go_roundw
                              case rel => exact ⟨q2 + 1 + 1, by omega, by first | rfl | (congr 1; omega), tz.below gz, rz.below gz, step0 bz gz⟩
                              case measure => simp [intOf] <;> omega
                          · have HT := Lib.hid (show heldOf (m : Nat) T2 (q2 : Int) = tok0 from by unfold heldOf; rw [if_neg (by omega)])
                            have p2 : (m : Int) ≤ (q2 : Int) := by omega
                            clear h6 h0
                            go_wp2_with fail
                            refine (held_any _ ba' g _ ((q2 : Int)) T2 (tz.below (below_a _ _)) (by omega)).mono ?_
                            rintro e wa ⟨rfl, ga⟩
                            rw [HT.out, show (if tok0.held = true then ((tok0.e : Nat) : Int) else 0) = 0 from rfl, show tok0.held = false from rfl]
                            have ga1 : Gr wi wa := step0 (below_a wi _) ga
                            have x0 := ga.cell (p := ⟨wi.heap.size, 0, none⟩) (by simp)
                            have x1 := ga.cell (p := ⟨wi.heap.size, 1, none⟩) (by simp)
                            have x2 := ga.cell (p := ⟨wi.heap.size, 2, none⟩) (by simp)
                            have x3 := ga.cell (p := ⟨wi.heap.size, 3, none⟩) (by simp)
                            have lz : wi.heap.size < wa.heap.size := by have := ga.size; simp at this; omega
                            clear ga
                            go_wp2_with fail
                            refine (last_any _ ba' g _ ((q2 : Int)) T2 (tz.below ga1) (by omega)).mono ?_
                            rintro e wb ⟨v, rfl, ov, gb⟩
                            rw [HT.out, show tok0.f = [] from rfl] at ov
                            rw [HT.out, show ((tok0.e : Nat) : Int) = 0 from rfl, show tok0.out = false from rfl]
                            have x0' := (gb.cell (p := ⟨wi.heap.size, 0, none⟩) lz).trans x0
                            have x1' := (gb.cell (p := ⟨wi.heap.size, 1, none⟩) lz).trans x1
                            have x2' := (gb.cell (p := ⟨wi.heap.size, 2, none⟩) lz).trans x2
                            have x3' := (gb.cell (p := ⟨wi.heap.size, 3, none⟩) lz).trans x3
                            clear x0 x1 x2 x3
                            go_wp2_with fail
                            refine (same_any _ _ _ [] [] ov.sl (Sl.nil _ _ _) (by decide) (by decide)).mono ?_
                            rintro e wc ⟨rfl, gc⟩
                            rw [sameV_self]
                            have gz : Gr wi wc := (ga1.trans gb).trans gc
                            go_wp2
                            go_roundw
                            case rel => exact ⟨q2 + 1 + 1, by omega, by first | rfl | (congr 1; omega), tz.below gz, rz.below gz, step0 bz gz⟩
                            case measure => simp [intOf] <;> omega
                · have hneg' : 0 ≤ x.r := by omega
                  have hor2 : (m : Int) ≤ x.r := by omega
                  go_wp2
                  obtain ⟨T2, hT2⟩ : ∃ T2, T2 = (doesV m T x).1 := ⟨_, rfl⟩
                  have TZ := Lib.hid (show Tab _ ba' g (m : Nat) T2 from by rw [hT2]; exact TZ.out)
                  have RZ := Lib.hid (show RefT _ br2 gr m T2 from by rw [hT2]; exact RZ.out)
                  clear hT2
                  go_loopw [16, 17, 18, 19, 20, 21, 22] (fun j s17 s18 s19 s20 s21 s22 wq => ∃ kk : Nat, kk ≤ 6 ∧ j = .int .i64 ((kk : Int) - 1) ∧ Tab wq ba' g (m : Nat) T2 ∧ RefT wq br2 gr m T2 ∧ Below w.heap.size w wq) (fun j _ _ _ _ _ _ _ => (5 - intOf j).toNat)
                  case atStart => exact ⟨0, by omega, rfl, TZ.out, RZ.out, BZ.out⟩
                  case round =>
                    as_aux_lemma =>
                      clear TZ RZ BZ
                      obtain ⟨ki, hki, rfl, tz, rz, bz⟩ := hrel
                      obtain ⟨wi, rfl⟩ : ∃ wi : World, wi = wr := ⟨_, rfl⟩
                      by_cases h6 : ki = 6
                      · subst h6
                        rw [show ((6 : Nat) : Int) - 1 = 5 from rfl]
                        go_wp2
                        go_roundw
                        case rel => exact ⟨k + 1, T2, ba', br2, by omega, by go_num, tz, rz, hbag', hbrg', bz⟩
                        case measure => simp [intOf]; omega
                      · by_cases h0 : ki = 0
                        · subst h0
                          rw [show ((0 : Nat) : Int) - 1 = -1 from rfl]
                          have HT := Lib.hid (show heldOf (m : Nat) T2 (-1) = tok0 from by unfold heldOf; rw [if_neg (by omega)])
                          clear h6
                          go_wp2_with fail
                          refine (held_any _ ba' g _ (-1) T2 (tz.below (below_a _ _)) (by omega)).mono ?_
                          rintro e wa ⟨rfl, ga⟩
                          rw [HT.out, show (if tok0.held = true then ((tok0.e : Nat) : Int) else 0) = 0 from rfl, show tok0.held = false from rfl]
                          have ga1 : Gr wi wa := step0 (below_a wi _) ga
                          have x0 := ga.cell (p := ⟨wi.heap.size, 0, none⟩) (by simp)
                          have x1 := ga.cell (p := ⟨wi.heap.size, 1, none⟩) (by simp)
                          have x2 := ga.cell (p := ⟨wi.heap.size, 2, none⟩) (by simp)
                          have x3 := ga.cell (p := ⟨wi.heap.size, 3, none⟩) (by simp)
                          have lz : wi.heap.size < wa.heap.size := by have := ga.size; simp at this; omega
                          clear ga
                          go_wp2_with fail
                          refine (last_any _ ba' g _ (-1) T2 (tz.below ga1) (by omega)).mono ?_
                          rintro e wb ⟨v, rfl, ov, gb⟩
                          rw [HT.out, show tok0.f = [] from rfl] at ov
                          rw [HT.out, show ((tok0.e : Nat) : Int) = 0 from rfl, show tok0.out = false from rfl]
                          have x0' := (gb.cell (p := ⟨wi.heap.size, 0, none⟩) lz).trans x0
                          have x1' := (gb.cell (p := ⟨wi.heap.size, 1, none⟩) lz).trans x1
                          have x2' := (gb.cell (p := ⟨wi.heap.size, 2, none⟩) lz).trans x2
                          have x3' := (gb.cell (p := ⟨wi.heap.size, 3, none⟩) lz).trans x3
                          clear x0 x1 x2 x3
                          go_wp2_with fail
                          refine (same_any _ _ _ [] [] ov.sl (Sl.nil _ _ _) (by decide) (by decide)).mono ?_
                          rintro e wc ⟨rfl, gc⟩
                          rw [sameV_self]
                          have gz : Gr wi wc := (ga1.trans gb).trans gc
                          go_wp2
                          go_roundw
                          case rel => exact ⟨0 + 1, by omega, by first | rfl | (congr 1; omega), tz.below gz, rz.below gz, step0 bz gz⟩
                          case measure => simp [intOf] <;> omega
                        · obtain ⟨q2, rfl⟩ : ∃ q2, ki = q2 + 1 := ⟨ki - 1, by omega⟩
                          rw [show ((q2 + 1 : Nat) : Int) - 1 = (q2 : Int) from by omega]
                          have p1 : (0 : Int) ≤ (q2 : Int) := by omega
                          have p3 : (q2 : Int) ≤ 4 := by omega
                          by_cases hin2 : q2 < m
                          · obtain ⟨ya, yc, y0, y1, y2, y3, ys, yb, yl, yf⟩ := rz.row q2 hin2
                            have ht : heldOf (m : Nat) T2 (q2 : Int) = T2 q2 := by unfold heldOf; rw [if_pos ⟨by omega, by omega⟩, Int.toNat_natCast]
                            have HT := Lib.hid ht
                            have grw : gr < wi.heap.size := rz.lt
                            have p2 : (q2 : Int) < (m : Int) := by omega
                            clear ht h6 h0 hin2 yf yb
                            generalize T2 q2 = t at *
                            obtain ⟨te, tl, th, to⟩ := t
                            simp only at y0 y1 y2 y3 ys yl
                            cases th with
                            | true =>
                              go_wp2_with fail
                              refine (held_any _ ba' g _ ((q2 : Int)) T2 (tz.below (below_a _ _)) (by omega)).mono ?_
                              rintro e wa ⟨rfl, ga⟩
                              rw [HT.out]
                              simp only [if_true]
                              have ga1 : Gr wi wa := step0 (below_a wi _) ga
                              have x0 := ga.cell (p := ⟨wi.heap.size, 0, none⟩) (by simp)
                              have x1 := ga.cell (p := ⟨wi.heap.size, 1, none⟩) (by simp)
                              have x2 := ga.cell (p := ⟨wi.heap.size, 2, none⟩) (by simp)
                              have x3 := ga.cell (p := ⟨wi.heap.size, 3, none⟩) (by simp)
                              have lz : wi.heap.size < wa.heap.size := by have := ga.size; simp at this; omega
                              clear ga
                              go_wp2_with fail
                              refine (last_any _ ba' g _ ((q2 : Int)) T2 (tz.below ga1) (by omega)).mono ?_
                              rintro e wb ⟨v, rfl, ov, gb⟩
                              rw [HT.out] at ov ⊢
                              simp only at ov ⊢
                              have x0' := (gb.cell (p := ⟨wi.heap.size, 0, none⟩) lz).trans x0
                              have x1' := (gb.cell (p := ⟨wi.heap.size, 1, none⟩) lz).trans x1
                              have x2' := (gb.cell (p := ⟨wi.heap.size, 2, none⟩) lz).trans x2
                              have x3' := (gb.cell (p := ⟨wi.heap.size, 3, none⟩) lz).trans x3
                              clear x0 x1 x2 x3
                              go_wp2_with fail
                              refine (same_any _ _ _ tl tl ov.sl (ys.below (ga1.trans gb)) yl yl).mono ?_
                              rintro e wc ⟨rfl, gc⟩
                              rw [sameV_self]
                              have gz : Gr wi wc := (ga1.trans gb).trans gc
                              go_wp2
                              go_roundw
                              case rel => exact ⟨q2 + 1 + 1, by omega, by first | rfl | (congr 1; omega), tz.below gz, rz.below gz, step0 bz gz⟩
                              case measure => simp [intOf] <;> omega
                            | false =>
                              go_wp2_with fail
                              refine (held_any _ ba' g _ ((q2 : Int)) T2 (tz.below (below_a _ _)) (by omega)).mono ?_
                              rintro e wa ⟨rfl, ga⟩
                              rw [HT.out]
                              simp only [Bool.false_eq_true, if_false]
                              have ga1 : Gr wi wa := step0 (below_a wi _) ga
                              have x0 := ga.cell (p := ⟨wi.heap.size, 0, none⟩) (by simp)
                              have x1 := ga.cell (p := ⟨wi.heap.size, 1, none⟩) (by simp)
                              have x2 := ga.cell (p := ⟨wi.heap.size, 2, none⟩) (by simp)
                              have x3 := ga.cell (p := ⟨wi.heap.size, 3, none⟩) (by simp)
                              have lz : wi.heap.size < wa.heap.size := by have := ga.size; simp at this; omega
                              clear ga
                              go_wp2_with fail
                              refine (last_any _ ba' g _ ((q2 : Int)) T2 (tz.below ga1) (by omega)).mono ?_
                              rintro e wb ⟨v, rfl, ov, gb⟩
                              rw [HT.out] at ov ⊢
                              simp only at ov ⊢
                              have x0' := (gb.cell (p := ⟨wi.heap.size, 0, none⟩) lz).trans x0
                              have x1' := (gb.cell (p := ⟨wi.heap.size, 1, none⟩) lz).trans x1
                              have x2' := (gb.cell (p := ⟨wi.heap.size, 2, none⟩) lz).trans x2
                              have x3' := (gb.cell (p := ⟨wi.heap.size, 3, none⟩) lz).trans x3
                              clear x0 x1 x2 x3
                              go_wp2_with fail
                              refine (same_any _ _ _ tl tl ov.sl (ys.below (ga1.trans gb)) yl yl).mono ?_
                              rintro e wc ⟨rfl, gc⟩
                              rw [sameV_self]
                              have gz : Gr wi wc := (ga1.trans gb).trans gc
                              go_wp2
                              go_roundw
                              case rel => exact ⟨q2 + 1 + 1, by omega, by first | rfl | (congr 1; omega), tz.below gz, rz.below gz, step0 bz gz⟩
                              case measure => simp [intOf] <;> omega
                          · have HT := Lib.hid (show heldOf (m : Nat) T2 (q2 : Int) = tok0 from by unfold heldOf; rw [if_neg (by omega)])
                            have p2 : (m : Int) ≤ (q2 : Int) := by omega
                            clear h6 h0
                            go_wp2_with fail
                            refine (held_any _ ba' g _ ((q2 : Int)) T2 (tz.below (below_a _ _)) (by omega)).mono ?_
                            rintro e wa ⟨rfl, ga⟩
                            rw [HT.out, show (if tok0.held = true then ((tok0.e : Nat) : Int) else 0) = 0 from rfl, show tok0.held = false from rfl]
                            have ga1 : Gr wi wa := step0 (below_a wi _) ga
                            have x0 := ga.cell (p := ⟨wi.heap.size, 0, none⟩) (by simp)
                            have x1 := ga.cell (p := ⟨wi.heap.size, 1, none⟩) (by simp)
                            have x2 := ga.cell (p := ⟨wi.heap.size, 2, none⟩) (by simp)
                            have x3 := ga.cell (p := ⟨wi.heap.size, 3, none⟩) (by simp)
                            have lz : wi.heap.size < wa.heap.size := by have := ga.size; simp at this; omega
                            clear ga
                            go_wp2_with fail
                            refine (last_any _ ba' g _ ((q2 : Int)) T2 (tz.below ga1) (by omega)).mono ?_
                            rintro e wb ⟨v, rfl, ov, gb⟩
                            rw [HT.out, show tok0.f = [] from rfl] at ov
                            rw [HT.out, show ((tok0.e : Nat) : Int) = 0 from rfl, show tok0.out = false from rfl]
                            have x0' := (gb.cell (p := ⟨wi.heap.size, 0, none⟩) lz).trans x0
                            have x1' := (gb.cell (p := ⟨wi.heap.size, 1, none⟩) lz).trans x1
                            have x2' := (gb.cell (p := ⟨wi.heap.size, 2, none⟩) lz).trans x2
                            have x3' := (gb.cell (p := ⟨wi.heap.size, 3, none⟩) lz).trans x3
                            clear x0 x1 x2 x3
                            go_wp2_with fail
                            refine (same_any _ _ _ [] [] ov.sl (Sl.nil _ _ _) (by decide) (by decide)).mono ?_
                            rintro e wc ⟨rfl, gc⟩
                            rw [sameV_self]
                            have gz : Gr wi wc := (ga1.trans gb).trans gc
                            go_wp2
                            go_roundw
                            case rel => exact ⟨q2 + 1 + 1, by omega, by first | rfl | (congr 1; omega), tz.below gz, rz.below gz, step0 bz gz⟩
                            case measure => simp [intOf] <;> omega
    · clear tt tr
      go_wp2_with fail
      refine (goes_any _).mono ?_
      rintro e w9 ⟨rfl, g9⟩
      go_wp2
      go_ret
      exact ⟨rfl, step0 bw g9⟩
end Go.Proofs.Ythckedmfjmbopaa
