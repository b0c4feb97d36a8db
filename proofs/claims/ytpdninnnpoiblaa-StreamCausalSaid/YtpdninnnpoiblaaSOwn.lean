/-
  stream.own: an item copied.
-/
import Derived.Test.YtpdninnnpoiblaaItems
set_option linter.unusedVariables false
namespace Go.Proofs.Ytpdninnnpoiblaa
open Go.RowKit

def itemCells (x : ItemD) (sv ev : Value) : Array Value := #[.int .i64 x.origin, .int .u64 (x.seq : Int), .int .i64 x.region, .int .u64 (x.epoch : Int), sv, ev, .int .u32 (x.closed : Int)]
def zeroI : Array Value := #[.int .i64 0, .int .u64 0, .int .i64 0, .int .u64 0, .slice none 0 0, .slice none 0 0, .int .u32 0]
/-- What an item's two slices read as. -/
def ItemIs (w : World) (x : ItemD) (sv ev : Value) : Prop := Sl w sv (nums x.stamp) ∧ Effs w ev x.effs
theorem ItemIs.below {w w' : World} {x : ItemD} {sv ev : Value} (h : ItemIs w x sv ev) (g : Gr w w') : ItemIs w' x sv ev := ⟨h.1.below g, h.2.below g⟩
def ItemOk (x : ItemD) : Prop := x.stamp.length ≤ 100000 ∧ x.effs.length ≤ 100000
/-- An item of the call's own. -/
def ItemR (w : World) (B : Nat) (x : ItemD) (sv ev : Value) : Prop := Own w B 23 sv (nums x.stamp) ∧ EffsK w w B ev x.effs x.effs.length
theorem ItemR.is {w : World} {B : Nat} {x : ItemD} {sv ev : Value} (h : ItemR w B x sv ev) : ItemIs w x sv ev := ⟨h.1.sl, h.2.effs⟩
theorem ItemR.blocks {w w' : World} {B : Nat} {x : ItemD} {sv ev : Value} (h : ItemR w B x sv ev) (hb : ∀ j, B ≤ j → j < w.heap.size → w'.heap[j]? = w.heap[j]?) : ItemR w' B x sv ev :=
  ⟨h.1.block fun j hj => hb j (h.1.lt' j hj).1 (h.1.lt' j hj).2, (h.2.blocks hb).full⟩
theorem ItemR.mono {w : World} {B B' : Nat} {x : ItemD} {sv ev : Value} (h : ItemR w B x sv ev) (hb : B' ≤ B) : ItemR w B' x sv ev := ⟨h.1.mono hb, h.2.mono hb⟩
def ItemAt (w : World) (b : Nat) (cs : Array Value) : Prop := w.heap[b]? = some (.cells cs 33 (0, 0))
theorem ItemAt.block {w w' : World} {b : Nat} {cs : Array Value} (h : ItemAt w b cs) (he : w'.heap[b]? = w.heap[b]?) : ItemAt w' b cs := he.trans h
theorem ItemAt.cell {w : World} {b : Nat} {cs : Array Value} (h : ItemAt w b cs) (j : Nat) : w.cell? ⟨b, j, none⟩ = cs[j]? := by unfold ItemAt at h; simp [World.cell?, h]
theorem ItemAt.frozen {w : World} {b : Nat} {cs : Array Value} (h : ItemAt w b cs) (j : Nat) : w.frozen? ⟨b, j, none⟩ = false := by unfold ItemAt at h; simp [World.frozen?, h]
theorem ItemAt.store {w : World} {b : Nat} {cs : Array Value} (h : ItemAt w b cs) (j : Nat) (v : Value) : ItemAt (w.setCell ⟨b, j, none⟩ v) b (cs.setIfInBounds j v) := by
  unfold ItemAt at h ⊢
  simp [World.setCell, Array.getElem?_modify, h]
theorem ItemAt.lt {w : World} {b : Nat} {cs : Array Value} (h : ItemAt w b cs) : b < w.heap.size := (Array.getElem?_eq_some_iff.1 h).1
theorem grownBy_set (w : World) (g i : Nat) (v : Value) : w.grownBy (w.setCell ⟨g, i, none⟩ v) (some g) :=
  ⟨rfl, rfl, rfl, by simp, fun k hk hne => Below.heap_setCell w ⟨g, i, none⟩ v k (fun e => hne (by rw [e]))⟩
theorem set_below {B b : Nat} (w : World) (v : Value) (i : Nat) (hb : B ≤ b) : Below B w (w.setCell ⟨b, i, none⟩ v) := (Below.refl B w).setCell hb _
def RetItem (w : World) (x : ItemD) (e : Ending) (w' : World) : Prop := ∃ sv ev, e = .returned (.agg (itemCells x sv ev)) ∧ ItemR w' w.heap.size x sv ev ∧ Gr w w'
/-- The seven cells put. -/
def put7 (w : World) (b : Nat) (x : ItemD) (sv ev : Value) : World := (((((((w.setCell ⟨b, 0, none⟩ (.int .i64 x.origin)).setCell ⟨b, 1, none⟩ (.int .u64 (x.seq : Int))).setCell ⟨b, 2, none⟩ (.int .i64 x.region)).setCell ⟨b, 3, none⟩ (.int .u64 (x.epoch : Int))).setCell ⟨b, 4, none⟩ sv).setCell ⟨b, 5, none⟩ ev).setCell ⟨b, 6, none⟩ (.int .u32 (x.closed : Int)))
theorem put7_at {w : World} {b : Nat} (h : ItemAt w b zeroI) (x : ItemD) (sv ev : Value) : ItemAt (put7 w b x sv ev) b (itemCells x sv ev) :=
  ((((((h.store 0 _).store 1 _).store 2 _).store 3 _).store 4 _).store 5 _).store 6 _
theorem put7_grown (w : World) (b : Nat) (x : ItemD) (sv ev : Value) : w.grownBy (put7 w b x sv ev) (some b) :=
  grownBy_trans (grownBy_trans (grownBy_trans (grownBy_trans (grownBy_trans (grownBy_trans (grownBy_set w b 0 _) (grownBy_set _ b 1 _)) (grownBy_set _ b 2 _)) (grownBy_set _ b 3 _)) (grownBy_set _ b 4 _)) (grownBy_set _ b 5 _)) (grownBy_set _ b 6 _)

set_option maxHeartbeats 4000000 in
theorem own_any (w : World) (x : ItemD) (sv ev : Value) (h : ItemIs w x sv ev) (hok : ItemOk x) :
    Calls Try.prog 23 #[.agg (itemCells x sv ev)] w (RetItem w x) := by
  obtain ⟨hs, he⟩ := h
  obtain ⟨hl1, hl2⟩ := hok
  obtain ⟨as_, cs, rfl⟩ := hs.oneCells
  obtain ⟨ae, ce, rfl⟩ := he.shape
  rw [nums_length] at *
  obtain ⟨w1, hw1⟩ : ∃ w1, w1 = w.alloc (.cells (itemCells x (.slice as_ x.stamp.length cs) (.slice ae x.effs.length ce)) 33) := ⟨_, rfl⟩
  have e1 : w1.heap.size = w.heap.size + 1 := by rw [hw1]; simp
  obtain ⟨w2, hw2⟩ : ∃ w2, w2 = w1.alloc (.cells zeroI 33) := ⟨_, rfl⟩
  have e2 : w2.heap.size = w.heap.size + 1 + 1 := by rw [hw2]; simp [e1]
  have g1 : Gr w w1 := by rw [hw1]; exact (Gr.refl w).alloc _
  have g2 : Gr w1 w2 := by rw [hw2]; exact (Gr.refl w1).alloc _
  have b1 : ItemAt w2 w.heap.size (itemCells x (.slice as_ x.stamp.length cs) (.slice ae x.effs.length ce)) := by
    have : ItemAt w1 w.heap.size (itemCells x (.slice as_ x.stamp.length cs) (.slice ae x.effs.length ce)) := by unfold ItemAt; rw [hw1]; exact heap_alloc_new w _
    exact this.block (g2.block _ this.lt)
  have b2 : ItemAt w2 (w.heap.size + 1) zeroI := by unfold ItemAt; rw [hw2, ← e1]; exact heap_alloc_new w1 _
  have G2 := Gr.trans g1 g2
  have HW1 := Lib.hid hw1
  have HW2 := Lib.hid hw2
  have HG2 := Lib.hid G2
  have HS := Lib.hid hs
  have HE := Lib.hid he
  have HB2 := Lib.hid b2
  have HE2 := Lib.hid e2
  have c4 : w2.cell? ⟨w.heap.size, 4, none⟩ = some (.slice as_ x.stamp.length cs) := b1.cell 4
  have HB1 := Lib.hid b1
  clear hw1 hw2 g1 g2 b1 b2 G2 hs he e1 e2
  unfold itemCells at HW1 ⊢
  unfold zeroI at HW2
  go_enter Try.func23, Try.ntmps23
  go_wp2_with fail
  rw [← HW1.out, ← HW2.out]
  refine (clone_n _ x.stamp w2 (HS.out.below HG2.out) (by omega)).mono ?_
  rintro e w3 ⟨v3, rfl, o3, g3⟩
  obtain ⟨a3, c3, rfl⟩ := o3.shape
  rw [nums_length] at o3 ⊢
  have b13 := HB1.out.block (g3.block _ HB1.out.lt)
  have k4 : w3.cell? ⟨w.heap.size, 4, none⟩ = some (.slice as_ x.stamp.length cs) := b13.cell 4
  have k5 : w3.cell? ⟨w.heap.size, 5, none⟩ = some (.slice ae x.effs.length ce) := b13.cell 5
  have f4 := b13.frozen 4
  have f5 := b13.frozen 5
  obtain ⟨w4, hw4⟩ : ∃ w4, w4 = w3.setCell ⟨w.heap.size, 4, none⟩ (.slice a3 x.stamp.length c3) := ⟨_, rfl⟩
  have b14 : ItemAt w4 w.heap.size (itemCells x (.slice a3 x.stamp.length c3) (.slice ae x.effs.length ce)) := by rw [hw4]; exact b13.store 4 _
  have gset4 : w3.grownBy w4 (some w.heap.size) := by rw [hw4]; exact grownBy_set _ _ _ _
  have b24 : ItemAt w4 (w.heap.size + 1) zeroI := (HB2.out.block (g3.block _ HB2.out.lt)).block (gset4.block _ (Nat.lt_of_lt_of_le HB2.out.lt g3.size) (by simp))
  have b4 : Below w.heap.size w w4 := Below.trans (Gr.trans HG2.out g3) (grownBy_below gset4 (Gr.trans HG2.out g3).size (fun k hk => by cases hk; exact Nat.le_refl _))
  have o4 : Own w4 w2.heap.size 23 (.slice a3 x.stamp.length c3) (nums x.stamp) := o3.block fun j hj => gset4.block j (o3.lt' j hj).2 (fun e => by injection e with e; have := (o3.lt' j hj).1; have := HE2.out; omega)
  have HW4 := Lib.hid hw4
  have O4 := Lib.hid o4
  have B4 := Lib.hid b4
  have B14 := Lib.hid b14
  have B24 := Lib.hid b24
  clear hw4 o4 b4 b14 b24 gset4 o3 g3 b13 c4 HB1 HB2 HW1 HW2 HG2
  go_wp2_with fail
  rw [← HW4.out]
  clear k4 f4 k5 f5
  refine (clone_effs w w4 _ x.effs HE.out B4.out hl2).mono ?_
  rintro e w5 ⟨v5, rfl, o5, g5⟩
  obtain ⟨a5, c5, rfl⟩ := o5.shape
  have b15 := B14.out.block (g5.block _ B14.out.lt)
  have k5 : w5.cell? ⟨w.heap.size, 5, none⟩ = some (.slice ae x.effs.length ce) := b15.cell 5
  have f5 := b15.frozen 5
  obtain ⟨w6, hw6⟩ : ∃ w6, w6 = w5.setCell ⟨w.heap.size, 5, none⟩ (.slice a5 x.effs.length c5) := ⟨_, rfl⟩
  have b16 : ItemAt w6 w.heap.size (itemCells x (.slice a3 x.stamp.length c3) (.slice a5 x.effs.length c5)) := by rw [hw6]; exact b15.store 5 _
  have gset6 : w5.grownBy w6 (some w.heap.size) := by rw [hw6]; exact grownBy_set _ _ _ _
  have hsz := HE2.out
  have b26 : ItemAt w6 (w.heap.size + 1) zeroI := (B24.out.block (g5.block _ B24.out.lt)).block (gset6.block _ (Nat.lt_of_lt_of_le B24.out.lt g5.size) (by simp))
  have b6 : Below w.heap.size w w6 := Below.trans (Gr.trans B4.out g5) (grownBy_below gset6 (Gr.trans B4.out g5).size (fun k hk => by cases hk; exact Nat.le_refl _))
  have hdis : ∀ j, (Value.slice a3 x.stamp.length c3).ownBlock = some j → (Value.slice a5 x.effs.length c5).ownBlock ≠ some j := fun j h1 h2 => by have := (O4.out.lt' j h1).2; have := (o5.lt j h2).1; omega
  have HDIS := Lib.hid hdis
  clear hdis
  have h24 : w2.heap.size ≤ w4.heap.size := by have h1 := B24.out.lt; omega
  have o6 : Own w6 w2.heap.size 23 (.slice a3 x.stamp.length c3) (nums x.stamp) := (O4.out.gr g5).block fun j hj => gset6.block j ((O4.out.gr g5).lt' j hj).2 (fun e => by injection e with e; have := (O4.out.lt' j hj).1; omega)
  have k6 : EffsK w w6 w2.heap.size (.slice a5 x.effs.length c5) x.effs 0 := (o5.mono h24).blocks fun j h1 h2 => gset6.block j h2 (fun e => by injection e with e; omega)
  have c56 : w6.cell? ⟨w.heap.size, 5, none⟩ = some (.slice a5 x.effs.length c5) := b16.cell 5
  have HW6 := Lib.hid hw6
  have O6 := Lib.hid o6
  have K6 := Lib.hid k6
  have B6 := Lib.hid b6
  have B16 := Lib.hid b16
  have B26 := Lib.hid b26
  clear hw6 o6 k6 b6 b16 b26 gset6 o5 g5 b15 h24 hsz O4 B4 B14 B24 HW4
  go_wp2_with fail
  rw [← HW6.out]
  clear k5 f5 c56 HW6
  go_loopw [3, 15] (fun _ i wr => ∃ k : Nat, k ≤ x.effs.length ∧ i = .int .i64 k ∧ Own wr w2.heap.size 23 (.slice a3 x.stamp.length c3) (nums x.stamp) ∧ EffsK w wr w2.heap.size (.slice a5 x.effs.length c5) x.effs k ∧
    ItemAt wr w.heap.size (itemCells x (.slice a3 x.stamp.length c3) (.slice a5 x.effs.length c5)) ∧ ItemAt wr (w.heap.size + 1) zeroI ∧ Below w.heap.size w wr) (fun _ i _ => x.effs.length - (intOf i).toNat)
  case atStart => exact ⟨0, Nat.zero_le _, rfl, O6.out, K6.out, B16.out, B26.out, B6.out⟩
  case round =>
    clear O6 K6 B16 B26 B6
    obtain ⟨k, hk, rfl, ow, kw, b1, b2, bw⟩ := hrel
    obtain ⟨wo, rfl⟩ : ∃ wo : World, wo = wr := ⟨_, rfl⟩
    have hsz := HE2.out
    by_cases hlt : k < x.effs.length
    · obtain ⟨g, cap, dv, hv, hg, hg1, cd, fd, sd, dl⟩ := kw.at hlt
      injection hv with q1 q2 q3
      subst q1 q3
      obtain ⟨da, dc, rfl⟩ := sd.oneCells
      rw [bytes_length] at cd sd
      obtain ⟨dat, hdat⟩ : ∃ dat, dat = x.effs[k].data := ⟨_, rfl⟩
      rw [← hdat] at cd sd dl
      have HDAT := Lib.hid hdat
      clear hdat
      have cdw : ∀ W, Gr wo.drew W → W.cell? ⟨g, k * 11 + 2, none⟩ = some (.slice da dat.length dc) := fun W hW => (hW.cell (p := ⟨g, k * 11 + 2, none⟩) (by simpa using hg1)).trans (by simpa using cd)
      have h5 : wo.drew.cell? ⟨w.heap.size, 5, none⟩ = some (.slice (some ⟨g, 0, none⟩) x.effs.length c5) := by
        have h5 : wo.cell? ⟨w.heap.size, 5, none⟩ = some (.slice (some ⟨g, 0, none⟩) x.effs.length c5) := b1.cell 5
        simpa using h5
      have c5w : ∀ W, Gr wo.drew W → W.cell? ⟨w.heap.size, 5, none⟩ = some (.slice (some ⟨g, 0, none⟩) x.effs.length c5) := fun W hW => (hW.cell (p := ⟨w.heap.size, 5, none⟩) (by simpa using b1.lt)).trans h5
      have sdw : ∀ W, Gr wo.drew W → Sl W (.slice da dat.length dc) (bytes dat) := fun W hW => sd.below (Gr.trans (show Gr w wo.drew from bw.drew) hW)
      have CDW := Lib.hid cdw
      have C5W := Lib.hid c5w
      have SDW := Lib.hid sdw
      have i1 : (0 : Int) ≤ (k : Int) := by omega
      have i2 : (k : Int) < (x.effs.length : Int) := by omega
      clear cdw c5w sdw cd fd sd h5
      go_wp2_with fail
      apply wp_region_draw_tail 14 (.eq _ :: .eq _ :: .eq _ :: .eq _ :: .eq _ :: .eq _ :: .eq _ :: .eq _ :: .eq _ :: .eq _ :: .ok (fun v W => Own W wo.heap.size 5 v (bytes dat)) :: .eq _ :: .eq _ :: .eq _ :: []) (by kernel_rfl) (by kernel_rfl) ⟨mono_own _ _ _, trivial⟩
      apply wpG_eq
      · intro W hW hs
        unfold opG
        go_simp
        first | exact resG_eq_mk _ _ _ | rfl
      simp only [Act.put, List.setIfInBounds_toArray, List.set_cons_zero, List.set_cons_succ]
      apply wpG_eq
      · intro W hW hs
        have h1 := C5W.out W hW
        unfold opG
        go_simp
        first | exact resG_eq_mk _ _ _ | rfl
      simp only [Act.put, List.setIfInBounds_toArray, List.set_cons_zero, List.set_cons_succ]
      apply wpG_eq
      · intro W hW hs
        unfold opG
        go_simp
        first | exact resG_eq_mk _ _ _ | rfl
      simp only [Act.put, List.setIfInBounds_toArray, List.set_cons_zero, List.set_cons_succ]
      apply wpG_eq
      · intro W hW hs
        unfold opG
        go_simp
        first | exact resG_eq_mk _ _ _ | rfl
      simp only [Act.put, List.setIfInBounds_toArray, List.set_cons_zero, List.set_cons_succ]
      apply wpG_eq
      · intro W hW hs
        have h1 := C5W.out W hW
        unfold opG
        go_simp
        first | exact resG_eq_mk _ _ _ | rfl
      simp only [Act.put, List.setIfInBounds_toArray, List.set_cons_zero, List.set_cons_succ]
      apply wpG_eq
      · intro W hW hs
        unfold opG
        go_simp
        first | exact resG_eq_mk _ _ _ | rfl
      simp only [Act.put, List.setIfInBounds_toArray, List.set_cons_zero, List.set_cons_succ]
      apply wpG_eq
      · intro W hW hs
        unfold opG
        go_simp
        first | exact resG_eq_mk _ _ _ | rfl
      simp only [Act.put, List.setIfInBounds_toArray, List.set_cons_zero, List.set_cons_succ]
      apply wpG_eq
      · intro W hW hs
        unfold opG
        go_simp
        first | exact resG_eq_mk _ _ _ | rfl
      simp only [Act.put, List.setIfInBounds_toArray, List.set_cons_zero, List.set_cons_succ]
      apply wpG_eq
      · intro W hW hs
        unfold opG
        go_simp
        first | exact resG_eq_mk _ _ _ | rfl
      simp only [Act.put, List.setIfInBounds_toArray, List.set_cons_zero, List.set_cons_succ]
      apply wpG_eq
      · intro W hW hs
        have h1 := CDW.out W hW
        unfold opG
        go_simp
        first | exact resG_eq_mk _ _ _ | rfl
      simp only [Act.put, List.setIfInBounds_toArray, List.set_cons_zero, List.set_cons_succ]
      apply wpG_ok
      · intro W hW hs
        have hlW : wo.heap.size ≤ W.heap.size := hW.size
        unfold opG
        go_simp
        refine resG_call ((clone_any _ dat _ (SDW.out W hW) (by omega)).mono ?_)
        rintro e W2 ⟨v, rfl, ho, hg⟩
        exact ⟨v, rfl, hg, ho.mono hlW⟩
      intro vt
      simp only [Act.put, List.setIfInBounds_toArray, List.set_cons_zero, List.set_cons_succ]
      apply wpG_eq
      · intro W hW hs
        unfold opG
        go_simp
        first | exact resG_eq_mk _ _ _ | rfl
      simp only [Act.put, List.setIfInBounds_toArray, List.set_cons_zero, List.set_cons_succ]
      apply wpG_eq
      · intro W hW hs
        unfold opG
        go_simp
        first | exact resG_eq_mk _ _ _ | rfl
      simp only [Act.put, List.setIfInBounds_toArray, List.set_cons_zero, List.set_cons_succ]
      apply wpG_eq
      · intro W hW hs
        unfold opG
        go_simp
        first | exact resG_eq_mk _ _ _ | rfl
      simp only [Act.put, List.setIfInBounds_toArray, List.set_cons_zero, List.set_cons_succ]
      apply wpG_nil
      intro W9 hW9 hsAll
      obtain hvt := hsAll _ (.head _)
      obtain ⟨va, vc, rfl⟩ := Own.shape hvt
      rw [bytes_length] at hvt ⊢
      have hgW : Gr wo W9 := Gr.trans ((Gr.refl wo).drew) hW9
      have kw9 := kw.below hgW
      have ow9 := ow.gr hgW
      obtain ⟨g', cap', dv', hv', _, hg1', cd', fd', _, _⟩ := kw9.at hlt
      injection hv' with q1
      injection q1 with q1
      injection q1 with q1
      subst q1
      have hne : (Value.slice va dat.length vc).ownBlock ≠ some g := fun e => by have := (hvt.lt' g e).1; omega
      have b19 := b1.block (hgW.block _ b1.lt)
      have b29 := b2.block (hgW.block _ b2.lt)
      have bw9 : Below w.heap.size w W9 := Below.trans bw (Below.mono hgW bw.size)
      have kn := kw9.step hlt (dv := .slice va dat.length vc) (by rw [← HDAT.out]; exact hvt.mono (by have := b2.lt; omega)) hne
      have gs := grownBy_set W9 g (k * 11 + 2) (.slice va dat.length vc)
      have on := ow9.block (w' := W9.setCell ⟨g, k * 11 + 2, none⟩ (.slice va dat.length vc)) fun j hj => gs.block j (ow9.lt' j hj).2 (fun e => HDIS.out j hj (by show some g = some j; first | exact e | exact e.symm))
      have b1n := b19.block (gs.block _ b19.lt (fun e => by injection e; omega))
      have b2n := b29.block (gs.block _ b29.lt (fun e => by injection e; omega))
      have bwn := Below.trans bw9 (set_below (B := w.heap.size) (b := g) W9 (.slice va dat.length vc) (k * 11 + 2) (by omega))
      have KN := Lib.hid kn
      have ON := Lib.hid on
      have B1N := Lib.hid b1n
      have B2N := Lib.hid b2n
      have BWN := Lib.hid bwn
      clear kn on b1n b2n bwn gs bw9 b29 b19 ow9 kw9 kw ow b1 b2 bw hsAll hvt
      simp only [List.drop_succ_cons, List.drop_zero]
      go_wp2_with fail
      go_roundw
      case rel => exact ⟨k + 1, by omega, by go_num, ON.out, KN.out, B1N.out, B2N.out, BWN.out⟩
      case measure => simp [intOf]; omega
    · obtain rfl : k = x.effs.length := by omega
      have d0 := b1.cell 0
      have d1 := b1.cell 1
      have d2 := b1.cell 2
      have d3 := b1.cell 3
      have d4 := b1.cell 4
      have d5 := b1.cell 5
      have d6 := b1.cell 6
      have z0 := b2.cell 0
      have z1 := b2.cell 1
      have z2 := b2.cell 2
      have z3 := b2.cell 3
      have z4 := b2.cell 4
      have z5 := b2.cell 5
      have z6 := b2.cell 6
      have y0 := b2.frozen 0
      have y1 := b2.frozen 1
      have y2 := b2.frozen 2
      have y3 := b2.frozen 3
      have y4 := b2.frozen 4
      have y5 := b2.frozen 5
      have y6 := b2.frozen 6
      have hat := put7_at b2 x (.slice a3 x.stamp.length c3) (.slice a5 x.effs.length c5)
      have hgr := put7_grown wo (w.heap.size + 1) x (.slice a3 x.stamp.length c3) (.slice a5 x.effs.length c5)
      have HAT := Lib.hid hat
      have HGR := Lib.hid hgr
      have BW := Lib.hid bw
      have OW := Lib.hid ow
      have KW : Hid (EffsK wo wo w2.heap.size (.slice a5 x.effs.length c5) x.effs x.effs.length) := Lib.hid kw.full
      clear hat hgr bw ow kw b1 b2
      simp only [itemCells, zeroI, List.getElem?_toArray, List.getElem?_cons_zero, List.getElem?_cons_succ] at d0 d1 d2 d3 d4 d5 d6 z0 z1 z2 z3 z4 z5 z6
      go_wp2_with fail
      have hat := HAT.out
      have hgr := HGR.out
      unfold put7 at hat hgr
      generalize ((((((wo.setCell ⟨w.heap.size + 1, 0, none⟩ (.int .i64 x.origin)).setCell ⟨w.heap.size + 1, 1, none⟩ (.int .u64 (x.seq : Int))).setCell ⟨w.heap.size + 1, 2, none⟩ (.int .i64 x.region)).setCell ⟨w.heap.size + 1, 3, none⟩ (.int .u64 (x.epoch : Int))).setCell ⟨w.heap.size + 1, 4, none⟩ (.slice a3 x.stamp.length c3)).setCell ⟨w.heap.size + 1, 5, none⟩ (.slice a5 x.effs.length c5)).setCell ⟨w.heap.size + 1, 6, none⟩ (.int .u32 (x.closed : Int)) = wf at *
      have t0 := hat.cell 0
      have t1 := hat.cell 1
      have t2 := hat.cell 2
      have t3 := hat.cell 3
      have t4 := hat.cell 4
      have t5 := hat.cell 5
      have t6 := hat.cell 6
      have hb1 : w.heap.size + 1 < w2.heap.size := by omega
      have hir : ItemR wo w2.heap.size x (.slice a3 x.stamp.length c3) (.slice a5 x.effs.length c5) := ⟨OW.out, KW.out⟩
      refine bodyPost_ret (v := .agg (itemCells x (.slice a3 x.stamp.length c3) (.slice a5 x.effs.length c5))) ?_ rfl
        ⟨_, _, rfl, (hir.blocks fun j h1 h2 => hgr.block j h2 (fun e => by injection e; omega)).mono (by omega), Below.trans BW.out (grownBy_below hgr BW.out.size (fun k hk => by cases hk; omega))⟩
      simp only [itemCells, List.getElem?_toArray, List.getElem?_cons_zero, List.getElem?_cons_succ] at t0 t1 t2 t3 t4 t5 t6 ⊢
      simp [results, Try.f23, go_sem, t0, t1, t2, t3, t4, t5, t6]
end Go.Proofs.Ytpdninnnpoiblaa
