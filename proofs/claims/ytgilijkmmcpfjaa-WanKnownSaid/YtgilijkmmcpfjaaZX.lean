/-
  Package wan: get; rows of items that the call made.
  Package wan: the deferred call of Get; what is read, its ranges.
  Package wan: Get.
-/
import Derived.Test.YtgilijkmmcpfjaaZWanPut
import Derived.Test.YtgilijkmmcpfjaaZEnGetJ
import Derived.Test.YtgilijkmmcpfjaaZEnReadF
import Derived.Defers
import Derived.Test.YtgilijkmmcpfjaaZC
section
set_option linter.unusedVariables false
set_option linter.unusedSimpArgs false
set_option maxRecDepth 100000
namespace Go.Proofs.Ytgilijkmmcpfjaa
open Go.RowKit
set_option maxHeartbeats 1000000 in
theorem wget_any (w : World) (base : Nat → Prop) (g : Nat) (s : RS) (hr : Rs w base g s) (hb : ∀ k, base k → k < w.heap.size) (hl : s.1.length ≤ 1000000000) :
    Calls Try.prog 33 #[.pointer (some ⟨g, 0, none⟩)] w (GotN w base g (rStamp s).1 (rStamp s).2) := by
  obtain ⟨n, hn⟩ : ∃ n, n = (rCount 3 s).1 := ⟨_, rfl⟩
  obtain ⟨s1, hs1⟩ : ∃ s1, s1 = (rCount 3 s).2 := ⟨_, rfl⟩
  have e1 : rStamp s = rMany rUint n s1 := by rw [hn, hs1]; rfl
  have hn3 : n ≤ 3 := by rw [hn]; exact rCount_most 3 s
  have l1 : s1.1.length ≤ 1000000000 := by rw [hs1]; exact Nat.le_trans (rCount_left 3 s) hl
  have CO := get_count w base g s 3 (by decide) hr hl
  rw [← hn, ← hs1] at CO
  rw [e1]
  have hgl := hr.lt
  have CC := Lib.hid CO
  clear CO hn hs1 e1
  go_enter Try.func33, Try.ntmps33
  go_wp2_with fail
  refine CC.out.mono ?_
  rintro e w1 ⟨rfl, hr1, hg1⟩
  go_wp2
  go_loopw [3, 6] (fun v i wr => ∃ k : Nat, k ≤ n ∧ i = .int .i64 k ∧ Own wr w.heap.size 24 v (nums (rMany rUint k s1).1) ∧ Rs wr base g (rMany rUint k s1).2 ∧ w.grownBy wr (some g)) (fun _ i _ => n - (intOf i).toNat)
  case atStart => exact ⟨0, Nat.zero_le _, rfl, Own.nil0 _ _ _, hr1, hg1⟩
  case round =>
    clear hr1 hg1
    obtain ⟨k, hk, rfl, ho, hr2, hg2⟩ := hrel
    obtain ⟨wo, rfl⟩ : ∃ wo : World, wo = wr := ⟨_, rfl⟩
    by_cases hlt : k < n
    · have l2 := Nat.le_trans (left_many rUint_left k s1) l1
      have en : rMany rUint (k + 1) s1 = ((rMany rUint k s1).1 ++ [(rUint (rMany rUint k s1).2).1], (rUint (rMany rUint k s1).2).2) := rfl
      have hlen : (rMany rUint k s1).1.length = k := rMany_length _ _ _
      have EN := Lib.hid en
      have U := rUint_lt (rMany rUint k s1).2
      obtain ⟨ls, hls⟩ : ∃ ls, ls = (rMany rUint k s1).1 := ⟨_, rfl⟩
      obtain ⟨sk, hsk⟩ : ∃ sk, sk = (rMany rUint k s1).2 := ⟨_, rfl⟩
      rw [← hls, ← hsk] at EN
      rw [← hls] at ho hlen
      rw [← hsk] at hr2 l2 U
      have HLEN := Lib.hid hlen
      clear en hls hsk hlen
      obtain ⟨x, hx⟩ : ∃ x, x = (rUint sk).1 := ⟨_, rfl⟩
      have GU := get_uint wo base g sk hr2 l2
      rw [← hx] at GU EN U
      have GU2 := Lib.hid GU
      clear GU hx
      have i1 : (0 : Int) ≤ (k : Int) := by omega
      have i2 : (k : Int) < (n : Int) := by omega
      go_wp2_with fail
      refine GU2.out.mono ?_
      rintro e w3 ⟨rfl, hr3, hg3⟩
      have o3 := ho.ch (Ch.of_grownBy (ρ := fun j => j = g) hg3 (fun k hk => by cases hk; rfl)) (fun j hj => by have := (ho.lt j hj).1; omega)
      have hsz : w.heap.size ≤ w3.heap.size := (grownBy_trans hg2 hg3).size
      obtain ⟨v4, w4, hrun, p1, p2⟩ := run_append_n (w3.alloc (.cells #[.int .u64 (x : Int)] 24)) w.heap.size u3 (.slice (some ⟨w3.heap.size, 0, none⟩) 1 1) ls [x] (World.ownsRow.alloc o3 _) (Sl.new w3 [_] _ _ _ _ rfl (by decide)) (by rw [HLEN.out]; simp; omega) (by simp; omega)
      have r4 := rs_newO (Rs.gr hr3 ((Gr.refl w3).alloc _)) p2 (fun j hj hq => by have := (o3.lt j hj).1; have := hb j hq; omega)
      have g4 : w.grownBy w4 (some g) := grown_newO (grownBy_trans (grownBy_trans hg2 hg3) (gr_grown ((Gr.refl w3).alloc _) g)) p2 (fun j hj => (o3.lt j hj).1)
      have P1 : Hid (Own w4 w.heap.size 24 v4 (nums (rMany rUint (k + 1) s1).1)) := Lib.hid (by rw [EN.out]; exact p1)
      have R4 : Hid (Rs w4 base g (rMany rUint (k + 1) s1).2) := Lib.hid (by rw [EN.out]; exact r4)
      have G4 := Lib.hid g4
      have HRUN := Lib.hid hrun
      clear hrun p1 p2 r4 g4 o3 ho hr2 hr3 hg2 hg3
      go_wp2_with (at_builtin; refine wpList_run_append HRUN.out rfl _ _ rfl rfl rfl ?_; clear HRUN)
      go_roundw
      case rel => exact ⟨k + 1, by omega, by go_num, P1.out, R4.out, G4.out⟩
      case measure => simp [intOf]; omega
    · obtain rfl : k = n := by omega
      go_wp2
      go_ret
      exact ⟨_, rfl, ho, hr2, hg2⟩
/-- Rows that the call made (block from B on), whose parts lie in other blocks from B on. -/
def ItemsR (w : World) (B : Nat) (v : Value) (es : List ItemD) : Prop :=
  ∃ rs, OwnR w B 46 7 v rs ∧ rs.length = es.length ∧ ∀ i (h : i < es.length), ∃ sv ev, rs[i]? = some (itemCells es[i] sv ev) ∧ ItemP (fun j => B ≤ j ∧ v.ownBlock ≠ some j) w es[i] sv ev
theorem ItemsR.nil (w : World) (B : Nat) : ItemsR w B (.slice none 0 0) [] := ⟨[], OwnR.nil _ _ _ _, rfl, fun i hi => absurd hi (Nat.not_lt_zero _)⟩
theorem ItemsR.shape {w : World} {B : Nat} {v : Value} {es : List ItemD} (h : ItemsR w B v es) : ∃ a cap, v = .slice a es.length cap := by
  obtain ⟨rs, h1, h2, _⟩ := h; rw [← h2]; exact h1.shape
theorem ItemsR.lt {w : World} {B : Nat} {v : Value} {es : List ItemD} (h : ItemsR w B v es) : ∀ j, v.ownBlock = some j → B ≤ j ∧ j < w.heap.size := by
  obtain ⟨rs, h1, _⟩ := h; exact h1.lt
theorem ItemsR.keep {w w' : World} {B : Nat} {v : Value} {es : List ItemD} (h : ItemsR w B v es) (k : Keep (From B) w w') : ItemsR w' B v es := by
  obtain ⟨rs, h1, h2, h3⟩ := h
  refine ⟨rs, h1.block fun j hj => k.block j (h1.lt j hj).1 (h1.lt j hj).2, h2, fun i hi => ?_⟩
  obtain ⟨sv, ev, q1, q2⟩ := h3 i hi
  exact ⟨sv, ev, q1, q2.keep ⟨k.size, fun b hb hlt => k.block b hb.1 hlt⟩⟩
theorem ItemsR.items {w : World} {B : Nat} {v : Value} {es : List ItemD} (h : ItemsR w B v es) : ItemsP (From B) w v es := by
  obtain ⟨rs, h1, h2, h3⟩ := h
  refine ⟨_, ⟨by rw [← h2]; exact h1.rows, .inr fun k hk => (h1.lt k hk).1⟩, fun i hi => ?_⟩
  obtain ⟨sv, ev, q1, q2⟩ := h3 i hi
  refine ⟨sv, ev, q2.mono fun k hk => hk.1, fun j u hu => ?_⟩
  have e : rs.getD i [] = itemCells es[i] sv ev := by rw [List.getD_eq_getElem?_getD, q1]; rfl
  rw [e, List.getD_eq_getElem?_getD, hu]; rfl
theorem itemCells_len (x : ItemD) (sv ev : Value) : (itemCells x sv ev).length = 7 := rfl
theorem ItemsR.snoc {w w' : World} {B : Nat} {v v' : Value} {es : List ItemD} {x : ItemD} {sv ev : Value} {rs : List (List Value)} (h1 : OwnR w B 46 7 v rs) (h2 : rs.length = es.length)
    (h3 : ∀ i (h : i < es.length), ∃ sv ev, rs[i]? = some (itemCells es[i] sv ev) ∧ ItemP (fun j => B ≤ j ∧ v.ownBlock ≠ some j) w es[i] sv ev)
    (hx : ItemP (fun j => B ≤ j ∧ v.ownBlock ≠ some j) w x sv ev) (ho : OwnR w' B 46 7 v' (rs ++ [itemCells x sv ev])) (hg : w.grownBy w' v.ownBlock) (hv : v'.ownBlock = v.ownBlock ∨ ∃ j, v'.ownBlock = some j ∧ w.heap.size ≤ j) :
    ItemsR w' B v' (es ++ [x]) := by
  have up : ∀ (y : ItemD) (sv ev : Value), ItemP (fun j => B ≤ j ∧ v.ownBlock ≠ some j) w y sv ev → ItemP (fun j => B ≤ j ∧ v'.ownBlock ≠ some j) w' y sv ev := fun y sv ev h => by
    have hk : Keep (fun j => B ≤ j ∧ v.ownBlock ≠ some j) w w' := ⟨hg.size, fun b hb hlt => hg.block b hlt (fun e => hb.2 e.symm)⟩
    have h4 : ItemP (fun j => (B ≤ j ∧ v.ownBlock ≠ some j) ∧ j < w.heap.size) w y sv ev := h.monoLt fun k hk hlt => ⟨hk, hlt⟩
    refine (h4.keep ⟨hg.size, fun b hb hlt => hk.block b hb.1 hlt⟩).mono fun k hk => ⟨hk.1.1, ?_⟩
    rcases hv with e | ⟨j, e, hj⟩
    · rw [e]; exact hk.1.2
    · rw [e]; intro e2; injection e2 with e2; have := hk.2; omega
  refine ⟨_, ho, by simp [h2], fun i hi => ?_⟩
  rw [List.length_append, List.length_singleton] at hi
  by_cases hlt : i < es.length
  · obtain ⟨su, eu, q1, q2⟩ := h3 i hlt
    refine ⟨su, eu, ?_, ?_⟩
    · rw [List.getElem?_append_left (by omega), q1, List.getElem_append_left hlt]
    · rw [List.getElem_append_left hlt]; exact up _ _ _ q2
  · obtain rfl : i = es.length := by omega
    refine ⟨sv, ev, ?_, ?_⟩
    · rw [List.getElem?_append_right (by omega), h2]; simp
    · simpa using up _ _ _ hx
theorem info_item : (Try.prog.info? 46).map (fun i => (i.zero, i.size, i.bytes)) = some (some (.agg #[.int .i64 0, .int .u64 0, .int .i64 0, .int .u64 0, .slice none 0 0, .slice none 0 0, .int .u32 0]), 7, 88) := by kernel_rfl
/-- append(s, x): an item that lies in a block of its own. -/
theorem run_append_item (w : World) (B : Nat) (v : Value) (es : List ItemD) (x : ItemD) (sv ev : Value) (b : Nat) (h : ItemsR w B v es) (hx : ItemP (fun j => B ≤ j ∧ v.ownBlock ≠ some j) w x sv ev)
    (hb : CellsAt w b (itemCells x sv ev) 46) (hl : es.length ≤ 1000000) (hB : B ≤ w.heap.size) :
    ∃ v' w', (Builtin.append_ #[23, 23] 23 #[v, .slice (some ⟨b, 0, none⟩) 1 1]).run Try.prog w = .ok v' w' ∧ ItemsR w' B v' (es ++ [x]) ∧ w.grownBy w' v.ownBlock := by
  obtain ⟨i0, hi0, hz0, hz1, hz2⟩ := info_parts info_item
  obtain ⟨rs, h1, h2, h3⟩ := h
  obtain ⟨v', w', hr, p1, p2, p3, _⟩ := run_append_rows (P := Try.prog) w B 23 23 46 i0 _ 7 88 Try.underlying23 hi0 hz0 hz1 hz2 (by rfl) v (.slice (some ⟨b, 0, none⟩) 1 1) rs [itemCells x sv ev] h1 _
    (row_one w b _ _ hb 7 rfl)
    (by
      intro i hi
      obtain rfl : i = 0 := by simp at hi; omega
      refine ⟨rfl, fun j hj => ?_⟩
      simp only [List.getElem_cons_zero, List.getD_eq_getElem?_getD]
      rw [List.getElem?_eq_getElem (by simpa using hj)]; rfl)
    (by
      intro r hr u hu
      obtain rfl : r = itemCells x sv ev := by simpa using hr
      have hone := sl_one hx.1
      have hone2 : ev.oneCell' = true := by obtain ⟨a, c, e⟩ := hx.2.shape; rw [e]; rfl
      simp only [itemCells, List.mem_cons, List.not_mem_nil, or_false] at hu
      rcases hu with rfl | rfl | rfl | rfl | rfl | rfl | rfl <;> first | rfl | exact hone | exact hone2)
    (by unfold maxLen; simp; omega) (by simp; omega) hB
  exact ⟨v', w', hr, ItemsR.snoc h1 h2 h3 hx p1 p2 p3, p2⟩
end Go.Proofs.Ytgilijkmmcpfjaa
end
section
set_option linter.unusedVariables false
set_option linter.unusedSimpArgs false
set_option maxRecDepth 100000
namespace Go.Proofs.Ytgilijkmmcpfjaa
open Go.RowKit
/-- What is read behind the first two bytes. -/
def rBody (k : Nat) (site : Int) (hv hi hr he hf : Bool) (s : RS) : WanD × RS :=
  let r := rOpt hr (rCount 3) 0 s
  let e := rOpt he rUint 0 r.2
  let v := rOpt hv rStamp [] e.2
  let f := rOpt hf rStamp [] v.2
  let i := rOpt hi (rList 8 rItem) [] f.2
  (⟨k, site, v.1, i.1, (r.1 : Int), e.1, f.1⟩, i.2)
theorem rWan_body (s : RS) : rWan s = rBody (k16 (rByte s).1) ((rByte (rByte s).2).1 : Int) (hasV (k16 (rByte s).1)) (hasI (k16 (rByte s).1)) (hasR (k16 (rByte s).1)) (hasE (k16 (rByte s).1)) (hasF (k16 (rByte s).1)) (rByte (rByte s).2).2 := rfl
theorem rList_max {α : Type} (f : RS → α × RS) (m : Nat) (s : RS) : (rList m f s).1.length ≤ m := by
  unfold rList
  rw [rMany_length]
  exact rCount_most m s
theorem effs_of_tup (z : Int × Nat × Int × Nat × List Nat × List EffD × Nat) (h : z.2.2.2.2.2.1.length ≤ 16) : (tupI z).effs.length ≤ 16 := h
theorem rEffs_rng : Rng (rList 16 rEff) (fun l => l.length ≤ 16) := rList_max rEff 16
theorem rItem_effs : Rng rItem (fun x => x.effs.length ≤ 16) := fun s => by
  rw [rItem_seq]
  exact effs_of_tup _ ((rSite_rng.seq (rUint_rng.seq (rReg_rng.seq (rUint_rng.seq (rStamp_rng.seq (rEffs_rng.seq rSmall_rng)))))) s).2.2.2.2.2.1
theorem rWan_rng (s : RS) : WanOk (rWan s).1 ∧ WanLen (rWan s).1 := by
  have ho : ∀ {α : Type} (c : Bool) (f : RS → α × RS) (z : α) (d : α → Prop) (s : RS), (∀ s, d (f s).1) → d z → d (rOpt c f z s).1 := by
    intro α c f z d s h hz
    cases c with
    | true => exact h s
    | false => exact hz
  refine ⟨⟨?_, nat_i64 (rByte_lt _), ?_, ?_, ?_, ?_, ?_⟩, ⟨?_, ?_⟩⟩
  · show k16 _ < 256; unfold k16; omega
  · exact ho _ rStamp [] (fun l => ∀ k ∈ l, k < 2 ^ 64) _ rStamp_rng (fun k hk => by cases hk)
  · exact ho _ (rList 8 rItem) [] (fun l => ∀ y ∈ l, ItemOk y) _ (rList_rng 8 rItem_rng) (fun k hk => by cases hk)
  · have h := ho (hasR (k16 (rByte s).1)) (rCount 3) 0 (fun n => n ≤ 3) (rByte (rByte s).2).2 (rCount_most 3) (Nat.zero_le _)
    show I64 (((rOpt (hasR (k16 (rByte s).1)) (rCount 3) 0 (rByte (rByte s).2).2).1 : Nat) : Int)
    unfold I64; omega
  · exact ho _ rUint 0 (fun n => n < 2 ^ 64) _ rUint_lt (by decide)
  · exact ho _ rStamp [] (fun l => ∀ k ∈ l, k < 2 ^ 64) _ rStamp_rng (fun k hk => by cases hk)
  · exact ho _ (rList 8 rItem) [] (fun l => l.length ≤ maxLen) _ (fun s => Nat.le_trans (rList_max rItem 8 s) (by decide)) (by decide)
  · exact ho _ (rList 8 rItem) [] (fun l => ∀ y ∈ l, y.effs.length ≤ maxLen) _ (rList_rng 8 fun s => Nat.le_trans (rItem_effs s) (by decide)) (fun k hk => by cases hk)
theorem ch_mono {ρ σ : Nat → Prop} {a b : World} (h : Ch ρ a b) (hs : ∀ k, ρ k → σ k) : Ch σ a b := ⟨h.os, h.tape, h.output, h.size, fun k hk hn => h.block k hk (fun e => hn (hs k e))⟩
theorem ch_setCell' (w : World) (b i : Nat) (v : Value) : Ch (fun j => j = b) w (w.setCell ⟨b, i, none⟩ v) := Ch.of_grownBy (grownBy_setCell w b i v) (fun k hk => by cases hk; rfl)
def zeroWL : List Value := [.int .u8 0, .int .i64 0, .slice none 0 0, .slice none 0 0, .int .i64 0, .int .u64 0, .slice none 0 0]
theorem built_wan0 : Try.prog.built 26 [] = some zeroWL.toArray := by kernel_rfl
theorem wan_one {P : Nat → Prop} {w : World} {x : WanD} {vv iv fv : Value} (h : WanP P w x vv iv fv) : oneAll (wanCells x vv iv fv) := by
  have o1 := sl_one h.1
  have o3 := sl_one h.2.2
  have o2 : iv.oneCell' = true := by obtain ⟨a, c, e⟩ := h.2.1.shape; rw [e]; rfl
  unfold oneAll wanCells
  simp only [List.all_cons, List.all_nil, o1, o2, o3, Bool.and_true]
  rfl
/-- What stands in the two results behind the deferred call. -/
def DoneW (B0 b c : Nat) (s : RS) (y : WanD) (w w' : World) : Prop :=
  ∃ z n vv iv fv, (z, n) = (if rDone s = 0 ∧ mayW y = true then (y, (0 : Int)) else (zeroW, 2)) ∧ CellsAt w' b (wanCells z vv iv fv) 26 ∧ WanP (From B0) w' z vv iv fv ∧ CellsAt w' c [.int .i64 n] 29 ∧ Ch (fun k => k = b ∨ k = c) w w'
set_option maxHeartbeats 4000000 in
theorem getD_any (u : FrameMode) (w : World) (base : Nat → Prop) (B0 b c r g : Nat) (s : RS) (y : WanD) (vv iv fv : Value) (hr : Rs w base g s) (hl : s.1.length ≤ 1000000000) (kr : CellsAt w r [.pointer (some ⟨g, 0, none⟩)] 61)
    (kb : CellsAt w b (wanCells y vv iv fv) 26) (kc : CellsAt w c [.int .i64 0] 29) (hp : WanP (From B0) w y vv iv fv) (ok : WanOk y) (len : WanLen y) (hbc : b ≠ c) (hbB : b < B0) (hcB : c < B0) :
    CallsD Try.prog 28 #[.pointer (some ⟨r, 0, none⟩), .pointer (some ⟨b, 0, none⟩), .pointer (some ⟨c, 0, none⟩)] u w fun e u' w' => u' = u ∧ (∃ v, e = .returned v) ∧ DoneW B0 b c s y w w' := by
  have DN := Lib.hid (get_done w base g s hr hl)
  have MY := Lib.hid (mayW_any w y vv iv fv (hp.mono fun _ _ => trivial) ok len)
  have c0 := kr.cell 0
  have e0 := kc.cell 0
  have z0 := kc.frozen 0
  have KB := Lib.hid kb
  have KC := Lib.hid kc
  have HPH := Lib.hid hp
  have ONE : Hid (oneAll (wanCells y vv iv fv)) := Lib.hid (wan_one hp)
  obtain ⟨E, hE⟩ : ∃ E, E = wanCells y vv iv fv := ⟨_, rfl⟩
  have EN : Hid (E.length = 7) := Lib.hid (by rw [hE]; rfl)
  have HE := Lib.hid hE
  rw [← hE] at MY KB
  obtain ⟨m, hm⟩ : ∃ m, m = mayW y := ⟨_, rfl⟩
  obtain ⟨d, hd⟩ : ∃ d, d = rDone s := ⟨_, rfl⟩
  have HM := Lib.hid hm
  have HD := Lib.hid hd
  rw [← hm] at MY
  rw [← hd] at DN
  clear hE hm hd hr kr kb kc hp ok len
  go_enter_d Try.func28, Try.ntmps28
  go_wp2_with fail
  refine DN.out.mono ?_
  rintro e w1 ⟨rfl, rfl⟩
  have bad : ∀ w9, Gr w w9 → (rDone s ≠ 0 ∨ mayW y = false) → Hid (∀ W', CellsAt W' b zeroWL 26 → Ch (fun j => j = b) w9 W' → (W'.cell? ⟨c, 0, none⟩ = some (.int .i64 0) ∧ W'.frozen? ⟨c, 0, none⟩ = false) ∧ DoneW B0 b c s y w (W'.setCell ⟨c, 0, none⟩ (.int .i64 2))) := fun w9 g9 hb => Lib.hid fun W' kz ch => by
    have kc9 : CellsAt W' c [.int .i64 0] 29 := (KC.out.gr g9).block (ch.block c ((KC.out.gr g9).lt) (fun e => hbc e.symm))
    refine ⟨⟨kc9.cell 0, kc9.frozen 0⟩, zeroW, 2, .slice none 0 0, .slice none 0 0, .slice none 0 0, ?_, ?_, ⟨SlP.nil _ _ _ _, ItemsP.nil _ _ _ _, SlP.nil _ _ _ _⟩, kc9.set 0 _, ?_⟩
    · rw [if_neg]; rintro ⟨h1, h2⟩; rcases hb with h | h
      · exact h h1
      · rw [h] at h2; cases h2
    · exact kz.block (by rw [Below.heap_setCell]; exact hbc)
    · refine (Ch.of_gr g9).trans ((ch_mono ch fun k hk => .inl hk).trans ?_)
      exact ch_mono (ch_setCell' W' c 0 _) fun k hk => .inr hk
  have good : d = 0 → m = true → ∀ w9, Gr w w9 → DoneW B0 b c s y w w9 := fun h1 h2 w9 g9 =>
    ⟨y, 0, vv, iv, fv, by rw [if_pos ⟨by rw [← HD.out]; exact h1, by rw [← HM.out]; exact h2⟩], by rw [← HE.out]; exact KB.out.gr g9, HPH.out.gr g9, KC.out.gr g9, Ch.of_gr g9⟩
  have BAD := Lib.hid bad
  have GOOD := Lib.hid good
  clear bad good
  by_cases hd0 : d = 0
  · subst hd0
    have q0 : ((0 : Int) != 0) = false := by decide
    go_wp2_with (first | (refine wpList_loadW wanTy _ rfl rfl rfl KB.out EN.out ?_) | fail)
    refine MY.out.mono ?_
    rintro e w2 ⟨rfl, g2⟩
    have G2 := Lib.hid g2
    clear g2
    cases m with
    | true =>
      have GD := Lib.hid (GOOD.out (by trivial) (by trivial) w2 G2.out)
      go_wp2
      go_end0
      exact ⟨⟨_, rfl⟩, GD.out⟩
    | false =>
      have BB := BAD.out w2 G2.out (.inr HM.out.symm)
      have KB2 := Lib.hid (KB.out.gr G2.out)
      clear e0 z0 c0
      go_wp2_with (first | (refine wpList_buildTo rfl 26 _ rfl (some 11) rfl _ built_wan0 ?_) | (refine wpList_storeE wanTy _ _ rfl rfl rfl rfl KB2.out rfl EN.out rfl ?_) | fail)
      intro w3 k3 ch3
      obtain ⟨⟨e0, z0⟩, DW⟩ := BB.out w3 k3 ch3
      have DWH := Lib.hid DW
      clear DW k3 ch3
      go_wp2
      go_end0
      exact ⟨⟨_, rfl⟩, DWH.out⟩
  · have q0 : (d != 0) = true := by simpa using hd0
    have BB := BAD.out w (Gr.refl w) (.inl (by rw [← HD.out]; exact hd0))
    clear e0 z0
    go_wp2_with (first | (refine wpList_buildTo rfl 26 _ rfl (some 11) rfl _ built_wan0 ?_) | (refine wpList_storeE wanTy _ _ rfl rfl rfl rfl KB.out rfl EN.out rfl ?_) | fail)
    intro w3 k3 ch3
    obtain ⟨⟨e0, z0⟩, DW⟩ := BB.out w3 k3 ch3
    have DWH := Lib.hid DW
    clear DW k3 ch3
    go_wp2
    go_end0
    exact ⟨⟨_, rfl⟩, DWH.out⟩
end Go.Proofs.Ytgilijkmmcpfjaa
end
section
set_option linter.unusedVariables false
set_option linter.unusedSimpArgs false
set_option maxRecDepth 100000
namespace Go.Proofs.Ytgilijkmmcpfjaa
open Go.RowKit
/-- What Get hands back. -/
def RetGetW (w : World) (l : List UInt8) (e : Ending) (w' : World) : Prop := ∃ vv iv fv, e = .returned (.tuple #[.agg (wanCells (getW l).1 vv iv fv).toArray, .int .i64 (getW l).2]) ∧ WanP (From w.heap.size) w' (getW l).1 vv iv fv ∧ Gr w w'
/-- The blocks while Get reads: the message's, the error's, the one of the reader's address, the reader's. -/
structure GS (w0 : World) (b c r g : Nat) (base : Nat → Prop) (W : World) (s : RS) (cs : List Value) : Prop where
  cells : CellsAt W b cs 26
  rd : Rs W base g s
  ptr : CellsAt W r [.pointer (some ⟨g, 0, none⟩)] 61
  err : CellsAt W c [.int .i64 0] 29
  ch : Ch (fun k => k = g ∨ k = b) w0 W
structure GN (b c r g : Nat) (base : Nat → Prop) : Prop where
  bg : b ≠ g
  bc : b ≠ c
  br : b ≠ r
  cg : c ≠ g
  rg : r ≠ g
  nb : ¬ base b
theorem GS.call {w0 : World} {b c r g : Nat} {base : Nat → Prop} {W W' : World} {s s' : RS} {cs : List Value} (N : GN b c r g base) (h : GS w0 b c r g base W s cs) (hr : Rs W' base g s') (hg : W.grownBy W' (some g)) : GS w0 b c r g base W' s' cs :=
  ⟨h.cells.other hg (fun e => N.bg (by injection e with e; exact e.symm)), hr, h.ptr.other hg (fun e => N.rg (by injection e with e; exact e.symm)), h.err.other hg (fun e => N.cg (by injection e with e; exact e.symm)), h.ch.trans (Ch.of_grownBy hg (fun k hk => by cases hk; exact .inl rfl))⟩
theorem GS.gr {w0 : World} {b c r g : Nat} {base : Nat → Prop} {W W' : World} {s : RS} {cs : List Value} (h : GS w0 b c r g base W s cs) (hg : Gr W W') : GS w0 b c r g base W' s cs :=
  ⟨h.cells.gr hg, Rs.gr h.rd hg, h.ptr.gr hg, h.err.gr hg, h.ch.trans (Ch.of_gr hg)⟩
theorem GS.store {w0 : World} {b c r g : Nat} {base : Nat → Prop} {W : World} {s : RS} {cs : List Value} (N : GN b c r g base) (h : GS w0 b c r g base W s cs) (j : Nat) (v : Value) : GS w0 b c r g base (W.setCell ⟨b, j, none⟩ v) s (cs.set j v) :=
  ⟨h.cells.set j v, rs_new h.rd (grownBy_setCell W b j v) N.nb, h.ptr.other (grownBy_setCell W b j v) (fun e => N.br (by injection e)), h.err.other (grownBy_setCell W b j v) (fun e => N.bc (by injection e)), h.ch.trans (ch_mono (ch_setCell' W b j v) fun k hk => .inr hk)⟩
theorem GS.row {w0 : World} {b c r g : Nat} {base : Nat → Prop} {W W' : World} {s : RS} {cs cs' : List Value} (N : GN b c r g base) (h : GS w0 b c r g base W s cs) (k : CellsAt W' b cs' 26) (hc : Ch (fun j => j = b) W W') : GS w0 b c r g base W' s cs' := by
  have hg : W.grownBy W' (some b) := hc.grownBy
  exact ⟨k, rs_new h.rd hg N.nb, h.ptr.other hg (fun e => N.br (by injection e)), h.err.other hg (fun e => N.bc (by injection e)), h.ch.trans (ch_mono hc fun k hk => .inr hk)⟩
structure GH (w0 : World) (b c r g h B0 : Nat) (hv hi hr he hf : Bool) (base : Nat → Prop) (W : World) (s : RS) (cs : List Value) : Prop where
  gs : GS w0 b c r g base W s cs
  has : HasAt W h hv hi hr he hf
  sz : B0 ≤ W.heap.size
theorem GH.call {w0 : World} {b c r g h B0 : Nat} {hv hi hr he hf : Bool} {base : Nat → Prop} {W W' : World} {s s' : RS} {cs : List Value} (N : GN b c r g base) (hhg : h ≠ g) (x : GH w0 b c r g h B0 hv hi hr he hf base W s cs) (rd : Rs W' base g s') (hg : W.grownBy W' (some g)) : GH w0 b c r g h B0 hv hi hr he hf base W' s' cs :=
  ⟨x.gs.call N rd hg, CellsAt.other x.has hg (fun e => hhg (by injection e with e; exact e.symm)), Nat.le_trans x.sz hg.size⟩
theorem GH.store {w0 : World} {b c r g h B0 : Nat} {hv hi hr he hf : Bool} {base : Nat → Prop} {W : World} {s : RS} {cs : List Value} (N : GN b c r g base) (hhb : h ≠ b) (x : GH w0 b c r g h B0 hv hi hr he hf base W s cs) (j : Nat) (v : Value) : GH w0 b c r g h B0 hv hi hr he hf base (W.setCell ⟨b, j, none⟩ v) s (cs.set j v) :=
  ⟨x.gs.store N j v, CellsAt.other x.has (grownBy_setCell W b j v) (fun e => hhb (by injection e with e; exact e.symm)), Nat.le_trans x.sz (grownBy_setCell W b j v).size⟩
theorem GH.hc {w0 : World} {b c r g h B0 : Nat} {hv hi hr he hf : Bool} {base : Nat → Prop} {W : World} {s : RS} {cs : List Value} (x : GH w0 b c r g h B0 hv hi hr he hf base W s cs) :
    W.cell? ⟨r, 0, none⟩ = some (.pointer (some ⟨g, 0, none⟩)) ∧ W.cell? ⟨h, 0, none⟩ = some (.bool hv) ∧ W.cell? ⟨h, 1, none⟩ = some (.bool hi) ∧ W.cell? ⟨h, 2, none⟩ = some (.bool hr) ∧ W.cell? ⟨h, 3, none⟩ = some (.bool he) ∧ W.cell? ⟨h, 4, none⟩ = some (.bool hf) :=
  ⟨x.gs.ptr.cell 0, CellsAt.cell x.has 0, CellsAt.cell x.has 1, CellsAt.cell x.has 2, CellsAt.cell x.has 3, CellsAt.cell x.has 4⟩
theorem GH.app {w0 : World} {b c r g h B0 : Nat} {hv hi hr he hf : Bool} {base : Nat → Prop} {W W' : World} {s : RS} {cs : List Value} {q : Option Nat} (x : GH w0 b c r g h B0 hv hi hr he hf base W s cs) (hg : W.grownBy W' q) (hq : ∀ j, q = some j → B0 ≤ j) (h1 : b < B0) (h2 : c < B0) (h3 : r < B0) (h4 : h < B0) (h5 : w0.heap.size ≤ B0) (h6 : ∀ j, base j → j < B0) : GH w0 b c r g h B0 hv hi hr he hf base W' s cs :=
  ⟨⟨x.gs.cells.other hg (fun e => by have := hq _ e; omega), rs_newO x.gs.rd hg (fun j hj hb => by have := hq _ hj; have := h6 _ hb; omega), x.gs.ptr.other hg (fun e => by have := hq _ e; omega), x.gs.err.other hg (fun e => by have := hq _ e; omega),
    ⟨hg.os.trans x.gs.ch.os, hg.tape.trans x.gs.ch.tape, hg.output.trans x.gs.ch.output, Nat.le_trans x.gs.ch.size hg.size, fun k hk hn => (hg.block k (Nat.lt_of_lt_of_le hk x.gs.ch.size) (fun e => by have := hq _ e.symm; omega)).trans (x.gs.ch.block k hk hn)⟩⟩,
    CellsAt.other x.has hg (fun e => by have := hq _ e; omega), Nat.le_trans x.sz hg.size⟩
/-- An item in a block of its own. -/
def ItemBox (B : Nat) (x : ItemD) (v : Value) (W : World) : Prop := ∃ hq sv ev, v = .slice (some ⟨hq, 0, none⟩) 1 1 ∧ CellsAt W hq (itemCells x sv ev) 46 ∧ ItemP (From B) W x sv ev ∧ B ≤ hq
theorem ItemBox.ch {B : Nat} {x : ItemD} {v : Value} {W W' : World} {ρ : Nat → Prop} (k : ItemBox B x v W) (hc : Ch ρ W W') (hn : ∀ j, B ≤ j → ¬ ρ j) : ItemBox B x v W' := by
  obtain ⟨hq, sv, ev, e, h1, h2, h3⟩ := k
  exact ⟨hq, sv, ev, e, h1.block (hc.block hq h1.lt (hn hq h3)), h2.keep (Keep.of_ch hc (fun j hj => hn j hj)), h3⟩
theorem ItemBox.mk (W : World) (B : Nat) (x : ItemD) (sv ev : Value) (h : ItemP (From B) W x sv ev) (hB : B ≤ W.heap.size) : ItemBox B x (.slice (some ⟨W.heap.size, 0, none⟩) 1 1) (W.alloc (.cells (itemCells x sv ev).toArray 46)) :=
  ⟨W.heap.size, sv, ev, rfl, CellsAt.new W _ _, h.gr ((Gr.refl W).alloc _), hB⟩
theorem rMany_step {α : Type} (f : RS → α × RS) (n : Nat) (s : RS) : rMany f (n + 1) s = ((rMany f n s).1 ++ [(f (rMany f n s).2).1], (f (rMany f n s).2).2) := rfl
theorem GS.fin {w0 : World} {b c r g : Nat} {base : Nat → Prop} {W : World} {s : RS} {cs : List Value} (N : GN b c r g base) (nc : ¬ base c) (cr : c ≠ r) (h : GS w0 b c r g base W s cs) :
    CellsAt (W.setCell ⟨c, 0, none⟩ (.int .i64 0)) b cs 26 ∧ Rs (W.setCell ⟨c, 0, none⟩ (.int .i64 0)) base g s ∧ CellsAt (W.setCell ⟨c, 0, none⟩ (.int .i64 0)) r [.pointer (some ⟨g, 0, none⟩)] 61 ∧ CellsAt (W.setCell ⟨c, 0, none⟩ (.int .i64 0)) c [.int .i64 0] 29 ∧ Ch (fun k => k = g ∨ k = b ∨ k = c) w0 (W.setCell ⟨c, 0, none⟩ (.int .i64 0)) :=
  ⟨h.cells.other (grownBy_setCell W c 0 _) (fun e => N.bc (by injection e with e; exact e.symm)), rs_new h.rd (grownBy_setCell W c 0 _) nc, h.ptr.other (grownBy_setCell W c 0 _) (fun e => cr (by injection e)), h.err.set 0 _, (ch_mono h.ch fun k hk => hk.elim .inl (fun e => .inr (.inl e))).trans (ch_mono (ch_setCell' W c 0 _) fun k hk => .inr (.inr hk))⟩
theorem get_results (tmps : Array Value) (w : World) (b c : Nat) (cs : List Value) (n : Int) (hp : tmps.getD 2 undef = .pointer (some ⟨b, 0, none⟩)) (hq : tmps.getD 3 undef = .pointer (some ⟨c, 0, none⟩)) (kb : CellsAt w b cs 26) (hn : cs.length = 7) (kc : CellsAt w c [.int .i64 n] 29) :
    (results Try.f13 tmps).run Try.prog w = .ok (.tuple #[.agg cs.toArray, .int .i64 n]) w := by
  have h : Try.f13.results = #[.cell 2 26, .cell 3 29] := rfl
  have hp' : tmps[2]?.getD undef = .pointer (some ⟨b, 0, none⟩) := by simpa using hp
  have hq' : tmps[3]?.getD undef = .pointer (some ⟨c, 0, none⟩) := by simpa using hq
  have e0 := kc.cell 0
  have e1 := run_load_row wanTy kb hn
  have e2 : (loadVar 29 ⟨c, 0, none⟩).run Try.prog w = .ok (.int .i64 n) w := by
    simp [go_sem, e0]
  simp [results, h, hp', hq', asAddr, e1, e2]
/-- What Get answers, by what was read. -/
theorem getW_end {w w' : World} {l : List UInt8} {y : WanD} {s : RS} {z : WanD} {n : Int} {vv iv fv : Value} {B0 : Nat} (hw : rWan (l, false) = (y, s)) (he : (z, n) = (if rDone s = 0 ∧ mayW y = true then (y, (0 : Int)) else (zeroW, 2))) (hB : w.heap.size ≤ B0) (hp : WanP (From B0) w' z vv iv fv) (hg : Gr w w') :
    RetGetW w l (.returned (.tuple #[.agg (wanCells z vv iv fv).toArray, .int .i64 n])) w' := by
  have e : getW l = (z, n) := by unfold getW; rw [hw]; exact he.symm
  refine ⟨vv, iv, fv, by rw [e], by rw [e]; exact hp.mono fun k hk => Nat.le_trans hB hk, hg⟩
theorem has_six (n : Nat) : (hasV n = true ∧ hasI n = false ∧ hasR n = false ∧ hasE n = false ∧ hasF n = false) ∨ (hasV n = false ∧ hasI n = true ∧ hasR n = false ∧ hasE n = false ∧ hasF n = false) ∨
    (hasV n = false ∧ hasI n = false ∧ hasR n = true ∧ hasE n = true ∧ hasF n = true) ∨ (hasV n = false ∧ hasI n = false ∧ hasR n = true ∧ hasE n = true ∧ hasF n = false) ∨ (hasV n = false ∧ hasI n = false ∧ hasR n = true ∧ hasE n = false ∧ hasF n = false) ∨ (hasV n = false ∧ hasI n = false ∧ hasR n = false ∧ hasE n = false ∧ hasF n = false) := by
  cases h : kindW n with
  | true => rcases has_cases n h with h | h | h | h | h <;> simp [h]
  | false =>
    have : ¬ (1 ≤ n ∧ n ≤ 6) := fun hc => by rw [(kindW_iff n).2 hc] at h; cases h
    have e : ∀ k, 1 ≤ k → k ≤ 6 → (n == k) = false := fun k h1 h2 => by simp; omega
    refine .inr (.inr (.inr (.inr (.inr ?_))))
    unfold hasV hasI hasR hasE hasF
    simp only [e 1 (by decide) (by decide), e 2 (by decide) (by decide), e 3 (by decide) (by decide), e 4 (by decide) (by decide), e 5 (by decide) (by decide), e 6 (by decide) (by decide), Bool.or_false, and_self]
theorem built_wan2 (z y : Int) : Try.prog.built 26 [(0, .int .u8 z), (1, .int .i64 y)] = some #[.int .u8 z, .int .i64 y, .slice none 0 0, .slice none 0 0, .int .i64 0, .int .u64 0, .slice none 0 0] := by kernel_rfl
def stW (s t1 t2 : RS) : Nat → RS
  | 0 => s
  | 1 => t1
  | _ => t2
set_option maxHeartbeats 8000000 in
theorem getW_any (w : World) (v : Value) (l : List UInt8) (hs : Sl w v (bytes l)) (hl : l.length ≤ 1000000000) :
    Calls Try.prog 13 #[v] w (RetGetW w l) := by
  obtain ⟨a, cap, rfl⟩ := hs.oneCells
  obtain ⟨w1, hw1⟩ : ∃ w1, w1 = w.alloc (.cells #[.int .u8 0, .int .i64 0, .slice none 0 0, .slice none 0 0, .int .i64 0, .int .u64 0, .slice none 0 0] 26) := ⟨_, rfl⟩
  obtain ⟨w2, hw2⟩ : ∃ w2, w2 = w1.alloc (.cells #[.int .i64 0] 29) := ⟨_, rfl⟩
  have z1 : w1.heap.size = w.heap.size + 1 := by rw [hw1]; simp
  have z2 : w2.heap.size = w1.heap.size + 1 := by rw [hw2]; simp
  have k1 : CellsAt w1 w.heap.size zeroWL 26 := by rw [hw1]; exact CellsAt.new _ _ _
  have k2 : CellsAt w2 w1.heap.size [.int .i64 0] 29 := by rw [hw2]; exact CellsAt.new _ _ _
  have g1 : Gr w w1 := by rw [hw1]; exact (Gr.refl w).alloc _
  have g2 : Gr w1 w2 := by rw [hw2]; exact (Gr.refl w1).alloc _
  obtain ⟨b, hb⟩ : ∃ b, b = w.heap.size := ⟨_, rfl⟩
  have s2 := (hs.below g1).below g2
  have k1' := k1.gr g2
  have HW1 := Lib.hid hw1
  have HW2 := Lib.hid hw2
  have hmf : ∀ (fn : Fn) (first cap : Array Value) (w : World), (Instr.makeFunc fn first cap).run Try.prog w = .ok (.func fn first cap) w := fun _ _ _ _ => rfl
  have HMF := Lib.hid hmf
  rw [z1, ← hb] at k2
  rw [← hb] at k1'
  have HB := Lib.hid hb
  have Z1 := Lib.hid z1
  have Z2 := Lib.hid z2
  have K1 := Lib.hid k1'
  have K2 := Lib.hid k2
  have G2 := Lib.hid (g1.trans g2)
  clear hw1 hw2 z1 z2 k1 k1' k2 g1 g2 hs hmf
  go_enter_defers Try.func13, Try.ntmps13
  go_wp2_with fail
  rw [← HW1.out, ← HW2.out, ← HB.out]
  clear hb
  refine (new2_any _ l _ s2 hl).mono ?_
  rintro e w3 ⟨g, rfl, hr3, b3⟩
  have HR3 := Lib.hid hr3
  have B3 := Lib.hid b3
  clear hr3 b3 s2
  have hmf := HMF.out
  obtain ⟨w4, hw4⟩ : ∃ w4, w4 = w3.alloc (.cells #[.pointer (some ⟨g, 0, none⟩)] 61) := ⟨_, rfl⟩
  have g4 : Gr w3 w4 := by rw [hw4]; exact (Gr.refl w3).alloc _
  have k4 : CellsAt w4 w3.heap.size [.pointer (some ⟨g, 0, none⟩)] 61 := by rw [hw4]; exact CellsAt.new _ _ _
  have z4 : w4.heap.size = w3.heap.size + 1 := by rw [hw4]; simp
  have HW4 := Lib.hid hw4
  clear hw4
  go_wp2_with fail
  clear hmf HMF
  rw [← HW4.out]
  have hg1 : w2.heap.size ≤ g := HR3.out.1.1
  have hg2 : g < w3.heap.size := HR3.out.1.2
  have hz : w2.heap.size = b + 2 := by rw [Z2.out, Z1.out, ← HB.out]
  have GNN : Hid (GN b (b + 1) w3.heap.size g (Mid w2 w3)) := Lib.hid ⟨by omega, by omega, by omega, by omega, by omega, fun h => by have h1 : w2.heap.size ≤ b := h.1; omega⟩
  have g24 : Gr w2 w4 := Gr.trans B3.out g4
  have GSS : Hid (GS w4 b (b + 1) w3.heap.size g (Mid w2 w3) w4 (l, false) zeroWL) := Lib.hid ⟨(K1.out.gr g24), Rs.gr HR3.out g4, k4, (K2.out.gr g24), Ch.refl _⟩
  have HG : Hid (b + 2 ≤ g ∧ g < w3.heap.size) := Lib.hid ⟨by omega, hg2⟩
  obtain ⟨r, hr⟩ : ∃ r, r = w3.heap.size := ⟨_, rfl⟩
  have GW4 : Hid (Gr w w4) := Lib.hid (G2.out.trans g24)
  have HLT : Hid (∀ k, Mid w2 w3 k → k < w4.heap.size) := Lib.hid fun k hk => by have h1 : k < w3.heap.size := hk.2; omega
  have HR4 : Hid (w4.heap.size = r + 1) := Lib.hid (by rw [z4, hr])
  obtain ⟨base, hbase⟩ : ∃ base, base = Mid w2 w3 := ⟨_, rfl⟩
  rw [← hr] at GNN GSS HG ⊢
  rw [← hbase] at GNN GSS HLT
  have HNC : Hid (¬ base (b + 1)) := Lib.hid (by rw [hbase]; intro h; have h1 : w2.heap.size ≤ b + 1 := h.1; omega)
  clear hg1 hg2 hz g24 g4 k4 z4 hr HR3 B3 HW4 HW1 HW2 Z1 Z2 K1 K2 G2 hbase
  have GD : Hid (Gr w4 w4.drew) := Lib.hid ((Gr.refl w4).drew)
  have PT : Hid (∀ W, Ch (fun j => j = g) w4.drew W → W.cell? ⟨r, 0, none⟩ = some (.pointer (some ⟨g, 0, none⟩))) := Lib.hid fun W hW => by
    have h0 := GSS.out.ptr.gr GD.out
    exact (h0.block (hW.block r h0.lt GNN.out.rg)).cell 0
  obtain ⟨a1, ha1⟩ : ∃ a1, a1 = (rByte (l, false)).1 := ⟨_, rfl⟩
  obtain ⟨t1, ht1⟩ : ∃ t1, t1 = (rByte (l, false)).2 := ⟨_, rfl⟩
  obtain ⟨b1, hb1⟩ : ∃ b1, b1 = (rByte t1).1 := ⟨_, rfl⟩
  obtain ⟨t2, ht2⟩ : ∃ t2, t2 = (rByte t1).2 := ⟨_, rfl⟩
  have lt1 : t1.1.length ≤ 1000000000 := by rw [ht1]; exact Nat.le_trans (rByte_left (l, false)) hl
  have lt2 : t2.1.length ≤ 1000000000 := by rw [ht2]; exact Nat.le_trans (rByte_left t1) lt1
  have CB1 : Hid (∀ W, Rs W base g (l, false) → _) := Lib.hid fun W h => get_byte W base g (l, false) h hl
  have CB2 : Hid (∀ W, Rs W base g t1 → _) := Lib.hid fun W h => get_byte W base g t1 h lt1
  rw [← ha1, ← ht1] at CB1
  rw [← hb1, ← ht2] at CB2
  obtain ⟨k, hk⟩ : ∃ k, k = k16 a1 := ⟨_, rfl⟩
  have ha256 : a1 < 256 := by rw [ha1]; exact rByte_lt _
  have hb256 : b1 < 256 := by rw [hb1]; exact rByte_lt _
  have WK : Hid (IntKind.u8.wrap ((a1 : Int) - 16) = ((k : Nat) : Int)) := Lib.hid (by rw [hk]; unfold k16; simp [IntKind.wrap, IntKind.bits, IntKind.signed]; omega)
  have hb64 : IntKind.i64.wrap ((b1 : Nat) : Int) = ((b1 : Nat) : Int) := by simp [IntKind.wrap, IntKind.bits, IntKind.signed]; omega
  have WB : Hid (IntKind.i64.wrap ((b1 : Nat) : Int) = ((b1 : Nat) : Int)) := Lib.hid hb64
  obtain ⟨hv, hhv⟩ : ∃ hv, hv = hasV k := ⟨_, rfl⟩
  obtain ⟨hi, hhi⟩ : ∃ hi, hi = hasI k := ⟨_, rfl⟩
  obtain ⟨hr, hhr⟩ : ∃ hr, hr = hasR k := ⟨_, rfl⟩
  obtain ⟨he, hhe⟩ : ∃ he, he = hasE k := ⟨_, rfl⟩
  obtain ⟨hf, hhf⟩ : ∃ hf, hf = hasF k := ⟨_, rfl⟩
  have RW : Hid (rWan (l, false) = rBody k (b1 : Int) hv hi hr he hf t2) := Lib.hid (by rw [rWan_body, ← ha1, ← ht1, ← hb1, ← ht2, ← hk, ← hhv, ← hhi, ← hhr, ← hhe, ← hhf])
  have hk256 : k < 256 := by rw [hk]; unfold k16; omega
  have LOOK : Hid (∀ W q, WMap W q → (Instr.lookup 55 (.map (some q)) (.int .u8 (k : Int)) false).run Try.prog W = .ok (hC hv hi hr he hf) W) := Lib.hid fun W q h => by
    have := h.look1 k hk256
    unfold hasC at this
    rw [← hhv, ← hhi, ← hhr, ← hhe, ← hhf] at this
    exact this
  have CS : Hid ((hv = true ∧ hi = false ∧ hr = false ∧ he = false ∧ hf = false) ∨ (hv = false ∧ hi = true ∧ hr = false ∧ he = false ∧ hf = false) ∨ (hv = false ∧ hi = false ∧ hr = true ∧ he = true ∧ hf = true) ∨ (hv = false ∧ hi = false ∧ hr = true ∧ he = true ∧ hf = false) ∨ (hv = false ∧ hi = false ∧ hr = true ∧ he = false ∧ hf = false) ∨ (hv = false ∧ hi = false ∧ hr = false ∧ he = false ∧ hf = false)) := Lib.hid (by rw [hhv, hhi, hhr, hhe, hhf]; exact has_six k)
  have LT2 := Lib.hid lt2
  have HL := Lib.hid hl
  clear ha1 ht1 hb1 ht2 lt1 lt2 hk ha256 hb256 hb64 hhv hhi hhr hhe hhf hk256
  apply wp_region_draw_turnTail 7 (fun j => j = g) (fun j W => Rs W base g (stW (l, false) t1 t2 j)) (.eq _ :: .useEq (.int .u8 (a1 : Int)) :: .eq _ :: .eq _ :: .useEq (.int .u8 (b1 : Int)) :: .eq _ :: .eq (.agg #[.int .u8 (k : Int), .int .i64 (b1 : Int), .slice none 0 0, .slice none 0 0, .int .i64 0, .int .u64 0, .slice none 0 0]) :: []) (by kernel_rfl) (by kernel_rfl) trivial (fun j W W' hg h => Rs.gr h hg) (Rs.gr GSS.out.rd ((Gr.refl _).drew))
  simp only [List.take_succ_cons, List.take_zero, List.drop_succ_cons, List.drop_zero]
  apply wpT_eq
  · intro W hW _
    have q0 := PT.out W hW
    unfold opT
    go_simp
    first | exact resT_eq_mk _ _ _ | exact ⟨Gr.refl _, rfl⟩
  simp only [Act.put, pt1, pt2, pt3]
  apply wpT_useEq
  · intro W hW hS hs
    unfold opT
    go_simp
    refine resT_call ((CB1.out W hS).mono ?_)
    rintro e W2 ⟨rfl, h3, h4⟩
    exact ⟨_, rfl, ⟨Ch.of_grownBy h4 (fun j hj => by cases hj; rfl), h3⟩, rfl⟩
  simp only [Act.put, pt1, pt2, pt3]
  apply wpT_eq
  · intro W hW _
    have q1 := WK.out
    unfold opT
    go_simp
    first | exact resT_eq_mk _ _ _ | exact ⟨Gr.refl _, rfl⟩
  simp only [Act.put, pt1, pt2, pt3]
  apply wpT_eq
  · intro W hW _
    have q0 := PT.out W hW
    unfold opT
    go_simp
    first | exact resT_eq_mk _ _ _ | exact ⟨Gr.refl _, rfl⟩
  simp only [Act.put, pt1, pt2, pt3]
  apply wpT_useEq
  · intro W hW hS hs
    unfold opT
    go_simp
    refine resT_call ((CB2.out W hS).mono ?_)
    rintro e W2 ⟨rfl, h3, h4⟩
    exact ⟨_, rfl, ⟨Ch.of_grownBy h4 (fun j hj => by cases hj; rfl), h3⟩, rfl⟩
  simp only [Act.put, pt1, pt2, pt3]
  apply wpT_eq
  · intro W hW _
    have q1 := WB.out
    unfold opT
    go_simp
    first | exact resT_eq_mk _ _ _ | exact ⟨Gr.refl _, rfl⟩
  simp only [Act.put, pt1, pt2, pt3]
  apply wpT_eq
  · intro W hW _
    have q1 := built_wan2 (k : Int) (b1 : Int)
    unfold opT
    go_simp
    first | exact resT_eq_mk _ _ _ | exact ⟨Gr.refl _, rfl⟩
  simp only [Act.put, pt1, pt2, pt3]
  apply wpT_nil
  intro W9 hW9 hS9 hsAll
  clear hsAll
  have S9 : Hid (Rs W9 base g t2) := Lib.hid hS9
  have K9 : Hid (CellsAt W9 b zeroWL 26) := Lib.hid (by
    have h0 := GSS.out.cells.gr GD.out
    exact h0.block (hW9.block b h0.lt GNN.out.bg))
  have N9 : Hid (GS w4 b (b + 1) r g base W9 t2 zeroWL) := Lib.hid (by
    have h0 := GSS.out.ptr.gr GD.out
    have h1 := GSS.out.err.gr GD.out
    exact ⟨K9.out, S9.out, h0.block (hW9.block r h0.lt GNN.out.rg), h1.block (hW9.block _ h1.lt GNN.out.cg), (Ch.of_gr GD.out).trans (ch_mono hW9 fun k hk => .inl hk)⟩)
  clear hS9 hW9 S9 GSS PT CB1 CB2 WK WB GD
  go_wp2_with (first | (refine wpList_storeE wanTy _ _ rfl rfl rfl rfl K9.out rfl rfl rfl ?_) | fail)
  intro w5 k5 ch5
  have N5 : Hid (GS w4 b (b + 1) r g base w5 t2 (wanCells ⟨k, (b1 : Int), [], [], 0, 0, []⟩ (.slice none 0 0) (.slice none 0 0) (.slice none 0 0))) := Lib.hid (N9.out.row GNN.out k5 ch5)
  clear k5 ch5 N9 K9
  have GD : Hid (Gr w5 w5.drew) := Lib.hid ((Gr.refl w5).drew)
  have CK : Hid (∀ W, Gr w5 W → W.cell? ⟨b, 0, none⟩ = some (.int .u8 (k : Int))) := Lib.hid fun W hW => (N5.out.cells.gr hW).cell 0
  go_wp2_with fail
  apply wp_region_draw_tail 5 (.ok (fun v W => ∃ q, v = .map (some q) ∧ WMap W q) :: .eq _ :: .eq _ :: .eq _ :: .ok (fun v W => ∃ h, v = .pointer (some ⟨h, 0, none⟩) ∧ CellsAt W h [.bool false, .bool false, .bool false, .bool false, .bool false] 54 ∧ w5.heap.size ≤ h) :: []) (by kernel_rfl) (by kernel_rfl) ⟨fun v W W' hg ⟨q, e, hk⟩ => ⟨q, e, hk.below hg⟩, fun v W W' hg ⟨h, e, hb, hs⟩ => ⟨h, e, hb.gr hg, hs⟩, trivial⟩
  simp only [List.take_succ_cons, List.take_zero, List.drop_succ_cons, List.drop_zero]
  apply wpG_ok
  · intro W hW hs
    unfold opG
    go_simp
    refine resG_call ((wkinds_any W).mono ?_)
    rintro e W2 ⟨q, rfl, hk, hg⟩
    exact ⟨_, rfl, hg, q, rfl, hk⟩
  intro v0
  simp only [Act.put, pt1, pt2, pt3]
  iterate 2
   apply wpG_eq
   · intro W hW hs
     have cn := CK.out W (GD.out.trans hW)
     unfold opG
     go_simp
     first | exact resG_eq_mk _ _ _ | rfl
   simp only [Act.put, pt1, pt2, pt3]
  apply wpG_eq
  · intro W hW hs
    obtain ⟨q, rfl, hkm⟩ := hs _ (.head _) (by rfl)
    have q1 := LOOK.out W q hkm
    unfold opG
    go_simp
    exact resG_eq_mk _ _ _
  simp only [Act.put, pt1, pt2, pt3]
  apply wpG_ok
  · intro W hW hs
    unfold opG
    go_simp
    exact resG_mk ((Gr.refl W).alloc _) ⟨_, rfl, CellsAt.new _ _ _, (Gr.trans (Gr.refl w5).drew hW).size⟩
  intro v4
  simp only [Act.put, pt1, pt2, pt3]
  apply wpG_nil
  intro W1 hW1 hsAll
  obtain ⟨h, rfl, kbh, hbase⟩ := hsAll _ (.head _)
  clear hsAll
  have KB := Lib.hid kbh
  have HW1 := Lib.hid hW1
  have hsz : w5.heap.size ≤ h := hbase
  clear kbh hW1
  go_wp2_with (first | (refine wpList_storeE hasTy _ _ rfl rfl rfl rfl KB.out rfl rfl rfl ?_) | fail)
  intro w6 k6 ch6
  have g6 : Gr w5 w6 := Below.trans ((Gr.refl w5).drew.trans HW1.out) (ch6.below (((Gr.refl w5).drew.trans HW1.out).size) (fun k hk => by have : k = h := hk; omega))
  have z5 := N5.out.ch.size
  have hg3 := HG.out
  have hr4 := HR4.out
  have hhb : h ≠ b := by omega
  have hhg : h ≠ g := by omega
  have hhr : h ≠ r := by omega
  obtain ⟨B0, hB0⟩ : ∃ B0, B0 = w6.heap.size := ⟨_, rfl⟩
  have N6 : Hid (GH w4 b (b + 1) r g h B0 hv hi hr he hf base w6 t2 (wanCells ⟨k, (b1 : Int), [], [], 0, 0, []⟩ (.slice none 0 0) (.slice none 0 0) (.slice none 0 0))) := Lib.hid ⟨N5.out.gr g6, k6, by omega⟩
  have HHB := Lib.hid hhb
  have HHG := Lib.hid hhg
  have k6lt := CellsAt.lt k6
  have BB : Hid (b < B0 ∧ b + 1 < B0 ∧ g < B0 ∧ w.heap.size ≤ B0 ∧ B0 = w6.heap.size) := Lib.hid ⟨by omega, by omega, by omega, by have := HB.out; omega, hB0⟩
  have NC : Hid (¬ base (b + 1) ∧ b + 1 ≠ r) := Lib.hid ⟨fun hx => HNC.out hx, by omega⟩
  have HGB : Hid (b + 2 ≤ g) := Lib.hid (by omega)
  have APP : Hid (r < B0 ∧ h < B0 ∧ w4.heap.size ≤ B0 ∧ ∀ j, base j → j < B0) := Lib.hid ⟨by omega, by omega, by omega, fun j hj => by have := HLT.out j hj; omega⟩
  have cs := CS.out
  clear k6 ch6 g6 z5 hg3 hr4 hhr hsz hbase KB HW1 CK LOOK N5 GD HG HR4 CS HNC k6lt hB0
  have ZZ : Hid (B0 = w6.heap.size) := Lib.hid BB.out.2.2.2.2
  have HLT2 : Hid (∀ W : World, w4.heap.size ≤ W.heap.size → ∀ k, base k → k < W.heap.size) := Lib.hid fun W hW k hk => Nat.lt_of_lt_of_le (HLT.out k hk) hW
  rcases cs with ⟨rfl, rfl, rfl, rfl, rfl⟩ | ⟨rfl, rfl, rfl, rfl, rfl⟩ | ⟨rfl, rfl, rfl, rfl, rfl⟩ | ⟨rfl, rfl, rfl, rfl, rfl⟩ | ⟨rfl, rfl, rfl, rfl, rfl⟩ | ⟨rfl, rfl, rfl, rfl, rfl⟩
  · have HC := N6.out.hc
    obtain ⟨p0, q00, q01, q02, q03, q04⟩ := HC
    go_wp2_with fail
    obtain ⟨s0, hs0⟩ : ∃ s, s = (rStamp t2).2 := ⟨_, rfl⟩
    have l0 : s0.1.length ≤ 1000000000 := by rw [hs0]; exact Nat.le_trans (left_stamp t2) LT2.out
    have C0 := wget_any (w6) base g t2 N6.out.gs.rd (HLT2.out (w6) (by have := N6.out.gs.ch.size; omega)) LT2.out
    rw [← hs0] at C0
    have HS0 := Lib.hid hs0
    have LL0 := Lib.hid l0
    clear hs0 l0
    refine C0.mono ?_
    rintro e x0 ⟨v0, rfl, ow0, rd0, gr0⟩
    obtain ⟨ax0, nx0, cx0, rfl⟩ : ∃ a n c, v0 = .slice a n c := by obtain ⟨a, c, e⟩ := ow0.shape; exact ⟨a, _, c, e⟩
    have M0 := Lib.hid (N6.out.call GNN.out HHG.out rd0 gr0)
    have cb0 := M0.out.gs.cells.cell 2
    have fz0 := M0.out.gs.cells.frozen 2
    have HC0 := M0.out.hc
    obtain ⟨p1, q10, q11, q12, q13, q14⟩ := HC0
    have LB0 : B0 ≤ (w6).heap.size := N6.out.sz
    have SP0 := Lib.hid ((ow0.slP).mono (Q := From B0) fun j hj => Nat.le_trans LB0 hj)
    clear LB0 ow0
    clear rd0 gr0 C0
    have N60 := Lib.hid (M0.out.store GNN.out HHB.out 2 ((.slice ax0 nx0 cx0)))
    have WP : Hid (WanP (From B0) (x0.setCell ⟨b, 2, none⟩ ((.slice ax0 nx0 cx0))) ⟨k, (b1 : Int), (rStamp t2).1, [], 0, 0, []⟩ (.slice ax0 nx0 cx0) (.slice none 0 0) (.slice none 0 0)) := Lib.hid ⟨(SP0.out.keep (keep_from (grownBy_setCell x0 b 2 _) BB.out.1)), ItemsP.nil _ _ _ _, SlP.nil _ _ _ _⟩
    have RWW : Hid (rWan (l, false) = (⟨k, (b1 : Int), (rStamp t2).1, [], 0, 0, []⟩, s0)) := Lib.hid (by rw [RW.out, HS0.out]; rfl)
    have OKK : Hid (WanOk ⟨k, (b1 : Int), (rStamp t2).1, [], 0, 0, []⟩ ∧ WanLen ⟨k, (b1 : Int), (rStamp t2).1, [], 0, 0, []⟩) := Lib.hid (by have := rWan_rng (l, false); rw [RWW.out] at this; exact this)
    have NN : Hid (GS w4 b (b + 1) r g base (x0.setCell ⟨b, 2, none⟩ ((.slice ax0 nx0 cx0))) s0 (wanCells ⟨k, (b1 : Int), (rStamp t2).1, [], 0, 0, []⟩ (.slice ax0 nx0 cx0) (.slice none 0 0) (.slice none 0 0))) := Lib.hid N60.out.gs
    obtain ⟨y, hy⟩ : ∃ y, y = (⟨k, (b1 : Int), (rStamp t2).1, [], 0, 0, []⟩ : WanD) := ⟨_, rfl⟩
    rw [← hy] at WP RWW OKK NN
    have ONE := Lib.hid (wan_one WP.out)
    obtain ⟨E, hE⟩ : ∃ E, E = wanCells y (.slice ax0 nx0 cx0) (.slice none 0 0) (.slice none 0 0) := ⟨_, rfl⟩
    have EN : Hid (E.length = 7) := Lib.hid (by rw [hE]; rfl)
    have HE := Lib.hid hE
    rw [← hE] at NN ONE
    clear hE hy
    go_wp2_with (first | (refine wpList_loadE wanTy _ rfl rfl rfl NN.out.cells EN.out ?_) | (refine wpList_storeE wanTy _ _ rfl rfl rfl rfl NN.out.cells EN.out EN.out ONE.out ?_) | fail)
    intro W9 k9 ch9
    have N9 := NN.out.row GNN.out k9 ch9
    have e0 := N9.err.cell 0
    have z0 := N9.err.frozen 0
    obtain ⟨f1, f2, f3, f4, f5⟩ := N9.fin GNN.out NC.out.1 NC.out.2
    have W9P := (WP.out.keep (keep_from ch9.grownBy BB.out.1)).keep (keep_from (grownBy_setCell W9 (b + 1) 0 (.int .i64 0)) BB.out.2.1)
    have FF := Lib.hid (And.intro f1 (And.intro f2 (And.intro f3 (And.intro f4 (And.intro f5 W9P)))))
    clear f1 f2 f3 f4 f5 W9P N9 k9 ch9
    go_wp2
    refine leaves_cons (f := 28) (args := #[.pointer (some ⟨r, 0, none⟩), .pointer (some ⟨b, 0, none⟩), .pointer (some ⟨b + 1, 0, none⟩)]) (by simp) (by simp [go_sem]) ?_
    obtain ⟨f1, f2, f3, f4, f5, W9P⟩ := FF.out
    rw [HE.out] at f1
    refine (getD_any _ _ base B0 b (b + 1) r g s0 y (.slice ax0 nx0 cx0) (.slice none 0 0) (.slice none 0 0) f2 LL0.out f3 f1 f4 W9P OKK.out.1 OKK.out.2 GNN.out.bc BB.out.1 BB.out.2.1).mono ?_
    rintro e u' w9 ⟨rfl, ⟨v9, rfl⟩, z, n, vz, iz, fz, he2, kb, hp, kc, ch⟩
    have G9 : Gr w w9 := Below.trans GW4.out ((f5.trans (ch_mono ch fun k hk => .inr hk)).below GW4.out.size (fun k hk => by have h1 := HB.out; have h2 := HGB.out; rcases hk with rfl | rfl | rfl <;> omega))
    exact ⟨_, get_results _ _ b (b + 1) _ n rfl rfl kb rfl kc, getW_end RWW.out he2 BB.out.2.2.2.1 hp G9⟩
  · have HC := N6.out.hc
    obtain ⟨p0, q00, q01, q02, q03, q04⟩ := HC
    obtain ⟨n, hn⟩ : ∃ n, n = (rCount ((8 : Nat) : Int) t2).1 := ⟨_, rfl⟩
    obtain ⟨s1, hs1⟩ : ∃ s1, s1 = (rCount ((8 : Nat) : Int) t2).2 := ⟨_, rfl⟩
    have e1 : rList 8 rItem t2 = rMany rItem n s1 := by rw [hn, hs1]; rfl
    have hn8 : n ≤ 8 := by rw [hn]; exact rCount_most 8 t2
    have l1 : s1.1.length ≤ 1000000000 := by rw [hs1]; exact Nat.le_trans (rCount_left 8 t2) LT2.out
    have CO := get_count w6 base g t2 8 (by decide) N6.out.gs.rd LT2.out
    replace CO : Calls Try.prog 31 #[.pointer (some ⟨g, 0, none⟩), .int .i64 8] w6 (Got w6 base g (.int .i64 (n : Int)) s1) := by rw [hn, hs1]; exact CO
    have E1 := Lib.hid e1
    have L1 := Lib.hid l1
    have HN8 := Lib.hid hn8
    have CC := Lib.hid CO
    clear CO hn hs1 e1 l1 hn8
    go_wp2_with fail
    refine CC.out.mono ?_
    rintro e x0 ⟨rfl, rd0, gr0⟩
    have M0 := N6.out.call GNN.out HHG.out rd0 gr0
    have HM0 := Lib.hid M0
    clear M0 rd0 gr0 p0 q00 q01 q02 q03 q04 CC
    go_wp2_with fail
    go_loopw [44] (fun i wr => ∃ (k' : Nat) (acc : List ItemD) (sk : RS) (ia : Option Addr) (ic : Nat), k' ≤ n ∧ i = .int .i64 k' ∧ Hid (rMany rItem k' s1 = (acc, sk)) ∧ GH w4 b (b + 1) r g h B0 false true false false false base wr sk (wanCells ⟨k, (b1 : Int), [], acc, 0, 0, []⟩ (.slice none 0 0) (.slice ia acc.length ic) (.slice none 0 0)) ∧ ItemsR wr B0 (.slice ia acc.length ic) acc) (fun i _ => n - (intOf i).toNat)
    case atStart => exact ⟨0, [], s1, none, 0, Nat.zero_le _, rfl, Lib.hid rfl, HM0.out, ItemsR.nil _ _⟩
    case round =>
      clear HM0
      obtain ⟨k', acc, sk, ia, ic, hk', rfl, HR, N, ho⟩ := hrel
      obtain ⟨wo, rfl⟩ : ∃ wo : World, wo = wr := ⟨_, rfl⟩
      have HNN := Lib.hid N
      have HO := Lib.hid ho
      by_cases hlt : k' < n
      · obtain ⟨x, hx⟩ : ∃ x, x = (rItem sk).1 := ⟨_, rfl⟩
        obtain ⟨s3, hs3⟩ : ∃ s3, s3 = (rItem sk).2 := ⟨_, rfl⟩
        have hls : sk.1.length ≤ 1000000000 := by have h1 := left_many left_item k' s1; rw [HR.out] at h1; exact Nat.le_trans h1 L1.out
        have hal : acc.length = k' := by have h1 : (rMany rItem k' s1).1.length = k' := rMany_length _ _ _; rw [HR.out] at h1; exact h1
        have HR2 : Hid (rMany rItem (k' + 1) s1 = (acc ++ [x], s3)) := Lib.hid (by rw [rMany_step, HR.out, hx, hs3])
        have RC : Hid (∀ W, Rs W base g sk → (∀ j, base j → j < W.heap.size) → Calls Try.prog 34 #[.pointer (some ⟨g, 0, none⟩)] W (GotP W base g (ItemIs W.heap.size x) s3)) := Lib.hid fun W h1 h2 => by rw [hx, hs3]; exact getItem_any W base g sk h1 h2 hls
        have HAL := Lib.hid hal
        have PT : Hid (∀ W, Ch (fun j => j = g) wo.drew W → W.cell? ⟨r, 0, none⟩ = some (.pointer (some ⟨g, 0, none⟩)) ∧ W.cell? ⟨b, 3, none⟩ = some (.slice ia acc.length ic)) := Lib.hid fun W hW => by
          have gd := (Gr.refl wo).drew
          have h0 := HNN.out.gs.ptr.gr gd
          have h1 := HNN.out.gs.cells.gr gd
          exact ⟨(h0.block (hW.block r h0.lt GNN.out.rg)).cell 0, (h1.block (hW.block b h1.lt GNN.out.bg)).cell 3⟩
        have i1 : (0 : Int) ≤ (k' : Int) := by omega
        have i2 : (k' : Int) < (n : Int) := by omega
        clear hx hs3 hls hal N ho
        go_wp2_with fail
        apply wp_region_draw_turnTail 5 (fun j => j = g) (fun j W => Rs W base g (stW sk s3 s3 j)) (.eq _ :: .eq _ :: .eq _ :: .use (fun v W => ItemIs wo.heap.size x v W) :: .ok (fun v W => ItemBox wo.heap.size x v W) :: []) (by kernel_rfl) (by kernel_rfl) ⟨fun v w2 w3 hg hh => by obtain ⟨sv, ev, h1, h2⟩ := hh; exact ⟨sv, ev, h1, h2.keep (Keep.of_ch hg (fun j h1 h3 => by have h4 : wo.heap.size ≤ j := h1; have h5 : j = g := h3; have := HNN.out.gs.rd.lt; omega))⟩, fun v w2 w3 hg hh => ItemBox.ch hh hg (fun j hj h5 => by have h5 : j = g := h5; have := HNN.out.gs.rd.lt; omega), trivial⟩ (fun j W W' hg h => Rs.gr h hg) (Rs.gr HNN.out.gs.rd ((Gr.refl _).drew))
        simp only [List.take_succ_cons, List.take_zero, List.drop_succ_cons, List.drop_zero]
        apply wpT_eq
        · intro W hW _
          unfold opT
          go_simp
          first | exact resT_eq_mk _ _ _ | exact ⟨Gr.refl _, rfl⟩
        simp only [Act.put, pt1, pt2, pt3]
        apply wpT_eq
        · intro W hW _
          have q0 := (PT.out W hW).2
          unfold opT
          go_simp
          first | exact resT_eq_mk _ _ _ | exact ⟨Gr.refl _, rfl⟩
        simp only [Act.put, pt1, pt2, pt3]
        apply wpT_eq
        · intro W hW _
          have q0 := (PT.out W hW).1
          unfold opT
          go_simp
          first | exact resT_eq_mk _ _ _ | exact ⟨Gr.refl _, rfl⟩
        simp only [Act.put, pt1, pt2, pt3]
        apply wpT_use
        · intro W hW hS hs
          have hsz : wo.heap.size ≤ W.heap.size := by simpa using hW.size
          have hbw : ∀ j, base j → j < W.heap.size := fun j hj => HLT2.out W (Nat.le_trans HNN.out.gs.ch.size hsz) j hj
          unfold opT
          go_simp
          refine resT_call ((RC.out W hS hbw).mono ?_)
          rintro en W2 ⟨v, rfl, ⟨sv, ev, h1, h2⟩, h3, h4⟩
          exact ⟨_, rfl, ⟨Ch.of_grownBy h4 (fun j hj => by cases hj; rfl), h3⟩, ⟨sv, ev, h1, h2.mono fun j hj => by have h5 : W.heap.size ≤ j := hj; show wo.heap.size ≤ j; omega⟩⟩
        intro vt2
        simp only [Act.put, pt1, pt2, pt3]
        apply wpT_ok
        · intro W hW hs
          obtain ⟨sv, ev, rfl, h2⟩ := hs _ (.head _) (by rfl)
          have hsz : wo.heap.size ≤ W.heap.size := by simpa using hW.size
          have BX := Lib.hid (ItemBox.mk W _ x sv ev h2 hsz)
          obtain ⟨sa, ns, sc, ea, ne, ec, rfl, rfl⟩ := item_shape h2
          clear h2
          unfold itemCells
          unfold opT
          go_simp
          exact resT_mk ((Gr.refl W).alloc _) BX.out
        intro vq
        simp only [Act.put, pt1, pt2, pt3]
        apply wpT_nil
        intro W hW hSW hsAll
        obtain ⟨hp, sv, ev, rfl, kbx, sdv, bhp⟩ := hsAll _ (.head _)
        clear hsAll
        have hRW : Rs W base g s3 := hSW
        have gW : wo.grownBy W (some g) := grownBy_trans (gr_grown ((Gr.refl wo).drew) g) (Ch.grownBy hW)
        have MW := HNN.out.call GNN.out HHG.out hRW gW
        have o3 := HO.out.keep (keep_from gW BB.out.2.2.1)
        have hub : ∀ j, (Value.slice ia acc.length ic).ownBlock = some j → B0 ≤ j ∧ j < wo.heap.size := HO.out.lt
        have hzo := HNN.out.sz
        have hn8 := HN8.out
        obtain ⟨v4, y4, hrun, p1, p2⟩ := run_append_item W B0 (.slice ia acc.length ic) acc x sv ev hp o3 (sdv.mono fun j hj => ⟨Nat.le_trans hzo hj, fun e => by have h1 := (hub j e).2; have h2 : wo.heap.size ≤ j := hj; omega⟩) kbx (by rw [HAL.out]; omega) (Nat.le_trans hzo gW.size)
        obtain ⟨acc2, hacc⟩ : ∃ acc2, acc2 = acc ++ [x] := ⟨_, rfl⟩
        rw [← hacc] at p1 HR2
        obtain ⟨pa3, pc3, rfl⟩ := p1.shape
        have M4 := MW.app p2 (fun j hj => (hub j hj).1) BB.out.1 BB.out.2.1 APP.out.1 APP.out.2.1 APP.out.2.2.1 APP.out.2.2.2
        have P1 := Lib.hid p1
        have HRUN := Lib.hid hrun
        have y3 := M4.gs.cells.cell 3
        have fy3 := M4.gs.cells.frozen 3
        have M5 := Lib.hid (M4.store GNN.out HHB.out 3 (.slice pa3 acc2.length pc3))
        have P5 := Lib.hid (P1.out.keep (keep_from (grownBy_setCell y4 b 3 (.slice pa3 acc2.length pc3)) BB.out.1))
        clear hrun p1 p2 o3 hub kbx bhp sdv hRW gW MW hW hSW M4 hacc hzo
        try simp only [List.drop_succ_cons, List.drop_zero]
        go_wp2_with (at_builtin; refine wpList_run_append HRUN.out rfl _ _ rfl rfl rfl ?_; clear HRUN)
        go_roundw
        case rel => exact ⟨k' + 1, acc2, s3, pa3, pc3, by omega, by go_num, HR2, M5.out, P5.out⟩
        case measure => simp [intOf]; omega
      · obtain rfl : k' = n := by omega
        have WP : Hid (WanP (From B0) wo ⟨k, (b1 : Int), [], acc, 0, 0, []⟩ (.slice none 0 0) (.slice ia acc.length ic) (.slice none 0 0)) := Lib.hid ⟨SlP.nil _ _ _ _, HO.out.items, SlP.nil _ _ _ _⟩
        have RWW : Hid (rWan (l, false) = (⟨k, (b1 : Int), [], acc, 0, 0, []⟩, sk)) := Lib.hid (by rw [RW.out]; show ((⟨k, (b1 : Int), [], (rList 8 rItem t2).1, 0, 0, []⟩ : WanD), (rList 8 rItem t2).2) = _; rw [E1.out, HR.out])
        have OKK : Hid (WanOk ⟨k, (b1 : Int), [], acc, 0, 0, []⟩ ∧ WanLen ⟨k, (b1 : Int), [], acc, 0, 0, []⟩) := Lib.hid (by have := rWan_rng (l, false); rw [RWW.out] at this; exact this)
        have NN : Hid (GS w4 b (b + 1) r g base wo sk (wanCells ⟨k, (b1 : Int), [], acc, 0, 0, []⟩ (.slice none 0 0) (.slice ia acc.length ic) (.slice none 0 0))) := Lib.hid HNN.out.gs
        have hls : sk.1.length ≤ 1000000000 := by have h1 := left_many left_item k' s1; rw [HR.out] at h1; exact Nat.le_trans h1 L1.out
        have HLS := Lib.hid hls
        clear hls N ho
        obtain ⟨y, hy⟩ : ∃ y, y = (⟨k, (b1 : Int), [], acc, 0, 0, []⟩ : WanD) := ⟨_, rfl⟩
        rw [← hy] at WP RWW OKK NN
        have ONE := Lib.hid (wan_one WP.out)
        obtain ⟨E, hE⟩ : ∃ E, E = wanCells y (.slice none 0 0) (.slice ia acc.length ic) (.slice none 0 0) := ⟨_, rfl⟩
        have EN : Hid (E.length = 7) := Lib.hid (by rw [hE]; rfl)
        have HE := Lib.hid hE
        rw [← hE] at NN ONE
        clear hE hy
        go_wp2_with (first | (refine wpList_loadE wanTy _ rfl rfl rfl NN.out.cells EN.out ?_) | (refine wpList_storeE wanTy _ _ rfl rfl rfl rfl NN.out.cells EN.out EN.out ONE.out ?_) | fail)
        intro W9 k9 ch9
        have N9 := NN.out.row GNN.out k9 ch9
        have e0 := N9.err.cell 0
        have z0 := N9.err.frozen 0
        obtain ⟨f1, f2, f3, f4, f5⟩ := N9.fin GNN.out NC.out.1 NC.out.2
        have W9P := (WP.out.keep (keep_from ch9.grownBy BB.out.1)).keep (keep_from (grownBy_setCell W9 (b + 1) 0 (.int .i64 0)) BB.out.2.1)
        have FF := Lib.hid (And.intro f1 (And.intro f2 (And.intro f3 (And.intro f4 (And.intro f5 W9P)))))
        clear f1 f2 f3 f4 f5 W9P N9 k9 ch9
        go_wp2
        refine leaves_cons (f := 28) (args := #[.pointer (some ⟨r, 0, none⟩), .pointer (some ⟨b, 0, none⟩), .pointer (some ⟨b + 1, 0, none⟩)]) (by simp) (by simp [go_sem]) ?_
        obtain ⟨f1, f2, f3, f4, f5, W9P⟩ := FF.out
        rw [HE.out] at f1
        refine (getD_any _ _ base B0 b (b + 1) r g sk y (.slice none 0 0) (.slice ia acc.length ic) (.slice none 0 0) f2 HLS.out f3 f1 f4 W9P OKK.out.1 OKK.out.2 GNN.out.bc BB.out.1 BB.out.2.1).mono ?_
        rintro e u' w9 ⟨rfl, ⟨v9, rfl⟩, z, n, vz, iz, fz, he2, kb, hp, kc, ch⟩
        have G9 : Gr w w9 := Below.trans GW4.out ((f5.trans (ch_mono ch fun k hk => .inr hk)).below GW4.out.size (fun k hk => by have h1 := HB.out; have h2 := HGB.out; rcases hk with rfl | rfl | rfl <;> omega))
        exact ⟨_, get_results _ _ b (b + 1) _ n rfl rfl kb rfl kc, getW_end RWW.out he2 BB.out.2.2.2.1 hp G9⟩
  · have HC := N6.out.hc
    obtain ⟨p0, q00, q01, q02, q03, q04⟩ := HC
    go_wp2_with fail
    obtain ⟨s0, hs0⟩ : ∃ s, s = (rCount 3 t2).2 := ⟨_, rfl⟩
    have l0 : s0.1.length ≤ 1000000000 := by rw [hs0]; exact Nat.le_trans (rCount_left 3 t2) LT2.out
    have C0 := get_count (w6) base g t2 3 (by decide) N6.out.gs.rd LT2.out
    rw [← hs0] at C0
    have HS0 := Lib.hid hs0
    have LL0 := Lib.hid l0
    clear hs0 l0
    refine C0.mono ?_
    rintro e x0 ⟨rfl, rd0, gr0⟩
    have M0 := Lib.hid (N6.out.call GNN.out HHG.out rd0 gr0)
    have cb0 := M0.out.gs.cells.cell 4
    have fz0 := M0.out.gs.cells.frozen 4
    have HC0 := M0.out.hc
    obtain ⟨p1, q10, q11, q12, q13, q14⟩ := HC0
    clear rd0 gr0 C0
    have N60 := Lib.hid (M0.out.store GNN.out HHB.out 4 (.int .i64 ((rCount 3 t2).1 : Int)))
    go_wp2_with fail
    obtain ⟨s1, hs1⟩ : ∃ s, s = (rUint s0).2 := ⟨_, rfl⟩
    have l1 : s1.1.length ≤ 1000000000 := by rw [hs1]; exact Nat.le_trans (rUint_left s0) LL0.out
    have C1 := get_uint (x0.setCell ⟨b, 4, none⟩ (.int .i64 ((rCount 3 t2).1 : Int))) base g s0 N60.out.gs.rd LL0.out
    rw [← hs1] at C1
    have HS1 := Lib.hid hs1
    have LL1 := Lib.hid l1
    clear hs1 l1
    refine C1.mono ?_
    rintro e x1 ⟨rfl, rd1, gr1⟩
    have M1 := Lib.hid (N60.out.call GNN.out HHG.out rd1 gr1)
    have cb1 := M1.out.gs.cells.cell 5
    have fz1 := M1.out.gs.cells.frozen 5
    have HC1 := M1.out.hc
    obtain ⟨p2, q20, q21, q22, q23, q24⟩ := HC1
    clear rd1 gr1 C1
    have N61 := Lib.hid (M1.out.store GNN.out HHB.out 5 (.int .u64 ((rUint s0).1 : Int)))
    go_wp2_with fail
    obtain ⟨s2, hs2⟩ : ∃ s, s = (rStamp s1).2 := ⟨_, rfl⟩
    have l2 : s2.1.length ≤ 1000000000 := by rw [hs2]; exact Nat.le_trans (left_stamp s1) LL1.out
    have C2 := wget_any (x1.setCell ⟨b, 5, none⟩ (.int .u64 ((rUint s0).1 : Int))) base g s1 N61.out.gs.rd (HLT2.out (x1.setCell ⟨b, 5, none⟩ (.int .u64 ((rUint s0).1 : Int))) (by have := N61.out.gs.ch.size; omega)) LL1.out
    rw [← hs2] at C2
    have HS2 := Lib.hid hs2
    have LL2 := Lib.hid l2
    clear hs2 l2
    refine C2.mono ?_
    rintro e x2 ⟨v2, rfl, ow2, rd2, gr2⟩
    obtain ⟨ax2, nx2, cx2, rfl⟩ : ∃ a n c, v2 = .slice a n c := by obtain ⟨a, c, e⟩ := ow2.shape; exact ⟨a, _, c, e⟩
    have M2 := Lib.hid (N61.out.call GNN.out HHG.out rd2 gr2)
    have cb2 := M2.out.gs.cells.cell 6
    have fz2 := M2.out.gs.cells.frozen 6
    have HC2 := M2.out.hc
    obtain ⟨p3, q30, q31, q32, q33, q34⟩ := HC2
    have LB2 : B0 ≤ (x1.setCell ⟨b, 5, none⟩ (.int .u64 ((rUint s0).1 : Int))).heap.size := N61.out.sz
    have SP2 := Lib.hid ((ow2.slP).mono (Q := From B0) fun j hj => Nat.le_trans LB2 hj)
    clear LB2 ow2
    clear rd2 gr2 C2
    have N62 := Lib.hid (M2.out.store GNN.out HHB.out 6 ((.slice ax2 nx2 cx2)))
    have WP : Hid (WanP (From B0) (x2.setCell ⟨b, 6, none⟩ ((.slice ax2 nx2 cx2))) ⟨k, (b1 : Int), [], [], ((rCount 3 t2).1 : Int), (rUint s0).1, (rStamp s1).1⟩ (.slice none 0 0) (.slice none 0 0) (.slice ax2 nx2 cx2)) := Lib.hid ⟨SlP.nil _ _ _ _, ItemsP.nil _ _ _ _, (SP2.out.keep (keep_from (grownBy_setCell x2 b 6 _) BB.out.1))⟩
    have RWW : Hid (rWan (l, false) = (⟨k, (b1 : Int), [], [], ((rCount 3 t2).1 : Int), (rUint s0).1, (rStamp s1).1⟩, s2)) := Lib.hid (by rw [RW.out, HS2.out, HS1.out, HS0.out]; rfl)
    have OKK : Hid (WanOk ⟨k, (b1 : Int), [], [], ((rCount 3 t2).1 : Int), (rUint s0).1, (rStamp s1).1⟩ ∧ WanLen ⟨k, (b1 : Int), [], [], ((rCount 3 t2).1 : Int), (rUint s0).1, (rStamp s1).1⟩) := Lib.hid (by have := rWan_rng (l, false); rw [RWW.out] at this; exact this)
    have NN : Hid (GS w4 b (b + 1) r g base (x2.setCell ⟨b, 6, none⟩ ((.slice ax2 nx2 cx2))) s2 (wanCells ⟨k, (b1 : Int), [], [], ((rCount 3 t2).1 : Int), (rUint s0).1, (rStamp s1).1⟩ (.slice none 0 0) (.slice none 0 0) (.slice ax2 nx2 cx2))) := Lib.hid N62.out.gs
    obtain ⟨y, hy⟩ : ∃ y, y = (⟨k, (b1 : Int), [], [], ((rCount 3 t2).1 : Int), (rUint s0).1, (rStamp s1).1⟩ : WanD) := ⟨_, rfl⟩
    rw [← hy] at WP RWW OKK NN
    have ONE := Lib.hid (wan_one WP.out)
    obtain ⟨E, hE⟩ : ∃ E, E = wanCells y (.slice none 0 0) (.slice none 0 0) (.slice ax2 nx2 cx2) := ⟨_, rfl⟩
    have EN : Hid (E.length = 7) := Lib.hid (by rw [hE]; rfl)
    have HE := Lib.hid hE
    rw [← hE] at NN ONE
    clear hE hy
    go_wp2_with (first | (refine wpList_loadE wanTy _ rfl rfl rfl NN.out.cells EN.out ?_) | (refine wpList_storeE wanTy _ _ rfl rfl rfl rfl NN.out.cells EN.out EN.out ONE.out ?_) | fail)
    intro W9 k9 ch9
    have N9 := NN.out.row GNN.out k9 ch9
    have e0 := N9.err.cell 0
    have z0 := N9.err.frozen 0
    obtain ⟨f1, f2, f3, f4, f5⟩ := N9.fin GNN.out NC.out.1 NC.out.2
    have W9P := (WP.out.keep (keep_from ch9.grownBy BB.out.1)).keep (keep_from (grownBy_setCell W9 (b + 1) 0 (.int .i64 0)) BB.out.2.1)
    have FF := Lib.hid (And.intro f1 (And.intro f2 (And.intro f3 (And.intro f4 (And.intro f5 W9P)))))
    clear f1 f2 f3 f4 f5 W9P N9 k9 ch9
    go_wp2
    refine leaves_cons (f := 28) (args := #[.pointer (some ⟨r, 0, none⟩), .pointer (some ⟨b, 0, none⟩), .pointer (some ⟨b + 1, 0, none⟩)]) (by simp) (by simp [go_sem]) ?_
    obtain ⟨f1, f2, f3, f4, f5, W9P⟩ := FF.out
    rw [HE.out] at f1
    refine (getD_any _ _ base B0 b (b + 1) r g s2 y (.slice none 0 0) (.slice none 0 0) (.slice ax2 nx2 cx2) f2 LL2.out f3 f1 f4 W9P OKK.out.1 OKK.out.2 GNN.out.bc BB.out.1 BB.out.2.1).mono ?_
    rintro e u' w9 ⟨rfl, ⟨v9, rfl⟩, z, n, vz, iz, fz, he2, kb, hp, kc, ch⟩
    have G9 : Gr w w9 := Below.trans GW4.out ((f5.trans (ch_mono ch fun k hk => .inr hk)).below GW4.out.size (fun k hk => by have h1 := HB.out; have h2 := HGB.out; rcases hk with rfl | rfl | rfl <;> omega))
    exact ⟨_, get_results _ _ b (b + 1) _ n rfl rfl kb rfl kc, getW_end RWW.out he2 BB.out.2.2.2.1 hp G9⟩
  · have HC := N6.out.hc
    obtain ⟨p0, q00, q01, q02, q03, q04⟩ := HC
    go_wp2_with fail
    obtain ⟨s0, hs0⟩ : ∃ s, s = (rCount 3 t2).2 := ⟨_, rfl⟩
    have l0 : s0.1.length ≤ 1000000000 := by rw [hs0]; exact Nat.le_trans (rCount_left 3 t2) LT2.out
    have C0 := get_count (w6) base g t2 3 (by decide) N6.out.gs.rd LT2.out
    rw [← hs0] at C0
    have HS0 := Lib.hid hs0
    have LL0 := Lib.hid l0
    clear hs0 l0
    refine C0.mono ?_
    rintro e x0 ⟨rfl, rd0, gr0⟩
    have M0 := Lib.hid (N6.out.call GNN.out HHG.out rd0 gr0)
    have cb0 := M0.out.gs.cells.cell 4
    have fz0 := M0.out.gs.cells.frozen 4
    have HC0 := M0.out.hc
    obtain ⟨p1, q10, q11, q12, q13, q14⟩ := HC0
    clear rd0 gr0 C0
    have N60 := Lib.hid (M0.out.store GNN.out HHB.out 4 (.int .i64 ((rCount 3 t2).1 : Int)))
    go_wp2_with fail
    obtain ⟨s1, hs1⟩ : ∃ s, s = (rUint s0).2 := ⟨_, rfl⟩
    have l1 : s1.1.length ≤ 1000000000 := by rw [hs1]; exact Nat.le_trans (rUint_left s0) LL0.out
    have C1 := get_uint (x0.setCell ⟨b, 4, none⟩ (.int .i64 ((rCount 3 t2).1 : Int))) base g s0 N60.out.gs.rd LL0.out
    rw [← hs1] at C1
    have HS1 := Lib.hid hs1
    have LL1 := Lib.hid l1
    clear hs1 l1
    refine C1.mono ?_
    rintro e x1 ⟨rfl, rd1, gr1⟩
    have M1 := Lib.hid (N60.out.call GNN.out HHG.out rd1 gr1)
    have cb1 := M1.out.gs.cells.cell 5
    have fz1 := M1.out.gs.cells.frozen 5
    have HC1 := M1.out.hc
    obtain ⟨p2, q20, q21, q22, q23, q24⟩ := HC1
    clear rd1 gr1 C1
    have N61 := Lib.hid (M1.out.store GNN.out HHB.out 5 (.int .u64 ((rUint s0).1 : Int)))
    have WP : Hid (WanP (From B0) (x1.setCell ⟨b, 5, none⟩ (.int .u64 ((rUint s0).1 : Int))) ⟨k, (b1 : Int), [], [], ((rCount 3 t2).1 : Int), (rUint s0).1, []⟩ (.slice none 0 0) (.slice none 0 0) (.slice none 0 0)) := Lib.hid ⟨SlP.nil _ _ _ _, ItemsP.nil _ _ _ _, SlP.nil _ _ _ _⟩
    have RWW : Hid (rWan (l, false) = (⟨k, (b1 : Int), [], [], ((rCount 3 t2).1 : Int), (rUint s0).1, []⟩, s1)) := Lib.hid (by rw [RW.out, HS1.out, HS0.out]; rfl)
    have OKK : Hid (WanOk ⟨k, (b1 : Int), [], [], ((rCount 3 t2).1 : Int), (rUint s0).1, []⟩ ∧ WanLen ⟨k, (b1 : Int), [], [], ((rCount 3 t2).1 : Int), (rUint s0).1, []⟩) := Lib.hid (by have := rWan_rng (l, false); rw [RWW.out] at this; exact this)
    have NN : Hid (GS w4 b (b + 1) r g base (x1.setCell ⟨b, 5, none⟩ (.int .u64 ((rUint s0).1 : Int))) s1 (wanCells ⟨k, (b1 : Int), [], [], ((rCount 3 t2).1 : Int), (rUint s0).1, []⟩ (.slice none 0 0) (.slice none 0 0) (.slice none 0 0))) := Lib.hid N61.out.gs
    obtain ⟨y, hy⟩ : ∃ y, y = (⟨k, (b1 : Int), [], [], ((rCount 3 t2).1 : Int), (rUint s0).1, []⟩ : WanD) := ⟨_, rfl⟩
    rw [← hy] at WP RWW OKK NN
    have ONE := Lib.hid (wan_one WP.out)
    obtain ⟨E, hE⟩ : ∃ E, E = wanCells y (.slice none 0 0) (.slice none 0 0) (.slice none 0 0) := ⟨_, rfl⟩
    have EN : Hid (E.length = 7) := Lib.hid (by rw [hE]; rfl)
    have HE := Lib.hid hE
    rw [← hE] at NN ONE
    clear hE hy
    go_wp2_with (first | (refine wpList_loadE wanTy _ rfl rfl rfl NN.out.cells EN.out ?_) | (refine wpList_storeE wanTy _ _ rfl rfl rfl rfl NN.out.cells EN.out EN.out ONE.out ?_) | fail)
    intro W9 k9 ch9
    have N9 := NN.out.row GNN.out k9 ch9
    have e0 := N9.err.cell 0
    have z0 := N9.err.frozen 0
    obtain ⟨f1, f2, f3, f4, f5⟩ := N9.fin GNN.out NC.out.1 NC.out.2
    have W9P := (WP.out.keep (keep_from ch9.grownBy BB.out.1)).keep (keep_from (grownBy_setCell W9 (b + 1) 0 (.int .i64 0)) BB.out.2.1)
    have FF := Lib.hid (And.intro f1 (And.intro f2 (And.intro f3 (And.intro f4 (And.intro f5 W9P)))))
    clear f1 f2 f3 f4 f5 W9P N9 k9 ch9
    go_wp2
    refine leaves_cons (f := 28) (args := #[.pointer (some ⟨r, 0, none⟩), .pointer (some ⟨b, 0, none⟩), .pointer (some ⟨b + 1, 0, none⟩)]) (by simp) (by simp [go_sem]) ?_
    obtain ⟨f1, f2, f3, f4, f5, W9P⟩ := FF.out
    rw [HE.out] at f1
    refine (getD_any _ _ base B0 b (b + 1) r g s1 y (.slice none 0 0) (.slice none 0 0) (.slice none 0 0) f2 LL1.out f3 f1 f4 W9P OKK.out.1 OKK.out.2 GNN.out.bc BB.out.1 BB.out.2.1).mono ?_
    rintro e u' w9 ⟨rfl, ⟨v9, rfl⟩, z, n, vz, iz, fz, he2, kb, hp, kc, ch⟩
    have G9 : Gr w w9 := Below.trans GW4.out ((f5.trans (ch_mono ch fun k hk => .inr hk)).below GW4.out.size (fun k hk => by have h1 := HB.out; have h2 := HGB.out; rcases hk with rfl | rfl | rfl <;> omega))
    exact ⟨_, get_results _ _ b (b + 1) _ n rfl rfl kb rfl kc, getW_end RWW.out he2 BB.out.2.2.2.1 hp G9⟩
  · have HC := N6.out.hc
    obtain ⟨p0, q00, q01, q02, q03, q04⟩ := HC
    go_wp2_with fail
    obtain ⟨s0, hs0⟩ : ∃ s, s = (rCount 3 t2).2 := ⟨_, rfl⟩
    have l0 : s0.1.length ≤ 1000000000 := by rw [hs0]; exact Nat.le_trans (rCount_left 3 t2) LT2.out
    have C0 := get_count (w6) base g t2 3 (by decide) N6.out.gs.rd LT2.out
    rw [← hs0] at C0
    have HS0 := Lib.hid hs0
    have LL0 := Lib.hid l0
    clear hs0 l0
    refine C0.mono ?_
    rintro e x0 ⟨rfl, rd0, gr0⟩
    have M0 := Lib.hid (N6.out.call GNN.out HHG.out rd0 gr0)
    have cb0 := M0.out.gs.cells.cell 4
    have fz0 := M0.out.gs.cells.frozen 4
    have HC0 := M0.out.hc
    obtain ⟨p1, q10, q11, q12, q13, q14⟩ := HC0
    clear rd0 gr0 C0
    have N60 := Lib.hid (M0.out.store GNN.out HHB.out 4 (.int .i64 ((rCount 3 t2).1 : Int)))
    have WP : Hid (WanP (From B0) (x0.setCell ⟨b, 4, none⟩ (.int .i64 ((rCount 3 t2).1 : Int))) ⟨k, (b1 : Int), [], [], ((rCount 3 t2).1 : Int), 0, []⟩ (.slice none 0 0) (.slice none 0 0) (.slice none 0 0)) := Lib.hid ⟨SlP.nil _ _ _ _, ItemsP.nil _ _ _ _, SlP.nil _ _ _ _⟩
    have RWW : Hid (rWan (l, false) = (⟨k, (b1 : Int), [], [], ((rCount 3 t2).1 : Int), 0, []⟩, s0)) := Lib.hid (by rw [RW.out, HS0.out]; rfl)
    have OKK : Hid (WanOk ⟨k, (b1 : Int), [], [], ((rCount 3 t2).1 : Int), 0, []⟩ ∧ WanLen ⟨k, (b1 : Int), [], [], ((rCount 3 t2).1 : Int), 0, []⟩) := Lib.hid (by have := rWan_rng (l, false); rw [RWW.out] at this; exact this)
    have NN : Hid (GS w4 b (b + 1) r g base (x0.setCell ⟨b, 4, none⟩ (.int .i64 ((rCount 3 t2).1 : Int))) s0 (wanCells ⟨k, (b1 : Int), [], [], ((rCount 3 t2).1 : Int), 0, []⟩ (.slice none 0 0) (.slice none 0 0) (.slice none 0 0))) := Lib.hid N60.out.gs
    obtain ⟨y, hy⟩ : ∃ y, y = (⟨k, (b1 : Int), [], [], ((rCount 3 t2).1 : Int), 0, []⟩ : WanD) := ⟨_, rfl⟩
    rw [← hy] at WP RWW OKK NN
    have ONE := Lib.hid (wan_one WP.out)
    obtain ⟨E, hE⟩ : ∃ E, E = wanCells y (.slice none 0 0) (.slice none 0 0) (.slice none 0 0) := ⟨_, rfl⟩
    have EN : Hid (E.length = 7) := Lib.hid (by rw [hE]; rfl)
    have HE := Lib.hid hE
    rw [← hE] at NN ONE
    clear hE hy
    go_wp2_with (first | (refine wpList_loadE wanTy _ rfl rfl rfl NN.out.cells EN.out ?_) | (refine wpList_storeE wanTy _ _ rfl rfl rfl rfl NN.out.cells EN.out EN.out ONE.out ?_) | fail)
    intro W9 k9 ch9
    have N9 := NN.out.row GNN.out k9 ch9
    have e0 := N9.err.cell 0
    have z0 := N9.err.frozen 0
    obtain ⟨f1, f2, f3, f4, f5⟩ := N9.fin GNN.out NC.out.1 NC.out.2
    have W9P := (WP.out.keep (keep_from ch9.grownBy BB.out.1)).keep (keep_from (grownBy_setCell W9 (b + 1) 0 (.int .i64 0)) BB.out.2.1)
    have FF := Lib.hid (And.intro f1 (And.intro f2 (And.intro f3 (And.intro f4 (And.intro f5 W9P)))))
    clear f1 f2 f3 f4 f5 W9P N9 k9 ch9
    go_wp2
    refine leaves_cons (f := 28) (args := #[.pointer (some ⟨r, 0, none⟩), .pointer (some ⟨b, 0, none⟩), .pointer (some ⟨b + 1, 0, none⟩)]) (by simp) (by simp [go_sem]) ?_
    obtain ⟨f1, f2, f3, f4, f5, W9P⟩ := FF.out
    rw [HE.out] at f1
    refine (getD_any _ _ base B0 b (b + 1) r g s0 y (.slice none 0 0) (.slice none 0 0) (.slice none 0 0) f2 LL0.out f3 f1 f4 W9P OKK.out.1 OKK.out.2 GNN.out.bc BB.out.1 BB.out.2.1).mono ?_
    rintro e u' w9 ⟨rfl, ⟨v9, rfl⟩, z, n, vz, iz, fz, he2, kb, hp, kc, ch⟩
    have G9 : Gr w w9 := Below.trans GW4.out ((f5.trans (ch_mono ch fun k hk => .inr hk)).below GW4.out.size (fun k hk => by have h1 := HB.out; have h2 := HGB.out; rcases hk with rfl | rfl | rfl <;> omega))
    exact ⟨_, get_results _ _ b (b + 1) _ n rfl rfl kb rfl kc, getW_end RWW.out he2 BB.out.2.2.2.1 hp G9⟩
  · have HC := N6.out.hc
    obtain ⟨p0, q00, q01, q02, q03, q04⟩ := HC
    have WP : Hid (WanP (From B0) (w6) ⟨k, (b1 : Int), [], [], 0, 0, []⟩ (.slice none 0 0) (.slice none 0 0) (.slice none 0 0)) := Lib.hid ⟨SlP.nil _ _ _ _, ItemsP.nil _ _ _ _, SlP.nil _ _ _ _⟩
    have RWW : Hid (rWan (l, false) = (⟨k, (b1 : Int), [], [], 0, 0, []⟩, t2)) := Lib.hid (by rw [RW.out]; rfl)
    have OKK : Hid (WanOk ⟨k, (b1 : Int), [], [], 0, 0, []⟩ ∧ WanLen ⟨k, (b1 : Int), [], [], 0, 0, []⟩) := Lib.hid (by have := rWan_rng (l, false); rw [RWW.out] at this; exact this)
    have NN : Hid (GS w4 b (b + 1) r g base (w6) t2 (wanCells ⟨k, (b1 : Int), [], [], 0, 0, []⟩ (.slice none 0 0) (.slice none 0 0) (.slice none 0 0))) := Lib.hid N6.out.gs
    obtain ⟨y, hy⟩ : ∃ y, y = (⟨k, (b1 : Int), [], [], 0, 0, []⟩ : WanD) := ⟨_, rfl⟩
    rw [← hy] at WP RWW OKK NN
    have ONE := Lib.hid (wan_one WP.out)
    obtain ⟨E, hE⟩ : ∃ E, E = wanCells y (.slice none 0 0) (.slice none 0 0) (.slice none 0 0) := ⟨_, rfl⟩
    have EN : Hid (E.length = 7) := Lib.hid (by rw [hE]; rfl)
    have HE := Lib.hid hE
    rw [← hE] at NN ONE
    clear hE hy
    go_wp2_with (first | (refine wpList_loadE wanTy _ rfl rfl rfl NN.out.cells EN.out ?_) | (refine wpList_storeE wanTy _ _ rfl rfl rfl rfl NN.out.cells EN.out EN.out ONE.out ?_) | fail)
    intro W9 k9 ch9
    have N9 := NN.out.row GNN.out k9 ch9
    have e0 := N9.err.cell 0
    have z0 := N9.err.frozen 0
    obtain ⟨f1, f2, f3, f4, f5⟩ := N9.fin GNN.out NC.out.1 NC.out.2
    have W9P := (WP.out.keep (keep_from ch9.grownBy BB.out.1)).keep (keep_from (grownBy_setCell W9 (b + 1) 0 (.int .i64 0)) BB.out.2.1)
    have FF := Lib.hid (And.intro f1 (And.intro f2 (And.intro f3 (And.intro f4 (And.intro f5 W9P)))))
    clear f1 f2 f3 f4 f5 W9P N9 k9 ch9
    go_wp2
    refine leaves_cons (f := 28) (args := #[.pointer (some ⟨r, 0, none⟩), .pointer (some ⟨b, 0, none⟩), .pointer (some ⟨b + 1, 0, none⟩)]) (by simp) (by simp [go_sem]) ?_
    obtain ⟨f1, f2, f3, f4, f5, W9P⟩ := FF.out
    rw [HE.out] at f1
    refine (getD_any _ _ base B0 b (b + 1) r g t2 y (.slice none 0 0) (.slice none 0 0) (.slice none 0 0) f2 LT2.out f3 f1 f4 W9P OKK.out.1 OKK.out.2 GNN.out.bc BB.out.1 BB.out.2.1).mono ?_
    rintro e u' w9 ⟨rfl, ⟨v9, rfl⟩, z, n, vz, iz, fz, he2, kb, hp, kc, ch⟩
    have G9 : Gr w w9 := Below.trans GW4.out ((f5.trans (ch_mono ch fun k hk => .inr hk)).below GW4.out.size (fun k hk => by have h1 := HB.out; have h2 := HGB.out; rcases hk with rfl | rfl | rfl <;> omega))
    exact ⟨_, get_results _ _ b (b + 1) _ n rfl rfl kb rfl kc, getW_end RWW.out he2 BB.out.2.2.2.1 hp G9⟩
end Go.Proofs.Ytgilijkmmcpfjaa
end
