/-
  Package wan: get; rows of items that the call made.
-/
import Derived.Test.YtgilijkmmcpfjaaZWanPut
import Derived.Test.YtgilijkmmcpfjaaZEnGetJ
set_option linter.unusedVariables false
set_option linter.unusedSimpArgs false
set_option maxRecDepth 100000
namespace Go.Proofs.Ytgilijkmmcpfjaa
open Go.RowKit
set_option maxHeartbeats 1000000 in
theorem wget_any (w : World) (base : Nat → Prop) (g : Nat) (s : RS) (hr : Rs w base g s) (hb : ∀ k, base k → k < w.heap.size) (hl : s.1.length ≤ 1000000000) :
    Calls Try.prog 33 #[.pointer (some ⟨g, 0, none⟩)] w (GotN w base g (rStamp s).1 (rStamp s).2) := by
  obtain ⟨n, hn⟩ : ∃ n, n = (rCount 3 s).1 := ⟨_, rfl⟩
  obtain ⟨s1, hs1⟩ : ∃ s1, s1 = (rCount 3 s).2 := ⟨_, rfl⟩
  have e1 : rStamp s = rMany rUint n s1 := by rw [hn, hs1]; rfl
  have hn3 : n ≤ 3 := by rw [hn]; exact rCount_most 3 s
  have l1 : s1.1.length ≤ 1000000000 := by rw [hs1]; exact Nat.le_trans (rCount_left 3 s) hl
  have CO := get_count w base g s 3 (by decide) hr hl
  rw [← hn, ← hs1] at CO
  rw [e1]
  have hgl := hr.lt
  have CC := Lib.hid CO
  clear CO hn hs1 e1
  go_enter Try.func33, Try.ntmps33
  go_wp2_with fail
  refine CC.out.mono ?_
  rintro e w1 ⟨rfl, hr1, hg1⟩
  go_wp2
  go_loopw [3, 6] (fun v i wr => ∃ k : Nat, k ≤ n ∧ i = .int .i64 k ∧ Own wr w.heap.size 24 v (nums (rMany rUint k s1).1) ∧ Rs wr base g (rMany rUint k s1).2 ∧ w.grownBy wr (some g)) (fun _ i _ => n - (intOf i).toNat)
  case atStart => exact ⟨0, Nat.zero_le _, rfl, Own.nil0 _ _ _, hr1, hg1⟩
  case round =>
    clear hr1 hg1
    obtain ⟨k, hk, rfl, ho, hr2, hg2⟩ := hrel
    obtain ⟨wo, rfl⟩ : ∃ wo : World, wo = wr := ⟨_, rfl⟩
    by_cases hlt : k < n
    · have l2 := Nat.le_trans (left_many rUint_left k s1) l1
      have en : rMany rUint (k + 1) s1 = ((rMany rUint k s1).1 ++ [(rUint (rMany rUint k s1).2).1], (rUint (rMany rUint k s1).2).2) := rfl
      have hlen : (rMany rUint k s1).1.length = k := rMany_length _ _ _
      have EN := Lib.hid en
      have U := rUint_lt (rMany rUint k s1).2
      obtain ⟨ls, hls⟩ : ∃ ls, ls = (rMany rUint k s1).1 := ⟨_, rfl⟩
      obtain ⟨sk, hsk⟩ : ∃ sk, sk = (rMany rUint k s1).2 := ⟨_, rfl⟩
      rw [← hls, ← hsk] at EN
      rw [← hls] at ho hlen
      rw [← hsk] at hr2 l2 U
      have HLEN := Lib.hid hlen
      clear en hls hsk hlen
      obtain ⟨x, hx⟩ : ∃ x, x = (rUint sk).1 := ⟨_, rfl⟩
      have GU := get_uint wo base g sk hr2 l2
      rw [← hx] at GU EN U
      have GU2 := Lib.hid GU
      clear GU hx
      have i1 : (0 : Int) ≤ (k : Int) := by omega
      have i2 : (k : Int) < (n : Int) := by omega
      go_wp2_with fail
      refine GU2.out.mono ?_
      rintro e w3 ⟨rfl, hr3, hg3⟩
      have o3 := ho.ch (Ch.of_grownBy (ρ := fun j => j = g) hg3 (fun k hk => by cases hk; rfl)) (fun j hj => by have := (ho.lt j hj).1; omega)
      have hsz : w.heap.size ≤ w3.heap.size := (grownBy_trans hg2 hg3).size
      obtain ⟨v4, w4, hrun, p1, p2⟩ := run_append_n (w3.alloc (.cells #[.int .u64 (x : Int)] 24)) w.heap.size u3 (.slice (some ⟨w3.heap.size, 0, none⟩) 1 1) ls [x] (World.ownsRow.alloc o3 _) (Sl.new w3 [_] _ _ _ _ rfl (by decide)) (by rw [HLEN.out]; simp; omega) (by simp; omega)
      have r4 := rs_newO (Rs.gr hr3 ((Gr.refl w3).alloc _)) p2 (fun j hj hq => by have := (o3.lt j hj).1; have := hb j hq; omega)
      have g4 : w.grownBy w4 (some g) := grown_newO (grownBy_trans (grownBy_trans hg2 hg3) (gr_grown ((Gr.refl w3).alloc _) g)) p2 (fun j hj => (o3.lt j hj).1)
      have P1 : Hid (Own w4 w.heap.size 24 v4 (nums (rMany rUint (k + 1) s1).1)) := Lib.hid (by rw [EN.out]; exact p1)
      have R4 : Hid (Rs w4 base g (rMany rUint (k + 1) s1).2) := Lib.hid (by rw [EN.out]; exact r4)
      have G4 := Lib.hid g4
      have HRUN := Lib.hid hrun
      clear hrun p1 p2 r4 g4 o3 ho hr2 hr3 hg2 hg3
      go_wp2_with (at_builtin; refine wpList_run_append HRUN.out rfl _ _ rfl rfl rfl ?_; clear HRUN)
      go_roundw
      case rel => exact ⟨k + 1, by omega, by go_num, P1.out, R4.out, G4.out⟩
      case measure => simp [intOf]; omega
    · obtain rfl : k = n := by omega
      go_wp2
      go_ret
      exact ⟨_, rfl, ho, hr2, hg2⟩
/-- Rows that the call made (block from B on), whose parts lie in other blocks from B on. -/
def ItemsR (w : World) (B : Nat) (v : Value) (es : List ItemD) : Prop :=
  ∃ rs, OwnR w B 46 7 v rs ∧ rs.length = es.length ∧ ∀ i (h : i < es.length), ∃ sv ev, rs[i]? = some (itemCells es[i] sv ev) ∧ ItemP (fun j => B ≤ j ∧ v.ownBlock ≠ some j) w es[i] sv ev
theorem ItemsR.nil (w : World) (B : Nat) : ItemsR w B (.slice none 0 0) [] := ⟨[], OwnR.nil _ _ _ _, rfl, fun i hi => absurd hi (Nat.not_lt_zero _)⟩
theorem ItemsR.shape {w : World} {B : Nat} {v : Value} {es : List ItemD} (h : ItemsR w B v es) : ∃ a cap, v = .slice a es.length cap := by
  obtain ⟨rs, h1, h2, _⟩ := h; rw [← h2]; exact h1.shape
theorem ItemsR.lt {w : World} {B : Nat} {v : Value} {es : List ItemD} (h : ItemsR w B v es) : ∀ j, v.ownBlock = some j → B ≤ j ∧ j < w.heap.size := by
  obtain ⟨rs, h1, _⟩ := h; exact h1.lt
theorem ItemsR.keep {w w' : World} {B : Nat} {v : Value} {es : List ItemD} (h : ItemsR w B v es) (k : Keep (From B) w w') : ItemsR w' B v es := by
  obtain ⟨rs, h1, h2, h3⟩ := h
  refine ⟨rs, h1.block fun j hj => k.block j (h1.lt j hj).1 (h1.lt j hj).2, h2, fun i hi => ?_⟩
  obtain ⟨sv, ev, q1, q2⟩ := h3 i hi
  exact ⟨sv, ev, q1, q2.keep ⟨k.size, fun b hb hlt => k.block b hb.1 hlt⟩⟩
theorem ItemsR.items {w : World} {B : Nat} {v : Value} {es : List ItemD} (h : ItemsR w B v es) : ItemsP (From B) w v es := by
  obtain ⟨rs, h1, h2, h3⟩ := h
  refine ⟨_, ⟨by rw [← h2]; exact h1.rows, .inr fun k hk => (h1.lt k hk).1⟩, fun i hi => ?_⟩
  obtain ⟨sv, ev, q1, q2⟩ := h3 i hi
  refine ⟨sv, ev, q2.mono fun k hk => hk.1, fun j u hu => ?_⟩
  have e : rs.getD i [] = itemCells es[i] sv ev := by rw [List.getD_eq_getElem?_getD, q1]; rfl
  rw [e, List.getD_eq_getElem?_getD, hu]; rfl
theorem itemCells_len (x : ItemD) (sv ev : Value) : (itemCells x sv ev).length = 7 := rfl
theorem ItemsR.snoc {w w' : World} {B : Nat} {v v' : Value} {es : List ItemD} {x : ItemD} {sv ev : Value} {rs : List (List Value)} (h1 : OwnR w B 46 7 v rs) (h2 : rs.length = es.length)
    (h3 : ∀ i (h : i < es.length), ∃ sv ev, rs[i]? = some (itemCells es[i] sv ev) ∧ ItemP (fun j => B ≤ j ∧ v.ownBlock ≠ some j) w es[i] sv ev)
    (hx : ItemP (fun j => B ≤ j ∧ v.ownBlock ≠ some j) w x sv ev) (ho : OwnR w' B 46 7 v' (rs ++ [itemCells x sv ev])) (hg : w.grownBy w' v.ownBlock) (hv : v'.ownBlock = v.ownBlock ∨ ∃ j, v'.ownBlock = some j ∧ w.heap.size ≤ j) :
    ItemsR w' B v' (es ++ [x]) := by
  have up : ∀ (y : ItemD) (sv ev : Value), ItemP (fun j => B ≤ j ∧ v.ownBlock ≠ some j) w y sv ev → ItemP (fun j => B ≤ j ∧ v'.ownBlock ≠ some j) w' y sv ev := fun y sv ev h => by
    have hk : Keep (fun j => B ≤ j ∧ v.ownBlock ≠ some j) w w' := ⟨hg.size, fun b hb hlt => hg.block b hlt (fun e => hb.2 e.symm)⟩
    have h4 : ItemP (fun j => (B ≤ j ∧ v.ownBlock ≠ some j) ∧ j < w.heap.size) w y sv ev := h.monoLt fun k hk hlt => ⟨hk, hlt⟩
    refine (h4.keep ⟨hg.size, fun b hb hlt => hk.block b hb.1 hlt⟩).mono fun k hk => ⟨hk.1.1, ?_⟩
    rcases hv with e | ⟨j, e, hj⟩
    · rw [e]; exact hk.1.2
    · rw [e]; intro e2; injection e2 with e2; have := hk.2; omega
  refine ⟨_, ho, by simp [h2], fun i hi => ?_⟩
  rw [List.length_append, List.length_singleton] at hi
  by_cases hlt : i < es.length
  · obtain ⟨su, eu, q1, q2⟩ := h3 i hlt
    refine ⟨su, eu, ?_, ?_⟩
    · rw [List.getElem?_append_left (by omega), q1, List.getElem_append_left hlt]
    · rw [List.getElem_append_left hlt]; exact up _ _ _ q2
  · obtain rfl : i = es.length := by omega
    refine ⟨sv, ev, ?_, ?_⟩
    · rw [List.getElem?_append_right (by omega), h2]; simp
    · simpa using up _ _ _ hx
theorem info_item : (Try.prog.info? 46).map (fun i => (i.zero, i.size, i.bytes)) = some (some (.agg #[.int .i64 0, .int .u64 0, .int .i64 0, .int .u64 0, .slice none 0 0, .slice none 0 0, .int .u32 0]), 7, 88) := by kernel_rfl
/-- append(s, x): an item that lies in a block of its own. -/
theorem run_append_item (w : World) (B : Nat) (v : Value) (es : List ItemD) (x : ItemD) (sv ev : Value) (b : Nat) (h : ItemsR w B v es) (hx : ItemP (fun j => B ≤ j ∧ v.ownBlock ≠ some j) w x sv ev)
    (hb : CellsAt w b (itemCells x sv ev) 46) (hl : es.length ≤ 1000000) (hB : B ≤ w.heap.size) :
    ∃ v' w', (Builtin.append_ #[23, 23] 23 #[v, .slice (some ⟨b, 0, none⟩) 1 1]).run Try.prog w = .ok v' w' ∧ ItemsR w' B v' (es ++ [x]) ∧ w.grownBy w' v.ownBlock := by
  obtain ⟨i0, hi0, hz0, hz1, hz2⟩ := info_parts info_item
  obtain ⟨rs, h1, h2, h3⟩ := h
  obtain ⟨v', w', hr, p1, p2, p3, _⟩ := run_append_rows (P := Try.prog) w B 23 23 46 i0 _ 7 88 Try.underlying23 hi0 hz0 hz1 hz2 (by rfl) v (.slice (some ⟨b, 0, none⟩) 1 1) rs [itemCells x sv ev] h1 _
    (row_one w b _ _ hb 7 rfl)
    (by
      intro i hi
      obtain rfl : i = 0 := by simp at hi; omega
      refine ⟨rfl, fun j hj => ?_⟩
      simp only [List.getElem_cons_zero, List.getD_eq_getElem?_getD]
      rw [List.getElem?_eq_getElem (by simpa using hj)]; rfl)
    (by
      intro r hr u hu
      obtain rfl : r = itemCells x sv ev := by simpa using hr
      have hone := sl_one hx.1
      have hone2 : ev.oneCell' = true := by obtain ⟨a, c, e⟩ := hx.2.shape; rw [e]; rfl
      simp only [itemCells, List.mem_cons, List.not_mem_nil, or_false] at hu
      rcases hu with rfl | rfl | rfl | rfl | rfl | rfl | rfl <;> first | rfl | exact hone | exact hone2)
    (by unfold maxLen; simp; omega) (by simp; omega) hB
  exact ⟨v', w', hr, ItemsR.snoc h1 h2 h3 hx p1 p2 p3, p2⟩
end Go.Proofs.Ytgilijkmmcpfjaa
