/-
  Package entry: read.
-/
import Derived.Test.YtiemgmbjhllmbaaYEnRow
set_option linter.unusedVariables false
set_option maxRecDepth 100000
namespace Go.Proofs.Ytiemgmbjhllmbaa
open Go.RowKit
theorem KindMap.lo {lo lo' : Nat} {w : World} {g : Nat} (h : KindMap lo w g) (hl : lo' ≤ lo) : KindMap lo' w g := by
  obtain ⟨G, h1, h2⟩ := h
  exact ⟨G, h1, fun n hn => ⟨fun hk => by obtain ⟨b, q0, q1, q2⟩ := (h2 n hn).1 hk; exact ⟨b, Nat.le_trans hl q0, q1, q2⟩, (h2 n hn).2⟩⟩
theorem opG_look2 {W : World} {ops : Array Oper} {o : Oper} {a : Act} {t : TypeId} {b : Nat} {key c : Value} {V : Value → World → Prop} (hr : (Instr.lookup t (.map (some b)) key true).run Try.prog W = .ok c W) (hg : Region.wanted o (yielded ops a.tmps) = true) (m x : Operand) (hop : o.op = Op.lookup t m x true)
    (hm : a.eval m = .map (some b)) (hx : a.eval x = key) (hV : V c W) : opG Try.prog ops o a W V := by
  unfold opG
  rw [if_pos hg]
  simp [execOp, hop, hm, hx, hr, Result.andThen]
  exact ⟨Gr.refl _, hV⟩
abbrev Mid (w w1 : World) : Nat → Prop := fun k => w.heap.size ≤ k ∧ k < w1.heap.size
def RetReader2 (w : World) (l : List UInt8) (en : Ending) (w' : World) : Prop := ∃ g, en = .returned (.pointer (some ⟨g, 0, none⟩)) ∧ Rs w' (Mid w w') g (l, false) ∧ Below w.heap.size w w'
set_option maxHeartbeats 400000 in
theorem new2_any (v : Value) (l : List UInt8) (w : World) (hs : Sl w v (bytes l)) (hl : l.length ≤ 1000000000) :
    Calls Try.prog 58 #[v] w (RetReader2 w l) := by
  go_enter Try.func58, Try.ntmps58
  go_wp2_with fail
  refine (clone_any _ l _ hs (by omega)).mono ?_
  rintro e w1 ⟨v1, rfl, hown1, hb1⟩
  obtain ⟨a1, c1, rfl⟩ := hown1.shape
  go_wp2
  go_ret
  have hs1 := hown1.sl.below ((Below.refl _ _).alloc (Nat.le_refl _) (.cells #[.slice a1 (bytes l).length c1, .bool false] 115))
  refine ⟨w1.heap.size, rfl, ⟨⟨hb1.size, by simp⟩, _, heap_alloc_new w1 _, hs1, ?_, fun k hk => ⟨hown1.ownBlock_ge k hk, ?_⟩⟩, hb1.alloc hb1.size _⟩
  · intro h
    have := (World.ownsRow.lt hown1 _ h).2
    omega
  · have := (World.ownsRow.lt hown1 _ hk).2
    simp
    omega
def stE (a b : List Value) : Nat → List Value
  | 0 => a
  | _ => b
theorem left_site : Left rSite := fun s => by rw [rSite_2]; exact left_place 3 s
theorem left_via {α β : Type} {f : RS → α × RS} (c : α → β) {r : RS → β × RS} (h : ∀ s, r s = (c (f s).1, (f s).2)) (hf : Left f) : Left r := fun s => by rw [h s]; exact hf s
theorem left_item : Left rItem := left_via tupI rItem_seq (left_seq left_site (left_seq rUint_left (left_seq (left_region (-1)) (left_seq rUint_left (left_seq left_stamp (left_seq (left_list left_eff 16) left_small))))))
theorem left_val : (p : PartK) → Left (rVal p)
  | .client => left_via (f := rSeq rSmall rSmall) (fun x => .client x.1 x.2) (fun _ => rfl) (left_seq left_small left_small)
  | .owner => left_via (f := rSess) (fun x => .owner x.1 x.2) (fun _ => rfl) left_sess
  | .op => left_via (f := rOp) .op (fun _ => rfl) left_op
  | .item => left_via (f := rItem) .item (fun _ => rfl) left_item
  | .site => left_via (f := rPlace 3) (fun n => .site (n : Int)) (fun _ => rfl) (left_place 3)
  | .wher => left_via (f := rRegion 0) .wher (fun _ => rfl) (left_region 0)
  | .epoch => left_via (f := rUint) .epoch (fun _ => rfl) rUint_left
  | .stamp => left_via (f := rStamp) .stamp (fun _ => rfl) left_stamp
/-- What is read behind k parts. -/
def rAt (l : List UInt8) (ps : List PartK) (k : Nat) : EntD × RS := (ps.take k).foldl rPart (rKind l)
theorem rAt_succ (l : List UInt8) (ps : List PartK) (k : Nat) (hk : k < ps.length) : rAt l ps (k + 1) = (putVal (rAt l ps k).1 (rVal ps[k] (rAt l ps k).2).1, (rVal ps[k] (rAt l ps k).2).2) := by
  unfold rAt
  rw [List.take_add_one, List.getElem?_eq_getElem hk, List.foldl_append]
  rfl
theorem rAt_all (l : List UInt8) (ps : List PartK) : rAt l ps ps.length = ps.foldl rPart (rKind l) := by unfold rAt; rw [List.take_of_length_le (Nat.le_refl _)]
theorem rAt_left (l : List UInt8) (ps : List PartK) (k : Nat) : (rAt l ps k).2.1.length ≤ l.length := by
  unfold rAt
  have : ∀ (qs : List PartK) (y : EntD × RS), (qs.foldl rPart y).2.1.length ≤ y.2.1.length := by
    intro qs
    induction qs with
    | nil => intro y; exact Nat.le_refl _
    | cons p qs ih => intro y; rw [List.foldl_cons]; exact Nat.le_trans (ih _) (left_val p y.2)
  exact Nat.le_trans (this _ _) (rByte_left (l, false))
/-- What read hands back. -/
def RetRead (w : World) (l : List UInt8) (e : Ending) (w' : World) : Prop := ∃ q pv, e = .returned (.tuple #[.agg (entCells (rEnt l).1 q).toArray, pv, .bool (entOk l)]) ∧ EntP (From w.heap.size) w' (rEnt l).1 q ∧ Gr w w'
theorem rKind_eq (l : List UInt8) (n : Nat) (h : n = (rByte (l, false)).1) : rKind l = ({ zeroX with kind := n }, (rByte (l, false)).2) := by rw [h]; rfl
theorem rEnt_eq (l : List UInt8) (n : Nat) (h : n = (rByte (l, false)).1) : rEnt l = (kindP n).foldl rPart (rKind l) := by rw [h]; rfl
theorem entOk_eq (l : List UInt8) (n : Nat) (h : n = (rByte (l, false)).1) : entOk l = (kindK n && rDone (rEnt l).2 == 0) := by rw [h]; rfl
theorem retRead_key (w : World) (l : List UInt8) (x : EntD) (hx : x = (rEnt l).1) (q : EntV) (pv : Value) (d : Bool) (w' : World) (h1 : d = entOk l) (h2 : EntP (From w.heap.size) w' x q) (h3 : Gr w w') : RetRead w l (.returned (.tuple #[.agg (entCells x q).toArray, pv, .bool d])) w' := by
  subst hx
  exact ⟨q, pv, by rw [h1], h2, h3⟩
theorem kindP_len (n : Nat) : (kindP n).length ≤ 4 := by unfold kindP; split <;> decide
set_option maxHeartbeats 4000000 in
theorem read_any (w : World) (v : Value) (l : List UInt8) (hs : Sl w v (bytes l)) (hl : l.length ≤ 1000000000) :
    Calls Try.prog 12 #[v] w (RetRead w l) := by
  obtain ⟨a, cap, rfl⟩ := hs.oneCells
  obtain ⟨w1, hbox⟩ : ∃ w1, w1 = w.alloc (.cells #[.int .u8 0, .int .u32 0, .int .u32 0, .int .i64 0, .int .u32 0, .int .u8 0, .string ⟨#[]⟩, .slice none 0 0, .int .i64 0, .bool false, .bool false, .slice none 0 0, .int .i64 0, .int .u64 0, .int .i64 0, .int .u64 0, .slice none 0 0, .slice none 0 0, .int .u32 0, .int .i64 0, .int .i64 0, .int .u64 0, .slice none 0 0] 39) := ⟨_, rfl⟩
  have g1 : Gr w w1 := by rw [hbox]; exact (Gr.refl w).alloc _
  have k1 : CellsAt w1 w.heap.size [.int .u8 0, .int .u32 0, .int .u32 0, .int .i64 0, .int .u32 0, .int .u8 0, .string ⟨#[]⟩, .slice none 0 0, .int .i64 0, .bool false, .bool false, .slice none 0 0, .int .i64 0, .int .u64 0, .int .i64 0, .int .u64 0, .slice none 0 0, .slice none 0 0, .int .u32 0, .int .i64 0, .int .i64 0, .int .u64 0, .slice none 0 0] 39 := by rw [hbox]; exact CellsAt.new _ _ _
  have T : Hid (∀ W, Gr w1 W → W.cell? ⟨w.heap.size, 0, none⟩ = some (.int .u8 0) ∧ W.cell? ⟨w.heap.size, 1, none⟩ = some (.int .u32 0) ∧ W.cell? ⟨w.heap.size, 2, none⟩ = some (.int .u32 0) ∧ W.cell? ⟨w.heap.size, 3, none⟩ = some (.int .i64 0) ∧ W.cell? ⟨w.heap.size, 4, none⟩ = some (.int .u32 0) ∧ W.cell? ⟨w.heap.size, 5, none⟩ = some (.int .u8 0) ∧ W.cell? ⟨w.heap.size, 6, none⟩ = some (.string ⟨#[]⟩) ∧ W.cell? ⟨w.heap.size, 7, none⟩ = some (.slice none 0 0) ∧ W.cell? ⟨w.heap.size, 8, none⟩ = some (.int .i64 0) ∧ W.cell? ⟨w.heap.size, 9, none⟩ = some (.bool false) ∧ W.cell? ⟨w.heap.size, 10, none⟩ = some (.bool false) ∧ W.cell? ⟨w.heap.size, 11, none⟩ = some (.slice none 0 0) ∧ W.cell? ⟨w.heap.size, 12, none⟩ = some (.int .i64 0) ∧ W.cell? ⟨w.heap.size, 13, none⟩ = some (.int .u64 0) ∧ W.cell? ⟨w.heap.size, 14, none⟩ = some (.int .i64 0) ∧ W.cell? ⟨w.heap.size, 15, none⟩ = some (.int .u64 0) ∧ W.cell? ⟨w.heap.size, 16, none⟩ = some (.slice none 0 0) ∧ W.cell? ⟨w.heap.size, 17, none⟩ = some (.slice none 0 0) ∧ W.cell? ⟨w.heap.size, 18, none⟩ = some (.int .u32 0) ∧ W.cell? ⟨w.heap.size, 19, none⟩ = some (.int .i64 0) ∧ W.cell? ⟨w.heap.size, 20, none⟩ = some (.int .i64 0) ∧ W.cell? ⟨w.heap.size, 21, none⟩ = some (.int .u64 0) ∧ W.cell? ⟨w.heap.size, 22, none⟩ = some (.slice none 0 0)) := Lib.hid fun W hW => ⟨(k1.gr hW).cell 0, (k1.gr hW).cell 1, (k1.gr hW).cell 2, (k1.gr hW).cell 3, (k1.gr hW).cell 4, (k1.gr hW).cell 5, (k1.gr hW).cell 6, (k1.gr hW).cell 7, (k1.gr hW).cell 8, (k1.gr hW).cell 9, (k1.gr hW).cell 10, (k1.gr hW).cell 11, (k1.gr hW).cell 12, (k1.gr hW).cell 13, (k1.gr hW).cell 14, (k1.gr hW).cell 15, (k1.gr hW).cell 16, (k1.gr hW).cell 17, (k1.gr hW).cell 18, (k1.gr hW).cell 19, (k1.gr hW).cell 20, (k1.gr hW).cell 21, (k1.gr hW).cell 22⟩
  have HW := Lib.hid hbox
  clear hbox
  have s1 := hs.below g1
  have G1 := Lib.hid g1
  have Z1 : Hid (w1.heap.size = w.heap.size + 1) := Lib.hid (by rw [HW.out]; simp)
  have K1 := Lib.hid k1
  clear g1 k1 hs
  go_enter Try.func12, Try.ntmps12
  go_wp2_with fail
  rw [← HW.out]
  refine (new2_any _ l _ s1 hl).mono ?_
  rintro e w2 ⟨g, rfl, hr2, b2⟩
  obtain ⟨hg1, hg2⟩ : w1.heap.size ≤ g ∧ g < w2.heap.size := hr2.1
  clear s1
  go_wp2_with fail
  refine (get_byte _ (Mid w1 w2) g (l, false) hr2 hl).mono ?_
  rintro e w3 ⟨rfl, hr3, k3⟩
  have b3 : Gr w1 w3 := Below.trans b2 (grownBy_below k3 b2.size (fun k hk => by cases hk; exact hg1))
  have z3 := k3.size
  obtain ⟨n, hn⟩ : ∃ n, n = (rByte (l, false)).1 := ⟨_, rfl⟩
  have hn256 : n < 256 := by rw [hn]; exact rByte_lt _
  have eK := rKind_eq l n hn
  have eE := rEnt_eq l n hn
  have eO := entOk_eq l n hn
  rw [← hn]
  have EK := Lib.hid eK
  have EE := Lib.hid eE
  have EO := Lib.hid eO
  obtain ⟨ps, hps⟩ : ∃ ps, ps = kindP n := ⟨_, rfl⟩
  obtain ⟨kk, hkk⟩ : ∃ kk, kk = kindK n := ⟨_, rfl⟩
  have LOOK : Hid (∀ lo W m, KindMap lo W m → ∃ lv, (Instr.lookup 50 (.map (some m)) (.int .u8 (n : Int)) true).run Try.prog W = .ok (.tuple #[lv, .bool kk]) W ∧ PartsFr lo W lv ps) := Lib.hid fun lo W m h => by rw [hps, hkk]; exact h.look n hn256
  have HPS := Lib.hid hps
  have HKK := Lib.hid hkk
  clear hn eK eE eO hps hkk hr2 k3
  go_wp2_with (first | (refine wpList_buildTo rfl 39 _ rfl (some 15) rfl _ (built_ent (n : Int)) ?_) | (refine wpList_storeE entTy _ _ rfl rfl rfl rfl (CellsAt.new _ _ _) rfl rfl rfl ?_) | fail)
  intro w4 k4 ch4
  have g4 : Gr w3 w4 := Below.trans ((Gr.refl w3).alloc _) (ch4.below ((Gr.refl w3).alloc _).size (fun k hk => by have : k = w3.heap.size := hk; omega))
  have Z4 : Hid (w3.heap.size + 1 ≤ w4.heap.size) := Lib.hid k4.lt
  have T4 : Hid (∀ W, Gr w4 W → W.cell? ⟨w3.heap.size, 0, none⟩ = some (.int .u8 (n : Int))) := Lib.hid fun W hW => (k4.gr hW).cell 0
  have K4 := Lib.hid k4
  have hr4 := Rs.gr hr3 g4
  have B4 := Lib.hid (Gr.trans b3 g4)
  have GD : Hid (Gr w4 w4.drew) := Lib.hid ((Gr.refl w4).drew)
  clear k4 g4 ch4 hr3 b3
  go_wp2_with fail
  apply wp_region_draw_grow (.ok (fun v W => ∃ m, v = .map (some m) ∧ KindMap w4.heap.size W m) :: .eq _ :: .eq _ :: .ok (fun v W => ∃ lv, v = .tuple #[lv, .bool kk] ∧ PartsFr w4.heap.size W lv ps) :: .ok (fun v W => ∃ lv, v = .tuple #[lv, .bool kk] ∧ PartsFr w4.heap.size W lv ps) :: .ok (fun v W => PartsFr w4.heap.size W v ps) :: .ok (fun v W => v = .bool kk) :: .ok (fun v W => PartsFr w4.heap.size W v ps) :: .ok (fun v W => v = .bool kk) :: []) (by kernel_rfl) (by kernel_rfl) ⟨fun _ _ _ hg h => by obtain ⟨m, e, h⟩ := h; exact ⟨m, e, h.below hg⟩, fun _ _ _ hg h => by obtain ⟨lv, e, h⟩ := h; exact ⟨lv, e, h.gr hg⟩, fun _ _ _ hg h => by obtain ⟨lv, e, h⟩ := h; exact ⟨lv, e, h.gr hg⟩, fun _ _ _ hg h => PartsFr.gr h hg, fun _ _ _ _ h => h, fun _ _ _ hg h => PartsFr.gr h hg, fun _ _ _ _ h => h, trivial⟩
  apply wpG_ok
  · intro W hW hs
    have hle : w4.heap.size ≤ W.heap.size := (GD.out.trans hW).size
    unfold opG
    go_simp
    refine resG_call ((kinds_any W).mono ?_)
    rintro e W2 ⟨m, rfl, km, g2⟩
    exact ⟨_, rfl, g2, m, rfl, km.lo hle⟩
  intro v0
  simp only [Act.put, pt1, pt2, pt3]
  iterate 2
   apply wpG_eq
   · intro W hW hs
     have cn := T4.out W (GD.out.trans hW)
     unfold opG
     go_simp
     first | exact resG_eq_mk _ _ _ | rfl
   simp only [Act.put, pt1, pt2, pt3]
  apply wpG_ok
  · intro W hW hs
    obtain ⟨m, rfl, km⟩ := hs _ (.head _) (by rfl)
    obtain ⟨lv, hlv, hpf⟩ := LOOK.out _ W m km
    exact opG_look2 hlv (by rfl) _ _ rfl rfl rfl ⟨lv, rfl, hpf⟩
  intro v3
  simp only [Act.put, pt1, pt2, pt3]
  apply wpG_ok
  · intro W hW hs
    obtain ⟨lv, rfl, hpf⟩ := hs _ (.head _) (by rfl)
    have cn := T4.out W (GD.out.trans hW)
    unfold opG
    go_simp
    exact resG_mk (Gr.refl _) ⟨lv, rfl, hpf⟩
  intro v4
  simp only [Act.put, pt1, pt2, pt3]
  apply wpG_ok
  · intro W hW hs
    obtain ⟨lv, rfl, hpf⟩ := hs _ (.head _) (by rfl)
    have cn := T4.out W (GD.out.trans hW)
    unfold opG
    go_simp
    exact resG_mk (Gr.refl _) hpf
  intro v5
  simp only [Act.put, pt1, pt2, pt3]
  apply wpG_ok
  · intro W hW hs
    obtain ⟨lv, rfl, hpf⟩ := hs _ (.tail _ (.head _)) (by rfl)
    have cn := T4.out W (GD.out.trans hW)
    unfold opG
    go_simp
    exact resG_mk (Gr.refl _) rfl
  intro v6
  simp only [Act.put, pt1, pt2, pt3]
  apply wpG_ok
  · intro W hW hs
    obtain hpf := hs _ (.tail _ (.head _)) (by rfl)
    have cn := T4.out W (GD.out.trans hW)
    unfold opG
    go_simp
    exact resG_mk (Gr.refl _) hpf
  intro v7
  simp only [Act.put, pt1, pt2, pt3]
  apply wpG_ok
  · intro W hW hs
    obtain rfl := hs _ (.tail _ (.head _)) (by rfl)
    have cn := T4.out W (GD.out.trans hW)
    unfold opG
    go_simp
    exact resG_mk (Gr.refl _) rfl
  intro v8
  simp only [Act.put, pt1, pt2, pt3]
  apply wpG_nil
  intro W9 hW9 hsAll
  obtain hpf := hsAll _ (.tail _ (.head _))
  obtain hkk := hsAll _ (.head _)
  clear hsAll
  subst hkk
  obtain ⟨pa0, pc0, rfl⟩ := hpf.1.shape
  have G9 := Lib.hid (GD.out.trans hW9)
  have R9 : Rs W9 (Mid w1 w2) g (rByte (l, false)).2 := Rs.gr hr4 G9.out
  have E9 : EntAt (fun k => w3.heap.size < k) W9 w3.heap.size (rKind l).1 := by rw [EK.out]; exact ⟨zeroQ, K4.out.gr G9.out, EntP.zero _ _ _⟩
  have PF := Lib.hid hpf
  clear hW9 hpf hr4
  have z9 : w4.heap.size ≤ W9.heap.size := G9.out.size
  have B9 : Hid (Gr w1 W9) := Lib.hid (Gr.trans B4.out G9.out)
  have hps4 : Hid (ps.length ≤ 4) := Lib.hid (by rw [HPS.out]; exact kindP_len n)
  go_wp2_with fail
  go_loopw [10, 25] (fun y i wr => ∃ k : Nat, k ≤ ps.length ∧ i = .int .i64 k ∧ Rs wr (Mid w1 w2) g (rAt l ps k).2 ∧ EntAt (fun k => w3.heap.size < k) wr w3.heap.size (rAt l ps k).1 ∧ Ch (fun k => k = g ∨ k = w3.heap.size) W9 wr) (fun _ i _ => ps.length - (intOf i).toNat)
  case atStart => exact ⟨0, Nat.zero_le _, rfl, by unfold rAt; rw [EK.out]; exact R9, E9, Ch.refl _⟩
  case round =>
    clear R9 E9
    obtain ⟨k, hk, rfl, hr, he, hch⟩ := hrel
    obtain ⟨wo, rfl⟩ : ∃ wo : World, wo = wr := ⟨_, rfl⟩
    have hsz := hch.size
    have z4 := Z4.out
    by_cases hlt : k < ps.length
    · obtain ⟨B, o, c, e0, hB, k0, k1, k2⟩ := (PF.out.ch hch (fun j hj => by rcases hj with rfl | rfl <;> omega)).1.at k hlt
      injection e0 with e1 _ e3
      subst e1 e3
      have e1 := rAt_succ l ps k hlt
      have hll : (rAt l ps k).2.1.length ≤ 1000000000 := Nat.le_trans (rAt_left l ps k) hl
      obtain ⟨xk, hxk⟩ : ∃ xk, xk = (rAt l ps k).1 := ⟨_, rfl⟩
      obtain ⟨sk, hsk⟩ : ∃ sk, sk = (rAt l ps k).2 := ⟨_, rfl⟩
      rw [← hxk, ← hsk] at e1
      rw [← hsk] at hr hll
      rw [← hxk] at he
      have GET := fun W (hW : Gr wo W) => getPart_any ps[k] W (Mid w1 w2) g sk w3.heap.size xk (fun k => w3.heap.size < k) (Rs.gr hr hW) (fun j hj => by have h1 : j < w2.heap.size := hj.2; have h2 := hW.size; omega) hll (he.gr hW) (fun j hj => by have h2 := hW.size; show w3.heap.size < j; omega) (by show ¬ w3.heap.size < g; omega) (Nat.lt_irrefl _) (by omega) (fun h => by have h1 : w3.heap.size < w2.heap.size := h.2; omega)
      have GE := Lib.hid GET
      have E1 := Lib.hid e1
      have HCH := Lib.hid hch
      have HSZ := Lib.hid (Nat.le_trans z9 hsz)
      clear GET e1 hch hr he hll hxk hsk hsz z4
      obtain ⟨f0, hf0⟩ : ∃ f0, f0 = putF ps[k] := ⟨_, rfl⟩
      obtain ⟨f1, hf1⟩ : ∃ f1, f1 = getF ps[k] := ⟨_, rfl⟩
      obtain ⟨mv, hmv, hmc⟩ := mayF_word ps[k]
      have PE := Lib.hid (getF_ent ps[k])
      rw [← hf0] at k0
      rw [← hf1] at k1 PE GE
      rw [← hmv] at k2
      clear hf0 hf1 hmv
      have i1 : (0 : Int) ≤ (k : Int) := by omega
      have i2 : (k : Int) < (ps.length : Int) := by omega
      have i3 := hps4.out
      rcases hmc with rfl | ⟨f2, rfl⟩
      all_goals
        go_wp2_with fail
        rw [PE.out]
        refine (GE.out _ ((Gr.refl wo).alloc _)).mono ?_
        rintro e w6 ⟨rfl, r6, e6, c6⟩
        have S6 : Hid (Rs w6 (Mid w1 w2) g (rAt l ps (k + 1)).2) := Lib.hid (by rw [E1.out]; exact r6)
        have X6 : Hid (EntAt (fun k => w3.heap.size < k) w6 w3.heap.size (rAt l ps (k + 1)).1) := Lib.hid (by rw [E1.out]; exact e6)
        have C6 := Lib.hid (HCH.out.trans ((Ch.of_gr ((Gr.refl wo).alloc _)).trans c6))
        clear r6 e6 c6
        go_wp2
        go_roundw
        case rel => exact ⟨k + 1, by omega, by go_num, S6.out, X6.out, C6.out⟩
        case measure => simp [intOf]; omega
    · obtain rfl : k = ps.length := by omega
      have e9 : rAt l ps ps.length = rEnt l := by rw [rAt_all, EE.out, HPS.out]
      rw [e9] at hr he
      obtain ⟨x, hx⟩ : ∃ x, x = (rEnt l).1 := ⟨_, rfl⟩
      obtain ⟨s9, hs9⟩ : ∃ s9, s9 = (rEnt l).2 := ⟨_, rfl⟩
      have hl9 : s9.1.length ≤ 1000000000 := by rw [hs9, ← e9]; exact Nat.le_trans (rAt_left _ _ _) hl
      have eO : entOk l = (kk && rDone s9 == 0) := by rw [EO.out, HKK.out, hs9]
      rw [← hx] at he
      rw [← hs9] at hr
      have EO2 := Lib.hid eO
      have HR := Lib.hid hr
      have HL9 := Lib.hid hl9
      obtain ⟨q, K0, hp⟩ := he
      have KEY : Hid (∀ E pv d w', E = entCells x q → d = entOk l → EntP (From w.heap.size) w' x q → Gr w w' → RetRead w l (.returned (.tuple #[.agg E.toArray, pv, .bool d])) w') := Lib.hid fun E pv d w' hE hd hp hg => by rw [hE]; exact retRead_key w l x hx q pv d w' hd hp hg
      obtain ⟨E, hE⟩ : ∃ E, E = entCells x q := ⟨_, rfl⟩
      have hEn : E.length = 23 := by rw [hE]; rfl
      have hE1 : oneAll E := by rw [hE]; exact hp.one
      rw [← hE] at K0
      have HE := Lib.hid hE
      have HEN := Lib.hid hEn
      have HE1 := Lib.hid hE1
      have hne3 : ¬ (w3.heap.size = w.heap.size) := by have h1 := Z1.out; have h2 := z4; omega
      have hnm : ¬ Mid w1 w2 w.heap.size := fun h => by have h1 : w1.heap.size ≤ w.heap.size := h.1; have := Z1.out; omega
      have KE : Hid (∀ W, Ch (fun k => k = w.heap.size) wo.drew W → CellsAt W w3.heap.size E 39) := Lib.hid fun W hW => (K0.gr ((Gr.refl wo).drew)).ch hW hne3
      have DNR : Hid (∀ W, Ch (fun k => k = w.heap.size) wo.drew W → Rs W (Mid w1 w2) g s9) := Lib.hid fun W hW => rs_new (Rs.gr hr ((Gr.refl wo).drew)) hW.grownBy hnm
      have HP := Lib.hid hp
      have GW : Hid (Gr w1 wo) := Lib.hid (Below.trans B9.out (hch.below B9.out.size (fun j hj => by rcases hj with rfl | rfl <;> omega)))
      have GD6 : Hid (Gr wo wo.drew) := Lib.hid ((Gr.refl wo).drew)
      clear hx hs9 hl9 eO e9 hr hp K0 hE hEn hE1 hch hne3 hnm T T4 K4 PF LOOK z4
      cases kk with
      | true =>
        as_aux_lemma =>
        go_wp2_with fail
        apply wp_region_draw_turn (fun k => k = w.heap.size) (fun k W => CellsAt W w.heap.size (stE [.int .u8 0, .int .u32 0, .int .u32 0, .int .i64 0, .int .u32 0, .int .u8 0, .string ⟨#[]⟩, .slice none 0 0, .int .i64 0, .bool false, .bool false, .slice none 0 0, .int .i64 0, .int .u64 0, .int .i64 0, .int .u64 0, .slice none 0 0, .slice none 0 0, .int .u32 0, .int .i64 0, .int .i64 0, .int .u64 0, .slice none 0 0] E k) 39) (.eq _ :: .eq _ :: .eq _ :: .eq _ :: .eq _ :: .ok (fun v W => v = .int .i64 (rDone s9)) :: .ok (fun v W => v = .bool (rDone s9 == 0)) :: .ok (fun v W => v = .bool (rDone s9 == 0)) :: .useEq _ :: .eq _ :: .ok (fun v W => v = .bool (rDone s9 == 0)) :: []) (by kernel_rfl) (by kernel_rfl) (by kernel_rfl) ⟨fun _ _ _ _ h => h, fun _ _ _ _ h => h, fun _ _ _ _ h => h, fun _ _ _ _ h => h, trivial⟩ (fun k W W' hg h => CellsAt.gr h hg) (K1.out.gr (Gr.trans GW.out GD6.out))
        apply wpT_eq
        · intro W hW hs
          exact opT_load entTy _ rfl rfl rfl (KE.out W hW) HEN.out ⟨Gr.refl _, rfl⟩
        simp only [Act.put, pt1, pt2, pt3]
        iterate 4
         apply wpT_eq
         · intro W hW hs
           unfold opT
           go_simp
           first | exact resT_eq_mk _ _ _ | exact ⟨Gr.refl _, rfl⟩
         simp only [Act.put, pt1, pt2, pt3]
        apply wpT_ok
        · intro W hW hs
          unfold opT
          go_simp
          refine resT_call ((get_done W (Mid w1 w2) g s9 (DNR.out W hW) HL9.out).mono ?_)
          rintro e W2 ⟨rfl, rfl⟩
          exact ⟨_, rfl, Gr.refl _, rfl⟩
        intro vd
        simp only [Act.put, pt1, pt2, pt3]
        apply wpT_ok
        · intro W hW hs
          obtain rfl := hs _ (.head _) (by rfl)
          unfold opT
          go_simp
          first | exact ⟨Gr.refl _, rfl⟩ | exact resT_mk (Gr.refl _) rfl
        intro vd6
        simp only [Act.put, pt1, pt2, pt3]
        apply wpT_ok
        · intro W hW hs
          obtain rfl := hs _ (.head _) (by rfl)
          unfold opT
          go_simp
          first | exact ⟨Gr.refl _, rfl⟩ | exact resT_mk (Gr.refl _) rfl
        intro vd7
        simp only [Act.put, pt1, pt2, pt3]
        apply wpT_useEq
        · intro W hW hS hs
          exact opT_store entTy _ _ rfl rfl rfl rfl hS HEN.out rfl HE1.out fun f1 f2 => ⟨⟨f2, f1⟩, rfl⟩
        simp only [Act.put]
        apply wpT_eq
        · intro W hW hs
          unfold opT
          go_simp
          first | exact resT_eq_mk _ _ _ | exact ⟨Gr.refl _, rfl⟩
        simp only [Act.put, pt1, pt2, pt3]
        apply wpT_ok
        · intro W hW hs
          obtain rfl := hs _ (.head _) (by rfl)
          unfold opT
          go_simp
          first | exact ⟨Gr.refl _, rfl⟩ | exact resT_mk (Gr.refl _) rfl
        intro vd10
        simp only [Act.put, pt1, pt2, pt3]
        apply wpT_nil
        intro W10 hW10 hS10 hsAll
        obtain rfl := hsAll _ (.head _)
        clear hsAll
        have kf : CellsAt W10 w.heap.size E 39 := hS10
        have KF := Lib.hid kf
        have PP := Lib.hid (((HP.out.gr GD6.out).keep (Keep.of_ch hW10 (fun j h e => by have h1 : w3.heap.size < j := h; have := Z1.out; omega))).mono (Q := From w.heap.size) (fun j hj => by have h1 : w3.heap.size < j := hj; have := Z1.out; show w.heap.size ≤ j; omega))
        have gww := Gr.trans G1.out (Gr.trans GW.out GD6.out)
        have GG := Lib.hid (show Gr w _ from Below.trans gww (hW10.below gww.size (fun j hj => by have : j = w.heap.size := hj; omega)))
        clear kf hS10 hW10 gww
        go_wp2
        exact bodyPost_ret (v := .tuple #[.agg E.toArray, .slice pa0 ps.length pc0, .bool (rDone s9 == 0)]) (results_row3 (fn := Try.f12) entTy rfl _ _ rfl KF.out HEN.out) rfl (KEY.out _ _ _ _ HE.out (by rw [EO2.out]; simp) PP.out GG.out)
      | false =>
        as_aux_lemma =>
        go_wp2_with fail
        apply wp_region_draw_turn (fun k => k = w.heap.size) (fun k W => CellsAt W w.heap.size (stE [.int .u8 0, .int .u32 0, .int .u32 0, .int .i64 0, .int .u32 0, .int .u8 0, .string ⟨#[]⟩, .slice none 0 0, .int .i64 0, .bool false, .bool false, .slice none 0 0, .int .i64 0, .int .u64 0, .int .i64 0, .int .u64 0, .slice none 0 0, .slice none 0 0, .int .u32 0, .int .i64 0, .int .i64 0, .int .u64 0, .slice none 0 0] E k) 39) (.eq _ :: .eq _ :: .eq _ :: .eq _ :: .eq _ :: .eq _ :: .eq _ :: .eq _ :: .useEq _ :: .eq _ :: .eq _ :: []) (by kernel_rfl) (by kernel_rfl) (by kernel_rfl) trivial (fun k W W' hg h => CellsAt.gr h hg) (K1.out.gr (Gr.trans GW.out GD6.out))
        apply wpT_eq
        · intro W hW hs
          exact opT_load entTy _ rfl rfl rfl (KE.out W hW) HEN.out ⟨Gr.refl _, rfl⟩
        simp only [Act.put, pt1, pt2, pt3]
        iterate 7
         apply wpT_eq
         · intro W hW hs
           unfold opT
           go_simp
           first | exact resT_eq_mk _ _ _ | exact ⟨Gr.refl _, rfl⟩
         simp only [Act.put, pt1, pt2, pt3]
        apply wpT_useEq
        · intro W hW hS hs
          exact opT_store entTy _ _ rfl rfl rfl rfl hS HEN.out rfl HE1.out fun f1 f2 => ⟨⟨f2, f1⟩, rfl⟩
        simp only [Act.put]
        iterate 2
         apply wpT_eq
         · intro W hW hs
           unfold opT
           go_simp
           first | exact resT_eq_mk _ _ _ | exact ⟨Gr.refl _, rfl⟩
         simp only [Act.put, pt1, pt2, pt3]
        apply wpT_nil
        intro W10 hW10 hS10 hsAll
        clear hsAll
        have kf : CellsAt W10 w.heap.size E 39 := hS10
        have KF := Lib.hid kf
        have PP := Lib.hid (((HP.out.gr GD6.out).keep (Keep.of_ch hW10 (fun j h e => by have h1 : w3.heap.size < j := h; have := Z1.out; omega))).mono (Q := From w.heap.size) (fun j hj => by have h1 : w3.heap.size < j := hj; have := Z1.out; show w.heap.size ≤ j; omega))
        have gww := Gr.trans G1.out (Gr.trans GW.out GD6.out)
        have GG := Lib.hid (show Gr w _ from Below.trans gww (hW10.below gww.size (fun j hj => by have : j = w.heap.size := hj; omega)))
        clear kf hS10 hW10 gww
        go_wp2
        exact bodyPost_ret (v := .tuple #[.agg E.toArray, .slice pa0 ps.length pc0, .bool (false)]) (results_row3 (fn := Try.f12) entTy rfl _ _ rfl KF.out HEN.out) rfl (KEY.out _ _ _ _ HE.out (by rw [EO2.out]; simp) PP.out GG.out)
end Go.Proofs.Ytiemgmbjhllmbaa
