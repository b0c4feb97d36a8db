/-
  WanKnown: the chapter's examples; each kind; what may not be. Closed; no conditions.
-/
import Derived.Test.YtgilijkmmcpfjaaZWKnownA
set_option linter.unusedVariables false
set_option linter.unusedSimpArgs false
set_option maxRecDepth 100000
namespace Go.Proofs.Ytgilijkmmcpfjaa
open Go.RowKit
theorem bg0 (a : Option Addr) (n c : Nat) : Try.prog.built 26 [(0, .int .u8 1), (1, .int .i64 2), (2, .slice a n c)] = some #[.int .u8 1, .int .i64 2, .slice a n c, .slice none 0 0, .int .i64 0, .int .u64 0, .slice none 0 0] := by kernel_rfl
theorem bg1 (a : Option Addr) (n c : Nat) : Try.prog.built 26 [(0, .int .u8 2), (3, .slice a n c)] = some #[.int .u8 2, .int .i64 0, .slice none 0 0, .slice a n c, .int .i64 0, .int .u64 0, .slice none 0 0] := by kernel_rfl
theorem bg2  : Try.prog.built 26 [(0, .int .u8 2)] = some #[.int .u8 2, .int .i64 0, .slice none 0 0, .slice none 0 0, .int .i64 0, .int .u64 0, .slice none 0 0] := by kernel_rfl
theorem bg3 (a : Option Addr) (n c : Nat) : Try.prog.built 26 [(0, .int .u8 3), (1, .int .i64 1), (4, .int .i64 3), (5, .int .u64 9223372036854775808), (6, .slice a n c)] = some #[.int .u8 3, .int .i64 1, .slice none 0 0, .slice none 0 0, .int .i64 3, .int .u64 9223372036854775808, .slice a n c] := by kernel_rfl
theorem bg4  : Try.prog.built 26 [(0, .int .u8 4), (4, .int .i64 1), (5, .int .u64 2)] = some #[.int .u8 4, .int .i64 0, .slice none 0 0, .slice none 0 0, .int .i64 1, .int .u64 2, .slice none 0 0] := by kernel_rfl
theorem bg5  : Try.prog.built 26 [(0, .int .u8 5), (1, .int .i64 1)] = some #[.int .u8 5, .int .i64 1, .slice none 0 0, .slice none 0 0, .int .i64 0, .int .u64 0, .slice none 0 0] := by kernel_rfl
theorem bg6 (a : Option Addr) (n c : Nat) : Try.prog.built 26 [(0, .int .u8 6), (5, .int .u64 2), (6, .slice a n c)] = some #[.int .u8 6, .int .i64 0, .slice none 0 0, .slice none 0 0, .int .i64 0, .int .u64 2, .slice a n c] := by kernel_rfl
theorem bb0  : Try.prog.built 26 [] = some #[.int .u8 0, .int .i64 0, .slice none 0 0, .slice none 0 0, .int .i64 0, .int .u64 0, .slice none 0 0] := by kernel_rfl
theorem bb1  : Try.prog.built 26 [(0, .int .u8 7)] = some #[.int .u8 7, .int .i64 0, .slice none 0 0, .slice none 0 0, .int .i64 0, .int .u64 0, .slice none 0 0] := by kernel_rfl
theorem bb2  : Try.prog.built 26 [(0, .int .u8 5), (1, .int .i64 3)] = some #[.int .u8 5, .int .i64 3, .slice none 0 0, .slice none 0 0, .int .i64 0, .int .u64 0, .slice none 0 0] := by kernel_rfl
theorem bb3  : Try.prog.built 26 [(0, .int .u8 5), (1, .int .i64 (Int.negSucc 0))] = some #[.int .u8 5, .int .i64 (Int.negSucc 0), .slice none 0 0, .slice none 0 0, .int .i64 0, .int .u64 0, .slice none 0 0] := by kernel_rfl
theorem bb4  : Try.prog.built 26 [(0, .int .u8 5), (4, .int .i64 4)] = some #[.int .u8 5, .int .i64 0, .slice none 0 0, .slice none 0 0, .int .i64 4, .int .u64 0, .slice none 0 0] := by kernel_rfl
theorem bb5  : Try.prog.built 26 [(0, .int .u8 1), (4, .int .i64 1)] = some #[.int .u8 1, .int .i64 0, .slice none 0 0, .slice none 0 0, .int .i64 1, .int .u64 0, .slice none 0 0] := by kernel_rfl
theorem bb6 (a : Option Addr) (n c : Nat) : Try.prog.built 26 [(0, .int .u8 1), (2, .slice a n c)] = some #[.int .u8 1, .int .i64 0, .slice a n c, .slice none 0 0, .int .i64 0, .int .u64 0, .slice none 0 0] := by kernel_rfl
theorem bb7 (a : Option Addr) (n c : Nat) : Try.prog.built 26 [(0, .int .u8 1), (6, .slice a n c)] = some #[.int .u8 1, .int .i64 0, .slice none 0 0, .slice none 0 0, .int .i64 0, .int .u64 0, .slice a n c] := by kernel_rfl
theorem bb8 (a : Option Addr) (n c : Nat) : Try.prog.built 26 [(0, .int .u8 4), (6, .slice a n c)] = some #[.int .u8 4, .int .i64 0, .slice none 0 0, .slice none 0 0, .int .i64 0, .int .u64 0, .slice a n c] := by kernel_rfl
theorem bb9 (a : Option Addr) (n c : Nat) : Try.prog.built 26 [(0, .int .u8 2), (3, .slice a n c)] = some #[.int .u8 2, .int .i64 0, .slice none 0 0, .slice a n c, .int .i64 0, .int .u64 0, .slice none 0 0] := by kernel_rfl
theorem bb11 (a : Option Addr) (n c : Nat) : Try.prog.built 26 [(0, .int .u8 6), (3, .slice a n c)] = some #[.int .u8 6, .int .i64 0, .slice none 0 0, .slice a n c, .int .i64 0, .int .u64 0, .slice none 0 0] := by kernel_rfl
theorem bb12 (a : Option Addr) (n c : Nat) : Try.prog.built 26 [(0, .int .u8 3), (2, .slice a n c)] = some #[.int .u8 3, .int .i64 0, .slice a n c, .slice none 0 0, .int .i64 0, .int .u64 0, .slice none 0 0] := by kernel_rfl
theorem bkEff  : Try.prog.built 43 [(0, .string ⟨#[47, 98]⟩), (1, .bool true)] = some #[.string ⟨#[47, 98]⟩, .bool true, .slice none 0 0, .int .u32 0, .int .u32 0, .int .u32 0, .int .i64 0, .int .u32 0, .int .u64 0, .int .u64 0, .int .u64 0] := by kernel_rfl
theorem bkItem (a a2 : Option Addr) (n c n2 c2 : Nat) : Try.prog.built 46 [(0, .int .i64 2), (1, .int .u64 4), (2, .int .i64 3), (3, .int .u64 7), (4, .slice a n c), (5, .slice a2 n2 c2)] = some #[.int .i64 2, .int .u64 4, .int .i64 3, .int .u64 7, .slice a n c, .slice a2 n2 c2, .int .u32 0] := by kernel_rfl
theorem bkOdd  : Try.prog.built 46 [(0, .int .i64 3)] = some #[.int .i64 3, .int .u64 0, .int .i64 0, .int .u64 0, .slice none 0 0, .slice none 0 0, .int .u32 0] := by kernel_rfl
def IsSl (n : Nat) (P : Value → World → Prop) (v : Value) (W : World) : Prop := ∃ h, v = .slice (some ⟨h, 0, none⟩) n n ∧ P (.slice (some ⟨h, 0, none⟩) n n) W
def IsAg (n : Nat) (mk : Value → Value) (P : Value → World → Prop) (v : Value) (W : World) : Prop := ∃ h, v = mk (.slice (some ⟨h, 0, none⟩) n n) ∧ P (.slice (some ⟨h, 0, none⟩) n n) W
theorem two_items (W : World) (a b : Option Addr) (hp : ItemP Any W kItem (.slice a 3 3) (.slice b 1 1)) :
    ItemsP Any (W.alloc (.cells #[.int .i64 2, .int .u64 4, .int .i64 3, .int .u64 7, .slice a 3 3, .slice b 1 1, .int .u32 0, .int .i64 2, .int .u64 4, .int .i64 3, .int .u64 7, .slice a 3 3, .slice b 1 1, .int .u32 0] 46)) (.slice (some ⟨W.heap.size, 0, none⟩) 2 2) [kItem, kItem] := by
  have h := items_new W [(kItem, .slice a 3 3, .slice b 1 1), (kItem, .slice a 3 3, .slice b 1 1)] (by
    intro p h
    simp only [List.mem_cons, List.not_mem_nil, or_false] at h
    rcases h with rfl | rfl <;> exact hp)
  exact h
theorem one_item (W : World) (a b : Option Addr) (hp : ItemP Any W kItem (.slice a 3 3) (.slice b 1 1)) :
    ItemsP Any (W.alloc (.cells #[.int .i64 2, .int .u64 4, .int .i64 3, .int .u64 7, .slice a 3 3, .slice b 1 1, .int .u32 0] 46)) (.slice (some ⟨W.heap.size, 0, none⟩) 1 1) [kItem] := by
  have h := items_new W [(kItem, .slice a 3 3, .slice b 1 1)] (by
    intro p h
    simp only [List.mem_cons, List.not_mem_nil, or_false] at h
    subst h; exact hp)
  exact h
theorem odd_item (W : World) :
    ItemsP Any (W.alloc (.cells #[.int .i64 3, .int .u64 0, .int .i64 0, .int .u64 0, .slice none 0 0, .slice none 0 0, .int .u32 0] 46)) (.slice (some ⟨W.heap.size, 0, none⟩) 1 1) [kOdd] := by
  have h := items_new W [(kOdd, .slice none 0 0, .slice none 0 0)] (by
    intro p h
    simp only [List.mem_cons, List.not_mem_nil, or_false] at h
    subst h; exact ⟨SlP.nil _ _ _ _, EffsP.nil _ _ _ _⟩)
  exact h
theorem Sl.cut3 {w : World} {a : Option Addr} {cap : Nat} {xs : List Nat} (h : Sl w (.slice a xs.length cap) (Ytgilijkmmcpfjaa.nums xs)) (k : Nat) (hk : k ≤ xs.length) : Sl w (.slice a k cap) (Ytgilijkmmcpfjaa.nums (xs.take k)) := by
  obtain ⟨a', cap', he, hcap, hx⟩ := h
  rw [nums_length] at he hcap
  injection he with e1 e2 e3
  subst e1 e3
  have hl : (Ytgilijkmmcpfjaa.nums (xs.take k)).length = k := by rw [nums_length]; simp [hk]
  refine ⟨a, cap, by rw [hl], by rw [hl]; omega, ?_⟩
  rcases hx with hx | ⟨b, off, rfl, hlt, hx⟩
  · left
    have : xs.length = 0 := by rw [← nums_length xs, hx]; rfl
    have hk0 : k = 0 := by omega
    subst hk0; rfl
  · refine .inr ⟨b, off, rfl, hlt, fun j hj => ?_⟩
    have hj2 : j < k := by rw [hl] at hj; exact hj
    rw [hx j (by rw [nums_length]; omega)]
    simp [Ytgilijkmmcpfjaa.nums]
set_option maxHeartbeats 8000000 in
theorem wknown_walk (w : World) : Calls Try.prog 7 #[] w fun e w' => e = .returned (.bool true) ∧ Below w.heap.size w w' := by
  obtain ⟨w1, hw1⟩ : ∃ w1, w1 = w.alloc (.cells #[.int .u64 1, .int .u64 2, .int .u64 3] 24) := ⟨_, rfl⟩
  have g1 : Gr w w1 := by rw [hw1]; exact (Gr.refl w).alloc _
  have s1 : Sl w1 (.slice (some ⟨w.heap.size, 0, none⟩) 3 3) (nums [1, 2, 3]) := by rw [hw1]; exact Sl.new w [.int .u64 1, .int .u64 2, .int .u64 3] _ _ _ _ rfl (by decide)
  obtain ⟨w2, hw2⟩ : ∃ w2, w2 = w1.alloc (.cells #[.string ⟨#[47, 98]⟩, .bool true, .slice none 0 0, .int .u32 0, .int .u32 0, .int .u32 0, .int .i64 0, .int .u32 0, .int .u64 0, .int .u64 0, .int .u64 0] 43) := ⟨_, rfl⟩
  have g2 : Gr w1 w2 := by rw [hw2]; exact (Gr.refl w1).alloc _
  have k2 : CellsAt w2 w1.heap.size (effCells ⟨[47, 98], true, zeroN⟩ (.slice none 0 0)) 43 := by rw [hw2]; exact CellsAt.new w1 (effCells ⟨[47, 98], true, zeroN⟩ (.slice none 0 0)) _
  have e2 := effs_one (P := Any) w2 _ ⟨[47, 98], true, zeroN⟩ (.slice none 0 0) k2 (SlP.nil _ _ _ _) trivial
  have P2 : Hid (ItemP Any w2 kItem (.slice (some ⟨w.heap.size, 0, none⟩) 3 3) (.slice (some ⟨w1.heap.size, 0, none⟩) 1 1)) := Lib.hid ⟨(s1.below g2).any, e2⟩
  have HW1 : w.alloc (.cells #[.int .u64 1, .int .u64 2, .int .u64 3] 24) = w1 := hw1.symm
  have HW2 : w1.alloc (.cells #[.string ⟨#[47, 98]⟩, .bool true, .slice none 0 0, .int .u32 0, .int .u32 0, .int .u32 0, .int .i64 0, .int .u32 0, .int .u64 0, .int .u64 0, .int .u64 0] 43) = w2 := hw2.symm
  have G2 := Lib.hid (g1.trans g2)
  clear hw1 hw2 g1 g2 s1 k2 e2
  go_enter Try.func7, Try.ntmps7
  go_wp2_with (first | (refine wpList_buildTo rfl 43 _ rfl (some 20) rfl _ bkEff ?_) | (refine wpList_buildTo rfl 46 _ rfl (some 22) rfl _ (bkItem _ _ _ _ _ _) ?_) | (refine wpList_storeE (cs := [.int .i64 2, .int .u64 4, .int .i64 3, .int .u64 7, .slice (some ⟨w.heap.size, 0, none⟩) 3 3, .slice (some ⟨w1.heap.size, 0, none⟩) 1 1, .int .u32 0]) itemTy _ _ rfl rfl rfl rfl (CellsAt.new _ _ _) rfl rfl rfl ?_) | fail)
  intro w3 k3 ch3
  have g3 : Gr w2 w3 := Below.trans ((Gr.refl w2).alloc _) (ch3.below ((Gr.refl w2).alloc _).size (fun k hk => by have : k = w2.heap.size := hk; omega))
  obtain ⟨b1, hb1⟩ : ∃ b, b = w.heap.size := ⟨_, rfl⟩
  obtain ⟨b2, hb2⟩ : ∃ b, b = w1.heap.size := ⟨_, rfl⟩
  obtain ⟨b3, hb3⟩ : ∃ b, b = w2.heap.size := ⟨_, rfl⟩
  obtain ⟨b4, hb4⟩ : ∃ b, b = w3.heap.size := ⟨_, rfl⟩
  obtain ⟨w4, hw4⟩ : ∃ w4, w4 = w3.alloc (.cells #[.int .u64 1, .int .u64 2, .int .u64 3] 24) := ⟨_, rfl⟩
  have g4 : Gr w3 w4 := by rw [hw4]; exact (Gr.refl w3).alloc _
  have s4 : Sl w4 (.slice (some ⟨b4, 0, none⟩) 3 3) (nums [1, 2, 3]) := by rw [hw4, hb4]; exact Sl.new w3 [.int .u64 1, .int .u64 2, .int .u64 3] _ _ _ _ rfl (by decide)
  have k34 := k3.gr g4
  have P3 : Hid (ItemP Any w4 kItem (.slice (some ⟨b1, 0, none⟩) 3 3) (.slice (some ⟨b2, 0, none⟩) 1 1)) := Lib.hid (by rw [hb1, hb2]; exact P2.out.gr (g3.trans g4))
  rw [← hb1, ← hb2, ← hb3] at k34
  have T3 : Hid (∀ W, Gr w4 W → W.cell? ⟨b3, 0, none⟩ = some (.int .i64 2) ∧ W.cell? ⟨b3, 1, none⟩ = some (.int .u64 4) ∧ W.cell? ⟨b3, 2, none⟩ = some (.int .i64 3) ∧ W.cell? ⟨b3, 3, none⟩ = some (.int .u64 7) ∧ W.cell? ⟨b3, 4, none⟩ = some (.slice (some ⟨b1, 0, none⟩) 3 3) ∧ W.cell? ⟨b3, 5, none⟩ = some (.slice (some ⟨b2, 0, none⟩) 1 1) ∧ W.cell? ⟨b3, 6, none⟩ = some (.int .u32 0)) := Lib.hid fun W hW => ⟨(k34.gr hW).cell 0, (k34.gr hW).cell 1, (k34.gr hW).cell 2, (k34.gr hW).cell 3, (k34.gr hW).cell 4, (k34.gr hW).cell 5, (k34.gr hW).cell 6⟩
  have SV : Hid (∀ W, Gr w4 W → Sl W (.slice (some ⟨b4, 0, none⟩) 3 3) (nums [1, 2, 3])) := Lib.hid fun W hW => s4.below hW
  have SV1 : Hid (∀ W, Gr w4 W → Sl W (.slice (some ⟨b4, 0, none⟩) 1 3) (nums [1])) := Lib.hid fun W hW => (Sl.cut3 (xs := [1, 2, 3]) (s4.below hW) 1 (by decide))
  have G4 := Lib.hid (G2.out.trans (g3.trans g4))
  have HW4 : w3.alloc (.cells #[.int .u64 1, .int .u64 2, .int .u64 3] 24) = w4 := hw4.symm
  rw [← hb1, ← hb2, ← hb3]
  have GD := Lib.hid ((Gr.refl w4).drew)
  have HB4 := Lib.hid hb4
  clear hw4 g4 g3 s4 k34 k3 ch3 P2 G2 HW1 HW2 hb1 hb2 hb3 hb4
  go_wp2_with fail
  rw [← HB4.out]
  apply wp_region_draw_grow (.eq _ :: .eq _ :: .eq _ :: .eq _ :: .ok (fun v W => IsSl 2 (fun v W => ItemsP Any W v [kItem, kItem]) v W) :: .ok (fun v W => IsAg 2 (fun u => .agg #[.int .u8 2, .int .i64 0, .slice none 0 0, u, .int .i64 0, .int .u64 0, .slice none 0 0]) (fun v W => ItemsP Any W v [kItem, kItem]) v W) :: .eq _ :: .eq _ :: .eq _ :: .eq _ :: .eq _ :: .eq _ :: .eq _ :: .eq _ :: .ok (fun v W => IsSl 7 (fun v W => WansP W v goodW) v W) :: .ok (fun v W => IsSl 7 (fun v W => WansP W v goodW) v W) :: []) (by kernel_rfl) (by kernel_rfl) ⟨fun v W W' hg ⟨h, e, hi⟩ => ⟨h, e, ItemsP.gr hi hg⟩, fun v W W' hg ⟨h, e, hi⟩ => ⟨h, e, ItemsP.gr hi hg⟩, fun v W W' hg ⟨h, e, hi⟩ => ⟨h, e, WansP.gr hi hg⟩, fun v W W' hg ⟨h, e, hi⟩ => ⟨h, e, WansP.gr hi hg⟩, trivial⟩
  apply wpG_eq
  · intro W hW hs
    unfold opG
    go_simp
    first | exact resG_eq_mk _ _ _ | rfl
  simp only [Act.put, pt1, pt2, pt3]
  apply wpG_eq
  · intro W hW hs
    have q := bg0 (some ⟨b4, 0, none⟩) 3 3
    unfold opG
    go_simp
    first | exact resG_eq_mk _ _ _ | rfl
  simp only [Act.put, pt1, pt2, pt3]
  iterate 2
   apply wpG_eq
   · intro W hW hs
     obtain ⟨c0, c1, c2, c3, c4, c5, c6⟩ := T3.out W (GD.out.trans hW)
     unfold opG
     go_simp
     first | exact resG_eq_mk _ _ _ | rfl
   simp only [Act.put, pt1, pt2, pt3]
  apply wpG_ok
  · intro W hW hs
    unfold opG
    go_simp
    exact resG_mk ((Gr.refl W).alloc _) ⟨_, rfl, two_items W _ _ (P3.out.gr (GD.out.trans hW))⟩
  intro v4
  simp only [Act.put, pt1, pt2, pt3]
  apply wpG_ok
  · intro W hW hs
    obtain ⟨h, rfl, hi⟩ := hs _ (.head _) (by rfl)
    have q := bg1 (some ⟨h, 0, none⟩) 2 2
    unfold opG
    go_simp
    exact resG_mk (Gr.refl W) ⟨_, rfl, hi⟩
  intro v5
  simp only [Act.put, pt1, pt2, pt3]
  apply wpG_eq
  · intro W hW hs
    have q := bg2
    unfold opG
    go_simp
    first | exact resG_eq_mk _ _ _ | rfl
  simp only [Act.put, pt1, pt2, pt3]
  apply wpG_eq
  · intro W hW hs
    unfold opG
    go_simp
    first | exact resG_eq_mk _ _ _ | rfl
  simp only [Act.put, pt1, pt2, pt3]
  apply wpG_eq
  · intro W hW hs
    have q := bg3 (some ⟨b4, 0, none⟩) 3 3
    unfold opG
    go_simp
    first | exact resG_eq_mk _ _ _ | rfl
  simp only [Act.put, pt1, pt2, pt3]
  apply wpG_eq
  · intro W hW hs
    have q := bg4
    unfold opG
    go_simp
    first | exact resG_eq_mk _ _ _ | rfl
  simp only [Act.put, pt1, pt2, pt3]
  apply wpG_eq
  · intro W hW hs
    have q := bg5
    unfold opG
    go_simp
    first | exact resG_eq_mk _ _ _ | rfl
  simp only [Act.put, pt1, pt2, pt3]
  iterate 2
   apply wpG_eq
   · intro W hW hs
     unfold opG
     go_simp
     first | exact resG_eq_mk _ _ _ | rfl
   simp only [Act.put, pt1, pt2, pt3]
  apply wpG_eq
  · intro W hW hs
    have q := bg6 (some ⟨b4, 0, none⟩) 1 3
    unfold opG
    go_simp
    first | exact resG_eq_mk _ _ _ | rfl
  simp only [Act.put, pt1, pt2, pt3]
  apply wpG_ok
  · intro W hW hs
    obtain ⟨h, rfl, hi⟩ := hs _ (.head _) (by rfl)
    unfold opG
    go_simp
    exact resG_mk ((Gr.refl W).alloc _) ⟨_, rfl, goodW_new W _ h (SV.out W (GD.out.trans hW)) (SV1.out W (GD.out.trans hW)) hi⟩
  intro v14
  simp only [Act.put, pt1, pt2, pt3]
  apply wpG_ok
  · intro W hW hs
    obtain ⟨h, rfl, hi⟩ := hs _ (.head _) (by rfl)
    unfold opG
    go_simp
    exact resG_mk (Gr.refl W) ⟨_, rfl, hi⟩
  intro v15
  simp only [Act.put, pt1, pt2, pt3]
  apply wpG_nil
  intro W9 hW9 hsAll
  obtain ⟨gb, rfl, hgood⟩ := hsAll _ (.head _)
  clear hsAll
  have HG := Lib.hid hgood
  have GW9 := Lib.hid (GD.out.trans hW9)
  have ROWS := Lib.hid goodW_row
  have MAYS : Hid (∀ x ∈ goodW, mayW x = true) := Lib.hid (List.all_eq_true.1 goodW_may)
  clear hgood hW9 HW4 HB4
  go_wp2_with fail
  go_loopw [4, 5, 6, 7, 8] (fun i _ _ _ _ wr => ∃ k : Nat, k ≤ 7 ∧ i = .int .i64 k ∧ Gr W9 wr) (fun i _ _ _ _ _ => 7 - (intOf i).toNat)
  case atStart => exact ⟨0, by decide, rfl, Gr.refl _⟩
  case round =>
    obtain ⟨k, hk, rfl, gw⟩ := hrel
    obtain ⟨wo, rfl⟩ : ∃ wo : World, wo = wr := ⟨_, rfl⟩
    have GW := Lib.hid gw
    clear gw
    by_cases hlt : k < 7
    · have hlt' : k < goodW.length := hlt
      obtain ⟨q, hp, hb, hc⟩ := WansP.row (xs := goodW) (HG.out.gr GW.out) k hlt'
      have hrow := ROWS.out goodW[k] (List.getElem_mem hlt')
      have hmay := MAYS.out goodW[k] (List.getElem_mem hlt')
      generalize goodW[k] = x at *
      obtain ⟨hok, hln, hsh⟩ := hrow
      have mw := (mayW_iff x).1 hmay
      have PUT : Hid (Calls Try.prog 10 #[.agg (wC x q).toArray] wo (RetPutW wo x)) := Lib.hid (putW_any wo x _ _ _ hp hok hln)
      have PE : Hid (putW x = (wanB x, 0)) := Lib.hid (putW_may mw)
      have GE : Hid (getW (wanB x) = (x, 0) ∧ (wanB x).length ≤ 50000) := Lib.hid ⟨getW_put hok mw, (wanB_lenK mw).2⟩
      have SAME : Hid (∀ W q2, Gr wo W → wP Any W x q2 → Calls Try.prog 15 #[.agg (wC x q2).toArray, .agg (wC x q).toArray] W (fun e w' => e = .returned (.bool true) ∧ Gr W w')) := Lib.hid fun W q2 hW h2 => (wan_says W _ _ _ _ _ _ _ _ h2 (hp.gr hW) hsh hsh).mono fun e w' ⟨z, he, hz, hg⟩ => ⟨by rw [he, hz.2 rfl], hg⟩
      obtain ⟨q1, q2, q3⟩ := q
      obtain ⟨va, vc, rfl, _, _⟩ := Sl.numsAt' hp.1.1
      obtain ⟨fa, fc, rfl, _, _⟩ := Sl.numsAt' hp.2.2.1
      obtain ⟨ia, ic, rfl⟩ := hp.2.1.shape
      obtain ⟨nv, hnv⟩ : ∃ n, n = x.vector.length := ⟨_, rfl⟩
      obtain ⟨nf, hnf⟩ : ∃ n, n = x.frontier.length := ⟨_, rfl⟩
      obtain ⟨n, hn⟩ : ∃ n, n = x.items.length := ⟨_, rfl⟩
      rw [← hnv, ← hnf, ← hn] at PUT SAME hc
      have CG : Hid (∀ W, Gr wo W → W.cell? ⟨gb, k * 7, none⟩ = some (.int .u8 (x.kind : Int)) ∧ W.cell? ⟨gb, k * 7 + 1, none⟩ = some (.int .i64 x.site) ∧ W.cell? ⟨gb, k * 7 + 2, none⟩ = some (.slice va nv vc) ∧ W.cell? ⟨gb, k * 7 + 3, none⟩ = some (.slice ia n ic) ∧ W.cell? ⟨gb, k * 7 + 4, none⟩ = some (.int .i64 x.region) ∧ W.cell? ⟨gb, k * 7 + 5, none⟩ = some (.int .u64 (x.epoch : Int)) ∧ W.cell? ⟨gb, k * 7 + 6, none⟩ = some (.slice fa nf fc)) := Lib.hid fun W hW => ⟨(hW.cell (p := ⟨gb, k * 7 + 0, none⟩) hb).trans (hc 0 _ rfl), (hW.cell (p := ⟨gb, k * 7 + 1, none⟩) hb).trans (hc 1 _ rfl), (hW.cell (p := ⟨gb, k * 7 + 2, none⟩) hb).trans (hc 2 _ rfl), (hW.cell (p := ⟨gb, k * 7 + 3, none⟩) hb).trans (hc 3 _ rfl), (hW.cell (p := ⟨gb, k * 7 + 4, none⟩) hb).trans (hc 4 _ rfl), (hW.cell (p := ⟨gb, k * 7 + 5, none⟩) hb).trans (hc 5 _ rfl), (hW.cell (p := ⟨gb, k * 7 + 6, none⟩) hb).trans (hc 6 _ rfl)⟩
      obtain ⟨c0, c1, c2, c3, c4, c5, c6⟩ := CG.out wo (Gr.refl _)
      have HA : Hid ((.agg #[.int .u8 (x.kind : Int), .int .i64 x.site, .slice va nv vc, .slice ia n ic, .int .i64 x.region, .int .u64 (x.epoch : Int), .slice fa nf fc] : Value) = .agg (wC x (.slice va nv vc, .slice ia n ic, .slice fa nf fc)).toArray) := Lib.hid rfl
      have i1 : (0 : Int) ≤ (k : Int) := by omega
      have i2 : (k : Int) < 7 := by omega
      clear hp hb hc hmay hok hln hsh mw hlt' hnv hnf hn
      go_wp2_with fail
      rw [HA.out]
      refine PUT.out.mono ?_
      rintro en w5 ⟨v5, he5, s5, g5⟩
      rw [PE.out] at he5 s5
      subst he5
      obtain ⟨Lw, hLw⟩ : ∃ L, L = wanB x := ⟨_, rfl⟩
      rw [← hLw] at s5 GE
      obtain ⟨a5, c5', rfl⟩ := s5.oneCells
      rw [bytes_length] at s5 ⊢
      have S5 := Lib.hid s5
      have G5 := Lib.hid g5
      clear s5 g5 hLw PUT PE c0 c1 c2 c3 c4 c5 c6
      go_wp2_with fail
      refine (getW_any w5 _ Lw S5.out (by have := GE.out.2; omega)).mono ?_
      intro en w6 h6
      obtain ⟨⟨q61, q62, q63⟩, h6a, p6, g6⟩ := retGetW3 h6
      rw [GE.out.1] at h6a p6
      subst h6a
      have p6 := (p6.mono (fun _ _ => trivial) : wP Any w6 x (q61, q62, q63))
      obtain ⟨va6, vc6, e61, _, _⟩ := Sl.numsAt' p6.1.1
      obtain ⟨fa6, fc6, e63, _, _⟩ := Sl.numsAt' p6.2.2.1
      obtain ⟨ia6, ic6, e62⟩ := p6.2.1.shape
      dsimp only at e61 e62 e63
      subst e61 e62 e63
      obtain ⟨nv6, hnv6⟩ : ∃ n, n = x.vector.length := ⟨_, rfl⟩
      obtain ⟨nf6, hnf6⟩ : ∃ n, n = x.frontier.length := ⟨_, rfl⟩
      obtain ⟨n6, hn6⟩ : ∃ n, n = x.items.length := ⟨_, rfl⟩
      rw [← hnv6, ← hnf6, ← hn6] at p6 ⊢
      have SM6 : Hid (∀ W, Gr w6 W → Calls Try.prog 15 #[.agg (wC x (.slice va6 nv6 vc6, .slice ia6 n6 ic6, .slice fa6 nf6 fc6)).toArray, .agg (wC x (.slice va nv vc, .slice ia n ic, .slice fa nf fc)).toArray] W (fun e w' => e = .returned (.bool true) ∧ Gr W w')) := Lib.hid fun W hW => SAME.out W _ ((G5.out.trans g6).trans hW) (p6.gr hW)
      obtain ⟨E6, hE6⟩ : ∃ E, E = wC x (.slice va6 nv6 vc6, .slice ia6 n6 ic6, .slice fa6 nf6 fc6) := ⟨_, rfl⟩
      have EN6 : Hid (E6.length = 7) := Lib.hid (by rw [hE6]; rfl)
      have EO6 : Hid (oneAll E6) := Lib.hid (by rw [hE6]; rfl)
      rw [← hE6]
      have HE6 := Lib.hid hE6
      have G6 := Lib.hid (G5.out.trans g6)
      clear h6 p6 g6 hE6 hnv6 hnf6 hn6 SAME G5 S5 GE
      go_wp2_with (first | (refine wpList_storeE wanTy _ _ rfl rfl rfl rfl (CellsAt.new _ _ _) EN6.out rfl EO6.out ?_) | fail)
      intro w7 k7 ch7
      have g7 : Gr w6 w7 := Below.trans ((Gr.refl w6).alloc _) (ch7.below ((Gr.refl w6).alloc _).size (fun k hk => by have : k = w6.heap.size := hk; omega))
      obtain ⟨b7, hb7⟩ : ∃ b, b = w6.heap.size := ⟨_, rfl⟩
      rw [← hb7] at k7 ⊢
      rw [HE6.out] at k7
      have DG : Hid (∀ W, Gr w7 W → W.cell? ⟨b7, 0, none⟩ = some (.int .u8 (x.kind : Int)) ∧ W.cell? ⟨b7, 1, none⟩ = some (.int .i64 x.site) ∧ W.cell? ⟨b7, 2, none⟩ = some (.slice va6 nv6 vc6) ∧ W.cell? ⟨b7, 3, none⟩ = some (.slice ia6 n6 ic6) ∧ W.cell? ⟨b7, 4, none⟩ = some (.int .i64 x.region) ∧ W.cell? ⟨b7, 5, none⟩ = some (.int .u64 (x.epoch : Int)) ∧ W.cell? ⟨b7, 6, none⟩ = some (.slice fa6 nf6 fc6)) := Lib.hid fun W hW => ⟨(k7.gr hW).cell 0, (k7.gr hW).cell 1, (k7.gr hW).cell 2, (k7.gr hW).cell 3, (k7.gr hW).cell 4, (k7.gr hW).cell 5, (k7.gr hW).cell 6⟩
      have CG7 : Hid (∀ W, Gr w7 W → W.cell? ⟨gb, k * 7, none⟩ = some (.int .u8 (x.kind : Int)) ∧ W.cell? ⟨gb, k * 7 + 1, none⟩ = some (.int .i64 x.site) ∧ W.cell? ⟨gb, k * 7 + 2, none⟩ = some (.slice va nv vc) ∧ W.cell? ⟨gb, k * 7 + 3, none⟩ = some (.slice ia n ic) ∧ W.cell? ⟨gb, k * 7 + 4, none⟩ = some (.int .i64 x.region) ∧ W.cell? ⟨gb, k * 7 + 5, none⟩ = some (.int .u64 (x.epoch : Int)) ∧ W.cell? ⟨gb, k * 7 + 6, none⟩ = some (.slice fa nf fc)) := Lib.hid fun W hW => CG.out W ((G6.out.trans g7).trans hW)
      have SM : Hid (∀ W, Gr w7 W → Calls Try.prog 15 #[.agg (wC x (.slice va6 nv6 vc6, .slice ia6 n6 ic6, .slice fa6 nf6 fc6)).toArray, .agg (wC x (.slice va nv vc, .slice ia n ic, .slice fa nf fc)).toArray] W (fun e w' => e = .returned (.bool true) ∧ Gr W w')) := Lib.hid fun W hW => SM6.out W (g7.trans hW)
      have G7 := Lib.hid (G6.out.trans g7)
      have GD9 := Lib.hid ((Gr.refl w7).drew)
      clear CG
      have CG := CG7
      clear k7 ch7 g7 hb7 CG7 SM6 G6 HE6 EN6 EO6
      go_wp2_with fail
      apply wp_region_draw_grow (.eq _ :: .eq _ :: .eq _ :: .eq _ :: .eq _ :: .eq _ :: .eq _ :: .eq _ :: .eq _ :: .eq _ :: .eq _ :: .eq _ :: .eq _ :: .eq _ :: .eq _ :: []) (by kernel_rfl) (by kernel_rfl) trivial
      iterate 7
       apply wpG_eq
       · intro W hW hs
         unfold opG
         go_simp
         first | exact resG_eq_mk _ _ _ | rfl
       simp only [Act.put, pt1, pt2, pt3]
      apply wpG_eq
      · intro W hW hs
        obtain ⟨c0, c1, c2, c3, c4, c5, c6⟩ := CG.out W (GD9.out.trans hW)
        have dd := DG.out W (GD9.out.trans hW)
        have d0 := dd.1
        have d1 := dd.2.1
        have d2 := dd.2.2.1
        have d3 := dd.2.2.2.1
        have d4 := dd.2.2.2.2.1
        have d5 := dd.2.2.2.2.2.1
        have d6 := dd.2.2.2.2.2.2
        clear dd
        unfold opG
        go_simp
        first | exact resG_eq_mk _ _ _ | rfl
      simp only [Act.put, pt1, pt2, pt3]
      iterate 3
       apply wpG_eq
       · intro W hW hs
         unfold opG
         go_simp
         first | exact resG_eq_mk _ _ _ | rfl
       simp only [Act.put, pt1, pt2, pt3]
      apply wpG_eq
      · intro W hW hs
        obtain ⟨c0, c1, c2, c3, c4, c5, c6⟩ := CG.out W (GD9.out.trans hW)
        have dd := DG.out W (GD9.out.trans hW)
        have d0 := dd.1
        have d1 := dd.2.1
        have d2 := dd.2.2.1
        have d3 := dd.2.2.2.1
        have d4 := dd.2.2.2.2.1
        have d5 := dd.2.2.2.2.2.1
        have d6 := dd.2.2.2.2.2.2
        clear dd
        unfold opG
        go_simp
        first | exact resG_eq_mk _ _ _ | rfl
      simp only [Act.put, pt1, pt2, pt3]
      apply wpG_eq
      · intro W hW hs
        unfold opG
        go_simp
        refine resG_call ((SM.out W (GD9.out.trans hW)).mono ?_)
        rintro en W2 ⟨rfl, hg⟩
        exact ⟨_, rfl, hg, rfl⟩
      simp only [Act.put, pt1, pt2, pt3]
      iterate 2
       apply wpG_eq
       · intro W hW hs
         unfold opG
         go_simp
         first | exact resG_eq_mk _ _ _ | rfl
       simp only [Act.put, pt1, pt2, pt3]
      apply wpG_nil
      intro W10 hW10 hsAll
      clear hsAll
      have G10 := Lib.hid (GW.out.trans (G7.out.trans (GD9.out.trans hW10)))
      clear hW10
      go_wp2
      go_roundw
      case rel => first | exact ⟨k + 1, by omega, by go_num, G10.out⟩ | ((repeat apply Exists.intro); apply And.intro; rotate_left; rfl; exact ⟨k + 1, by omega, by go_num, G10.out⟩)
      case measure => simp [intOf]; omega
    · obtain rfl : k = 7 := by omega
      have T3o := T3
      have SVo := SV
      have P3o := P3
      have GWo := Lib.hid (GW9.out.trans GW.out)
      clear T3 SV P3 SV1 HG ROWS MAYS GD
      have T3 : Hid (∀ W, Gr wo W → W.cell? ⟨b3, 0, none⟩ = some (.int .i64 2) ∧ W.cell? ⟨b3, 1, none⟩ = some (.int .u64 4) ∧ W.cell? ⟨b3, 2, none⟩ = some (.int .i64 3) ∧ W.cell? ⟨b3, 3, none⟩ = some (.int .u64 7) ∧ W.cell? ⟨b3, 4, none⟩ = some (.slice (some ⟨b1, 0, none⟩) 3 3) ∧ W.cell? ⟨b3, 5, none⟩ = some (.slice (some ⟨b2, 0, none⟩) 1 1) ∧ W.cell? ⟨b3, 6, none⟩ = some (.int .u32 0)) := Lib.hid fun W hW => T3o.out W (GWo.out.trans hW)
      have SV : Hid (∀ W, Gr wo W → Sl W (.slice (some ⟨b4, 0, none⟩) 3 3) (nums [1, 2, 3])) := Lib.hid fun W hW => SVo.out W (GWo.out.trans hW)
      have P3 := Lib.hid (P3o.out.gr GWo.out)
      have GD2 := Lib.hid ((Gr.refl wo).drew)
      clear T3o SVo P3o
      go_wp2_with fail
      apply wp_region_draw_grow (.eq _ :: .eq _ :: .eq _ :: .eq _ :: .eq _ :: .eq _ :: .ok (fun v W => IsSl 4 (fun v W => Sl W v (nums [0, 0, 0, 0])) v W) :: .ok (fun v W => IsAg 4 (fun u => .agg #[.int .u8 1, .int .i64 0, u, .slice none 0 0, .int .i64 0, .int .u64 0, .slice none 0 0]) (fun v W => Sl W v (nums [0, 0, 0, 0])) v W) :: .eq _ :: .eq _ :: .eq _ :: .eq _ :: .ok (fun v W => IsSl 9 (fun v W => ItemsP Any W v (List.replicate 9 zeroI)) v W) :: .ok (fun v W => IsAg 9 (fun u => .agg #[.int .u8 2, .int .i64 0, .slice none 0 0, u, .int .i64 0, .int .u64 0, .slice none 0 0]) (fun v W => ItemsP Any W v (List.replicate 9 zeroI)) v W) :: .eq _ :: .ok (fun v W => IsSl 1 (fun v W => ItemsP Any W v [kOdd]) v W) :: .ok (fun v W => IsAg 1 (fun u => .agg #[.int .u8 2, .int .i64 0, .slice none 0 0, u, .int .i64 0, .int .u64 0, .slice none 0 0]) (fun v W => ItemsP Any W v [kOdd]) v W) :: .eq _ :: .ok (fun v W => IsSl 1 (fun v W => ItemsP Any W v [kItem]) v W) :: .ok (fun v W => IsAg 1 (fun u => .agg #[.int .u8 6, .int .i64 0, .slice none 0 0, u, .int .i64 0, .int .u64 0, .slice none 0 0]) (fun v W => ItemsP Any W v [kItem]) v W) :: .eq _ :: .eq _ :: .ok (fun v W => IsSl 13 (fun v W => WansP W v badW) v W) :: .ok (fun v W => IsSl 13 (fun v W => WansP W v badW) v W) :: []) (by kernel_rfl) (by kernel_rfl) ⟨fun v W W' hg ⟨h, e, hi⟩ => ⟨h, e, Sl.below hi hg⟩, fun v W W' hg ⟨h, e, hi⟩ => ⟨h, e, Sl.below hi hg⟩, fun v W W' hg ⟨h, e, hi⟩ => ⟨h, e, ItemsP.gr hi hg⟩, fun v W W' hg ⟨h, e, hi⟩ => ⟨h, e, ItemsP.gr hi hg⟩, fun v W W' hg ⟨h, e, hi⟩ => ⟨h, e, ItemsP.gr hi hg⟩, fun v W W' hg ⟨h, e, hi⟩ => ⟨h, e, ItemsP.gr hi hg⟩, fun v W W' hg ⟨h, e, hi⟩ => ⟨h, e, ItemsP.gr hi hg⟩, fun v W W' hg ⟨h, e, hi⟩ => ⟨h, e, ItemsP.gr hi hg⟩, fun v W W' hg ⟨h, e, hi⟩ => ⟨h, e, WansP.gr hi hg⟩, fun v W W' hg ⟨h, e, hi⟩ => ⟨h, e, WansP.gr hi hg⟩, trivial⟩
      apply wpG_eq
      · intro W hW hs
        have q := bb0
        unfold opG
        go_simp
        first | exact resG_eq_mk _ _ _ | rfl
      simp only [Act.put, pt1, pt2, pt3]
      apply wpG_eq
      · intro W hW hs
        have q := bb1
        unfold opG
        go_simp
        first | exact resG_eq_mk _ _ _ | rfl
      simp only [Act.put, pt1, pt2, pt3]
      apply wpG_eq
      · intro W hW hs
        have q := bb2
        unfold opG
        go_simp
        first | exact resG_eq_mk _ _ _ | rfl
      simp only [Act.put, pt1, pt2, pt3]
      apply wpG_eq
      · intro W hW hs
        have q := bb3
        unfold opG
        go_simp
        first | exact resG_eq_mk _ _ _ | rfl
      simp only [Act.put, pt1, pt2, pt3]
      apply wpG_eq
      · intro W hW hs
        have q := bb4
        unfold opG
        go_simp
        first | exact resG_eq_mk _ _ _ | rfl
      simp only [Act.put, pt1, pt2, pt3]
      apply wpG_eq
      · intro W hW hs
        have q := bb5
        unfold opG
        go_simp
        first | exact resG_eq_mk _ _ _ | rfl
      simp only [Act.put, pt1, pt2, pt3]
      apply wpG_ok
      · intro W hW hs
        obtain ⟨wm, hrm, om, gm⟩ := run_make_n W 4 (by decide)
        have hrm2 : (Instr.makeSlice 22 (.int .i64 4) (.int .i64 4)).run Try.prog W = .ok (.slice (some ⟨W.heap.size, 0, none⟩) 4 4) wm := hrm
        clear hrm
        unfold opG
        go_simp
        exact resG_mk gm ⟨_, rfl, om.sl⟩
      intro v6
      simp only [Act.put, pt1, pt2, pt3]
      apply wpG_ok
      · intro W hW hs
        obtain ⟨h, rfl, hi⟩ := hs _ (.head _) (by rfl)
        have q := bb6 (some ⟨h, 0, none⟩) 4 4
        unfold opG
        go_simp
        exact resG_mk (Gr.refl W) ⟨_, rfl, hi⟩
      intro v7
      simp only [Act.put, pt1, pt2, pt3]
      apply wpG_eq
      · intro W hW hs
        unfold opG
        go_simp
        first | exact resG_eq_mk _ _ _ | rfl
      simp only [Act.put, pt1, pt2, pt3]
      apply wpG_eq
      · intro W hW hs
        have q := bb7 (some ⟨b4, 0, none⟩) 3 3
        unfold opG
        go_simp
        first | exact resG_eq_mk _ _ _ | rfl
      simp only [Act.put, pt1, pt2, pt3]
      apply wpG_eq
      · intro W hW hs
        unfold opG
        go_simp
        first | exact resG_eq_mk _ _ _ | rfl
      simp only [Act.put, pt1, pt2, pt3]
      apply wpG_eq
      · intro W hW hs
        have q := bb8 (some ⟨b4, 0, none⟩) 3 3
        unfold opG
        go_simp
        first | exact resG_eq_mk _ _ _ | rfl
      simp only [Act.put, pt1, pt2, pt3]
      apply wpG_ok
      · intro W hW hs
        obtain ⟨wm, hrm, om, gm⟩ := run_make_items W 9 (by decide)
        have hrm2 : (Instr.makeSlice 23 (.int .i64 9) (.int .i64 9)).run Try.prog W = .ok (.slice (some ⟨W.heap.size, 0, none⟩) 9 9) wm := hrm
        clear hrm
        unfold opG
        go_simp
        exact resG_mk gm ⟨_, rfl, om⟩
      intro v12
      simp only [Act.put, pt1, pt2, pt3]
      apply wpG_ok
      · intro W hW hs
        obtain ⟨h, rfl, hi⟩ := hs _ (.head _) (by rfl)
        have q := bb9 (some ⟨h, 0, none⟩) 9 9
        unfold opG
        go_simp
        exact resG_mk (Gr.refl W) ⟨_, rfl, hi⟩
      intro v13
      simp only [Act.put, pt1, pt2, pt3]
      apply wpG_eq
      · intro W hW hs
        have q := bkOdd
        unfold opG
        go_simp
        first | exact resG_eq_mk _ _ _ | rfl
      simp only [Act.put, pt1, pt2, pt3]
      apply wpG_ok
      · intro W hW hs
        unfold opG
        go_simp
        exact resG_mk ((Gr.refl W).alloc _) ⟨_, rfl, odd_item W⟩
      intro v15
      simp only [Act.put, pt1, pt2, pt3]
      apply wpG_ok
      · intro W hW hs
        obtain ⟨h, rfl, hi⟩ := hs _ (.head _) (by rfl)
        have q := bb9 (some ⟨h, 0, none⟩) 1 1
        unfold opG
        go_simp
        exact resG_mk (Gr.refl W) ⟨_, rfl, hi⟩
      intro v16
      simp only [Act.put, pt1, pt2, pt3]
      apply wpG_eq
      · intro W hW hs
        obtain ⟨c0, c1, c2, c3, c4, c5, c6⟩ := T3.out W (GD2.out.trans hW)
        unfold opG
        go_simp
        first | exact resG_eq_mk _ _ _ | rfl
      simp only [Act.put, pt1, pt2, pt3]
      apply wpG_ok
      · intro W hW hs
        unfold opG
        go_simp
        exact resG_mk ((Gr.refl W).alloc _) ⟨_, rfl, one_item W _ _ (P3.out.gr (GD2.out.trans hW))⟩
      intro v18
      simp only [Act.put, pt1, pt2, pt3]
      apply wpG_ok
      · intro W hW hs
        obtain ⟨h, rfl, hi⟩ := hs _ (.head _) (by rfl)
        have q := bb11 (some ⟨h, 0, none⟩) 1 1
        unfold opG
        go_simp
        exact resG_mk (Gr.refl W) ⟨_, rfl, hi⟩
      intro v19
      simp only [Act.put, pt1, pt2, pt3]
      apply wpG_eq
      · intro W hW hs
        unfold opG
        go_simp
        first | exact resG_eq_mk _ _ _ | rfl
      simp only [Act.put, pt1, pt2, pt3]
      apply wpG_eq
      · intro W hW hs
        have q := bb12 (some ⟨b4, 0, none⟩) 3 3
        unfold opG
        go_simp
        first | exact resG_eq_mk _ _ _ | rfl
      simp only [Act.put, pt1, pt2, pt3]
      apply wpG_ok
      · intro W hW hs
        obtain ⟨h4, rfl, hz⟩ := hs _ (.tail _ (.tail _ (.tail _ (.tail _ (.tail _ (.tail _ (.head _))))))) (by rfl)
        obtain ⟨h9, rfl, h9i⟩ := hs _ (.tail _ (.tail _ (.tail _ (.tail _ (.head _))))) (by rfl)
        obtain ⟨h1, rfl, h1i⟩ := hs _ (.tail _ (.tail _ (.head _))) (by rfl)
        obtain ⟨hk, rfl, hki⟩ := hs _ (.head _) (by rfl)
        unfold opG
        go_simp
        exact resG_mk ((Gr.refl W).alloc _) ⟨_, rfl, badW_new W _ h4 h9 h1 hk (SV.out W (GD2.out.trans hW)) hz h9i h1i hki⟩
      intro v22
      simp only [Act.put, pt1, pt2, pt3]
      apply wpG_ok
      · intro W hW hs
        obtain ⟨h, rfl, hi⟩ := hs _ (.head _) (by rfl)
        unfold opG
        go_simp
        exact resG_mk (Gr.refl W) ⟨_, rfl, hi⟩
      intro v23
      simp only [Act.put, pt1, pt2, pt3]
      apply wpG_nil
      intro W12 hW12 hsAll
      obtain ⟨gb2, rfl, hbad⟩ := hsAll _ (.head _)
      clear hsAll
      have HG := Lib.hid hbad
      have GW12 := Lib.hid (G4.out.trans (GWo.out.trans (GD2.out.trans hW12)))
      have ROWS := Lib.hid badW_row
      have MAYS : Hid (∀ x ∈ badW, mayW x = false) := Lib.hid (fun x hx => by have h := List.all_eq_true.1 badW_may x hx; simpa using h)
      clear hbad hW12
      go_wp2_with fail
      go_loopw [10, 11, 12] (fun i _ _ wr => ∃ k : Nat, k ≤ 13 ∧ i = .int .i64 k ∧ Gr W12 wr) (fun i _ _ _ => 13 - (intOf i).toNat)
      case atStart => exact ⟨0, by decide, rfl, Gr.refl _⟩
      case round =>
        obtain ⟨k, hk, rfl, gw⟩ := hrel
        obtain ⟨wq, rfl⟩ : ∃ wo : World, wo = wr := ⟨_, rfl⟩
        have GV := Lib.hid gw
        clear gw
        by_cases hlt : k < 13
        · have hlt' : k < badW.length := hlt
          obtain ⟨q, hp, hb, hc⟩ := WansP.row (xs := badW) (HG.out.gr GV.out) k hlt'
          have hrow := ROWS.out badW[k] (List.getElem_mem hlt')
          have hmay := MAYS.out badW[k] (List.getElem_mem hlt')
          generalize badW[k] = x at *
          obtain ⟨hok, hln, hsh⟩ := hrow
          have PUT : Hid (Calls Try.prog 10 #[.agg (wC x q).toArray] wq (RetPutW wq x)) := Lib.hid (putW_any wq x _ _ _ hp hok hln)
          have PE : Hid (putW x = ([], 1)) := Lib.hid (by unfold putW; rw [hmay]; rfl)
          obtain ⟨q1, q2, q3⟩ := q
          obtain ⟨va, vc, rfl, _, _⟩ := Sl.numsAt' hp.1.1
          obtain ⟨fa, fc, rfl, _, _⟩ := Sl.numsAt' hp.2.2.1
          obtain ⟨ia, ic, rfl⟩ := hp.2.1.shape
          obtain ⟨nv, hnv⟩ : ∃ n, n = x.vector.length := ⟨_, rfl⟩
          obtain ⟨nf, hnf⟩ : ∃ n, n = x.frontier.length := ⟨_, rfl⟩
          obtain ⟨n, hn⟩ : ∃ n, n = x.items.length := ⟨_, rfl⟩
          rw [← hnv, ← hnf, ← hn] at PUT hc
          have c0 := hc 0 _ rfl
          have c1 := hc 1 _ rfl
          have c2 := hc 2 _ rfl
          have c3 := hc 3 _ rfl
          have c4 := hc 4 _ rfl
          have c5 := hc 5 _ rfl
          have c6 := hc 6 _ rfl
          simp only [Nat.add_zero] at c0
          dsimp only at c2 c3 c6
          have HA : Hid ((.agg #[.int .u8 (x.kind : Int), .int .i64 x.site, .slice va nv vc, .slice ia n ic, .int .i64 x.region, .int .u64 (x.epoch : Int), .slice fa nf fc] : Value) = .agg (wC x (.slice va nv vc, .slice ia n ic, .slice fa nf fc)).toArray) := Lib.hid rfl
          have i1 : (0 : Int) ≤ (k : Int) := by omega
          have i2 : (k : Int) < 13 := by omega
          clear hp hb hc hmay hok hln hsh hlt' hnv hnf hn
          go_wp2_with fail
          rw [HA.out]
          refine PUT.out.mono ?_
          rintro en w5 ⟨v5, he5, s5, g5⟩
          rw [PE.out] at he5 s5
          subst he5
          obtain ⟨a5, c5', rfl⟩ := s5.oneCells
          have e0 : (bytes ([] : List UInt8)).length = 0 := rfl
          rw [e0]
          have G5 := Lib.hid (GV.out.trans g5)
          clear s5 g5 PUT PE c0 c1 c2 c3 c4 c5 c6 e0
          go_wp2
          go_roundw
          case rel => first | exact ⟨k + 1, by omega, by go_num, G5.out⟩ | ((repeat apply Exists.intro); apply And.intro; rotate_left; rfl; exact ⟨k + 1, by omega, by go_num, G5.out⟩)
          case measure => simp [intOf]; omega
        · obtain rfl : k = 13 := by omega
          have GV2 := Lib.hid (GW12.out.trans GV.out)
          clear T3 SV P3 HG ROWS MAYS GD2
          go_wp2_with fail
          refine (getW_any wq (.slice none 0 0) [] (Sl.nil _ _ _) (by decide)).mono ?_
          intro en x1 h1
          obtain ⟨r1, rfl, p1, g1⟩ := retGetW3 h1
          rw [getW_nil]
          obtain ⟨E1, hE1⟩ : ∃ E, E = wC (getW []).1 r1 := ⟨_, rfl⟩
          have E1N : Hid (E1.length = 7) := Lib.hid (by rw [hE1]; rfl)
          have E11 : Hid (oneAll E1) := Lib.hid (by rw [hE1]; exact p1.one)
          rw [← hE1]
          have G1 := Lib.hid (GV2.out.trans g1)
          clear h1 p1 g1 hE1
          go_wp2_with (first | (refine wpList_storeE wanTy _ _ rfl rfl rfl rfl (CellsAt.new _ _ _) E1N.out rfl E11.out ?_) | fail)
          intro y1 k1 ch1
          have gy1 : Gr x1 y1 := Below.trans ((Gr.refl x1).alloc _) (ch1.below ((Gr.refl x1).alloc _).size (fun k hk => by have : k = x1.heap.size := hk; omega))
          have GY1 := Lib.hid (G1.out.trans gy1)
          clear k1 ch1 gy1
          have hs2 : Sl (y1.alloc (.cells #[.int .u8 16, .int .u8 0] 5)) (.slice (some ⟨y1.heap.size, 0, none⟩) 2 2) (bytes [16, 0]) := Sl.new y1 (bytes [16, 0]) _ _ _ _ rfl (by decide)
          have HS2 := Lib.hid hs2
          have GA2 := Lib.hid (GY1.out.trans ((Gr.refl y1).alloc (.cells #[.int .u8 16, .int .u8 0] 5)))
          clear hs2
          go_wp2_with fail
          refine (getW_any _ _ [16, 0] HS2.out (by decide)).mono ?_
          intro en x2 h2
          obtain ⟨r2, rfl, p2, g2⟩ := retGetW3 h2
          rw [getW_k1]
          obtain ⟨E2, hE2⟩ : ∃ E, E = wC (getW [16, 0]).1 r2 := ⟨_, rfl⟩
          have E2N : Hid (E2.length = 7) := Lib.hid (by rw [hE2]; rfl)
          have E21 : Hid (oneAll E2) := Lib.hid (by rw [hE2]; exact p2.one)
          rw [← hE2]
          have G2 := Lib.hid (GA2.out.trans g2)
          clear h2 p2 g2 hE2
          go_wp2_with (first | (refine wpList_storeE wanTy _ _ rfl rfl rfl rfl (CellsAt.new _ _ _) E2N.out rfl E21.out ?_) | fail)
          intro y2 k2 ch2
          have gy2 : Gr x2 y2 := Below.trans ((Gr.refl x2).alloc _) (ch2.below ((Gr.refl x2).alloc _).size (fun k hk => by have : k = x2.heap.size := hk; omega))
          have GY2 := Lib.hid (G2.out.trans gy2)
          clear k2 ch2 gy2
          have hs3 : Sl (y2.alloc (.cells #[.int .u8 21, .int .u8 3, .int .u8 0, .int .u8 0, .int .u8 0, .int .u8 0, .int .u8 0, .int .u8 0, .int .u8 0, .int .u8 0] 5)) (.slice (some ⟨y2.heap.size, 0, none⟩) 10 10) (bytes [21, 3, 0, 0, 0, 0, 0, 0, 0, 0]) := Sl.new y2 (bytes [21, 3, 0, 0, 0, 0, 0, 0, 0, 0]) _ _ _ _ rfl (by decide)
          have HS3 := Lib.hid hs3
          have GA3 := Lib.hid (GY2.out.trans ((Gr.refl y2).alloc (.cells #[.int .u8 21, .int .u8 3, .int .u8 0, .int .u8 0, .int .u8 0, .int .u8 0, .int .u8 0, .int .u8 0, .int .u8 0, .int .u8 0] 5)))
          clear hs3
          go_wp2_with fail
          refine (getW_any _ _ [21, 3, 0, 0, 0, 0, 0, 0, 0, 0] HS3.out (by decide)).mono ?_
          intro en x3 h3
          obtain ⟨r3, rfl, p3, g3⟩ := retGetW3 h3
          rw [getW_k2]
          obtain ⟨E3, hE3⟩ : ∃ E, E = wC (getW [21, 3, 0, 0, 0, 0, 0, 0, 0, 0]).1 r3 := ⟨_, rfl⟩
          have E3N : Hid (E3.length = 7) := Lib.hid (by rw [hE3]; rfl)
          have E31 : Hid (oneAll E3) := Lib.hid (by rw [hE3]; exact p3.one)
          rw [← hE3]
          have G3 := Lib.hid (GA3.out.trans g3)
          clear h3 p3 g3 hE3
          go_wp2_with (first | (refine wpList_storeE wanTy _ _ rfl rfl rfl rfl (CellsAt.new _ _ _) E3N.out rfl E31.out ?_) | fail)
          intro y3 k3 ch3
          have gy3 : Gr x3 y3 := Below.trans ((Gr.refl x3).alloc _) (ch3.below ((Gr.refl x3).alloc _).size (fun k hk => by have : k = x3.heap.size := hk; omega))
          have GY3 := Lib.hid (G3.out.trans gy3)
          clear k3 ch3 gy3
          go_wp2_with fail
          refine (tells_any y3).mono ?_
          rintro en w9 ⟨rfl, g9⟩
          have G9 := Lib.hid (GY3.out.trans g9)
          clear g9
          go_wp2
          go_ret
          exact ⟨rfl, G9.out⟩
open Go.ChangeShapes Go.WideShapes Go.ChangeAt Go.RowKit
open Go.ChangeMaps (open_string shut_string)
theorem own_wanKnown : ownKnob Try.prog.godebug = none := by kernel_rfl
theorem laidOut_wanKnown : laidOutB Try.prog = true := by kernel_rfl
set_option maxRecDepth 100000 in
theorem lifted_wanKnown (os : Os) (started : os.Started) (H : Type) (enc : TypeId × Value → H) :
    ReturnsInHanded {} Try.checked os 7 .any (Rows.wanKnownSpec.pre6 enc Try.prog Try.f7 Rows.wanKnownRow.domain false) (Rows.wanKnownSpec.post enc Try.prog Try.f7 false true false false) := by
  refine returnsInHanded_of_change (C := Try.checked) own_wanKnown started (by kernel_rfl) Try.func7
    (ChangeSpec.witness6 (enc := enc) (C := Try.checked) false ⟨#[], #[], []⟩ 8 (by kernel_rfl) (by kernel_rfl) (by kernel_rfl) (by kernel_rfl)) ?_
  intro W base args ds gs before hval0 hW hcnd _
  have hval : ∀ (j : Nat) t v, Try.f7.params[j]? = some t → args[j]? = some v → Value.okWide Try.prog W .any base t v := hval0
  have hW' := hW
  obtain ⟨p, q, hA0, hV, rfl, hfz, hnd⟩ := hW
  have hA : DataW.TrodAll enc Try.prog W 0 (fun _ => true) true Try.f7.params.toList args.toList ds p := hA0
  rw [Try.params7] at hA hval
  obtain ⟨rfl, rfl, rfl⟩ := trodAll_none hA
  obtain ⟨rfl, rfl⟩ := trodVars_none hV
  clear hA0 hval0
  simp only [List.append_nil] at hW'
  refine (wknown_walk W ).mono fun e W' ⟨he, bel⟩ => ?_
  subst he
  exact ⟨_, rfl, _, _, _, [], _, [], hW', trodAll_mk1 (shut_bool Try.underlying4 _), trodAll_mk0, rfl, bel.frame _, fun h => by cases h⟩
theorem over_wanKnown : Rows.wanKnownRow.holds Try.pinned (OpenSpec.ofChange Rows.wanKnownSpec) :=
  OpenClaim.holds_of_wide 7 Try.f7 rfl rfl rfl rfl rfl rfl rfl ⟨rfl, rfl, rfl, rfl, rfl⟩ rfl rfl rfl rfl rfl (by kernel_rfl) Try.func7 (by kernel_rfl)
    (of_decide_eq_true (by kernel_rfl)) (by unfold Func.isWrapper; first | (rw [if_pos (by decide +kernel)]; kernel_rfl) | (rw [if_neg (by decide +kernel)]; exact ⟨rfl, rfl⟩))
    (fun os started H enc _ => lifted_wanKnown os started H enc)
theorem wanKnown_proved : Rows.WanKnownSaid := over_wanKnown
#print axioms wanKnown_proved
end Go.Proofs.Ytgilijkmmcpfjaa
