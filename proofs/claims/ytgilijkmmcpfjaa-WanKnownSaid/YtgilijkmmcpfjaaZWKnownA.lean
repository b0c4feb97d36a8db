/-
  The rows of WanKnown.
-/
import Derived.Test.YtgilijkmmcpfjaaZWRows
set_option linter.unusedVariables false
set_option linter.unusedSimpArgs false
set_option maxRecDepth 100000
namespace Go.Proofs.Ytgilijkmmcpfjaa
open Go.RowKit
def kItem : ItemD := ⟨2, 4, 3, 7, [1, 2, 3], [⟨[47, 98], true, zeroN⟩], 0⟩
def kOdd : ItemD := ⟨3, 0, 0, 0, [], [], 0⟩
def goodW : List WanD := [⟨1, 2, [1, 2, 3], [], 0, 0, []⟩, ⟨2, 0, [], [kItem, kItem], 0, 0, []⟩, ⟨2, 0, [], [], 0, 0, []⟩, ⟨3, 1, [], [], 3, 9223372036854775808, [1, 2, 3]⟩, ⟨4, 0, [], [], 1, 2, []⟩, ⟨5, 1, [], [], 0, 0, []⟩, ⟨6, 0, [], [], 0, 2, [1]⟩]
def badW : List WanD := [⟨0, 0, [], [], 0, 0, []⟩, ⟨7, 0, [], [], 0, 0, []⟩, ⟨5, 3, [], [], 0, 0, []⟩, ⟨5, -1, [], [], 0, 0, []⟩, ⟨5, 0, [], [], 4, 0, []⟩, ⟨1, 0, [], [], 1, 0, []⟩, ⟨1, 0, [0, 0, 0, 0], [], 0, 0, []⟩, ⟨1, 0, [], [], 0, 0, [1, 2, 3]⟩, ⟨4, 0, [], [], 0, 0, [1, 2, 3]⟩, ⟨2, 0, [], List.replicate 9 zeroI, 0, 0, []⟩, ⟨2, 0, [], [kOdd], 0, 0, []⟩, ⟨6, 0, [], [kItem], 0, 0, []⟩, ⟨3, 0, [1, 2, 3], [], 0, 0, []⟩]
theorem goodW_may : goodW.all mayW = true := by decide +kernel
theorem badW_may : (badW.all fun x => !mayW x) = true := by decide +kernel
theorem kNode_ok : EffOk ⟨[47, 98], true, zeroN⟩ := by
  refine ⟨?_, ?_, ?_, ?_, ?_, ?_, ?_, ?_⟩ <;> first | decide | (unfold I64; simp [zeroN])
theorem kItem_ok : ItemOk kItem := ⟨by unfold I64 kItem; simp, by decide, by unfold I64 kItem; simp, by decide, by decide, fun e he => by
  obtain rfl : e = ⟨[47, 98], true, zeroN⟩ := by simpa [kItem] using he
  exact kNode_ok, by decide⟩
theorem kOdd_ok : ItemOk kOdd := ⟨by unfold I64 kOdd; simp, by decide, by unfold I64 kOdd; simp, by decide, by decide, fun e he => (by cases he), by decide⟩
theorem zeroI_ok' : ItemOk zeroI := ⟨by unfold I64 zeroI; simp, by decide, by unfold I64 zeroI; simp, by decide, by decide, fun e he => (by cases he), by decide⟩
/-- What is asked of each row. -/
def RowOk (x : WanD) : Prop := WanOk x ∧ WanLen x ∧ WanShort x
theorem rowOk_mk {x : WanD} (h1 : x.kind < 256) (h2 : I64 x.site) (h3 : (x.vector.all fun k => decide (k < 2 ^ 64)) = true) (h4 : I64 x.region) (h5 : x.epoch < 2 ^ 64) (h6 : (x.frontier.all fun k => decide (k < 2 ^ 64)) = true) (h7 : x.vector.length ≤ 10) (h8 : x.frontier.length ≤ 10) (h9 : x.items.length ≤ 10) (h : ∀ y ∈ x.items, ItemOk y ∧ y.stamp.length ≤ 10 ∧ y.effs.length ≤ 10) : RowOk x :=
  ⟨⟨h1, h2, fun k hk => of_decide_eq_true (List.all_eq_true.1 h3 k hk), fun y hy => (h y hy).1, h4, h5, fun k hk => of_decide_eq_true (List.all_eq_true.1 h6 k hk)⟩, ⟨Nat.le_trans h9 (by decide), fun y hy => Nat.le_trans (h y hy).2.2 (by decide)⟩,
    ⟨Nat.le_trans h7 (by decide), Nat.le_trans h9 (by decide), Nat.le_trans h8 (by decide), fun y hy => ⟨Nat.le_trans (h y hy).2.1 (by decide), Nat.le_trans (h y hy).2.2 (by decide)⟩⟩⟩
theorem kItem_row : ItemOk kItem ∧ kItem.stamp.length ≤ 10 ∧ kItem.effs.length ≤ 10 := ⟨kItem_ok, by decide, by decide⟩
theorem kOdd_row : ItemOk kOdd ∧ kOdd.stamp.length ≤ 10 ∧ kOdd.effs.length ≤ 10 := ⟨kOdd_ok, by decide, by decide⟩
theorem zeroI_row : ItemOk zeroI ∧ zeroI.stamp.length ≤ 10 ∧ zeroI.effs.length ≤ 10 := ⟨zeroI_ok', by decide, by decide⟩
theorem goodW_row : ∀ x ∈ goodW, RowOk x := by
  intro x hx
  simp only [goodW, List.mem_cons, List.not_mem_nil, or_false] at hx
  rcases hx with rfl | rfl | rfl | rfl | rfl | rfl | rfl
  · exact rowOk_mk (by decide) (by unfold I64; simp) (by decide) (by unfold I64; simp) (by decide) (by decide) (by decide) (by decide) (by decide) (fun y hy => (by cases hy))
  · exact rowOk_mk (by decide) (by unfold I64; simp) (by decide) (by unfold I64; simp) (by decide) (by decide) (by decide) (by decide) (by decide) (fun y hy => by rw [show y = kItem by simpa using hy]; exact kItem_row)
  · exact rowOk_mk (by decide) (by unfold I64; simp) (by decide) (by unfold I64; simp) (by decide) (by decide) (by decide) (by decide) (by decide) (fun y hy => (by cases hy))
  · exact rowOk_mk (by decide) (by unfold I64; simp) (by decide) (by unfold I64; simp) (by decide) (by decide) (by decide) (by decide) (by decide) (fun y hy => (by cases hy))
  · exact rowOk_mk (by decide) (by unfold I64; simp) (by decide) (by unfold I64; simp) (by decide) (by decide) (by decide) (by decide) (by decide) (fun y hy => (by cases hy))
  · exact rowOk_mk (by decide) (by unfold I64; simp) (by decide) (by unfold I64; simp) (by decide) (by decide) (by decide) (by decide) (by decide) (fun y hy => (by cases hy))
  · exact rowOk_mk (by decide) (by unfold I64; simp) (by decide) (by unfold I64; simp) (by decide) (by decide) (by decide) (by decide) (by decide) (fun y hy => (by cases hy))
theorem badW_row : ∀ x ∈ badW, RowOk x := by
  intro x hx
  simp only [badW, List.mem_cons, List.not_mem_nil, or_false] at hx
  rcases hx with rfl | rfl | rfl | rfl | rfl | rfl | rfl | rfl | rfl | rfl | rfl | rfl | rfl
  · exact rowOk_mk (by decide) (by unfold I64; simp) (by decide) (by unfold I64; simp) (by decide) (by decide) (by decide) (by decide) (by decide) (fun y hy => (by cases hy))
  · exact rowOk_mk (by decide) (by unfold I64; simp) (by decide) (by unfold I64; simp) (by decide) (by decide) (by decide) (by decide) (by decide) (fun y hy => (by cases hy))
  · exact rowOk_mk (by decide) (by unfold I64; simp) (by decide) (by unfold I64; simp) (by decide) (by decide) (by decide) (by decide) (by decide) (fun y hy => (by cases hy))
  · exact rowOk_mk (by decide) (by unfold I64; simp) (by decide) (by unfold I64; simp) (by decide) (by decide) (by decide) (by decide) (by decide) (fun y hy => (by cases hy))
  · exact rowOk_mk (by decide) (by unfold I64; simp) (by decide) (by unfold I64; simp) (by decide) (by decide) (by decide) (by decide) (by decide) (fun y hy => (by cases hy))
  · exact rowOk_mk (by decide) (by unfold I64; simp) (by decide) (by unfold I64; simp) (by decide) (by decide) (by decide) (by decide) (by decide) (fun y hy => (by cases hy))
  · exact rowOk_mk (by decide) (by unfold I64; simp) (by decide) (by unfold I64; simp) (by decide) (by decide) (by decide) (by decide) (by decide) (fun y hy => (by cases hy))
  · exact rowOk_mk (by decide) (by unfold I64; simp) (by decide) (by unfold I64; simp) (by decide) (by decide) (by decide) (by decide) (by decide) (fun y hy => (by cases hy))
  · exact rowOk_mk (by decide) (by unfold I64; simp) (by decide) (by unfold I64; simp) (by decide) (by decide) (by decide) (by decide) (by decide) (fun y hy => (by cases hy))
  · exact rowOk_mk (by decide) (by unfold I64; simp) (by decide) (by unfold I64; simp) (by decide) (by decide) (by decide) (by decide) (by decide) (fun y hy => by rw [(List.mem_replicate.1 hy).2]; exact zeroI_row)
  · exact rowOk_mk (by decide) (by unfold I64; simp) (by decide) (by unfold I64; simp) (by decide) (by decide) (by decide) (by decide) (by decide) (fun y hy => by rw [show y = kOdd by simpa using hy]; exact kOdd_row)
  · exact rowOk_mk (by decide) (by unfold I64; simp) (by decide) (by unfold I64; simp) (by decide) (by decide) (by decide) (by decide) (by decide) (fun y hy => by rw [show y = kItem by simpa using hy]; exact kItem_row)
  · exact rowOk_mk (by decide) (by unfold I64; simp) (by decide) (by unfold I64; simp) (by decide) (by decide) (by decide) (by decide) (by decide) (fun y hy => (by cases hy))
theorem stampB_leK (l : List Nat) (h : l.length ≤ 3) : (stampB l).length ≤ 32 := by rw [stampB_length]; omega
theorem opt_leK (c : Bool) (l : List UInt8) (n : Nat) (h : l.length ≤ n) : (opt c l).length ≤ n := by
  cases c with
  | true => exact h
  | false => exact Nat.zero_le _
theorem wanB_lenK {x : WanD} (m : MayW x) : 1 ≤ (wanB x).length ∧ (wanB x).length ≤ 50000 := by
  have h1 := opt_leK (hasR x.kind) (be 8 (u64 x.region)) 8 (by rw [be_length]; exact Nat.le_refl _)
  have h2 := opt_leK (hasE x.kind) (be 8 x.epoch) 8 (by rw [be_length]; exact Nat.le_refl _)
  have h3 := opt_leK (hasV x.kind) (stampB x.vector) 32 (stampB_leK _ m.vec_le)
  have h4 := opt_leK (hasF x.kind) (stampB x.frontier) 32 (stampB_leK _ m.fro_le)
  have h5 := opt_leK (hasI x.kind) (itemsB x.items) 40000 (by
    have h6 := items_le x.items m.all
    have h7 := m.items_le
    unfold itemsB
    rw [List.length_append, be_length]; omega)
  unfold wanB bodyB
  simp only [List.length_append, be_length]
  omega
theorem getW_nil : (getW []).2 = 2 := by decide +kernel
theorem getW_k1 : (getW [16, 0]).2 = 2 := by decide +kernel
theorem getW_k2 : (getW [21, 3, 0, 0, 0, 0, 0, 0, 0, 0]).2 = 2 := by decide +kernel
theorem goodW_new (W : World) (a : Option Addr) (h2 : Nat) (hv : Sl W (.slice a 3 3) (nums [1, 2, 3])) (hv1 : Sl W (.slice a 1 3) (nums [1])) (hi : ItemsP Any W (.slice (some ⟨h2, 0, none⟩) 2 2) [kItem, kItem]) : WansP (W.alloc (.cells #[.int .u8 1, .int .i64 2, .slice a 3 3, .slice none 0 0, .int .i64 0, .int .u64 0, .slice none 0 0, .int .u8 2, .int .i64 0, .slice none 0 0, .slice (some ⟨h2, 0, none⟩) 2 2, .int .i64 0, .int .u64 0, .slice none 0 0, .int .u8 2, .int .i64 0, .slice none 0 0, .slice none 0 0, .int .i64 0, .int .u64 0, .slice none 0 0, .int .u8 3, .int .i64 1, .slice none 0 0, .slice none 0 0, .int .i64 3, .int .u64 9223372036854775808, .slice a 3 3, .int .u8 4, .int .i64 0, .slice none 0 0, .slice none 0 0, .int .i64 1, .int .u64 2, .slice none 0 0, .int .u8 5, .int .i64 1, .slice none 0 0, .slice none 0 0, .int .i64 0, .int .u64 0, .slice none 0 0, .int .u8 6, .int .i64 0, .slice none 0 0, .slice none 0 0, .int .i64 0, .int .u64 2, .slice a 1 3] 26)) (.slice (some ⟨W.heap.size, 0, none⟩) 7 7) goodW := by
  have h := WansP.new W [(⟨1, 2, [1, 2, 3], [], 0, 0, []⟩, (.slice a 3 3, .slice none 0 0, .slice none 0 0)), (⟨2, 0, [], [kItem, kItem], 0, 0, []⟩, (.slice none 0 0, .slice (some ⟨h2, 0, none⟩) 2 2, .slice none 0 0)), (⟨2, 0, [], [], 0, 0, []⟩, (.slice none 0 0, .slice none 0 0, .slice none 0 0)), (⟨3, 1, [], [], 3, 9223372036854775808, [1, 2, 3]⟩, (.slice none 0 0, .slice none 0 0, .slice a 3 3)), (⟨4, 0, [], [], 1, 2, []⟩, (.slice none 0 0, .slice none 0 0, .slice none 0 0)), (⟨5, 1, [], [], 0, 0, []⟩, (.slice none 0 0, .slice none 0 0, .slice none 0 0)), (⟨6, 0, [], [], 0, 2, [1]⟩, (.slice none 0 0, .slice none 0 0, .slice a 1 3))] (by
    intro p hp
    simp only [List.mem_cons, List.not_mem_nil, or_false] at hp
    rcases hp with rfl | rfl | rfl | rfl | rfl | rfl | rfl
    · exact ⟨hv.any, ItemsP.nil _ _ _ _, SlP.nil _ _ _ _⟩
    · exact ⟨SlP.nil _ _ _ _, hi, SlP.nil _ _ _ _⟩
    · exact ⟨SlP.nil _ _ _ _, ItemsP.nil _ _ _ _, SlP.nil _ _ _ _⟩
    · exact ⟨SlP.nil _ _ _ _, ItemsP.nil _ _ _ _, hv.any⟩
    · exact ⟨SlP.nil _ _ _ _, ItemsP.nil _ _ _ _, SlP.nil _ _ _ _⟩
    · exact ⟨SlP.nil _ _ _ _, ItemsP.nil _ _ _ _, SlP.nil _ _ _ _⟩
    · exact ⟨SlP.nil _ _ _ _, ItemsP.nil _ _ _ _, hv1.any⟩)
  exact h
theorem badW_new (W : World) (a : Option Addr) (h4 h9 h1 hk : Nat) (hv : Sl W (.slice a 3 3) (nums [1, 2, 3])) (hz : Sl W (.slice (some ⟨h4, 0, none⟩) 4 4) (nums [0, 0, 0, 0])) (h9i : ItemsP Any W (.slice (some ⟨h9, 0, none⟩) 9 9) (List.replicate 9 zeroI)) (h1i : ItemsP Any W (.slice (some ⟨h1, 0, none⟩) 1 1) [kOdd]) (hki : ItemsP Any W (.slice (some ⟨hk, 0, none⟩) 1 1) [kItem]) : WansP (W.alloc (.cells #[.int .u8 0, .int .i64 0, .slice none 0 0, .slice none 0 0, .int .i64 0, .int .u64 0, .slice none 0 0, .int .u8 7, .int .i64 0, .slice none 0 0, .slice none 0 0, .int .i64 0, .int .u64 0, .slice none 0 0, .int .u8 5, .int .i64 3, .slice none 0 0, .slice none 0 0, .int .i64 0, .int .u64 0, .slice none 0 0, .int .u8 5, .int .i64 (Int.negSucc 0), .slice none 0 0, .slice none 0 0, .int .i64 0, .int .u64 0, .slice none 0 0, .int .u8 5, .int .i64 0, .slice none 0 0, .slice none 0 0, .int .i64 4, .int .u64 0, .slice none 0 0, .int .u8 1, .int .i64 0, .slice none 0 0, .slice none 0 0, .int .i64 1, .int .u64 0, .slice none 0 0, .int .u8 1, .int .i64 0, .slice (some ⟨h4, 0, none⟩) 4 4, .slice none 0 0, .int .i64 0, .int .u64 0, .slice none 0 0, .int .u8 1, .int .i64 0, .slice none 0 0, .slice none 0 0, .int .i64 0, .int .u64 0, .slice a 3 3, .int .u8 4, .int .i64 0, .slice none 0 0, .slice none 0 0, .int .i64 0, .int .u64 0, .slice a 3 3, .int .u8 2, .int .i64 0, .slice none 0 0, .slice (some ⟨h9, 0, none⟩) 9 9, .int .i64 0, .int .u64 0, .slice none 0 0, .int .u8 2, .int .i64 0, .slice none 0 0, .slice (some ⟨h1, 0, none⟩) 1 1, .int .i64 0, .int .u64 0, .slice none 0 0, .int .u8 6, .int .i64 0, .slice none 0 0, .slice (some ⟨hk, 0, none⟩) 1 1, .int .i64 0, .int .u64 0, .slice none 0 0, .int .u8 3, .int .i64 0, .slice a 3 3, .slice none 0 0, .int .i64 0, .int .u64 0, .slice none 0 0] 26)) (.slice (some ⟨W.heap.size, 0, none⟩) 13 13) badW := by
  have h := WansP.new W [(⟨0, 0, [], [], 0, 0, []⟩, (.slice none 0 0, .slice none 0 0, .slice none 0 0)), (⟨7, 0, [], [], 0, 0, []⟩, (.slice none 0 0, .slice none 0 0, .slice none 0 0)), (⟨5, 3, [], [], 0, 0, []⟩, (.slice none 0 0, .slice none 0 0, .slice none 0 0)), (⟨5, -1, [], [], 0, 0, []⟩, (.slice none 0 0, .slice none 0 0, .slice none 0 0)), (⟨5, 0, [], [], 4, 0, []⟩, (.slice none 0 0, .slice none 0 0, .slice none 0 0)), (⟨1, 0, [], [], 1, 0, []⟩, (.slice none 0 0, .slice none 0 0, .slice none 0 0)), (⟨1, 0, [0, 0, 0, 0], [], 0, 0, []⟩, (.slice (some ⟨h4, 0, none⟩) 4 4, .slice none 0 0, .slice none 0 0)), (⟨1, 0, [], [], 0, 0, [1, 2, 3]⟩, (.slice none 0 0, .slice none 0 0, .slice a 3 3)), (⟨4, 0, [], [], 0, 0, [1, 2, 3]⟩, (.slice none 0 0, .slice none 0 0, .slice a 3 3)), (⟨2, 0, [], List.replicate 9 zeroI, 0, 0, []⟩, (.slice none 0 0, .slice (some ⟨h9, 0, none⟩) 9 9, .slice none 0 0)), (⟨2, 0, [], [kOdd], 0, 0, []⟩, (.slice none 0 0, .slice (some ⟨h1, 0, none⟩) 1 1, .slice none 0 0)), (⟨6, 0, [], [kItem], 0, 0, []⟩, (.slice none 0 0, .slice (some ⟨hk, 0, none⟩) 1 1, .slice none 0 0)), (⟨3, 0, [1, 2, 3], [], 0, 0, []⟩, (.slice a 3 3, .slice none 0 0, .slice none 0 0))] (by
    intro p hp
    simp only [List.mem_cons, List.not_mem_nil, or_false] at hp
    rcases hp with rfl | rfl | rfl | rfl | rfl | rfl | rfl | rfl | rfl | rfl | rfl | rfl | rfl
    · exact ⟨SlP.nil _ _ _ _, ItemsP.nil _ _ _ _, SlP.nil _ _ _ _⟩
    · exact ⟨SlP.nil _ _ _ _, ItemsP.nil _ _ _ _, SlP.nil _ _ _ _⟩
    · exact ⟨SlP.nil _ _ _ _, ItemsP.nil _ _ _ _, SlP.nil _ _ _ _⟩
    · exact ⟨SlP.nil _ _ _ _, ItemsP.nil _ _ _ _, SlP.nil _ _ _ _⟩
    · exact ⟨SlP.nil _ _ _ _, ItemsP.nil _ _ _ _, SlP.nil _ _ _ _⟩
    · exact ⟨SlP.nil _ _ _ _, ItemsP.nil _ _ _ _, SlP.nil _ _ _ _⟩
    · exact ⟨hz.any, ItemsP.nil _ _ _ _, SlP.nil _ _ _ _⟩
    · exact ⟨SlP.nil _ _ _ _, ItemsP.nil _ _ _ _, hv.any⟩
    · exact ⟨SlP.nil _ _ _ _, ItemsP.nil _ _ _ _, hv.any⟩
    · exact ⟨SlP.nil _ _ _ _, h9i, SlP.nil _ _ _ _⟩
    · exact ⟨SlP.nil _ _ _ _, h1i, SlP.nil _ _ _ _⟩
    · exact ⟨SlP.nil _ _ _ _, hki, SlP.nil _ _ _ _⟩
    · exact ⟨hv.any, ItemsP.nil _ _ _ _, SlP.nil _ _ _ _⟩)
  exact h
end Go.Proofs.Ytgilijkmmcpfjaa
