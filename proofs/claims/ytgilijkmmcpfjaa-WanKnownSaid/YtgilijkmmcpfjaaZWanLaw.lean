/-
  Messages of package wan, plain: what is put is got, what is got was put; the document's answers. No program in sight.
-/
import Derived.Test.YtgilijkmmcpfjaaZWanData
import Derived.Test.YtgilijkmmcpfjaaZH
set_option linter.unusedVariables false
set_option linter.unusedSimpArgs false
namespace Go.Proofs.Ytgilijkmmcpfjaa
open Go.RowKit
theorem pair_opt {α : Type} {f : RS → α × RS} {e : α → List UInt8} {d : α → Prop} (c : Bool) (h : Pair f e d) (z : α) : Pair (rOpt c f z) (fun x => opt c (e x)) (fun x => if c then d x else x = z) where
  put := fun x r hx => by
    cases c with
    | true => exact h.put x r hx
    | false => obtain rfl : x = z := hx; rfl
  good := fun s hs => by
    cases c with
    | true => exact h.good s hs
    | false =>
      replace hs : s.2 = false := hs
      exact ⟨Prod.ext rfl hs, rfl⟩
abbrev Tup := Nat × Nat × Nat × List Nat × List Nat × List ItemD
def rTup (k : Nat) : RS → Tup × RS := rSeq rByte (rSeq (rOpt (hasR k) (rCount 3) 0) (rSeq (rOpt (hasE k) rUint 0) (rSeq (rOpt (hasV k) rStamp []) (rSeq (rOpt (hasF k) rStamp []) (rOpt (hasI k) (rList 8 rItem) [])))))
def tupB (k : Nat) (t : Tup) : List UInt8 := be 1 t.1 ++ (opt (hasR k) (be 8 t.2.1) ++ (opt (hasE k) (be 8 t.2.2.1) ++ (opt (hasV k) (stampB t.2.2.2.1) ++ (opt (hasF k) (stampB t.2.2.2.2.1) ++ opt (hasI k) (itemsB t.2.2.2.2.2)))))
def tupD (k : Nat) (t : Tup) : Prop := t.1 < 256 ∧ (if hasR k then t.2.1 ≤ 3 else t.2.1 = 0) ∧ (if hasE k then t.2.2.1 < 2 ^ 64 else t.2.2.1 = 0) ∧ (if hasV k then t.2.2.2.1.length ≤ 3 ∧ ∀ x ∈ t.2.2.2.1, x < 2 ^ 64 else t.2.2.2.1 = []) ∧ (if hasF k then t.2.2.2.2.1.length ≤ 3 ∧ ∀ x ∈ t.2.2.2.2.1, x < 2 ^ 64 else t.2.2.2.2.1 = []) ∧ (if hasI k then t.2.2.2.2.2.length ≤ 8 ∧ ∀ x ∈ t.2.2.2.2.2, itemDom x else t.2.2.2.2.2 = [])
theorem pair_count3 : Pair (rCount 3) (be 8) (· ≤ 3) := pair_count 3 (by decide)
set_option maxHeartbeats 2000000 in
theorem pair_tup (k : Nat) : Pair (rTup k) (tupB k) (tupD k) :=
  pair_byte.seq ((pair_opt _ pair_count3 0).seq ((pair_opt _ pair_uint 0).seq ((pair_opt _ pair_stamp []).seq ((pair_opt _ pair_stamp []).seq (pair_opt _ (pair_list pair_item 8 (by decide)) [])))))
def tupX (k : Nat) (t : Tup) : WanD := ⟨k, (t.1 : Int), t.2.2.2.1, t.2.2.2.2.2, (t.2.1 : Int), t.2.2.1, t.2.2.2.2.1⟩
theorem rWan_tup (s : RS) : rWan s = (tupX (k16 (rByte s).1) (rTup (k16 (rByte s).1) (rByte s).2).1, (rTup (k16 (rByte s).1) (rByte s).2).2) := by
  unfold rWan tupX rTup
  simp only [rSeq_11, rSeq_12, rSeq_2]
theorem u64_nat (n : Nat) (h : n < 2 ^ 64) : u64 (n : Int) = n := by unfold u64; omega
theorem kindW_iff (k : Nat) : kindW k = true ↔ 1 ≤ k ∧ k ≤ 6 := by simp [kindW]
theorem stampW_iff (v : List Nat) (h : Bool) : stampW v h = true ↔ v = [] ∨ (h = true ∧ v.length ≤ 3) := by simp [stampW]
structure MayW (x : WanD) : Prop where
  kind : 1 ≤ x.kind ∧ x.kind ≤ 6
  site : 0 ≤ x.site ∧ x.site < 3
  vector : x.vector = [] ∨ (hasV x.kind = true ∧ x.vector.length ≤ 3)
  frontier : x.frontier = [] ∨ (hasF x.kind = true ∧ x.frontier.length ≤ 3)
  region : x.region = 0 ∨ (hasR x.kind = true ∧ 0 < x.region ∧ x.region < 4)
  epoch : x.epoch = 0 ∨ hasE x.kind = true
  items : x.items = [] ∨ (hasI x.kind = true ∧ x.items.length ≤ 8)
  all : ∀ y ∈ x.items, mayItem y = true
theorem mayW_iff (x : WanD) : mayW x = true ↔ MayW x := by
  unfold mayW
  simp only [Bool.and_eq_true, Bool.or_eq_true, decide_eq_true_eq, kindW_iff, stampW_iff, List.all_eq_true, List.length_eq_zero_iff]
  constructor
  · rintro ⟨⟨⟨⟨⟨⟨⟨⟨h1, h2⟩, h3⟩, h4⟩, h5⟩, h6⟩, h7⟩, h8⟩, h9⟩
    exact ⟨h1, ⟨h2, h3⟩, h4, h5, h6.imp id (fun h => ⟨h.1.1, h.1.2, h.2⟩), h7, h8, h9⟩
  · rintro ⟨h1, ⟨h2, h3⟩, h4, h5, h6, h7, h8, h9⟩
    exact ⟨⟨⟨⟨⟨⟨⟨⟨h1, h2⟩, h3⟩, h4⟩, h5⟩, h6.imp id (fun h => ⟨⟨h.1, h.2.1⟩, h.2.2⟩)⟩, h7⟩, h8⟩, h9⟩
/-- The parts of a message that may be told. -/
def xTup (x : WanD) : Tup := (byteOf x.site, u64 x.region, x.epoch, x.vector, x.frontier, x.items)
theorem xTup_B (x : WanD) : be 1 (byteOf x.site) ++ bodyB x.kind x = tupB x.kind (xTup x) := rfl
theorem xTup_dom {x : WanD} (ok : WanOk x) (m : MayW x) : tupD x.kind (xTup x) := by
  refine ⟨byteOf_lt _, ?_, ?_, ?_, ?_, ?_⟩
  · have h := m.region
    show if hasR x.kind then u64 x.region ≤ 3 else u64 x.region = 0
    split
    · rcases h with h | h
      · rw [h]; decide
      · unfold u64; omega
    · rename_i hn
      rcases h with h | h
      · rw [h]; decide
      · exact absurd h.1 hn
  · show if hasE x.kind then x.epoch < 2 ^ 64 else x.epoch = 0
    split
    · exact ok.epoch
    · rename_i hn
      exact m.epoch.resolve_right hn
  · show if hasV x.kind then x.vector.length ≤ 3 ∧ ∀ k ∈ x.vector, k < 2 ^ 64 else x.vector = []
    split
    · refine ⟨?_, ok.vector⟩
      rcases m.vector with h | h
      · rw [h]; exact Nat.zero_le _
      · exact h.2
    · rename_i hn
      exact m.vector.resolve_right fun h => hn h.1
  · show if hasF x.kind then x.frontier.length ≤ 3 ∧ ∀ k ∈ x.frontier, k < 2 ^ 64 else x.frontier = []
    split
    · refine ⟨?_, ok.frontier⟩
      rcases m.frontier with h | h
      · rw [h]; exact Nat.zero_le _
      · exact h.2
    · rename_i hn
      exact m.frontier.resolve_right fun h => hn h.1
  · show if hasI x.kind then x.items.length ≤ 8 ∧ ∀ y ∈ x.items, itemDom y else x.items = []
    split
    · refine ⟨?_, fun y hy => ⟨ok.items y hy, m.all y hy⟩⟩
      rcases m.items with h | h
      · rw [h]; exact Nat.zero_le _
      · exact h.2
    · rename_i hn
      exact m.items.resolve_right fun h => hn h.1
theorem byteOf_site (z : Int) (h : 0 ≤ z ∧ z < 3) : ((byteOf z : Nat) : Int) = z := by rw [byteOf_cast]; omega
theorem u64_region (z : Int) (h : 0 ≤ z ∧ z < 4) : ((u64 z : Nat) : Int) = z := by unfold u64; omega
theorem xTup_back {x : WanD} (m : MayW x) : tupX x.kind (xTup x) = x := by
  have h1 := byteOf_site x.site m.site
  have h2 : ((u64 x.region : Nat) : Int) = x.region := u64_region _ (by rcases m.region with h | h; omega; omega)
  obtain ⟨k, si, ve, it, re, ep, fr⟩ := x
  simp only [tupX, xTup] at *
  rw [h1, h2]
theorem k16_add (k : Nat) (h : k ≤ 6) : k16 (k + 16) = k := by unfold k16; omega
theorem rWan_put {x : WanD} (ok : WanOk x) (m : MayW x) (r : List UInt8) : rWan (wanB x ++ r, false) = (x, (r, false)) := by
  have hk := m.kind
  have e : wanB x ++ r = be 1 (x.kind + 16) ++ (tupB x.kind (xTup x) ++ r) := by unfold wanB; rw [xTup_B, List.append_assoc]
  rw [rWan_tup, e, rByte_be _ _ (show x.kind + 16 < 256 by omega)]
  simp only
  rw [k16_add _ hk.2, (pair_tup x.kind).put (xTup x) r (xTup_dom ok m)]
  simp only
  rw [xTup_back m]
theorem rWan_good {s : RS} (h : (rWan s).2.2 = false) (m : MayW (rWan s).1) : s = (wanB (rWan s).1 ++ (rWan s).2.1, false) ∧ WanOk (rWan s).1 := by
  rw [rWan_tup] at h m ⊢
  obtain ⟨k, hk⟩ : ∃ k, k = k16 (rByte s).1 := ⟨_, rfl⟩
  rw [← hk] at h m ⊢
  simp only at h m ⊢
  obtain ⟨g1, g2⟩ := (pair_tup k).good (rByte s).2 h
  obtain ⟨g3, g4⟩ := pair_byte.good s (by rw [g1])
  obtain ⟨t, ht⟩ : ∃ t, t = (rTup k (rByte s).2).1 := ⟨_, rfl⟩
  rw [← ht] at g1 g2 m ⊢
  obtain ⟨d1, d2, d3, d4, d5, d6⟩ := g2
  have hkk := m.kind
  have hb : (rByte s).1 = k + 16 := by
    replace hkk : 1 ≤ k ∧ k ≤ 6 := hkk
    unfold k16 at hk; omega
  have hre : t.2.1 < 2 ^ 64 := by
    by_cases hr : hasR k = true
    · rw [if_pos hr] at d2; omega
    · rw [if_neg hr] at d2; omega
  have e : wanB (tupX k t) = be 1 (k + 16) ++ tupB k t := by
    unfold wanB
    rw [xTup_B]
    have : xTup (tupX k t) = t := by
      obtain ⟨a, b, c, d, e, f⟩ := t
      simp only [xTup, tupX]
      rw [byteOf_nat a d1, u64_nat b hre]
    rw [this]; rfl
  refine ⟨?_, ⟨by show k < 256; omega, nat_i64 d1, ?_, ?_, ?_, ?_, ?_⟩⟩
  · rw [e, List.append_assoc, ← hb]
    have h4 : (rByte s).2.1 = tupB k t ++ (rTup k (rByte s).2).2.1 := fst_of g1
    rw [← h4]; exact g3
  · show ∀ x ∈ t.2.2.2.1, x < 2 ^ 64
    by_cases hr : hasV k = true
    · rw [if_pos hr] at d4; exact d4.2
    · rw [if_neg hr] at d4; rw [d4]; intro x hx; cases hx
  · show ∀ y ∈ t.2.2.2.2.2, ItemOk y
    by_cases hr : hasI k = true
    · rw [if_pos hr] at d6; exact fun y hy => (d6.2 y hy).1
    · rw [if_neg hr] at d6; rw [d6]; intro x hx; cases hx
  · show I64 (t.2.1 : Int)
    unfold I64
    by_cases hr : hasR k = true
    · rw [if_pos hr] at d2; omega
    · rw [if_neg hr] at d2; omega
  · show t.2.2.1 < 2 ^ 64
    by_cases hr : hasE k = true
    · rw [if_pos hr] at d3; exact d3
    · rw [if_neg hr] at d3; rw [d3]; decide
  · show ∀ x ∈ t.2.2.2.2.1, x < 2 ^ 64
    by_cases hr : hasF k = true
    · rw [if_pos hr] at d5; exact d5.2
    · rw [if_neg hr] at d5; rw [d5]; intro x hx; cases hx
theorem rDone_zero (s : RS) : rDone s = 0 ↔ s = ([], false) := by
  obtain ⟨l, b⟩ := s
  cases b with
  | true => simp [rDone]
  | false =>
    by_cases h : 0 < l.length
    · simp [rDone, h]
      intro e; rw [e] at h; simp at h
    · have : l = [] := List.eq_nil_of_length_eq_zero (by omega)
      subst this
      simp [rDone]
theorem getW_good {l : List UInt8} (h : (getW l).2 = 0) : WanOk (getW l).1 ∧ MayW (getW l).1 ∧ wanB (getW l).1 = l := by
  unfold getW at h ⊢
  by_cases hc : rDone (rWan (l, false)).2 = 0 ∧ mayW (rWan (l, false)).1 = true
  · rw [if_pos hc]
    have hs := (rDone_zero _).1 hc.1
    have m := (mayW_iff _).1 hc.2
    obtain ⟨g1, g2⟩ := rWan_good (s := (l, false)) (by rw [hs]) m
    rw [hs, List.append_nil] at g1
    injection g1 with g1 _
    exact ⟨g2, m, g1.symm⟩
  · rw [if_neg hc] at h; cases h
theorem getW_bad {l : List UInt8} (h : (getW l).2 ≠ 0) : getW l = (zeroW, 2) := by
  unfold getW at h ⊢
  by_cases hc : rDone (rWan (l, false)).2 = 0 ∧ mayW (rWan (l, false)).1 = true
  · rw [if_pos hc] at h; exact absurd rfl h
  · rw [if_neg hc]
theorem getW_put {x : WanD} (ok : WanOk x) (m : MayW x) : getW (wanB x) = (x, 0) := by
  have e := rWan_put ok m []
  rw [List.append_nil] at e
  unfold getW
  rw [e]
  rw [if_pos ⟨(rDone_zero _).2 rfl, (mayW_iff _).2 m⟩]
theorem putW_may {x : WanD} (m : MayW x) : putW x = (wanB x, 0) := by unfold putW; rw [if_pos ((mayW_iff _).2 m)]
theorem putW_not {x : WanD} (m : ¬ MayW x) : putW x = ([], 1) := by unfold putW; rw [if_neg (fun h => m ((mayW_iff _).1 h))]
theorem wan_pre {x y : WanD} (hx : WanOk x) (mx : MayW x) (hy : WanOk y) (my : MayW y) (c : UInt8) (h : wanB x = wanB y ++ [c]) : False := by
  have e1 := rWan_put hx mx []
  rw [List.append_nil, h, rWan_put hy my [c]] at e1
  injection e1 with _ e2
  injection e2 with e3 _
  cases e3
theorem wanB_ne (x : WanD) : wanB x ≠ [] := by
  intro h
  have : (wanB x).length = 0 := by rw [h]; rfl
  unfold wanB at this
  rw [List.length_append, be_length] at this
  omega
theorem getW_less {x : WanD} (hx : WanOk x) (mx : MayW x) : (getW ((wanB x).take ((wanB x).length - 1))).2 = 2 := by
  by_cases h : (getW ((wanB x).take ((wanB x).length - 1))).2 = 0
  · exfalso
    obtain ⟨h1, h2, h3⟩ := getW_good h
    have hn := wanB_ne x
    have e : wanB x = (wanB x).take ((wanB x).length - 1) ++ [(wanB x).getLast hn] := by
      rw [← List.dropLast_eq_take]; exact (List.dropLast_concat_getLast hn).symm
    rw [← h3] at e
    exact wan_pre hx mx h1 h2 _ e
  · rw [getW_bad h]
theorem getW_more {x : WanD} (hx : WanOk x) (mx : MayW x) : (getW (wanB x ++ [0])).2 = 2 := by
  by_cases h : (getW (wanB x ++ [0])).2 = 0
  · exfalso
    obtain ⟨h1, h2, h3⟩ := getW_good h
    exact wan_pre h1 h2 hx mx _ h3
  · rw [getW_bad h]
theorem wan_apart {x y : WanD} (hx : WanOk x) (mx : MayW x) (hy : WanOk y) (my : MayW y) (h : wanB x = wanB y) : x = y := by
  have e1 := rWan_put hx mx []
  rw [h, rWan_put hy my []] at e1
  injection e1 with e2 _
  exact e2.symm
/-! ### The document's -/
theorem tk_opt {α : Type} {f : RS → α × RS} {e : α → List UInt8} {d : α → Prop} (c : Bool) (h : Takes f e d) (z : α) (x : α) (r : List UInt8) (hx : if c then d x else x = z) : rOpt c f z (opt c (e x) ++ r, false) = (x, (r, false)) := by
  cases c with
  | true => exact h x r hx
  | false => obtain rfl : x = z := hx; rfl
theorem dWan_put {x : WanD} (ok : WanOk x) (m : MayW x) : dWan (wanB x, false) = (x, ([], false)) := by
  obtain ⟨d1, d2, d3, d4, d5, d6⟩ := xTup_dom ok m
  have hk := m.kind
  have hre : ((u64 x.region : Nat) : Int) = x.region := u64_region _ (by rcases m.region with h | h; omega; omega)
  have hsi := byteOf_site x.site m.site
  have c3 := tk_opt (hasR x.kind) (fun n r h => pair_count3.put n r h : Takes (rCount 3) (be 8) (· ≤ 3)) 0 (u64 x.region)
  have c1 := tk_opt (hasV x.kind) tk_stamp [] x.vector
  have c2 := tk_opt (hasI x.kind) (tk_list tk_item 8 (by decide)) [] x.items
  have c4 := tk_opt (hasE x.kind) tk_uint 0 x.epoch
  have c5 := tk_opt (hasF x.kind) tk_stamp [] x.frontier
  have eb : bodyB x.kind x = opt (hasR x.kind) (be 8 (u64 x.region)) ++ (opt (hasV x.kind) (stampB x.vector) ++ (opt (hasI x.kind) (itemsB x.items) ++ (opt (hasE x.kind) (be 8 x.epoch) ++ (opt (hasF x.kind) (stampB x.frontier) ++ [])))) := by
    unfold bodyB
    obtain ⟨h1, h6⟩ := hk
    obtain ⟨k, hkk⟩ : ∃ k, k = x.kind := ⟨_, rfl⟩
    rw [← hkk] at h1 h6 ⊢
    have : k = 1 ∨ k = 2 ∨ k = 3 ∨ k = 4 ∨ k = 5 ∨ k = 6 := by omega
    rcases this with rfl | rfl | rfl | rfl | rfl | rfl <;> simp [opt, hasR, hasE, hasV, hasF, hasI]
  have e0 : wanB x = be 1 (x.kind + 16) ++ (be 1 (byteOf x.site) ++ bodyB x.kind x) := rfl
  unfold dWan
  rw [e0, rByte_be _ _ (show x.kind + 16 < 256 by omega)]
  simp only
  rw [rByte_be _ _ (byteOf_lt _)]
  simp only
  rw [k16_add _ hk.2, eb, hsi]
  unfold dBody
  rw [c3 _ d2]
  simp only
  rw [c1 _ d4]
  simp only
  have c2' : rOpt (hasI x.kind) (dList 8 dItem) [] (opt (hasI x.kind) (itemsB x.items) ++ (opt (hasE x.kind) (be 8 x.epoch) ++ (opt (hasF x.kind) (stampB x.frontier) ++ [])), false) = (x.items, (opt (hasE x.kind) (be 8 x.epoch) ++ (opt (hasF x.kind) (stampB x.frontier) ++ []), false)) := c2 _ d6
  rw [c2']
  simp only
  rw [c4 _ d3]
  simp only
  rw [c5 _ d5, hre]
theorem dGetW_eq (l : List UInt8) (ok : WanOk (dWan (l, false)).1) : dGetW l = getW l := by
  unfold dGetW
  by_cases h0 : (getW l).2 = 0
  · obtain ⟨g1, g2, g3⟩ := getW_good h0
    have e := dWan_put g1 g2
    rw [g3] at e
    have hk := g2.kind
    have hb : (rByte (l, false)).1 = (getW l).1.kind + 16 := by
      have e2 : l = be 1 ((getW l).1.kind + 16) ++ (be 1 (byteOf (getW l).1.site) ++ bodyB (getW l).1.kind (getW l).1) := g3.symm
      exact (congrArg (fun z => (rByte (z, false)).1) e2).trans (by rw [rByte_be _ _ (show (getW l).1.kind + 16 < 256 by omega)])
    rw [if_neg (by omega), e, putW_may g2, g3, if_pos ⟨rfl, (rDone_zero _).2 rfl, rfl⟩]
    exact Prod.ext rfl h0.symm
  · rw [getW_bad h0]
    split
    · rfl
    · split
      · rename_i h
        obtain ⟨h1, h2, h3⟩ := h
        exfalso
        by_cases m : MayW (dWan (l, false)).1
        · rw [putW_may m] at h3
          replace h3 : wanB (dWan (l, false)).1 = l := h3
          have := getW_put ok m
          rw [h3] at this
          rw [this] at h0
          exact h0 rfl
        · rw [putW_not m] at h1; cases h1
      · rfl
theorem dWan_ok (s : RS) : WanOk (dWan s).1 := by
  have ho : ∀ {α : Type} (c : Bool) (f : RS → α × RS) (z : α) (d : α → Prop) (s : RS), (∀ s, d (f s).1) → d z → d (rOpt c f z s).1 := by
    intro α c f z d s h hz
    cases c with
    | true => exact h s
    | false => exact hz
  refine ⟨?_, nat_i64 (rByte_lt _), ?_, ?_, ?_, ?_, ?_⟩
  · show k16 _ < 256; unfold k16; omega
  · exact ho _ dStamp [] (fun l => ∀ k ∈ l, k < 2 ^ 64) _ dStamp_rng (fun k hk => by cases hk)
  · exact ho _ (dList 8 dItem) [] (fun l => ∀ y ∈ l, ItemOk y) _ (fun s => (dList_rng 8 dItem_rng s).1) (fun k hk => by cases hk)
  · have h := ho (hasR (k16 (rByte s).1)) (rCount 3) 0 (fun n => n ≤ 3) (rByte (rByte s).2).2 (rCount_most 3) (Nat.zero_le _)
    show I64 (((rOpt (hasR (k16 (rByte s).1)) (rCount 3) 0 (rByte (rByte s).2).2).1 : Nat) : Int)
    unfold I64; omega
  · exact ho _ rUint 0 (fun n => n < 2 ^ 64) _ rUint_lt (by decide)
  · exact ho _ dStamp [] (fun l => ∀ k ∈ l, k < 2 ^ 64) _ dStamp_rng (fun k hk => by cases hk)
end Go.Proofs.Ytgilijkmmcpfjaa
