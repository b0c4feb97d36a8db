/-
  Two nets, and a row of letters, side by side.
-/
import Derived.Test.YtcpkbngoecpnkaaNetOrd
set_option linter.unusedVariables false
namespace Go.Proofs.Ytcpkbngoecpnkaa
open Go.RowKit

abbrev S231 : List Int := [2, 3, 1]
/-- Two nets and a row of letters, all of the call's own and apart from one another. -/
def Two (w W : World) (N M N' M' c : Nat) (cut : AdD × AdD → Bool) (v : Value) (ls ms vs : List LetD) : Prop :=
  ∃ lv ps lv' ps' qs, NetIs W w.heap.size N M c lv ps S231 cut ∧ NetIs W w.heap.size N' M' 0 lv' ps' S231 (fun _ => false) ∧ LetsR W w.heap.size v qs ∧
    ps.map Prod.fst = ls ∧ ps'.map Prod.fst = ms ∧ qs.map Prod.fst = vs ∧ (∀ j, netB N M lv j → ¬ netB N' M' lv' j) ∧ (∀ j, v.ownBlock = some j → ¬ netB N M lv j ∧ ¬ netB N' M' lv' j) ∧ Gr w W
/-- A net that is none of what was written. -/
theorem NetIs.past {W W' : World} {base N M n N' M' n' : Nat} {lv lv' : Value} {ps ps' : List (LetD × Value)} {sizes sizes' : List Int} {cut cut' : AdD × AdD → Bool} (h' : NetIs W base N' M' n' lv' ps' sizes' cut') (h : NetIs W base N M n lv ps sizes cut)
    (d : Ch (netB N M lv) W W') (dis : ∀ j, netB N M lv j → ¬ netB N' M' lv' j) : NetIs W' base N' M' n' lv' ps' sizes' cut' :=
  h'.keep (h.kb d) (fun j hj => d.block j (h'.ltB j hj).2 (fun e => dis j e hj))
theorem LetsR.past {W W' : World} {base N M n : Nat} {lv v : Value} {ps qs : List (LetD × Value)} {sizes : List Int} {cut : AdD × AdD → Bool} (h' : LetsR W base v qs) (h : NetIs W base N M n lv ps sizes cut)
    (d : Ch (netB N M lv) W W') (dis : ∀ j, v.ownBlock = some j → ¬ netB N M lv j) : LetsR W' base v qs :=
  h'.keep (h.kb d) (fun j hj => d.block j (h'.lt j hj).2 (dis j hj))
section
variable {w W W' : World} {N M N' M' c : Nat} {cut : AdD × AdD → Bool} {v : Value} {ls ms vs : List LetD}
theorem Two.go (h : Two w W N M N' M' c cut v ls ms vs) (g : Gr W W') : Two w W' N M N' M' c cut v ls ms vs := by
  obtain ⟨lv, ps, lv', ps', qs, h1, h2, h3, h4, h5, h6, h7, h8, h9⟩ := h
  exact ⟨lv, ps, lv', ps', qs, h1.gr g, h2.gr g, h3.gr g, h4, h5, h6, h7, h8, Below.trans h9 (g.mono h9.size)⟩
theorem Two.below (h : Two w W N M N' M' c cut v ls ms vs) : Gr w W := by obtain ⟨lv, ps, lv', ps', qs, h1, h2, h3, h4, h5, h6, h7, h8, h9⟩ := h; exact h9
theorem Two.shape (h : Two w W N M N' M' c cut v ls ms vs) : ∃ a cap, v = .slice a vs.length cap := by
  obtain ⟨lv, ps, lv', ps', qs, h1, h2, h3, h4, h5, h6, h7, h8, h9⟩ := h
  obtain ⟨a, cap, e⟩ := h3.shape
  exact ⟨a, cap, by rw [e, ← h6, List.length_map]⟩
theorem Two.reads (h : Two w W N M N' M' c cut v ls ms vs) : Lets W v vs := by
  obtain ⟨lv, ps, lv', ps', qs, h1, h2, h3, h4, h5, h6, h7, h8, h9⟩ := h
  rw [← h6]; exact h3.reads
/-- The first net was written. -/
theorem Two.did1 {lv lv' lv1 : Value} {ps ps' ps1 qs : List (LetD × Value)} {c1 : Nat} {cut1 : AdD × AdD → Bool} {ls1 : List LetD} (h1 : NetIs W w.heap.size N M c lv ps S231 cut) (h2 : NetIs W w.heap.size N' M' 0 lv' ps' S231 (fun _ => false)) (h3 : LetsR W w.heap.size v qs)
    (h5 : ps'.map Prod.fst = ms) (h6 : qs.map Prod.fst = vs) (h7 : ∀ j, netB N M lv j → ¬ netB N' M' lv' j) (h8 : ∀ j, v.ownBlock = some j → ¬ netB N M lv j ∧ ¬ netB N' M' lv' j) (h9 : Gr w W)
    (k1 : NetIs W' w.heap.size N M c1 lv1 ps1 S231 cut1) (k2 : ps1.map Prod.fst = ls1) (k3 : Ch (netB N M lv) W W') (k4 : ∀ j, lv1.ownBlock = some j → lv.ownBlock = some j ∨ W.heap.size ≤ j) : Two w W' N M N' M' c1 cut1 v ls1 ms vs := by
  refine ⟨lv1, ps1, lv', ps', qs, k1, h2.past h1 k3 h7, h3.past h1 k3 (fun j hj => (h8 j hj).1), k2, h5, h6, fun j hj hj' => ?_, fun j hj => ⟨netB_step k4 (h3.lt j hj).2 (h8 j hj).1, (h8 j hj).2⟩, below_ch h9 h1 k3⟩
  exact netB_step k4 (h2.ltB j hj').2 (fun e => h7 j e hj') hj
/-- The second net was written. -/
theorem Two.did2 {lv lv' lv1 : Value} {ps ps' ps1 qs : List (LetD × Value)} {ms1 : List LetD} (h1 : NetIs W w.heap.size N M c lv ps S231 cut) (h2 : NetIs W w.heap.size N' M' 0 lv' ps' S231 (fun _ => false)) (h3 : LetsR W w.heap.size v qs)
    (h4 : ps.map Prod.fst = ls) (h6 : qs.map Prod.fst = vs) (h7 : ∀ j, netB N M lv j → ¬ netB N' M' lv' j) (h8 : ∀ j, v.ownBlock = some j → ¬ netB N M lv j ∧ ¬ netB N' M' lv' j) (h9 : Gr w W)
    (k1 : NetIs W' w.heap.size N' M' 0 lv1 ps1 S231 (fun _ => false)) (k2 : ps1.map Prod.fst = ms1) (k3 : Ch (netB N' M' lv') W W') (k4 : ∀ j, lv1.ownBlock = some j → lv'.ownBlock = some j ∨ W.heap.size ≤ j) : Two w W' N M N' M' c cut v ls ms1 vs := by
  refine ⟨lv, ps, lv1, ps1, qs, h1.past h2 k3 (fun j hj hj' => h7 j hj' hj), k1, h3.past h2 k3 (fun j hj => (h8 j hj).2), h4, k2, h6, fun j hj hj' => ?_, fun j hj => ⟨(h8 j hj).1, netB_step k4 (h3.lt j hj).2 (h8 j hj).2⟩, below_ch h9 h2 k3⟩
  exact netB_step k4 (h1.ltB j hj).2 (h7 j hj) hj'
theorem two_send1 (h : Two w W N M N' M' c cut v ls ms vs) (l : LetD) (bv : Value) (hb : Sl W bv (bytes l.b)) (hl : l.b.length ≤ 140737488355328) (hlt : ∀ j, bv.ownBlock = some j → j < w.heap.size ∨ l.b = []) :
    Calls Try.prog 10 #[.pointer (some ⟨N, 0, Option.none⟩), letV l bv] W fun e w' => e = .returned (.int .i64 (sendE S231 ls.length l)) ∧ Two w w' N M N' M' c cut v (if sendE S231 ls.length l = 0 then ls ++ [l] else ls) ms vs := by
  obtain ⟨lv, ps, lv', ps', qs, h1, h2, h3, h4, h5, h6, h7, h8, h9⟩ := h
  refine (send_w h1 h4 l bv hb hl (fun hn j hj e => ?_) rfl rfl).mono ?_
  · have := (h1.lets.lt j e).1
    rcases hlt j hj with h' | h'
    · omega
    · exact hn h'
  · rintro e w' ⟨rfl, lv1, ps1, k1, k2, k3, k4⟩
    exact ⟨rfl, Two.did1 h1 h2 h3 h5 h6 h7 h8 h9 k1 k2 k3 k4⟩
theorem two_send2 (h : Two w W N M N' M' c cut v ls ms vs) (l : LetD) (bv : Value) (hb : Sl W bv (bytes l.b)) (hl : l.b.length ≤ 140737488355328) (hlt : ∀ j, bv.ownBlock = some j → j < w.heap.size ∨ l.b = []) :
    Calls Try.prog 10 #[.pointer (some ⟨N', 0, Option.none⟩), letV l bv] W fun e w' => e = .returned (.int .i64 (sendE S231 ms.length l)) ∧ Two w w' N M N' M' c cut v ls (if sendE S231 ms.length l = 0 then ms ++ [l] else ms) vs := by
  obtain ⟨lv, ps, lv', ps', qs, h1, h2, h3, h4, h5, h6, h7, h8, h9⟩ := h
  refine (send_w h2 h5 l bv hb hl (fun hn j hj e => ?_) rfl rfl).mono ?_
  · have := (h2.lets.lt j e).1
    rcases hlt j hj with h' | h'
    · omega
    · exact hn h'
  · rintro e w' ⟨rfl, lv1, ps1, k1, k2, k3, k4⟩
    exact ⟨rfl, Two.did2 h1 h2 h3 h4 h6 h7 h8 h9 k1 k2 k3 k4⟩
theorem two_take (h : Two w W N M N' M' c cut v ls ms vs) (i : Int) (hok : ∀ x ∈ ls, LetOk x) {r : LetD × Int × List LetD} (hr : takeV S231 cut ls i = r) :
    Calls Try.prog 12 #[.pointer (some ⟨N, 0, Option.none⟩), .int .i64 i] W fun e w' => ∃ bv, e = .returned (.tuple #[letV r.1 bv, .int .i64 r.2.1]) ∧ Sl w' bv (bytes r.1.b) ∧ Two w w' N M N' M' c cut v r.2.2 ms vs := by
  obtain ⟨lv, ps, lv', ps', qs, h1, h2, h3, h4, h5, h6, h7, h8, h9⟩ := h
  refine (take_w h1 h4 hok i hr).mono ?_
  rintro e w' ⟨bv, rfl, ho, lv1, ps1, k1, k2, k3, k4⟩
  exact ⟨bv, rfl, ho.sl, Two.did1 h1 h2 h3 h5 h6 h7 h8 h9 k1 k2 k3 k4⟩
theorem two_len (h : Two w W N M N' M' c cut v ls ms vs) : Calls Try.prog 14 #[.pointer (some ⟨N, 0, Option.none⟩)] W fun e w' => e = .returned (.int .i64 (ls.length : Int)) ∧ w' = W := by
  obtain ⟨lv, ps, lv', ps', qs, h1, h2, h3, h4, h5, h6, h7, h8, h9⟩ := h
  exact len_w h1 h4
theorem two_cut (h : Two w W N M N' M' c cut v ls ms vs) (hc : c < 1000000) (a b : AdD) (ha : AdOk a) (hb : AdOk b) {z : Int} (hz : turnE S231 a b = z) {cut' : AdD × AdD → Bool} (hcut : (if linkV S231 a b then setCut cut (keyV a b) true else cut) = cut') :
    Calls Try.prog 16 #[.pointer (some ⟨N, 0, Option.none⟩), adV a, adV b] W fun e w' => e = .returned (.int .i64 z) ∧ Two w w' N M N' M' (c + 1) cut' v ls ms vs := by
  obtain ⟨lv, ps, lv', ps', qs, h1, h2, h3, h4, h5, h6, h7, h8, h9⟩ := h
  subst hz hcut
  refine (cut_any h1 hc a b ha hb).mono ?_
  rintro e w' ⟨rfl, k1, k3⟩
  exact ⟨rfl, Two.did1 h1 h2 h3 h5 h6 h7 h8 h9 k1 h4 k3 (fun j hj => .inl hj)⟩
theorem two_heal (h : Two w W N M N' M' c cut v ls ms vs) (hc : c < 1000000) (a b : AdD) (ha : AdOk a) (hb : AdOk b) {z : Int} (hz : turnE S231 a b = z) {cut' : AdD × AdD → Bool} (hcut : (if linkV S231 a b then setCut cut (keyV a b) false else cut) = cut') :
    Calls Try.prog 19 #[.pointer (some ⟨N, 0, Option.none⟩), adV a, adV b] W fun e w' => e = .returned (.int .i64 z) ∧ Two w w' N M N' M' (c + 1) cut' v ls ms vs := by
  obtain ⟨lv, ps, lv', ps', qs, h1, h2, h3, h4, h5, h6, h7, h8, h9⟩ := h
  subst hz hcut
  refine (heal_any h1 hc a b ha hb).mono ?_
  rintro e w' ⟨rfl, k1, k3⟩
  exact ⟨rfl, Two.did1 h1 h2 h3 h5 h6 h7 h8 h9 k1 h4 k3 (fun j hj => .inl hj)⟩
theorem two_cuts (h : Two w W N M N' M' c cut v ls ms vs) (a b : AdD) (ha : AdOk a) (hb : AdOk b) {r : Bool} (hr : cutsV S231 cut a b = r) :
    Calls Try.prog 17 #[.pointer (some ⟨N, 0, Option.none⟩), adV a, adV b] W fun e w' => e = .returned (.bool r) ∧ Gr W w' := by
  obtain ⟨lv, ps, lv', ps', qs, h1, h2, h3, h4, h5, h6, h7, h8, h9⟩ := h
  subst hr
  exact cuts_any h1 a b ha hb
theorem two_letters1 (h : Two w W N M N' M' c cut v ls ms vs) (hlet : ∀ l ∈ ls, l.b.length ≤ 2097152) :
    Calls Try.prog 18 #[.pointer (some ⟨N, 0, Option.none⟩)] W fun e w' => ∃ v', e = .returned v' ∧ Two w w' N M N' M' c cut v' ls ms ls ∧ Gr W w' := by
  obtain ⟨lv, ps, lv', ps', qs, h1, h2, h3, h4, h5, h6, h7, h8, h9⟩ := h
  refine (letters_w h1 h4 hlet).mono ?_
  rintro e w' ⟨v', qs', rfl, k1, k2, k3⟩
  exact ⟨v', rfl, ⟨lv, ps, lv', ps', qs', h1.gr k3, h2.gr k3, ⟨k1.rows.mono h9.size, fun p hp => (k1.own p hp).mono h9.size⟩, h4, h5, k2, h7, fun j hj => ⟨fresh_nb h1 (k1.lt j hj).1, fresh_nb h2 (k1.lt j hj).1⟩, Below.trans h9 (k3.mono h9.size)⟩, k3⟩
theorem two_letters2 (h : Two w W N M N' M' c cut v ls ms vs) (hlet : ∀ l ∈ ms, l.b.length ≤ 2097152) :
    Calls Try.prog 18 #[.pointer (some ⟨N', 0, Option.none⟩)] W fun e w' => ∃ v', e = .returned v' ∧ Lets w' v' ms ∧ Gr W w' := by
  obtain ⟨lv, ps, lv', ps', qs, h1, h2, h3, h4, h5, h6, h7, h8, h9⟩ := h
  refine (letters_w h2 h5 hlet).mono ?_
  rintro e w' ⟨v', qs', rfl, k1, k2, k3⟩
  exact ⟨v', rfl, by rw [← k2]; exact k1.reads, k3⟩
end
/-! ### The plain law -/
/-- Is the letter of this link? -/
def onV (a b : AdD) (l : LetD) : Bool := decide (l.src = a) && decide (l.dst = b) || decide (l.src = b) && decide (l.dst = a)
theorem onV_iff {a b : AdD} {l : LetD} : onV a b l = true ↔ keyV l.src l.dst = keyV a b := by
  rw [keyV_eq]; simp [onV]
def cutOne (a b : AdD) : AdD × AdD → Bool := setCut (fun _ => false) (keyV a b) true
theorem cutsV_one {a b : AdD} {l : LetD} (h : linkV S231 l.src l.dst = true) : cutsV S231 (cutOne a b) l.src l.dst = onV a b l := by
  unfold cutsV cutOne setCut
  rw [h, Bool.true_and]
  by_cases e : keyV l.src l.dst = keyV a b
  · rw [if_pos e]; exact (onV_iff.2 e).symm
  · rw [if_neg e]
    cases hv : onV a b l with
    | false => rfl
    | true => exact absurd (onV_iff.1 hv) e
/-- The letters, when the first k have been asked for. -/
def midL (a b : AdD) (all : List LetD) (k : Nat) : List LetD := (all.take k).filter (onV a b) ++ all.drop k
def midN (a b : AdD) (all : List LetD) (k : Nat) : Nat := ((all.take k).filter (onV a b)).length
theorem mid_take {a b : AdD} {all : List LetD} {k : Nat} (hk : k < all.length) (hl : ∀ l ∈ all, linkV S231 l.src l.dst = true) :
    takeV S231 (cutOne a b) (midL a b all k) (midN a b all k : Int) = if onV a b all[k] then (zl, 65, midL a b all (k + 1)) else (all[k], 0, midL a b all (k + 1)) := by
  have hlen : midN a b all k < (midL a b all k).length := by unfold midL midN; rw [List.length_append, List.length_drop]; omega
  have hm : mayV (midN a b all k : Int) (midL a b all k).length = 0 := by unfold mayV; rw [if_neg (by omega), if_neg (by omega)]
  have hd : all.drop k = all[k] :: all.drop (k + 1) := List.drop_eq_getElem_cons hk
  have hg : (midL a b all k).getD (midN a b all k) zl = all[k] := by
    unfold midL midN
    rw [List.getD_eq_getElem?_getD, List.getElem?_append_right (Nat.le_refl _), Nat.sub_self, hd]; rfl
  have ht : all.take (k + 1) = all.take k ++ [all[k]] := by rw [List.take_add_one, List.getElem?_eq_getElem hk]; rfl
  unfold takeV
  rw [if_pos hm, Int.toNat_natCast, hg, cutsV_one (hl _ (List.getElem_mem hk))]
  cases ho : onV a b all[k] with
  | true =>
    have : midL a b all (k + 1) = midL a b all k := by
      unfold midL
      rw [ht, List.filter_append, List.filter_cons_of_pos ho, List.filter_nil, hd]; simp
    rw [this]; rfl
  | false =>
    have : (midL a b all k).eraseIdx (midN a b all k) = midL a b all (k + 1) := by
      unfold midL midN
      rw [List.eraseIdx_append_of_length_le (Nat.le_refl _), Nat.sub_self, hd, ht, List.filter_append, List.filter_cons_of_neg (by rw [ho]; simp), List.filter_nil]; simp
    rw [this]; rfl
theorem midN_succ {a b : AdD} {all : List LetD} {k : Nat} (hk : k < all.length) : midN a b all (k + 1) = midN a b all k + if onV a b all[k] then 1 else 0 := by
  unfold midN
  rw [List.take_add_one, List.getElem?_eq_getElem hk, Option.toList_some, List.filter_append, List.length_append]
  cases ho : onV a b all[k] <;> simp [ho]
theorem midL_end (a b : AdD) (all : List LetD) : (midL a b all all.length).length = midN a b all all.length := by unfold midL midN; simp
theorem midL_sub {a b : AdD} {all : List LetD} {k : Nat} {x : LetD} (h : x ∈ midL a b all k) : x ∈ all := by
  rcases List.mem_append.1 h with h | h
  · exact List.mem_of_mem_take (List.mem_filter.1 h).1
  · exact List.mem_of_mem_drop h
theorem linkV_swap (sizes : List Int) (a b : AdD) : linkV sizes a b = linkV sizes b a := by
  unfold linkV
  rw [Bool.and_comm (hasV sizes a), show decide (a ≠ b) = decide (b ≠ a) by congr 1; exact propext ⟨fun h e => h e.symm, fun h e => h e.symm⟩]
/-- The link is healed. -/
def noCut (a b : AdD) : AdD × AdD → Bool := setCut (cutOne a b) (keyV b a) false
theorem noCut_all (a b : AdD) : noCut a b = fun _ => false := by
  funext q
  unfold noCut cutOne setCut
  rw [show keyV b a = keyV a b from keyV_eq.2 (.inr ⟨rfl, rfl⟩)]
  by_cases e : q = keyV a b
  · rw [if_pos e]
  · rw [if_neg e, if_neg e]
/-- A letter that a net took in has a link. -/
theorem sendE_link {sizes : List Int} {n : Nat} {l : LetD} (h : sendE sizes n l = 0) : linkV sizes l.src l.dst = true := by
  unfold sendE at h
  cases e : linkV sizes l.src l.dst with
  | true => rfl
  | false => rw [e] at h; simp at h
end Go.Proofs.Ytcpkbngoecpnkaa
