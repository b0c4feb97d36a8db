/-
  The program's net and the document's, side by side.
-/
import Derived.Test.YtcpkbngoecpnkaaNetR6
set_option linter.unusedVariables false
namespace Go.Proofs.Ytcpkbngoecpnkaa
open Go.RowKit

/-! ### The plain law -/
/-- The links that are cut are the same. -/
def Agree (sizes : List Int) (cut : AdD × AdD → Bool) (cuts : List (AdD × AdD)) : Prop := ∀ a b, cutsV sizes cut a b = cutsR cuts a b
theorem matchV_iff {x y : AdD} {p : AdD × AdD} : matchV x y p = true ↔ keyV p.1 p.2 = keyV x y := by
  rw [keyV_eq]; simp [matchV]
theorem cutsR_eq (cuts : List (AdD × AdD)) (a b : AdD) : cutsR cuts a b = cuts.any (matchV a b) := rfl
theorem Agree.start (sizes : List Int) : Agree sizes (fun _ => false) [] := fun a b => by unfold cutsV; simp [cutsR]
theorem linkV_key {sizes : List Int} {a b x y : AdD} (h : keyV x y = keyV a b) : linkV sizes x y = linkV sizes a b := by
  rcases keyV_eq.1 h with ⟨rfl, rfl⟩ | ⟨rfl, rfl⟩
  · rfl
  · exact linkV_swap _ _ _
theorem Agree.turn {sizes : List Int} {cut : AdD × AdD → Bool} {cuts : List (AdD × AdD)} (h : Agree sizes cut cuts) (a b : AdD) (v : Bool) :
    Agree sizes (if linkV sizes a b = true then setCut cut (keyV a b) v else cut) (if linkV sizes a b then turnC cuts a b v else cuts) := by
  by_cases hl : linkV sizes a b = true
  · rw [if_pos hl, if_pos hl]
    intro x y
    rw [cutsR_eq]
    unfold turnC cutsV setCut
    rw [List.any_append, List.any_filter]
    by_cases e : keyV x y = keyV a b
    · rw [if_pos e, linkV_key e, hl, Bool.true_and]
      have h1 : (cuts.any fun p => !matchV a b p && matchV x y p) = false := by
        rw [List.any_eq_false]
        intro p _ h9
        simp only [Bool.and_eq_true, Bool.not_eq_true'] at h9
        have h10 := matchV_iff.1 h9.2
        have h11 : matchV a b p = true := matchV_iff.2 (h10.trans e)
        rw [h11] at h9
        exact absurd h9.1 (by decide)
      rw [h1, Bool.false_or]
      cases v with
      | true =>
        have h9 : matchV x y (a, b) = true := matchV_iff.2 e.symm
        simp [h9]
      | false => rfl
    · rw [if_neg e]
      have h1 : (cuts.any fun p => !matchV a b p && matchV x y p) = cuts.any (matchV x y) := by
        apply List.any_congr rfl
        intro p
        cases hm : matchV x y p with
        | false => simp
        | true =>
          have h10 := matchV_iff.1 hm
          have h11 : matchV a b p = false := by
            cases h12 : matchV a b p with
            | false => rfl
            | true => exact absurd (h10.symm.trans (matchV_iff.1 h12)) e
          simp [h11]
      have h2 : (if v = true then [(a, b)] else []).any (matchV x y) = false := by
        cases v with
        | true =>
          have : matchV x y (a, b) = false := by
            cases h12 : matchV x y (a, b) with
            | false => rfl
            | true => exact absurd (matchV_iff.1 h12).symm e
          simp [this]
        | false => rfl
      rw [h1, h2, Bool.or_false, ← cutsR_eq]
      exact h x y
  · rw [if_neg hl, if_neg hl]; exact h
/-- What the document answers to an act. -/
def refV (sizes : List Int) (cuts : List (AdD × AdD)) (ls : List LetD) (a : ActD) : LetD × Int × List LetD × List (AdD × AdD) :=
  if a.op % 7 = 0 then (zl, sendE sizes ls.length a.l, (if sendE sizes ls.length a.l = 0 then ls ++ [a.l] else ls), cuts)
  else if a.op % 7 = 5 ∨ a.op % 7 = 6 then (zl, turnE sizes a.l.src a.l.dst, ls, if linkV sizes a.l.src a.l.dst then turnC cuts a.l.src a.l.dst (decide (a.op % 7 = 5)) else cuts)
  else ((actR cuts ls (a.op % 7) a.i).1, (actR cuts ls (a.op % 7) a.i).2.1, (actR cuts ls (a.op % 7) a.i).2.2, cuts)
theorem same_answer {sizes : List Int} {cut : AdD × AdD → Bool} {cuts : List (AdD × AdD)} (h : Agree sizes cut cuts) (ls : List LetD) (a : ActD) :
    (refV sizes cuts ls a).1 = (doesV sizes cut ls a).1 ∧ (refV sizes cuts ls a).2.1 = (doesV sizes cut ls a).2.1 ∧ (refV sizes cuts ls a).2.2.1 = (doesV sizes cut ls a).2.2.1 ∧ Agree sizes (doesV sizes cut ls a).2.2.2 (refV sizes cuts ls a).2.2.2 := by
  have h7 : a.op % 7 < 7 := Nat.mod_lt _ (by decide)
  unfold refV doesV
  obtain e | e | e | e | e | e | e : a.op % 7 = 0 ∨ a.op % 7 = 1 ∨ a.op % 7 = 2 ∨ a.op % 7 = 3 ∨ a.op % 7 = 4 ∨ a.op % 7 = 5 ∨ a.op % 7 = 6 := by omega
  all_goals rw [e]
  · exact ⟨rfl, rfl, rfl, h⟩
  · rw [if_neg (by decide), if_neg (by decide)]
    have h9 : actR cuts ls 1 a.i = takeV sizes cut ls a.i := by
      unfold actR takeV
      by_cases hm : mayV a.i ls.length = 0
      · rw [if_pos hm, if_pos hm, if_pos rfl, h]
      · rw [if_neg hm, if_neg hm]
    rw [h9]
    exact ⟨rfl, rfl, rfl, h⟩
  · rw [if_neg (by decide), if_neg (by decide)]
    unfold actR
    rcases mayV_or a.i ls.length with hm | hm
    · rw [hm, if_pos rfl, if_neg (by decide), if_pos rfl]; exact ⟨rfl, rfl, rfl, h⟩
    · rw [hm, if_neg (by decide)]; exact ⟨rfl, rfl, rfl, h⟩
  · rw [if_neg (by decide), if_neg (by decide)]
    unfold actR
    rcases mayV_or a.i ls.length with hm | hm
    · obtain ⟨k, e1, e2⟩ := mayV_lt hm
      have hd : doubleE ls.length a.i = if 4096 ≤ ls.length then 4 else 0 := by unfold doubleE; rw [if_pos hm]
      have hg : ls.getD a.i.toNat zl = ls[k] := by rw [e1, Int.toNat_natCast]; simp [List.getD_eq_getElem?_getD, List.getElem?_eq_getElem e2]
      have hg2 : (ls[a.i.toNat]?).toList = [ls[k]] := by rw [e1, Int.toNat_natCast, List.getElem?_eq_getElem e2]; rfl
      rw [hm, if_pos rfl, if_neg (by decide), if_neg (by decide), if_pos rfl, hd, hg, hg2]
      by_cases hf : 4096 ≤ ls.length
      · rw [if_pos hf, if_pos hf]; exact ⟨rfl, rfl, rfl, h⟩
      · rw [if_neg hf, if_neg hf]; exact ⟨rfl, rfl, rfl, h⟩
    · have hd : doubleE ls.length a.i = 1 := by unfold doubleE; rw [hm]; rfl
      rw [hm, if_neg (by decide), hd]; exact ⟨rfl, rfl, rfl, h⟩
  · rw [if_neg (by decide), if_neg (by decide)]
    unfold actR holdL
    rcases mayV_or a.i ls.length with hm | hm
    · obtain ⟨k, e1, e2⟩ := mayV_lt hm
      have hg : ls.getD a.i.toNat zl = ls[k] := by rw [e1, Int.toNat_natCast]; simp [List.getD_eq_getElem?_getD, List.getElem?_eq_getElem e2]
      have hg2 : (ls[a.i.toNat]?).toList = [ls[k]] := by rw [e1, Int.toNat_natCast, List.getElem?_eq_getElem e2]; rfl
      rw [hm, if_pos rfl, if_neg (by decide), if_neg (by decide), if_neg (by decide), hg, hg2]
      exact ⟨rfl, rfl, rfl, h⟩
    · rw [hm, if_neg (by decide)]; exact ⟨rfl, rfl, rfl, h⟩
  · rw [if_neg (by decide), if_pos (.inl rfl)]
    exact ⟨rfl, rfl, rfl, h.turn a.l.src a.l.dst true⟩
  · rw [if_neg (by decide), if_pos (.inr rfl)]
    exact ⟨rfl, rfl, rfl, h.turn a.l.src a.l.dst false⟩
/-! ### The state -/
def Duo (w W : World) (N M Q c : Nat) (sv : Value) (sizes : List Int) (cut : AdD × AdD → Bool) (cuts : List (AdD × AdD)) (ls lr : List LetD) (F : Nat → Prop) : Prop :=
  ∃ lv ps lvr cvr psr, NetIs W w.heap.size N M c lv ps sizes cut ∧ RNet w W Q sv lvr cvr psr cuts sizes ∧ ps.map Prod.fst = ls ∧ psr.map Prod.fst = lr ∧ (∀ j, netB N M lv j → ¬ refB Q lvr cvr j) ∧ ∀ j, F j → j < W.heap.size ∧ ¬ netB N M lv j ∧ ¬ refB Q lvr cvr j
section
variable {w W W' : World} {N M Q c : Nat} {sv : Value} {sizes : List Int} {cut : AdD × AdD → Bool} {cuts : List (AdD × AdD)} {ls lr : List LetD} {F : Nat → Prop}
theorem Duo.below (h : Duo w W N M Q c sv sizes cut cuts ls lr F) : Gr w W := by obtain ⟨lv, ps, lvr, cvr, psr, h1, h2, h3⟩ := h; exact h2.gr
theorem Duo.go (h : Duo w W N M Q c sv sizes cut cuts ls lr F) (g : Gr W W') : Duo w W' N M Q c sv sizes cut cuts ls lr F := by
  obtain ⟨lv, ps, lvr, cvr, psr, h1, h2, h3, h4, h5, h6⟩ := h
  exact ⟨lv, ps, lvr, cvr, psr, h1.gr g, h2.go g, h3, h4, h5, fun j hj => ⟨Nat.lt_of_lt_of_le (h6 j hj).1 g.size, (h6 j hj).2⟩⟩
/-- A new block beside the nets. -/
theorem Duo.add (h : Duo w W N M Q c sv sizes cut cuts ls lr F) (g : Gr W W') {B : Nat} (hB : W.heap.size ≤ B) (hB2 : B < W'.heap.size) : Duo w W' N M Q c sv sizes cut cuts ls lr (fun j => j = B ∨ F j) := by
  obtain ⟨lv, ps, lvr, cvr, psr, h1, h2, h3, h4, h5, h6⟩ := h
  refine ⟨lv, ps, lvr, cvr, psr, h1.gr g, h2.go g, h3, h4, h5, fun j hj => ?_⟩
  rcases hj with rfl | hj
  · exact ⟨hB2, fresh_nb h1 hB, h2.nbNew hB⟩
  · exact ⟨Nat.lt_of_lt_of_le (h6 j hj).1 g.size, (h6 j hj).2⟩
theorem Duo.less {F' : Nat → Prop} (h : Duo w W N M Q c sv sizes cut cuts ls lr F) (hF : ∀ j, F' j → F j) : Duo w W N M Q c sv sizes cut cuts ls lr F' := by
  obtain ⟨lv, ps, lvr, cvr, psr, h1, h2, h3, h4, h5, h6⟩ := h
  exact ⟨lv, ps, lvr, cvr, psr, h1, h2, h3, h4, h5, fun j hj => h6 j (hF j hj)⟩
/-- A block beside the nets was written. -/
theorem Duo.past (h : Duo w W N M Q c sv sizes cut cuts ls lr F) {B : Nat} (hF : F B) {cs : Array Value} {t : TypeId} (hc : CellsAt W B cs t) (ht : t ≠ 5 ∧ t ≠ 3) (hB : w.heap.size ≤ B) (d : Ch (fun j => j = B) W W') : Duo w W' N M Q c sv sizes cut cuts ls lr F := by
  obtain ⟨lv, ps, lvr, cvr, psr, h1, h2, h3, h4, h5, h6⟩ := h
  have hk : Kb W W' := Kb.ch d (fun j cs' t' fr hj hc' => by have e : j = B := hj; subst e; rw [cells_type hc' hc]; exact ht)
  exact ⟨lv, ps, lvr, cvr, psr, h1.keep hk (fun j hj => d.block j (h1.ltB j hj).2 (fun e => (h6 B hF).2.1 (by rw [← (show j = B from e)]; exact hj))), h2.keep hk (fun j hj => d.block j (h2.ltB j hj).2 (fun e => (h6 B hF).2.2 (by rw [← (show j = B from e)]; exact hj))) (Below.trans h2.gr (d.below h2.gr.size (fun j hj => by have e : j = B := hj; omega))), h3, h4, h5, fun j hj => ⟨Nat.lt_of_lt_of_le (h6 j hj).1 d.size, (h6 j hj).2⟩⟩
theorem Duo.does (h : Duo w W N M Q c sv sizes cut cuts ls lr F) (hc : c < 1000000) (a : ActD) (bv : Value) (hok : ActOk a) (hls : ∀ l ∈ ls, LetOk l ∧ l.b.length ≤ 2097152) (hb : Sl W bv (bytes a.l.b)) (hbl : a.l.b.length ≤ 2097152)
    (hlt : ∀ j, bv.ownBlock = some j → j < w.heap.size ∨ a.l.b = []) {r : LetD × Int × List LetD × (AdD × AdD → Bool)} (hr : doesV sizes cut ls a = r) :
    Calls Try.prog 21 #[.pointer (some ⟨N, 0, Option.none⟩), actV a bv] W fun e w' => ∃ bv', e = .returned (.tuple #[letV r.1 bv', .int .i64 r.2.1]) ∧ Own w' w.heap.size 5 bv' (bytes r.1.b) ∧ Duo w w' N M Q (c + 1) sv sizes r.2.2.2 cuts r.2.2.1 lr F ∧ ∀ j, F j → w'.heap[j]? = W.heap[j]? := by
  obtain ⟨lv, ps, lvr, cvr, psr, h1, h2, h3, h4, h5, h6⟩ := h
  refine (does_any h1 h3 hc a bv hok hls hb hbl (fun hn j hj e => ?_) hr).mono ?_
  · have := (h1.lets.lt j e).1
    rcases hlt j hj with h' | h'
    · omega
    · exact hn h'
  · rintro e w' ⟨bv', rfl, ho, lv1, ps1, k1, k2, k3, k4⟩
    exact ⟨bv', rfl, ho, ⟨lv1, ps1, lvr, cvr, psr, k1, h2.keep (h1.kb k3) (fun j hj => k3.block j (h2.ltB j hj).2 (fun e => h5 j e hj)) (below_ch h2.gr h1 k3), k2, h4, fun j hj hj' => netB_step k4 (h2.ltB j hj').2 (fun e => h5 j e hj') hj, fun j hj => ⟨Nat.lt_of_lt_of_le (h6 j hj).1 k3.size, netB_step k4 (h6 j hj).1 (h6 j hj).2.1, (h6 j hj).2.2⟩⟩, fun j hj => k3.block j (h6 j hj).1 (h6 j hj).2.1⟩
/-- The document's net was written. -/
theorem Duo.rdid {lv lvr cvr : Value} {ps psr : List (LetD × Value)} {ls' : List LetD} {cuts' : List (AdD × AdD)} (h1 : NetIs W w.heap.size N M c lv ps sizes cut) (h2 : RNet w W Q sv lvr cvr psr cuts sizes) (h3 : ps.map Prod.fst = ls) (h5 : ∀ j, netB N M lv j → ¬ refB Q lvr cvr j) (h6 : ∀ j, F j → j < W.heap.size ∧ ¬ netB N M lv j ∧ ¬ refB Q lvr cvr j)
    (hd : RDid w W Q sv lvr cvr sizes ls' cuts' W') : Duo w W' N M Q c sv sizes cut cuts' ls ls' F ∧ (∀ j, F j → W'.heap[j]? = W.heap[j]?) ∧ Kb W W' := by
  obtain ⟨lv1, cv1, ps1, k1, k2, k3, k4, k5⟩ := hd
  have hk : Kb W W' := Kb.ch k3 h2.nb
  have step : ∀ j, j < W.heap.size → ¬ refB Q lvr cvr j → ¬ refB Q lv1 cv1 j := fun j hlt hn hj' => by
    rcases hj' with e | e | e
    · exact hn (.inl e)
    · rcases k4 j e with e | e
      · exact hn (.inr (.inl e))
      · omega
    · rcases k5 j e with e | e
      · exact hn (.inr (.inr e))
      · omega
  exact ⟨⟨lv, ps, lv1, cv1, ps1, h1.keep hk (fun j hj => k3.block j (h1.ltB j hj).2 (h5 j hj)), k1, h3, k2, fun j hj => step j (h1.ltB j hj).2 (h5 j hj), fun j hj => ⟨Nat.lt_of_lt_of_le (h6 j hj).1 k3.size, (h6 j hj).2.1, step j (h6 j hj).1 (h6 j hj).2.2⟩⟩, fun j hj => k3.block j (h6 j hj).1 (h6 j hj).2.2, hk⟩
theorem Duo.send (h : Duo w W N M Q c sv sizes cut cuts ls lr F) (hl : lr.length ≤ 4096) (l : LetD) (bv : Value) (hb : Sl W bv (bytes l.b)) (hbl : l.b.length ≤ 140737488355328) (hlt : ∀ j, bv.ownBlock = some j → j < w.heap.size ∨ l.b = []) {z : Int} {ls' : List LetD} (hz : sendE sizes lr.length l = z) (hls : (if z = 0 then lr ++ [l] else lr) = ls') :
    Calls Try.prog 22 #[.pointer (some ⟨Q, 0, Option.none⟩), letV l bv] W fun e w' => e = .returned (.int .i64 z) ∧ Duo w w' N M Q c sv sizes cut cuts ls ls' F ∧ (∀ j, F j → w'.heap[j]? = W.heap[j]?) ∧ Kb W w' := by
  obtain ⟨lv, ps, lvr, cvr, psr, h1, h2, h3, h4, h5, h6⟩ := h
  have hl9 : psr.length = lr.length := by rw [← h4, List.length_map]
  have := refsend_any h2 (by omega) l bv hb hbl (fun hn j hj e => by
    have := (h2.lets.lt j e).1
    rcases hlt j hj with h' | h'
    · omega
    · exact hn h')
  rw [hl9, hz, h4, hls] at this
  refine this.mono ?_
  rintro e w' ⟨rfl, hd⟩
  exact ⟨rfl, Duo.rdid h1 h2 h3 h5 h6 hd⟩
theorem Duo.turn (h : Duo w W N M Q c sv sizes cut cuts ls lr F) (hl : cuts.length ≤ 10000) (a b : AdD) (v : Bool) :
    Calls Try.prog 23 #[.pointer (some ⟨Q, 0, Option.none⟩), adV a, adV b, .bool v] W fun e w' => e = .returned (.int .i64 (turnE sizes a b)) ∧ Duo w w' N M Q c sv sizes cut (if linkV sizes a b then turnC cuts a b v else cuts) ls lr F ∧ (∀ j, F j → w'.heap[j]? = W.heap[j]?) ∧ Kb W w' := by
  obtain ⟨lv, ps, lvr, cvr, psr, h1, h2, h3, h4, h5, h6⟩ := h
  refine (refturn_any h2 hl a b v).mono ?_
  rintro e w' ⟨rfl, hd⟩
  rw [h4] at hd
  exact ⟨rfl, Duo.rdid h1 h2 h3 h5 h6 hd⟩
theorem Duo.act (h : Duo w W N M Q c sv sizes cut cuts ls lr F) (hl : lr.length ≤ 4096) (hcl : cuts.length ≤ 10000) (d : Nat) (hd : d = 1 ∨ d = 2 ∨ d = 3 ∨ d = 4) (i : Int) {r : LetD × Int × List LetD} (hr : actR cuts lr d i = r) :
    Calls Try.prog 24 #[.pointer (some ⟨Q, 0, Option.none⟩), .int .u8 (d : Int), .int .i64 i] W fun e w' => ∃ bv, e = .returned (.tuple #[letV r.1 bv, .int .i64 r.2.1]) ∧ Own w' w.heap.size 5 bv (bytes r.1.b) ∧ Duo w w' N M Q c sv sizes cut cuts ls r.2.2 F ∧ (∀ j, F j → w'.heap[j]? = W.heap[j]?) ∧ Kb W w' := by
  obtain ⟨lv, ps, lvr, cvr, psr, h1, h2, h3, h4, h5, h6⟩ := h
  have hl9 : psr.length = lr.length := by rw [← h4, List.length_map]
  refine (refact_any h2 h4 (by omega) hcl d hd i hr).mono ?_
  rintro e w' ⟨bv, rfl, hs, hdd⟩
  exact ⟨bv, rfl, hs, Duo.rdid h1 h2 h3 h5 h6 hdd⟩
theorem Duo.letters (h : Duo w W N M Q c sv sizes cut cuts ls lr F) (hlet : ∀ l ∈ ls, l.b.length ≤ 2097152) :
    Calls Try.prog 18 #[.pointer (some ⟨N, 0, Option.none⟩)] W fun e w' => ∃ v, e = .returned v ∧ Lets w' v ls ∧ Gr W w' := by
  obtain ⟨lv, ps, lvr, cvr, psr, h1, h2, h3, h4, h5, h6⟩ := h
  refine (letters_w h1 h3 hlet).mono ?_
  rintro e w' ⟨v, ps', rfl, k1, k2, k3⟩
  exact ⟨v, rfl, by rw [← k2]; exact k1.reads, k3⟩
theorem Duo.len (h : Duo w W N M Q c sv sizes cut cuts ls lr F) : Calls Try.prog 14 #[.pointer (some ⟨N, 0, Option.none⟩)] W fun e w' => e = .returned (.int .i64 (ls.length : Int)) ∧ w' = W := by
  obtain ⟨lv, ps, lvr, cvr, psr, h1, h2, h3, h4, h5, h6⟩ := h
  exact len_w h1 h3
theorem Duo.cuts1 (h : Duo w W N M Q c sv sizes cut cuts ls lr F) (a b : AdD) (ha : AdOk a) (hb : AdOk b) {r : Bool} (hr : cutsV sizes cut a b = r) :
    Calls Try.prog 17 #[.pointer (some ⟨N, 0, Option.none⟩), adV a, adV b] W fun e w' => e = .returned (.bool r) ∧ Gr W w' := by
  obtain ⟨lv, ps, lvr, cvr, psr, h1, h2, h3, h4, h5, h6⟩ := h
  subst hr
  exact cuts_any h1 a b ha hb
theorem Duo.cuts2 (h : Duo w W N M Q c sv sizes cut cuts ls lr F) (hl : cuts.length ≤ 10000) (a b : AdD) {r : Bool} (hr : cutsR cuts a b = r) :
    Calls Try.prog 25 #[.pointer (some ⟨Q, 0, Option.none⟩), adV a, adV b] W fun e w' => e = .returned (.bool r) ∧ Gr W w' := by
  obtain ⟨lv, ps, lvr, cvr, psr, h1, h2, h3, h4, h5, h6⟩ := h
  subst hr
  exact refcuts_any h2 (by omega) a b
/-- The document's letters. -/
theorem Duo.rows (h : Duo w W N M Q c sv sizes cut cuts ls lr F) : ∃ a cap, W.cell? ⟨Q, 1, Option.none⟩ = some (.slice a lr.length cap) ∧ Q < W.heap.size ∧ ∀ W', Gr W W' → Lets W' (.slice a lr.length cap) lr := by
  obtain ⟨lv, ps, lvr, cvr, psr, h1, h2, h3, h4, h5, h6⟩ := h
  obtain ⟨a, cap, e⟩ := h2.capL
  have hl9 : psr.length = lr.length := by rw [← h4, List.length_map]
  rw [hl9] at e
  subst e
  exact ⟨a, cap, h2.obj.cell 1, h2.obj.lt, fun W' g => by rw [← h4]; have := (h2.lets.gr g).reads; rw [h4] at this ⊢; exact this⟩
end
end Go.Proofs.Ytcpkbngoecpnkaa
