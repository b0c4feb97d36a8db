/-
  A net and a map of counts beside it.
-/
import Derived.Test.YtcpkbngoecpnkaaNetY
import Derived.Test.YtcpkbngoecpnkaaNetTwo
set_option linter.unusedVariables false
namespace Go.Proofs.Ytcpkbngoecpnkaa
open Go.RowKit

/-! ### The plain law -/
/-- How often a text is among the letters. -/
def cnt (ls : List LetD) (k : List UInt8) : Int := ((ls.filter fun l => decide (keyB l = k)).length : Int)
theorem cnt_nil (k : List UInt8) : cnt [] k = 0 := rfl
theorem cnt_append (a b : List LetD) (k : List UInt8) : cnt (a ++ b) k = cnt a k + cnt b k := by
  unfold cnt
  rw [List.filter_append, List.length_append]
  omega
theorem cnt_one (l : LetD) (k : List UInt8) : cnt [l] k = if k = keyB l then 1 else 0 := by
  unfold cnt
  by_cases h : keyB l = k
  · rw [List.filter_cons_of_pos (by simp [h]), if_pos h.symm]; rfl
  · rw [List.filter_cons_of_neg (by simp [h]), if_neg (fun e => h e.symm)]; rfl
theorem cnt_erase {ls : List LetD} {i : Nat} (hi : i < ls.length) (k : List UInt8) : cnt ls k = cnt (ls.eraseIdx i) k + if k = keyB ls[i] then 1 else 0 := by
  have h1 : ls = ls.take i ++ ls[i] :: ls.drop (i + 1) := by rw [← List.drop_eq_getElem_cons hi, List.take_append_drop]
  have h2 : ls.eraseIdx i = ls.take i ++ ls.drop (i + 1) := List.eraseIdx_eq_take_drop_succ ls i
  rw [h2, cnt_append]
  have h3 : cnt ls k = cnt (ls.take i) k + cnt ([ls[i]] ++ ls.drop (i + 1)) k := by
    rw [← cnt_append]; exact congrArg (fun l => cnt l k) h1
  rw [h3, cnt_append, cnt_one]
  omega
theorem cnt_nonneg (ls : List LetD) (k : List UInt8) : 0 ≤ cnt ls k := by unfold cnt; omega
theorem cnt_le (ls : List LetD) (k : List UInt8) : cnt ls k ≤ ls.length := by unfold cnt; have := List.length_filter_le (fun l => decide (keyB l = k)) ls; omega
theorem cnt_at {ls : List LetD} {i : Nat} (hi : i < ls.length) : 1 ≤ cnt ls (keyB ls[i]) := by
  rw [cnt_erase hi, if_pos rfl]
  have := cnt_nonneg (ls.eraseIdx i) (keyB ls[i])
  omega
theorem mayV_at {i : Int} {n : Nat} (h : mayV i n = 0) : ∃ k : Nat, i = (k : Int) ∧ k < n := mayV_lt h
/-- What an act does to the letters. -/
theorem doesV_no {sizes : List Int} {cut : AdD × AdD → Bool} {ls : List LetD} {a : ActD} (h : (doesV sizes cut ls a).2.1 ≠ 0) : (doesV sizes cut ls a).2.2.1 = ls := by
  have h7 : a.op % 7 < 7 := Nat.mod_lt _ (by decide)
  unfold doesV at h ⊢
  obtain e | e | e | e | e | e | e : a.op % 7 = 0 ∨ a.op % 7 = 1 ∨ a.op % 7 = 2 ∨ a.op % 7 = 3 ∨ a.op % 7 = 4 ∨ a.op % 7 = 5 ∨ a.op % 7 = 6 := by omega
  all_goals rw [e] at h ⊢
  · exact if_neg h
  · show (takeV sizes cut ls a.i).2.2 = ls
    have h' : (takeV sizes cut ls a.i).2.1 ≠ 0 := h
    unfold takeV at h' ⊢
    split
    · split
      · rfl
      · rename_i h1 h2
        rw [if_pos h1, if_neg h2] at h'
        exact absurd rfl h'
    · rfl
  · exact if_neg h
  · exact if_neg h
  · show holdL ls a.i = ls
    unfold holdL
    exact if_neg h
  · rfl
  · rfl
theorem doesV_0 {sizes : List Int} {cut : AdD × AdD → Bool} {ls : List LetD} {a : ActD} (e : a.op % 7 = 0) (h : (doesV sizes cut ls a).2.1 = 0) : (doesV sizes cut ls a).2.2.1 = ls ++ [a.l] := by
  unfold doesV at h ⊢
  rw [e] at h ⊢
  exact if_pos h
theorem doesV_1 {sizes : List Int} {cut : AdD × AdD → Bool} {ls : List LetD} {a : ActD} (e : a.op % 7 = 1) (h : (doesV sizes cut ls a).2.1 = 0) :
    ∃ (k : Nat) (hk : k < ls.length), a.i = (k : Int) ∧ (doesV sizes cut ls a).1 = ls[k] ∧ (doesV sizes cut ls a).2.2.1 = ls.eraseIdx k := by
  unfold doesV at h ⊢
  rw [e] at h ⊢
  have h' : (takeV sizes cut ls a.i).2.1 = 0 := h
  show ∃ (k : Nat) (hk : k < ls.length), a.i = (k : Int) ∧ (takeV sizes cut ls a.i).1 = ls[k] ∧ (takeV sizes cut ls a.i).2.2 = ls.eraseIdx k
  unfold takeV at h' ⊢
  by_cases h1 : mayV a.i ls.length = 0
  · rw [if_pos h1] at h' ⊢
    obtain ⟨k, e1, e2⟩ := mayV_at h1
    by_cases h2 : cutsV sizes cut (ls.getD a.i.toNat zl).src (ls.getD a.i.toNat zl).dst = true
    · rw [if_pos h2] at h'; cases h'
    · rw [if_neg h2]
      refine ⟨k, e2, e1, ?_, ?_⟩
      · rw [e1, Int.toNat_natCast]
        simp [List.getD_eq_getElem?_getD, List.getElem?_eq_getElem e2]
      · rw [e1, Int.toNat_natCast]
  · rw [if_neg h1] at h'; cases h'
theorem doesV_2 {sizes : List Int} {cut : AdD × AdD → Bool} {ls : List LetD} {a : ActD} (e : a.op % 7 = 2) (h : (doesV sizes cut ls a).2.1 = 0) :
    ∃ (k : Nat) (hk : k < ls.length), a.i = (k : Int) ∧ (doesV sizes cut ls a).2.2.1 = ls.eraseIdx k := by
  unfold doesV at h ⊢
  rw [e] at h ⊢
  have h' : mayV a.i ls.length = 0 := h
  obtain ⟨k, e1, e2⟩ := mayV_at h'
  exact ⟨k, e2, e1, by rw [show (ls.eraseIdx k) = ls.eraseIdx a.i.toNat by rw [e1, Int.toNat_natCast]]; exact if_pos h⟩
theorem doesV_3 {sizes : List Int} {cut : AdD × AdD → Bool} {ls : List LetD} {a : ActD} (e : a.op % 7 = 3) (h : (doesV sizes cut ls a).2.1 = 0) :
    ∃ (k : Nat) (hk : k < ls.length), a.i = (k : Int) ∧ (doesV sizes cut ls a).2.2.1 = ls ++ [ls[k]] := by
  unfold doesV at h ⊢
  rw [e] at h ⊢
  have h' : doubleE ls.length a.i = 0 := h
  have h1 : mayV a.i ls.length = 0 := by unfold doubleE at h'; split at h' <;> first | assumption | cases h'
  obtain ⟨k, e1, e2⟩ := mayV_at h1
  refine ⟨k, e2, e1, ?_⟩
  show (if doubleE ls.length a.i = 0 then ls ++ (ls[a.i.toNat]?).toList else ls) = _
  rw [if_pos h', e1, Int.toNat_natCast, List.getElem?_eq_getElem e2]
  rfl
theorem doesV_4 {sizes : List Int} {cut : AdD × AdD → Bool} {ls : List LetD} {a : ActD} (e : a.op % 7 = 4) (h : (doesV sizes cut ls a).2.1 = 0) :
    ∃ (k : Nat) (hk : k < ls.length), a.i = (k : Int) ∧ (doesV sizes cut ls a).2.2.1 = ls.eraseIdx k ++ [ls[k]] := by
  unfold doesV at h ⊢
  rw [e] at h ⊢
  have h' : mayV a.i ls.length = 0 := h
  obtain ⟨k, e1, e2⟩ := mayV_at h'
  refine ⟨k, e2, e1, ?_⟩
  show holdL ls a.i = _
  unfold holdL
  rw [if_pos h', e1, Int.toNat_natCast, List.getElem?_eq_getElem e2]
  rfl
theorem doesV_56 {sizes : List Int} {cut : AdD × AdD → Bool} {ls : List LetD} {a : ActD} (e : a.op % 7 = 5 ∨ a.op % 7 = 6) : (doesV sizes cut ls a).2.2.1 = ls := by
  unfold doesV
  rcases e with e | e <;> (rw [e]; rfl)
/-- What is there behind an act was there, or was sent. -/
theorem doesV_mem {sizes : List Int} {cut : AdD × AdD → Bool} {ls : List LetD} {a : ActD} {x : LetD} (hx : x ∈ (doesV sizes cut ls a).2.2.1) : x ∈ ls ∨ x = a.l := by
  by_cases h : (doesV sizes cut ls a).2.1 = 0
  · have h7 : a.op % 7 < 7 := Nat.mod_lt _ (by decide)
    obtain e | e | e | e | e | e : a.op % 7 = 0 ∨ a.op % 7 = 1 ∨ a.op % 7 = 2 ∨ a.op % 7 = 3 ∨ a.op % 7 = 4 ∨ (a.op % 7 = 5 ∨ a.op % 7 = 6) := by omega
    · rw [doesV_0 e h] at hx
      exact (List.mem_append.1 hx).imp id List.mem_singleton.1
    · obtain ⟨k, hk, _, _, e2⟩ := doesV_1 e h
      rw [e2] at hx
      exact .inl (List.mem_of_mem_eraseIdx hx)
    · obtain ⟨k, hk, _, e2⟩ := doesV_2 e h
      rw [e2] at hx
      exact .inl (List.mem_of_mem_eraseIdx hx)
    · obtain ⟨k, hk, _, e2⟩ := doesV_3 e h
      rw [e2] at hx
      rcases List.mem_append.1 hx with hx | hx
      · exact .inl hx
      · rw [List.mem_singleton.1 hx]; exact .inl (List.getElem_mem hk)
    · obtain ⟨k, hk, _, e2⟩ := doesV_4 e h
      rw [e2] at hx
      rcases List.mem_append.1 hx with hx | hx
      · exact .inl (List.mem_of_mem_eraseIdx hx)
      · rw [List.mem_singleton.1 hx]; exact .inl (List.getElem_mem hk)
    · rw [doesV_56 e] at hx; exact .inl hx
  · rw [doesV_no h] at hx; exact .inl hx
theorem doesV_len {sizes : List Int} {cut : AdD × AdD → Bool} {ls : List LetD} {a : ActD} : (doesV sizes cut ls a).2.2.1.length ≤ ls.length + 1 := by
  by_cases h : (doesV sizes cut ls a).2.1 = 0
  · have h7 : a.op % 7 < 7 := Nat.mod_lt _ (by decide)
    obtain e | e | e | e | e | e : a.op % 7 = 0 ∨ a.op % 7 = 1 ∨ a.op % 7 = 2 ∨ a.op % 7 = 3 ∨ a.op % 7 = 4 ∨ (a.op % 7 = 5 ∨ a.op % 7 = 6) := by omega
    · rw [doesV_0 e h]; simp
    · obtain ⟨k, hk, _, _, e2⟩ := doesV_1 e h
      rw [e2]; have := List.length_eraseIdx_le ls k; omega
    · obtain ⟨k, hk, _, e2⟩ := doesV_2 e h
      rw [e2]; have := List.length_eraseIdx_le ls k; omega
    · obtain ⟨k, hk, _, e2⟩ := doesV_3 e h
      rw [e2]; simp
    · obtain ⟨k, hk, _, e2⟩ := doesV_4 e h
      rw [e2]; have := List.length_eraseIdx_le ls k; simp; omega
    · rw [doesV_56 e]; omega
  · rw [doesV_no h]; omega
/-! ### The state -/
def str (k : List UInt8) : Value := .string ⟨k.toArray⟩
/-- A net and a map of counts. -/
def Once (w W : World) (N M G c n : Nat) (cut : AdD × AdD → Bool) (ls : List LetD) (mf : List UInt8 → Int) : Prop :=
  ∃ lv ps f, NetIs W w.heap.size N M c lv ps S231 cut ∧ ps.map Prod.fst = ls ∧ MapIs W 9 3 G n (.int .i64 0) f ∧ (∀ k : List UInt8, f (.string k) = .int .i64 (mf k)) ∧ ¬ netB N M lv G ∧ w.heap.size ≤ G ∧ Gr w W
section
variable {w W W' : World} {N M G c n : Nat} {cut : AdD × AdD → Bool} {ls : List LetD} {mf : List UInt8 → Int}
theorem Once.go (h : Once w W N M G c n cut ls mf) (g : Gr W W') : Once w W' N M G c n cut ls mf := by
  obtain ⟨lv, ps, f, h1, h2, h3, h4, h5, h6, h7⟩ := h
  exact ⟨lv, ps, f, h1.gr g, h2, h3.below g, h4, h5, h6, Below.trans h7 (g.mono h7.size)⟩
theorem Once.below (h : Once w W N M G c n cut ls mf) : Gr w W := by obtain ⟨lv, ps, f, h1, h2, h3, h4, h5, h6, h7⟩ := h; exact h7
theorem Once.mono {n' : Nat} (h : Once w W N M G c n cut ls mf) (hn : n ≤ n') : Once w W N M G c n' cut ls mf := by
  obtain ⟨lv, ps, f, h1, h2, h3, h4⟩ := h; exact ⟨lv, ps, f, h1, h2, h3.mono hn, h4⟩
theorem Once.len (h : Once w W N M G c n cut ls mf) : Calls Try.prog 14 #[.pointer (some ⟨N, 0, Option.none⟩)] W fun e w' => e = .returned (.int .i64 (ls.length : Int)) ∧ w' = W := by
  obtain ⟨lv, ps, f, h1, h2, h3⟩ := h
  exact len_w h1 h2
theorem Once.letters (h : Once w W N M G c n cut ls mf) (hlet : ∀ l ∈ ls, l.b.length ≤ 2097152) :
    Calls Try.prog 18 #[.pointer (some ⟨N, 0, Option.none⟩)] W fun e w' => ∃ v, e = .returned v ∧ (∃ ps', LetsR w' W.heap.size v ps' ∧ ps'.map Prod.fst = ls) ∧ Gr W w' := by
  obtain ⟨lv, ps, f, h1, h2, h3⟩ := h
  refine (letters_w h1 h2 hlet).mono ?_
  rintro e w' ⟨v, ps', rfl, k1, k2, k3⟩
  exact ⟨v, rfl, ⟨ps', k1, k2⟩, k3⟩
/-- Letters of the call's own that no method writes. -/
def Was (w W : World) (N M G c n : Nat) (cut : AdD × AdD → Bool) (ls : List LetD) (mf : List UInt8 → Int) (v : Value) (was : List LetD) : Prop :=
  ∃ lv ps f qs, NetIs W w.heap.size N M c lv ps S231 cut ∧ ps.map Prod.fst = ls ∧ MapIs W 9 3 G n (.int .i64 0) f ∧ (∀ k : List UInt8, f (.string k) = .int .i64 (mf k)) ∧ ¬ netB N M lv G ∧ w.heap.size ≤ G ∧ Gr w W ∧
    LetsR W w.heap.size v qs ∧ qs.map Prod.fst = was ∧ ∀ j, v.ownBlock = some j → ¬ netB N M lv j ∧ j ≠ G
variable {v : Value} {was : List LetD}
theorem Was.once (h : Was w W N M G c n cut ls mf v was) : Once w W N M G c n cut ls mf := by
  obtain ⟨lv, ps, f, qs, h1, h2, h3, h4, h5, h6, h7, _⟩ := h
  exact ⟨lv, ps, f, h1, h2, h3, h4, h5, h6, h7⟩
theorem Was.below (h : Was w W N M G c n cut ls mf v was) : Gr w W := h.once.below
theorem Was.go (h : Was w W N M G c n cut ls mf v was) (g : Gr W W') : Was w W' N M G c n cut ls mf v was := by
  obtain ⟨lv, ps, f, qs, h1, h2, h3, h4, h5, h6, h7, h8, h9, h10⟩ := h
  exact ⟨lv, ps, f, qs, h1.gr g, h2, h3.below g, h4, h5, h6, Below.trans h7 (g.mono h7.size), h8.gr g, h9, h10⟩
theorem Was.reads (h : Was w W N M G c n cut ls mf v was) : Lets W v was := by
  obtain ⟨lv, ps, f, qs, h1, h2, h3, h4, h5, h6, h7, h8, h9, h10⟩ := h
  rw [← h9]; exact h8.reads
theorem Was.shape (h : Was w W N M G c n cut ls mf v was) : ∃ a cap, v = .slice a was.length cap := h.reads.shape
theorem Once.lets (h : Once w W N M G c n cut ls mf) (hlet : ∀ l ∈ ls, l.b.length ≤ 2097152) :
    Calls Try.prog 18 #[.pointer (some ⟨N, 0, Option.none⟩)] W fun e w' => ∃ v, e = .returned v ∧ Was w w' N M G c n cut ls mf v ls ∧ Gr W w' := by
  obtain ⟨lv, ps, f, h1, h2, h3, h4, h5, h6, h7⟩ := h
  refine (letters_w h1 h2 hlet).mono ?_
  rintro e w' ⟨v, ps', rfl, k1, k2, k3⟩
  exact ⟨v, rfl, ⟨lv, ps, f, ps', h1.gr k3, h2, h3.below k3, h4, h5, h6, Below.trans h7 (k3.mono h7.size), ⟨k1.rows.mono h7.size, fun p hp => (k1.own p hp).mono h7.size⟩, k2, fun j hj => ⟨fresh_nb h1 (k1.lt j hj).1, fun e => by have := (k1.lt j hj).1; have := h3.lt; omega⟩⟩, k3⟩
theorem Was.does (h : Was w W N M G c n cut ls mf v was) (hc : c < 1000000) (a : ActD) (bv : Value) (hok : ActOk a) (hls : ∀ l ∈ ls, LetOk l ∧ l.b.length ≤ 2097152) (hb : Sl W bv (bytes a.l.b)) (hbl : a.l.b.length ≤ 2097152)
    (hlt : ∀ j, bv.ownBlock = some j → j < w.heap.size ∨ a.l.b = []) {r : LetD × Int × List LetD × (AdD × AdD → Bool)} (hr : doesV S231 cut ls a = r) :
    Calls Try.prog 21 #[.pointer (some ⟨N, 0, Option.none⟩), actV a bv] W fun e w' => ∃ bv', e = .returned (.tuple #[letV r.1 bv', .int .i64 r.2.1]) ∧ Sl w' bv' (bytes r.1.b) ∧ Was w w' N M G (c + 1) n r.2.2.2 r.2.2.1 mf v was := by
  obtain ⟨lv, ps, f, qs, h1, h2, h3, h4, h5, h6, h7, h8, h9, h10⟩ := h
  refine (does_any h1 h2 hc a bv hok hls hb hbl (fun hn j hj e => ?_) hr).mono ?_
  · have := (h1.lets.lt j e).1
    rcases hlt j hj with h' | h'
    · omega
    · exact hn h'
  · rintro e w' ⟨bv', rfl, ho, lv1, ps1, k1, k2, k3, k4⟩
    exact ⟨bv', rfl, ho.sl, lv1, ps1, f, qs, k1, k2, h3.block (k3.block G h3.lt h5), h4, netB_step k4 h3.lt h5, h6, below_ch h7 h1 k3, h8.past h1 k3 (fun j hj => (h10 j hj).1), h9, fun j hj => ⟨netB_step k4 (h8.lt j hj).2 (h10 j hj).1, (h10 j hj).2⟩⟩
theorem str_key (k : List UInt8) (hk : k.length ≤ 1000) : keyOf Try.prog 9 (str k) = some (.string k) := WideMaps.keyOf_string_mk (P := Try.prog) (s := ⟨k.toArray⟩) Try.underlying9 (by show k.toArray.size ≤ _; simp; unfold maxLen; omega)
theorem Was.look (h : Was w W N M G c n cut ls mf v was) (k : List UInt8) (hk : k.length ≤ 1000) : (Instr.lookup 59 (.map (some G)) (str k) false).run Try.prog W = .ok (.int .i64 (mf k)) W := by
  obtain ⟨lv, ps, f, qs, h1, h2, h3, h4, _⟩ := h
  obtain ⟨c, e, hr⟩ := run_lookup_int W (Go.Maps.string_keyed Try.underlying9) Try.underlying59 Try.underlying3 (by kernel_rfl) h3 (str_key k hk)
  rw [h4] at e
  injection e with _ e
  rw [e]; exact hr
theorem Once.look (h : Once w W N M G c n cut ls mf) (k : List UInt8) (hk : k.length ≤ 1000) : (Instr.lookup 59 (.map (some G)) (str k) false).run Try.prog W = .ok (.int .i64 (mf k)) W := by
  obtain ⟨lv, ps, f, h1, h2, h3, h4, _⟩ := h
  obtain ⟨c, e, hr⟩ := run_lookup_int W (Go.Maps.string_keyed Try.underlying9) Try.underlying59 Try.underlying3 (by kernel_rfl) h3 (str_key k hk)
  rw [h4] at e
  injection e with _ e
  rw [e]; exact hr
theorem Was.update (h : Was w W N M G c n cut ls mf v was) (hn : n < 1000000) (k : List UInt8) (hk : k.length ≤ 1000) (z : Int) (hz : -100000 ≤ z ∧ z ≤ 100000) (mf' : List UInt8 → Int) (hm : ∀ k', mf' k' = if k' = k then z else mf k') :
    ∃ w', (Instr.mapUpdate 59 (.map (some G)) (str k) (.int .i64 z)).run Try.prog W = .ok () w' ∧ Was w w' N M G c (n + 1) cut ls mf' v was ∧ Ch (fun j => j = G) W w' := by
  obtain ⟨lv, ps, f, qs, h1, h2, h3, h4, h5, h6, h7, h8, h9, h10⟩ := h
  obtain ⟨w', f', hr, k1, k2, k3, k4⟩ := run_update W (Go.Maps.string_keyed Try.underlying9) Try.underlying59 h3 (by unfold maxLen; omega) (str_key k hk) (val := .int .i64 z) (d := .int .i64 z) (by unfold plainElem; rw [Try.underlying3]; show (if IntKind.i64 = IntKind.i64 ∧ (Lit.int .i64 z).wf = true then _ else _) = _; rw [if_pos ⟨rfl, by simp [Lit.wf, IntKind.min, IntKind.max, IntKind.bits, IntKind.signed]; omega⟩])
  have hc : Ch (fun j => j = G) W w' := Ch.of_grownBy k4 (fun j hj => by injection hj with hj; exact hj.symm)
  obtain ⟨D, ⟨es, clock, hG, _⟩, _⟩ := h3
  have hkb : Kb W w' := Kb.ch hc (fun j cs t fr hj hcs => by have e : j = G := hj; rw [e, hG] at hcs; cases hcs)
  refine ⟨w', hr, ⟨lv, ps, f', qs, h1.keep hkb (fun j hj => hc.block j (h1.ltB j hj).2 (fun e => h5 (by have e9 : j = G := e; rw [← e9]; exact hj))), h2, k1, fun k' => ?_, h5, h6, Below.trans h7 (hc.below h7.size (fun j hj => by have e : j = G := hj; omega)),
    h8.keep hkb (fun j hj => hc.block j (h8.lt j hj).2 (h10 j hj).2), h9, h10⟩, hc⟩
  rw [hm]
  by_cases e : k' = k
  · rw [if_pos e, e, k2]
  · rw [if_neg e, k3 _ (fun e9 => e (by injection e9)), h4]
end
end Go.Proofs.Ytcpkbngoecpnkaa
