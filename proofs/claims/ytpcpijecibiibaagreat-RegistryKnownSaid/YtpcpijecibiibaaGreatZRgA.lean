/-
  Package registry, plain: what a registry is, and what entries do to it. No program in sight.
  Slices of integers.
  The state of a registry in memory.
-/
import Derived.Test.YtpcpijecibiibaaGreatZO
import Derived.Test.YtpcpijecibiibaaGreatZQZ
import Derived.Test.YtpcpijecibiibaaGreatZG
import Derived.Test.YtpcpijecibiibaaGreatZEnRows
section
set_option linter.unusedVariables false
set_option linter.unusedSimpArgs false
set_option maxRecDepth 100000
namespace Go.Proofs.YtpcpijecibiibaaGreat
open Go.RowKit
structure Tok where
  epoch : Nat
  holder : Int
  frontier : List Nat
  queue : List Int
structure RegD where
  sites : Int
  l : List Tok
def tok0 (n : Nat) : Tok := ⟨0, -1, List.replicate n 0, []⟩
instance : Inhabited Tok := ⟨tok0 0⟩
def newG (s r : Int) : RegD := if 0 ≤ s ∧ s ≤ 3 ∧ 0 ≤ r ∧ r ≤ 4 then ⟨s, List.replicate r.toNat (tok0 s.toNat)⟩ else ⟨0, []⟩
def wantT (t : Tok) (s : Int) : Option Tok := if t.holder = s ∨ s ∈ t.queue then none else some { t with queue := t.queue ++ [s] }
def backT (t : Tok) (s : Int) (e : Nat) (f : List Nat) : Option Tok := if t.holder ≠ s ∨ t.epoch ≠ e ∨ f.length ≠ t.frontier.length then none else some { t with holder := -1, frontier := maxV t.frontier f }
def nextT (t : Tok) : Tok := if t.holder < 0 ∧ 0 < t.queue.length then ⟨(t.epoch + 1) % 2 ^ 64, t.queue.headD 0, t.frontier, t.queue.tail⟩ else t
def doT (x : EntD) (t : Tok) : Option Tok := if x.kind = 8 then wantT t x.site else if x.kind = 9 then backT t x.site x.epoch x.frontier else none
def inG (r : RegD) (i : Int) : Bool := decide (0 ≤ i) && decide (i < (r.l.length : Int))
def atG (r : RegD) (i : Int) : Tok := if inG r i then r.l.getD i.toNat (tok0 0) else tok0 0
def applyX (r : RegD) (x : EntD) : RegD :=
  if inG r x.region = true ∧ 0 ≤ x.site ∧ x.site < r.sites then
    match doT x (atG r x.region) with
    | some t => { r with l := r.l.set x.region.toNat (nextT t) }
    | none => r
  else r
def applyG (r : RegD) (l : List UInt8) : RegD := if (getV l).2 = 0 then applyX r (getV l).1 else r
/-- What always holds of a token of so many sites. -/
structure TokOk (n : Int) (t : Tok) : Prop where
  epoch : t.epoch < 2 ^ 64
  holder : -1 ≤ t.holder ∧ t.holder < n
  front : t.frontier.length = n.toNat
  fnum : ∀ k ∈ t.frontier, k < 2 ^ 64
  queue : ∀ q ∈ t.queue, 0 ≤ q ∧ q < n
  nodup : t.queue.Nodup
  notin : t.holder ∉ t.queue
  free : t.holder < 0 → t.queue = []
structure RegOk (r : RegD) : Prop where
  sites : 0 ≤ r.sites ∧ r.sites ≤ 3
  len : r.l.length ≤ 4
  toks : ∀ t ∈ r.l, TokOk r.sites t
theorem nodup_bound : ∀ (n : Nat) (l : List Int), l.Nodup → (∀ q ∈ l, 0 ≤ q ∧ q < (n : Int)) → l.length ≤ n
  | 0, l, _, h => by
    cases l with
    | nil => exact Nat.zero_le _
    | cons a l => have := h a (.head _); omega
  | n + 1, l, hn, h => by
    have h1 := nodup_bound n (l.erase (n : Int)) (hn.erase _) (fun q hq => by
      have hq2 := hn.mem_erase_iff.1 hq
      have := h q hq2.2
      have := hq2.1
      omega)
    have h2 : l.length ≤ (l.erase (n : Int)).length + 1 := by
      rw [List.length_erase]; split <;> omega
    omega
theorem TokOk.queue_le {n : Int} {t : Tok} (h : TokOk n t) (hn : n ≤ 3) (h0 : 0 ≤ n) : t.queue.length ≤ 3 := by
  have := nodup_bound 3 t.queue h.nodup (fun q hq => by have := h.queue q hq; omega)
  exact this
theorem tok0_ok (n : Int) (h : 0 ≤ n) : TokOk n (tok0 n.toNat) :=
  ⟨by show (0 : Nat) < 2 ^ 64; decide, by unfold tok0; simp; omega, by unfold tok0; simp, fun k hk => by
    have := List.eq_of_mem_replicate (show k ∈ List.replicate n.toNat 0 from hk); omega, fun q hq => (by cases hq), List.nodup_nil, fun h => (by cases h), fun _ => rfl⟩
theorem newG_ok (s r : Int) : RegOk (newG s r) := by
  unfold newG
  split
  · rename_i h
    exact ⟨⟨h.1, h.2.1⟩, by simp; omega, fun t ht => by rw [List.eq_of_mem_replicate ht]; exact tok0_ok s h.1⟩
  · exact ⟨by simp, by simp, fun t ht => by cases ht⟩
theorem maxV_len {a b : List Nat} (h : b.length = a.length) : (maxV a b).length = a.length := by
  unfold maxV; rw [if_pos h.symm]; simp [upto]
theorem maxV_mem {a b : List Nat} (ha : ∀ k ∈ a, k < 2 ^ 64) (hb : ∀ k ∈ b, k < 2 ^ 64) : ∀ k ∈ maxV a b, k < 2 ^ 64 := by
  intro k hk
  unfold maxV at hk
  split at hk
  · unfold upto at hk
    obtain ⟨j, _, rfl⟩ := List.mem_map.1 hk
    unfold maxAt pairAt
    have h1 : a[j]?.getD 0 < 2 ^ 64 := by
      cases h : a[j]? with
      | none => simp
      | some z => exact ha z (List.mem_of_getElem? h)
    have h2 : b[j]?.getD 0 < 2 ^ 64 := by
      cases h : b[j]? with
      | none => simp
      | some z => exact hb z (List.mem_of_getElem? h)
    simp only; omega
  · cases hk
theorem nextT_ok {n : Int} {t : Tok} (h : TokOk n { t with queue := t.queue } ∨ ((t.holder < 0 → True) ∧ t.epoch < 2 ^ 64 ∧ (-1 ≤ t.holder ∧ t.holder < n) ∧ t.frontier.length = n.toNat ∧ (∀ k ∈ t.frontier, k < 2 ^ 64) ∧ (∀ q ∈ t.queue, 0 ≤ q ∧ q < n) ∧ t.queue.Nodup ∧ t.holder ∉ t.queue)) : TokOk n (nextT t) := by
  have h' : t.epoch < 2 ^ 64 ∧ (-1 ≤ t.holder ∧ t.holder < n) ∧ t.frontier.length = n.toNat ∧ (∀ k ∈ t.frontier, k < 2 ^ 64) ∧ (∀ q ∈ t.queue, 0 ≤ q ∧ q < n) ∧ t.queue.Nodup ∧ t.holder ∉ t.queue := by
    rcases h with h | h
    · exact ⟨h.epoch, h.holder, h.front, h.fnum, h.queue, h.nodup, h.notin⟩
    · exact h.2
  obtain ⟨h1, h2, h3, h4, h5, h6, h7⟩ := h'
  unfold nextT
  split
  · rename_i hc
    obtain ⟨e, hd, fr, q⟩ := t
    cases q with
    | nil => simp at hc
    | cons a q =>
      have ha := h5 a (.head _)
      have hn := List.nodup_cons.1 h6
      exact ⟨Nat.mod_lt _ (by decide), ⟨by show (-1 : Int) ≤ a; omega, ha.2⟩, h3, h4, fun z hz => h5 z (.tail _ hz), hn.2, hn.1, fun hlt => by have : a < 0 := hlt; omega⟩
  · rename_i hc
    exact ⟨h1, h2, h3, h4, h5, h6, h7, fun hlt => List.eq_nil_of_length_eq_zero (by
      rcases Nat.eq_zero_or_pos t.queue.length with h | h
      · exact h
      · exact absurd ⟨hlt, h⟩ hc)⟩
theorem doT_ok {n : Int} {x : EntD} {t t' : Tok} (h : TokOk n t) (hs : 0 ≤ x.site ∧ x.site < n) (hx : ∀ k ∈ x.frontier, k < 2 ^ 64) (hd : doT x t = some t') : TokOk n (nextT t') := by
  unfold doT at hd
  split at hd
  · unfold wantT at hd
    split at hd
    · cases hd
    · rename_i hc
      injection hd with hd
      subst hd
      have hc2 : t.holder ≠ x.site ∧ x.site ∉ t.queue := ⟨fun e => hc (.inl e), fun e => hc (.inr e)⟩
      refine nextT_ok (.inr ⟨fun _ => trivial, h.epoch, h.holder, h.front, h.fnum, fun q hq => ?_, ?_, fun hm => ?_⟩)
      · rcases List.mem_append.1 hq with hq | hq
        · exact h.queue q hq
        · rw [List.mem_singleton.1 hq]; exact hs
      · refine List.nodup_append.2 ⟨h.nodup, by simp, fun a ha b hb e => ?_⟩
        rw [List.mem_singleton.1 hb] at e
        exact hc2.2 (e ▸ ha)
      · rcases List.mem_append.1 hm with hm | hm
        · exact h.notin hm
        · exact hc2.1 (List.mem_singleton.1 hm)
  · split at hd
    · unfold backT at hd
      split at hd
      · cases hd
      · rename_i hc
        injection hd with hd
        subst hd
        have hc2 : t.holder = x.site ∧ t.epoch = x.epoch ∧ x.frontier.length = t.frontier.length := by
          refine ⟨Classical.not_not.1 fun e => hc (.inl e), Classical.not_not.1 fun e => hc (.inr (.inl e)), Classical.not_not.1 fun e => hc (.inr (.inr e))⟩
        refine nextT_ok (.inr ⟨fun _ => trivial, h.epoch, ⟨by show (-1 : Int) ≤ -1; omega, by show (-1 : Int) < n; omega⟩, by show (maxV _ _).length = _; rw [maxV_len hc2.2.2]; exact h.front, maxV_mem h.fnum hx, h.queue, h.nodup, fun hm => ?_⟩)
        have := h.queue (-1) hm
        omega
    · cases hd
theorem atG_ok {r : RegD} (h : RegOk r) {i : Int} (hi : inG r i = true) : TokOk r.sites (atG r i) := by
  unfold atG
  rw [hi, if_pos rfl]
  unfold inG at hi
  simp only [Bool.and_eq_true, decide_eq_true_eq] at hi
  have hl : i.toNat < r.l.length := by omega
  rw [List.getD_eq_getElem?_getD, List.getElem?_eq_getElem hl]
  exact h.toks _ (List.getElem_mem hl)
theorem applyX_ok {r : RegD} (h : RegOk r) (x : EntD) (hx : ∀ k ∈ x.frontier, k < 2 ^ 64) : RegOk (applyX r x) := by
  unfold applyX
  split
  · rename_i hc
    cases hd : doT x (atG r x.region) with
    | none => exact h
    | some t =>
      refine ⟨h.sites, by simpa using h.len, fun z hz => ?_⟩
      rcases List.mem_or_eq_of_mem_set hz with hz | rfl
      · exact h.toks z hz
      · exact doT_ok (atG_ok h hc.1) hc.2 hx hd
  · exact h
theorem applyX_sites (r : RegD) (x : EntD) : (applyX r x).sites = r.sites ∧ (applyX r x).l.length = r.l.length := by
  unfold applyX
  split
  · split
    · exact ⟨rfl, by simp⟩
    · exact ⟨rfl, rfl⟩
  · exact ⟨rfl, rfl⟩
theorem applyG_ok {r : RegD} (h : RegOk r) (l : List UInt8) : RegOk (applyG r l) := by
  unfold applyG
  split
  · exact applyX_ok h _ (getV_all l).2.2.1.frontier
  · exact h
end Go.Proofs.YtpcpijecibiibaaGreat
end
section
set_option linter.unusedVariables false
set_option linter.unusedSimpArgs false
set_option maxRecDepth 100000
namespace Go.Proofs.YtpcpijecibiibaaGreat
open Go.RowKit
def ints (l : List Int) : List Value := l.map (Value.int .i64)
theorem info_int : (Tryz.prog.info? 3).map (fun i => (i.zero, i.size, i.bytes)) = some (some (.int .i64 0), 1, 8) := by kernel_rfl
theorem ints_length (l : List Int) : (ints l).length = l.length := by unfold ints; rw [List.length_map]
theorem one_ints (l : List Int) : ∀ u ∈ ints l, u.oneCell' = true := by
  intro u hu
  obtain ⟨z, _, rfl⟩ := List.mem_map.1 hu
  rfl
theorem run_append_ints (w : World) (base : Nat) (v y : Value) (l m : List Int) (hown : Own w base 3 v (ints l)) (hy : Sl w y (ints m)) (hl : l.length + m.length ≤ 1000000) (hbase : base ≤ w.heap.size) :
    ∃ v' w', (Builtin.append_ #[27, 27] 27 #[v, y]).run Tryz.prog w = .ok v' w' ∧ Own w' base 3 v' (ints (l ++ m)) ∧ w.grownBy w' v.ownBlock := by
  obtain ⟨i0, hi0, hz0, hz1, hz2⟩ := info_parts info_int
  rw [show ints (l ++ m) = ints l ++ ints m from List.map_append]
  exact run_append_sl w base 27 27 3 i0 _ 8 Tryz.underlying27 hi0 hz0 hz1 hz2 rfl v y (ints l) (ints m) hown hy (one_ints m) (by rw [ints_length, ints_length]; unfold maxLen; omega) (by rw [ints_length, ints_length]; omega) hbase
set_option maxHeartbeats 400000 in
theorem clone_ints (v : Value) (l : List Int) (w : World) (hs : Sl w v (ints l)) (hl : l.length ≤ 100) :
    Calls Tryz.prog 29 #[v] w fun e w' => ∃ v', e = .returned v' ∧ Own w' w.heap.size 3 v' (ints l) ∧ Gr w w' := by
  have hs' := hs
  obtain ⟨a, cap, rfl, hcap, hc⟩ := hs
  rw [ints_length] at *
  cases a with
  | none =>
    have hn : l = [] := by
      rcases hc with h | ⟨b, off, h, _⟩
      · exact List.map_eq_nil_iff.1 h
      · cases h
    subst hn
    have hnil := Lib.run_eql_slice_nil (P := Tryz.prog) w 27 3 none 0 cap 0 0 Tryz.underlying27
    go_enter Tryz.func29, Tryz.ntmps29
    go_wp2
    go_ret
    exact ⟨_, rfl, Own.nil0 _ _ _, Below.refl _ _⟩
  | some ad =>
    obtain ⟨v1, w1, hr, hown, hg⟩ := run_append_ints (w.alloc (.cells #[] 3)) w.heap.size (.slice (some ⟨w.heap.size, 0, none⟩) 0 0) (.slice (some ad) l.length cap) [] l (Own.nil_lit w 3 (Nat.le_refl _)) (hs'.below ((Below.refl _ _).alloc (Nat.le_refl _) _)) (by simp; omega) (by simp)
    have hnil := Lib.run_eql_slice_nil (P := Tryz.prog) w 27 3 (some ad) l.length cap 0 0 Tryz.underlying27
    have hb : Below w.heap.size w w1 := ((Below.refl _ _).alloc (Nat.le_refl _) _).grown hg (by simp) (by intro k hk; simp [Value.ownBlock] at hk; omega)
    go_enter Tryz.func29, Tryz.ntmps29
    go_wp2_with (at_builtin; refine wpList_run_append hr rfl _ _ rfl rfl rfl ?_)
    go_ret
    exact ⟨_, rfl, hown, hb⟩
end Go.Proofs.YtpcpijecibiibaaGreat
end
section
set_option linter.unusedVariables false
set_option linter.unusedSimpArgs false
set_option maxRecDepth 100000
namespace Go.Proofs.YtpcpijecibiibaaGreat
open Go.RowKit
structure TokP (w : World) (P : Nat → Prop) (g h : Nat) (cur : List Value) (i : Nat) (t : Tok) (fv qv : Value) : Prop where
  c0 : cur[i * 4]? = some (.int .u64 (t.epoch : Int))
  c1 : cur[i * 4 + 1]? = some (.int .i64 t.holder)
  c2 : cur[i * 4 + 2]? = some fv
  c3 : cur[i * 4 + 3]? = some qv
  fs : Sl w fv (nums t.frontier)
  qs : Own w 0 3 qv (ints t.queue)
  fb : ∀ k, fv.ownBlock = some k → P k ∧ k ≠ g ∧ k ≠ h
  qb : ∀ k, qv.ownBlock = some k → P k ∧ k ≠ g ∧ k ≠ h
structure TabP (w : World) (P : Nat → Prop) (g h : Nat) (ts : List Tok) (cur : List Value) (fv qv : Nat → Value) : Prop where
  hh : CellsAt w h cur 68
  sz : ts.length * 4 ≤ cur.length
  tok : ∀ i (hi : i < ts.length), TokP w P g h cur i ts[i] (fv i) (qv i)
  qq : ∀ i j k, i < ts.length → j < ts.length → i ≠ j → (qv i).ownBlock = some k → (qv j).ownBlock ≠ some k
  qf : ∀ i j k, i < ts.length → j < ts.length → (qv i).ownBlock = some k → (fv j).ownBlock ≠ some k
def RegIs (w : World) (P : Nat → Prop) (g : Nat) (r : RegD) : Prop :=
  P g ∧ (∀ k, P k → k < w.heap.size) ∧ ∃ a c, CellsAt w g [.int .i64 r.sites, .slice a r.l.length c] 66 ∧ (r.l = [] ∨ ∃ h cur fv qv, a = some ⟨h, 0, none⟩ ∧ P h ∧ h ≠ g ∧ TabP w P g h r.l cur fv qv)
/-- Only blocks of P are another after it. -/
def InP (P : Nat → Prop) (w w' : World) : Prop := Ch P w w'
section
variable {w w' : World} {P P' : Nat → Prop} {g h i : Nat} {cur : List Value} {t : Tok} {fv qv : Value}
theorem TokP.keep {ρ : Nat → Prop} (x : TokP w P g h cur i t fv qv) (c : Ch ρ w w') (hn : ∀ k, P k → k ≠ g → k ≠ h → ¬ ρ k) (hP : ∀ k, P k → P' k) : TokP w' P' g h cur i t fv qv :=
  ⟨x.c0, x.c1, x.c2, x.c3, x.fs.ch c (fun k hk => by obtain ⟨h1, h2, h3⟩ := x.fb k hk; exact hn k h1 h2 h3), x.qs.ch c (fun k hk => by obtain ⟨h1, h2, h3⟩ := x.qb k hk; exact hn k h1 h2 h3), fun k hk => ⟨hP k (x.fb k hk).1, (x.fb k hk).2⟩, fun k hk => ⟨hP k (x.qb k hk).1, (x.qb k hk).2⟩⟩
end
theorem Ch.keepB {ρ : Nat → Prop} {w w' : World} {b : Nat} {o : Obj} (c : Ch ρ w w') (h : w.heap[b]? = some o) (hn : ¬ ρ b) : w'.heap[b]? = some o := (c.block b (Array.getElem?_eq_some_iff.1 h).1 hn).trans h
theorem TabP.keep {ρ : Nat → Prop} {w w' : World} {P P' : Nat → Prop} {g h : Nat} {ts : List Tok} {cur : List Value} {fv qv : Nat → Value} (x : TabP w P g h ts cur fv qv) (c : Ch ρ w w') (hh : ¬ ρ h) (hn : ∀ k, P k → k ≠ g → k ≠ h → ¬ ρ k) (hP : ∀ k, P k → P' k) : TabP w' P' g h ts cur fv qv :=
  ⟨x.hh.block (c.block h x.hh.lt hh), x.sz, fun i hi => (x.tok i hi).keep c hn hP, x.qq, x.qf⟩
theorem RegIs.keep {ρ : Nat → Prop} {w w' : World} {P : Nat → Prop} {g : Nat} {r : RegD} (x : RegIs w P g r) (c : Ch ρ w w') (hn : ∀ k, P k → ¬ ρ k) : RegIs w' P g r := by
  obtain ⟨h1, h2, a, cc, h3, h4⟩ := x
  refine ⟨h1, fun k hk => Nat.lt_of_lt_of_le (h2 k hk) c.size, a, cc, h3.block (c.block g h3.lt (hn g h1)), ?_⟩
  rcases h4 with h4 | ⟨h, cur, fv, qv, e, hP, hg, ht⟩
  · exact .inl h4
  · exact .inr ⟨h, cur, fv, qv, e, hP, hg, ht.keep c (hn h hP) (fun k hk _ _ => hn k hk) (fun k hk => hk)⟩
theorem RegIs.gr {w w' : World} {P : Nat → Prop} {g : Nat} {r : RegD} (x : RegIs w P g r) (c : Gr w w') : RegIs w' P g r := x.keep (Ch.of_gr (ρ := fun _ => False) c) (fun _ _ h => h)
theorem ch_mono {ρ σ : Nat → Prop} {a b : World} (h : Ch ρ a b) (hs : ∀ k, ρ k → σ k) : Ch σ a b := ⟨h.os, h.tape, h.output, h.size, fun k hk hn => h.block k hk (fun e => hn (hs k e))⟩
theorem ch_setCell' (w : World) (b i : Nat) (v : Value) : Ch (fun j => j = b) w (w.setCell ⟨b, i, none⟩ v) := Ch.of_grownBy (grownBy_setCell w b i v) (fun k hk => by cases hk; rfl)
def zeroWL : List Value := [.int .u8 0, .int .i64 0, .slice none 0 0, .slice none 0 0, .int .i64 0, .int .u64 0, .slice none 0 0]
def upd {α : Type} (f : Nat → α) (i : Nat) (x : α) (j : Nat) : α := if j = i then x else f j
/-- A token that became another one: what else is in the table stays. -/
theorem TabP.upd {ρ : Nat → Prop} {w w' : World} {P P' : Nat → Prop} {g h : Nat} {ts : List Tok} {cur cur' : List Value} {fv qv : Nat → Value} (x : TabP w P g h ts cur fv qv) (i : Nat) (hi : i < ts.length) (t' : Tok) (fv' qv' : Value) (c : Ch ρ w w') (hP : ∀ k, P k → P' k) (hPw : ∀ k, P k → k < w.heap.size)
    (hh : CellsAt w' h cur' 68) (hsz : cur'.length = cur.length) (hcur : ∀ j, j < i * 4 ∨ i * 4 + 4 ≤ j → cur'[j]? = cur[j]?) (hrho : ∀ k, ρ k → k = h ∨ (qv i).ownBlock = some k)
    (ht : TokP w' P' g h cur' i t' fv' qv') (hf : ∀ k, fv'.ownBlock = some k → (fv i).ownBlock = some k ∨ w.heap.size ≤ k) (hq : ∀ k, qv'.ownBlock = some k → (qv i).ownBlock = some k ∨ w.heap.size ≤ k) (hne : ∀ k, qv'.ownBlock = some k → fv'.ownBlock ≠ some k) :
    TabP w' P' g h (ts.set i t') cur' (upd fv i fv') (upd qv i qv') := by
  have old : ∀ j (hj : j < ts.length) k, (qv j).ownBlock = some k → k < w.heap.size := fun j hj k hk => hPw k ((x.tok j hj).qb k hk).1
  have oldf : ∀ j (hj : j < ts.length) k, (fv j).ownBlock = some k → k < w.heap.size := fun j hj k hk => hPw k ((x.tok j hj).fb k hk).1
  refine ⟨hh, by rw [List.length_set, hsz]; exact x.sz, fun j hj => ?_, fun a b k ha hb hab hk => ?_, fun a b k ha hb hk => ?_⟩
  · rw [List.length_set] at hj
    by_cases e : j = i
    · subst e
      simp only [Go.Proofs.YtpcpijecibiibaaGreat.upd, if_true, List.getElem_set_self]
      exact ht
    · have o := x.tok j hj
      rw [List.getElem_set_ne (fun e2 => e e2.symm)]
      simp only [Go.Proofs.YtpcpijecibiibaaGreat.upd, if_neg e]
      have hd : j * 4 + 4 ≤ i * 4 ∨ i * 4 + 4 ≤ j * 4 := by omega
      refine ⟨by rw [hcur _ (by omega)]; exact o.c0, by rw [hcur _ (by omega)]; exact o.c1, by rw [hcur _ (by omega)]; exact o.c2, by rw [hcur _ (by omega)]; exact o.c3, o.fs.ch c (fun k hk hr => ?_), o.qs.ch c (fun k hk hr => ?_), fun k hk => ⟨hP k (o.fb k hk).1, (o.fb k hk).2⟩, fun k hk => ⟨hP k (o.qb k hk).1, (o.qb k hk).2⟩⟩
      · rcases hrho k hr with rfl | e2
        · exact (o.fb _ hk).2.2 rfl
        · exact x.qf i j k hi hj e2 hk
      · rcases hrho k hr with rfl | e2
        · exact (o.qb _ hk).2.2 rfl
        · exact x.qq i j k hi hj (fun e3 => e e3.symm) e2 hk
  · rw [List.length_set] at ha hb
    unfold Go.Proofs.YtpcpijecibiibaaGreat.upd at hk ⊢
    by_cases ea : a = i
    · rw [if_pos ea] at hk
      rw [if_neg (fun e => hab (ea.trans e.symm))]
      rcases hq k hk with h1 | h1
      · exact x.qq i b k hi hb (fun e => hab (ea.trans e)) h1
      · exact fun h2 => by have := old b hb k h2; omega
    · rw [if_neg ea] at hk
      by_cases eb : b = i
      · rw [if_pos eb]
        intro h2
        rcases hq k h2 with h1 | h1
        · exact x.qq a i k ha hi ea hk h1
        · have := old a ha k hk; omega
      · rw [if_neg eb]
        exact x.qq a b k ha hb hab hk
  · rw [List.length_set] at ha hb
    unfold Go.Proofs.YtpcpijecibiibaaGreat.upd at hk ⊢
    by_cases ea : a = i
    · rw [if_pos ea] at hk
      by_cases eb : b = i
      · rw [if_pos eb]; exact hne k hk
      · rw [if_neg eb]
        rcases hq k hk with h1 | h1
        · exact x.qf i b k hi hb h1
        · exact fun h2 => by have := oldf b hb k h2; omega
    · rw [if_neg ea] at hk
      by_cases eb : b = i
      · rw [if_pos eb]
        intro h2
        rcases hf k h2 with h1 | h1
        · exact x.qf a i k ha hi hk h1
        · have := old a ha k hk; omega
      · rw [if_neg eb]
        exact x.qf a b k ha hb hk
/-- A token as it is read, by a pointer. -/
def TokRd (w : World) (b o : Nat) (t : Tok) : Prop := ∃ fv qv, w.cell? ⟨b, o, none⟩ = some (.int .u64 (t.epoch : Int)) ∧ w.cell? ⟨b, o + 1, none⟩ = some (.int .i64 t.holder) ∧ w.cell? ⟨b, o + 2, none⟩ = some fv ∧ w.cell? ⟨b, o + 3, none⟩ = some qv ∧ Sl w fv (nums t.frontier) ∧ Sl w qv (ints t.queue) ∧ b < w.heap.size
theorem TokRd.gr {w w' : World} {b o : Nat} {t : Tok} (x : TokRd w b o t) (h : Gr w w') : TokRd w' b o t := by
  obtain ⟨fv, qv, h1, h2, h3, h4, h5, h6, h7⟩ := x
  exact ⟨fv, qv, (h.cell (p := ⟨b, o, none⟩) h7).trans h1, (h.cell (p := ⟨b, o + 1, none⟩) h7).trans h2, (h.cell (p := ⟨b, o + 2, none⟩) h7).trans h3, (h.cell (p := ⟨b, o + 3, none⟩) h7).trans h4, h5.below h, h6.below h, Nat.lt_of_lt_of_le h7 h.size⟩
theorem TabP.rd {w : World} {P : Nat → Prop} {g h : Nat} {ts : List Tok} {cur : List Value} {fv qv : Nat → Value} (x : TabP w P g h ts cur fv qv) (i : Nat) (hi : i < ts.length) : TokRd w h (i * 4) ts[i] := by
  have o := x.tok i hi
  exact ⟨fv i, qv i, by rw [x.hh.cell]; exact o.c0, by rw [x.hh.cell]; exact o.c1, by rw [x.hh.cell]; exact o.c2, by rw [x.hh.cell]; exact o.c3, o.fs, o.qs.sl, x.hh.lt⟩
theorem atG_at {r : RegD} {i : Int} (hi : inG r i = true) : ∃ h : i.toNat < r.l.length, atG r i = r.l[i.toNat] ∧ 0 ≤ i ∧ i < (r.l.length : Int) := by
  have h2 := hi
  unfold inG at h2
  simp only [Bool.and_eq_true, decide_eq_true_eq] at h2
  have hl : i.toNat < r.l.length := by omega
  refine ⟨hl, ?_, h2⟩
  unfold atG
  rw [hi, if_pos rfl, List.getD_eq_getElem?_getD, List.getElem?_eq_getElem hl]; rfl
end Go.Proofs.YtpcpijecibiibaaGreat
end
