/-
  Sites that make items and take each other's: the plain law. No program in sight.
-/
import Derived.Test.YtpdninnnpoiblaaSGoes
import Derived.Test.YtpdninnnpoiblaaRefLeq
set_option linter.unusedVariables false
namespace Go.Proofs.Ytpdninnnpoiblaa
open Go.RowKit

def itemC (i : Nat) (st : List Nat) : ItemD := ⟨(i : Int), st.getD i 0 + 1, 0, 1, st, [effG], 0⟩
structure St where
  own : Nat → List ItemD
  has : Nat → List ItemD
  v : Nat → List Nat
  tm : Nat → List Nat
def st0 : St := ⟨fun _ => [], fun _ => [], fun _ => [0, 0, 0], fun _ => []⟩
def upd {α : Type} (f : Nat → α) (i : Nat) (x : α) : Nat → α := fun j => if j = i then x else f j
theorem upd_self {α : Type} (f : Nat → α) (i : Nat) (x : α) : upd f i x i = x := by simp [upd]
theorem upd_ne {α : Type} (f : Nat → α) (i j : Nat) (x : α) (h : j ≠ i) : upd f i x j = f j := by simp [upd, h]
def takeV (j : Nat) : List ItemD → List ItemD × List Nat → List ItemD × List Nat
  | [], p => p
  | x :: xs, p => takeV j xs (if readyV x p.2 then (p.1 ++ [x], incV p.2 (j : Int)) else p)
def makeS (k : Nat) (s : St) (i : Nat) : St :=
  ⟨upd s.own i (s.own i ++ [itemC i (s.v i)]), upd s.has i (s.has i ++ [itemC i (s.v i)]), upd s.v i (incV (s.v i) (i : Int)), upd s.tm i (s.tm i ++ [k])⟩
def nextS (s : St) (i j : Nat) : List ItemD := nextV ((s.v i).getD j 0) (s.own j)
def takenS (s : St) (i j : Nat) : List ItemD × List Nat := takeV j (nextS s i j) (s.has i, s.v i)
def askS (s : St) (i j : Nat) : St := ⟨s.own, upd s.has i (takenS s i j).1, upd s.v i (takenS s i j).2, s.tm⟩
/-- What is done at step k: does it make; which site; whom it asks. -/
def actC (l : List (Nat × Nat × Nat)) (k : Nat) : Bool × Nat × Nat :=
  match l[k]? with
  | some (d, a, f) => (d % 2 == 0, a % 3, f % 3)
  | none => (false, k % 3, k / 3 % 3)
def stepC (k : Nat) (s : St) (x : Bool × Nat × Nat) : St := if x.1 then makeS k s x.2.1 else askS s x.2.1 x.2.2
def runC (l : List (Nat × Nat × Nat)) : Nat → St
  | 0 => st0
  | k + 1 => stepC k (runC l k) (actC l k)
theorem actC_lt (l : List (Nat × Nat × Nat)) (k : Nat) : (actC l k).2.1 < 3 ∧ (actC l k).2.2 < 3 := by
  unfold actC
  split <;> (dsimp only; omega)
theorem actC_late (l : List (Nat × Nat × Nat)) (k : Nat) (h : l.length ≤ k) : actC l k = (false, k % 3, k / 3 % 3) := by
  unfold actC; rw [List.getElem?_eq_none h]

/-! ### Stamps of three numbers -/
theorem getD_eq {v : List Nat} {j : Nat} (h : j < v.length) : v.getD j 0 = v[j] := by simp [List.getD_eq_getElem?_getD, List.getElem?_eq_getElem h]
theorem ext3 {u v : List Nat} (hu : u.length = 3) (hv : v.length = 3) (h : ∀ j, j < 3 → u.getD j 0 = v.getD j 0) : u = v := by
  apply List.ext_getElem (by omega)
  intro j h1 h2
  have := h j (by omega)
  rwa [getD_eq h1, getD_eq h2] at this
theorem leq3 {u v : List Nat} (hu : u.length = 3) (hv : v.length = 3) : leqV u v = true ↔ ∀ m, m < 3 → u.getD m 0 ≤ v.getD m 0 := by
  rw [leqV_iff _ _ (by omega), hu]
  unfold pairAt
  simp only [List.getD_eq_getElem?_getD]
theorem incV_len (v : List Nat) (i : Int) : (incV v i).length = v.length := by unfold incV; split <;> simp
theorem incV_ne {v : List Nat} {j m : Nat} (h : m ≠ j) : (incV v (j : Int)).getD m 0 = v.getD m 0 := by
  unfold incV
  split
  · simp only [List.getD_eq_getElem?_getD, Int.toNat_natCast]
    rw [List.getElem?_set_ne (fun e => h e.symm)]
  · rfl
theorem incV_self {v : List Nat} {j : Nat} (h : j < v.length) (hb : v.getD j 0 < 1000000) : (incV v (j : Int)).getD j 0 = v.getD j 0 + 1 := by
  unfold incV
  rw [if_pos ⟨by omega, by omega⟩]
  simp only [List.getD_eq_getElem?_getD, Int.toNat_natCast] at hb ⊢
  rw [List.getElem?_set_self h]
  simp only [Option.getD_some]
  omega
theorem ready_iff {j : Nat} {st v : List Nat} (hj : j < 3) (hs : st.length = 3) (hv : v.length = 3) : readyV (itemC j st) v = true ↔ st.getD j 0 = v.getD j 0 ∧ ∀ m, m < 3 → m ≠ j → st.getD m 0 ≤ v.getD m 0 := by
  unfold readyV itemC
  simp only [Bool.and_eq_true, decide_eq_true_eq, Int.toNat_natCast, Nat.add_sub_cancel]
  rw [leq3 hs hv]
  constructor
  · rintro ⟨⟨_, h1⟩, h2⟩
    exact ⟨h1, fun m hm _ => h2 m hm⟩
  · rintro ⟨h1, h2⟩
    refine ⟨⟨⟨⟨by omega, by omega⟩, by omega⟩, h1⟩, fun m hm => ?_⟩
    by_cases e : m = j
    · rw [e]; omega
    · exact h2 m hm e

/-! ### What a site has, in order -/
inductive Good (own : Nat → List ItemD) : List ItemD → List Nat → Prop
  | nil : Good own [] [0, 0, 0]
  | snoc {hs : List ItemD} {v : List Nat} (j : Nat) (st : List Nat) : Good own hs v → j < 3 → st.length = 3 → readyV (itemC j st) v = true → (own j)[st.getD j 0]? = some (itemC j st) → Good own (hs ++ [itemC j st]) (incV v (j : Int))
theorem Good.mono {own own' : Nat → List ItemD} {hs : List ItemD} {v : List Nat} (h : Good own hs v) (hp : ∀ (j n : Nat) (x : ItemD), j < 3 → (own j)[n]? = some x → (own' j)[n]? = some x) : Good own' hs v := by
  induction h with
  | nil => exact .nil
  | snoc j st _ hj hl hr ho ih => exact .snoc j st ih hj hl hr (hp j _ _ hj ho)
def seenV (hs : List ItemD) : List Nat := hs.foldl (fun v x => incV v x.origin) [0, 0, 0]
theorem seenV_snoc (hs : List ItemD) (x : ItemD) : seenV (hs ++ [x]) = incV (seenV hs) x.origin := by simp [seenV]
theorem Good.seen {own : Nat → List ItemD} {hs : List ItemD} {v : List Nat} (h : Good own hs v) : seenV hs = v := by
  induction h with
  | nil => rfl
  | snoc j st _ hj hl hr ho ih => rw [seenV_snoc, ih]; rfl
theorem Good.len3 {own : Nat → List ItemD} {hs : List ItemD} {v : List Nat} (h : Good own hs v) : v.length = 3 := by
  induction h with
  | nil => rfl
  | snoc j st _ hj hl hr ho ih => rw [incV_len]; exact ih
/-- Each item of what a site has, held against what was seen ahead of it. -/
theorem Good.at {own : Nat → List ItemD} {hs : List ItemD} {v : List Nat} (h : Good own hs v) : ∀ p, (hp : p < hs.length) → ∃ j st, j < 3 ∧ st.length = 3 ∧ hs[p] = itemC j st ∧ readyV (itemC j st) (seenV (hs.take p)) = true ∧ (own j)[st.getD j 0]? = some (itemC j st) := by
  induction h with
  | nil => intro p hp; simp at hp
  | @snoc hs v j st hg hj hl hr ho ih =>
    intro p hp
    by_cases hlt : p < hs.length
    · obtain ⟨j', st', q1, q2, q3, q4, q5⟩ := ih p hlt
      refine ⟨j', st', q1, q2, ?_, ?_, q5⟩
      · rw [List.getElem_append_left hlt]; exact q3
      · rw [List.take_append_of_le_length (by omega)]; exact q4
    · obtain rfl : p = hs.length := by simp at hp; omega
      refine ⟨j, st, hj, hl, by simp, ?_, ho⟩
      rw [List.take_left', hg.seen]
      · exact hr
      · rfl

/-! ### Taking -/
theorem takeV_spec (own : Nat → List ItemD) (j : Nat) (hj : j < 3) : ∀ (xs : List ItemD) (h : Nat) (hs : List ItemD) (v : List Nat),
    (∀ q x, xs[q]? = some x → (own j)[h + q]? = some x ∧ ∃ st, x = itemC j st ∧ st.length = 3 ∧ st.getD j 0 = h + q) → v.length = 3 → v.getD j 0 + xs.length < 10000 → Good own hs v →
    (takeV j xs (hs, v)).2.length = 3 ∧ Good own (takeV j xs (hs, v)).1 (takeV j xs (hs, v)).2 ∧ (∀ m, m ≠ j → (takeV j xs (hs, v)).2.getD m 0 = v.getD m 0) ∧ v.getD j 0 ≤ (takeV j xs (hs, v)).2.getD j 0 ∧
    ((takeV j xs (hs, v)).2.getD j 0 ≤ v.getD j 0 ∨ (takeV j xs (hs, v)).2.getD j 0 ≤ h + xs.length) ∧ (takeV j xs (hs, v)).1.length ≤ hs.length + xs.length ∧
    ∀ r, r ≤ xs.length → v.getD j 0 = h → (∀ q st, q < r → xs[q]? = some (itemC j st) → ∀ m, m < 3 → m ≠ j → st.getD m 0 ≤ v.getD m 0) → h + r ≤ (takeV j xs (hs, v)).2.getD j 0
  | [], h, hs, v, hx, hv, hb, hg => ⟨hv, hg, fun _ _ => rfl, Nat.le_refl _, .inl (Nat.le_refl _), by simp [takeV], fun r hr e _ => by simp at hr; subst hr; rw [← e]; exact Nat.le_refl _⟩
  | x :: xs, h, hs, v, hx, hv, hb, hg => by
    obtain ⟨ho, st, rfl, hl, hst⟩ := hx 0 x rfl
    rw [Nat.add_zero] at ho hst
    have hx' : ∀ q x, xs[q]? = some x → (own j)[h + 1 + q]? = some x ∧ ∃ st, x = itemC j st ∧ st.length = 3 ∧ st.getD j 0 = h + 1 + q := by
      intro q x hq
      have := hx (q + 1) x (by simpa using hq)
      rwa [show h + (q + 1) = h + 1 + q by omega] at this
    simp only [List.length_cons] at hb
    have hri := ready_iff hj hl hv
    unfold takeV
    by_cases hr : readyV (itemC j st) v = true
    · rw [if_pos hr]
      dsimp only
      have hvj : v.getD j 0 = h := by rw [← (hri.1 hr).1, hst]
      have hself := incV_self (v := v) (j := j) (by omega) (by omega)
      have hg' : Good own (hs ++ [itemC j st]) (incV v (j : Int)) := .snoc j st hg hj hl hr (by rw [hst]; exact ho)
      obtain ⟨q1, q2, q3, q4, q5, q6, q7⟩ := takeV_spec own j hj xs (h + 1) (hs ++ [itemC j st]) (incV v (j : Int)) hx' (by rw [incV_len]; exact hv) (by omega) hg'
      refine ⟨q1, q2, fun m hm => by rw [q3 m hm, incV_ne hm], by omega, ?_, by simp at q6 ⊢; omega, fun r hr' e hd => ?_⟩
      · right
        simp only [List.length_cons]
        rcases q5 with q5 | q5 <;> omega
      · rcases r with _ | r
        · omega
        · have := q7 r (by simpa using hr') (by omega) (fun q st' hq he m hm hmj => by
            rw [incV_ne hmj]
            exact hd (q + 1) st' (by omega) (by simpa using he) m hm hmj)
          omega
    · rw [if_neg hr]
      obtain ⟨q1, q2, q3, q4, q5, q6, q7⟩ := takeV_spec own j hj xs (h + 1) hs v hx' hv (by omega) hg
      refine ⟨q1, q2, q3, q4, ?_, by simp at q6 ⊢; omega, fun r hr' e hd => ?_⟩
      · simp only [List.length_cons]
        rcases q5 with q5 | q5
        · exact .inl q5
        · exact .inr (by omega)
      · rcases r with _ | r
        · omega
        · exact absurd (hri.2 ⟨by omega, fun m hm hmj => hd 0 st (by omega) rfl m hm hmj⟩) hr

/-! ### What is wanted of a row -/
theorem wanted_drop (hv : Nat) : ∀ (xs : List ItemD) (off : Nat), (∀ n x, xs[n]? = some x → x.seq = off + n + 1) → wanted hv xs = xs.drop (hv - off)
  | [], off, h => by simp [wanted]
  | x :: xs, off, h => by
    have h0 := h 0 x rfl
    have ih := wanted_drop hv xs (off + 1) (fun n y hn => by have := h (n + 1) y (by simpa using hn); omega)
    have e : wanted hv (x :: xs) = if hv < x.seq then x :: wanted hv xs else wanted hv xs := by
      simp only [wanted, List.filter_cons]
      by_cases q : hv < x.seq <;> simp [q]
    rw [e, ih]
    by_cases q : hv < x.seq
    · rw [if_pos q, show hv - off = 0 by omega, show hv - (off + 1) = 0 by omega]; simp
    · rw [if_neg q, show hv - off = (hv - (off + 1)) + 1 by omega, List.drop_succ_cons]

/-! ### What holds at each step -/
structure Inv (k : Nat) (s : St) : Prop where
  len : ∀ i, i < 3 → (s.v i).length = 3
  tml : ∀ i, i < 3 → (s.tm i).length = (s.own i).length
  self : ∀ i, i < 3 → (s.v i).getD i 0 = (s.own i).length
  le : ∀ i j, i < 3 → j < 3 → (s.v i).getD j 0 ≤ (s.own j).length
  item : ∀ j n x, j < 3 → (s.own j)[n]? = some x → ∃ st, x = itemC j st ∧ st.length = 3 ∧ st.getD j 0 = n ∧ ∀ m, m < 3 → m ≠ j → st.getD m 0 ≤ (s.own m).length ∧ ∀ n', n' < st.getD m 0 → (s.tm m).getD n' 0 + 2 ≤ (s.tm j).getD n 0
  tlt : ∀ j n, j < 3 → n < (s.own j).length → (s.tm j).getD n 0 < k
  mono : ∀ j n n', j < 3 → n < n' → n' < (s.own j).length → (s.tm j).getD n 0 < (s.tm j).getD n' 0
  old : ∀ i j n, i < 3 → j < 3 → i ≠ j → n < (s.v i).getD j 0 → (s.tm j).getD n 0 + 2 ≤ k
  has : ∀ i, i < 3 → Good s.own (s.has i) (s.v i)

theorem inv0 : Inv 0 st0 where
  len := fun i _ => rfl
  tml := fun i _ => rfl
  self := fun i hi => by
    rcases i with _ | _ | _ | i <;> first | rfl | omega
  le := fun i j hi hj => by
    rcases j with _ | _ | _ | j <;> first | exact Nat.le_refl _ | omega
  item := fun j n x _ h => by simp [st0] at h
  tlt := fun j n _ h => by simp [st0] at h
  mono := fun j n n' _ _ h => by simp [st0] at h
  old := fun i j n hi hj _ h => by
    rcases j with _ | _ | _ | j <;> first | (simp [st0] at h; done) | omega
  has := fun i _ => .nil

theorem getD_append_left (l : List Nat) (x n : Nat) (h : n < l.length) : (l ++ [x]).getD n 0 = l.getD n 0 := by
  simp only [List.getD_eq_getElem?_getD]
  rw [List.getElem?_append_left h]
theorem getD_append_new (l : List Nat) (x n : Nat) (h : n = l.length) : (l ++ [x]).getD n 0 = x := by
  subst h
  simp [List.getD_eq_getElem?_getD]

theorem ready_make {k : Nat} {s : St} (h : Inv k s) {i : Nat} (hi : i < 3) : readyV (itemC i (s.v i)) (s.v i) = true :=
  (ready_iff hi (h.len i hi) (h.len i hi)).2 ⟨rfl, fun m _ _ => Nat.le_refl _⟩

theorem inv_make {k : Nat} {s : St} (h : Inv k s) {i : Nat} (hi : i < 3) (hb : (s.own i).length < 1000) : Inv (k + 1) (makeS k s i) := by
  have hl := h.len i hi
  have hself := incV_self (v := s.v i) (j := i) (by omega) (by rw [h.self i hi]; omega)
  have ltm := h.tml i hi
  refine ⟨fun j hj => ?_, fun j hj => ?_, fun j hj => ?_, fun a j ha hj => ?_, fun j n x hj hx => ?_, fun j n hj hn => ?_, fun j n n' hj hnn hn => ?_, fun a j n ha hj hne hn => ?_, fun j hj => ?_⟩
  · show (upd s.v i _ j).length = 3
    by_cases e : j = i
    · subst e; rw [upd_self, incV_len]; exact hl
    · rw [upd_ne _ _ _ _ e]; exact h.len j hj
  · show (upd s.tm i _ j).length = (upd s.own i _ j).length
    by_cases e : j = i
    · subst e; rw [upd_self, upd_self]; simp [ltm]
    · rw [upd_ne _ _ _ _ e, upd_ne _ _ _ _ e]; exact h.tml j hj
  · show (upd s.v i _ j).getD j 0 = (upd s.own i _ j).length
    by_cases e : j = i
    · subst e; rw [upd_self, upd_self, hself, h.self j hj]; simp
    · rw [upd_ne _ _ _ _ e, upd_ne _ _ _ _ e]; exact h.self j hj
  · show (upd s.v i _ a).getD j 0 ≤ (upd s.own i _ j).length
    have hge : (s.own j).length ≤ (upd s.own i (s.own i ++ [itemC i (s.v i)]) j).length := by
      by_cases e : j = i
      · subst e; rw [upd_self]; simp
      · rw [upd_ne _ _ _ _ e]; exact Nat.le_refl _
    by_cases e : a = i
    · subst e
      rw [upd_self]
      by_cases e2 : j = a
      · subst e2; rw [upd_self, hself, h.self j hj]; simp
      · rw [incV_ne e2]; exact Nat.le_trans (h.le a j ha hj) hge
    · rw [upd_ne _ _ _ _ e]; exact Nat.le_trans (h.le a j ha hj) hge
  · replace hx : (upd s.own i (s.own i ++ [itemC i (s.v i)]) j)[n]? = some x := hx
    show ∃ st, x = itemC j st ∧ st.length = 3 ∧ st.getD j 0 = n ∧ ∀ m, m < 3 → m ≠ j → st.getD m 0 ≤ (upd s.own i _ m).length ∧ ∀ n', n' < st.getD m 0 → (upd s.tm i _ m).getD n' 0 + 2 ≤ (upd s.tm i _ j).getD n 0
    have hge : ∀ m, (s.own m).length ≤ (upd s.own i (s.own i ++ [itemC i (s.v i)]) m).length := fun m => by
      by_cases e : m = i
      · subst e; rw [upd_self]; simp
      · rw [upd_ne _ _ _ _ e]; exact Nat.le_refl _
    have htm : ∀ m n', m < 3 → n' < (s.own m).length → (upd s.tm i (s.tm i ++ [k]) m).getD n' 0 = (s.tm m).getD n' 0 := fun m n' hm hn' => by
      by_cases e : m = i
      · subst e; rw [upd_self, getD_append_left _ _ _ (by omega)]
      · rw [upd_ne _ _ _ _ e]
    have old : (s.own j)[n]? = some x → ∃ st, x = itemC j st ∧ st.length = 3 ∧ st.getD j 0 = n ∧ ∀ m, m < 3 → m ≠ j → st.getD m 0 ≤ (upd s.own i (s.own i ++ [itemC i (s.v i)]) m).length ∧ ∀ n', n' < st.getD m 0 → (upd s.tm i (s.tm i ++ [k]) m).getD n' 0 + 2 ≤ (upd s.tm i (s.tm i ++ [k]) j).getD n 0 := fun hx => by
      obtain ⟨st, q1, q2, q3, q4⟩ := h.item j n x hj hx
      refine ⟨st, q1, q2, q3, fun m hm hmj => ⟨Nat.le_trans (q4 m hm hmj).1 (hge m), fun n' hn' => ?_⟩⟩
      rw [htm m n' hm (Nat.lt_of_lt_of_le hn' (q4 m hm hmj).1), htm j n hj (List.getElem?_eq_some_iff.1 hx).1]
      exact (q4 m hm hmj).2 n' hn'
    by_cases e : j = i
    · subst e
      rw [upd_self] at hx
      by_cases hlt : n < (s.own j).length
      · rw [List.getElem?_append_left hlt] at hx
        exact old hx
      · have hn : n = (s.own j).length := by
          have := (List.getElem?_eq_some_iff.1 hx).1
          simp at this; omega
        subst hn
        obtain rfl : itemC j (s.v j) = x := by simpa using hx
        refine ⟨s.v j, rfl, hl, h.self j hj, fun m hm hmj => ⟨Nat.le_trans (h.le j m hj hm) (hge m), fun n' hn' => ?_⟩⟩
        rw [htm m n' hm (Nat.lt_of_lt_of_le hn' (h.le j m hj hm)), upd_self, getD_append_new _ _ _ ltm.symm]
        exact h.old j m n' hj hm (fun e => hmj e.symm) hn'
    · rw [upd_ne _ _ _ _ e] at hx
      exact old hx
  · replace hn : n < (upd s.own i (s.own i ++ [itemC i (s.v i)]) j).length := hn
    show (upd s.tm i _ j).getD n 0 < k + 1
    by_cases e : j = i
    · subst e
      rw [upd_self] at hn ⊢
      by_cases hlt : n < (s.own j).length
      · rw [getD_append_left _ _ _ (by omega)]
        have := h.tlt j n hj hlt
        omega
      · rw [getD_append_new _ _ _ (by simp at hn; omega)]; omega
    · rw [upd_ne _ _ _ _ e] at hn ⊢
      have := h.tlt j n hj hn
      omega
  · replace hn : n' < (upd s.own i (s.own i ++ [itemC i (s.v i)]) j).length := hn
    show (upd s.tm i _ j).getD n 0 < (upd s.tm i _ j).getD n' 0
    by_cases e : j = i
    · subst e
      rw [upd_self] at hn ⊢
      rw [List.length_append, List.length_singleton] at hn
      rw [getD_append_left _ _ _ (by omega)]
      by_cases hlt : n' < (s.own j).length
      · rw [getD_append_left _ _ _ (by omega)]
        exact h.mono j n n' hj hnn hlt
      · rw [getD_append_new _ _ _ (by omega)]
        exact h.tlt j n hj (by omega)
    · rw [upd_ne _ _ _ _ e] at hn ⊢
      exact h.mono j n n' hj hnn hn
  · replace hn : n < (upd s.v i (incV (s.v i) (i : Int)) a).getD j 0 := hn
    show (upd s.tm i _ j).getD n 0 + 2 ≤ k + 1
    have hn2 : n < (s.v a).getD j 0 := by
      by_cases e : a = i
      · subst e
        rw [upd_self, incV_ne (fun e => hne e.symm)] at hn
        exact hn
      · rwa [upd_ne _ _ _ _ e] at hn
    have hlt := Nat.lt_of_lt_of_le hn2 (h.le a j ha hj)
    have h2 := h.old a j n ha hj hne hn2
    by_cases e : j = i
    · subst e
      rw [upd_self, getD_append_left _ _ _ (by omega)]; omega
    · rw [upd_ne _ _ _ _ e]; omega
  · show Good (upd s.own i _) (upd s.has i _ j) (upd s.v i _ j)
    have hp : ∀ j n x, j < 3 → (s.own j)[n]? = some x → (upd s.own i (s.own i ++ [itemC i (s.v i)]) j)[n]? = some x := fun j n x _ hx => by
      by_cases e : j = i
      · subst e
        rw [upd_self, List.getElem?_append_left (List.getElem?_eq_some_iff.1 hx).1]; exact hx
      · rw [upd_ne _ _ _ _ e]; exact hx
    by_cases e : j = i
    · subst e
      rw [upd_self, upd_self]
      refine .snoc j (s.v j) ((h.has j hj).mono hp) hj hl (ready_make h hj) ?_
      rw [upd_self, h.self j hj]
      simp
    · rw [upd_ne _ _ _ _ e, upd_ne _ _ _ _ e]
      exact (h.has j hj).mono hp

theorem next_seg {k : Nat} {s : St} (h : Inv k s) {i j : Nat} (hi : i < 3) (hj : j < 3) : nextS s i j = ((s.own j).drop ((s.v i).getD j 0)).take 8 := by
  unfold nextS nextV
  rw [wanted_drop _ _ 0 (fun n x hx => by
    obtain ⟨st, rfl, q2, q3, _⟩ := h.item j n x hj hx
    show st.getD j 0 + 1 = _
    omega)]
  rfl
theorem next_at {k : Nat} {s : St} (h : Inv k s) {i j : Nat} (hi : i < 3) (hj : j < 3) (q : Nat) (x : ItemD) (hq : (nextS s i j)[q]? = some x) : (s.own j)[(s.v i).getD j 0 + q]? = some x ∧ ∃ st, x = itemC j st ∧ st.length = 3 ∧ st.getD j 0 = (s.v i).getD j 0 + q := by
  rw [next_seg h hi hj, List.getElem?_take] at hq
  split at hq
  · rw [List.getElem?_drop] at hq
    obtain ⟨st, q1, q2, q3, _⟩ := h.item j _ x hj hq
    exact ⟨hq, st, q1, q2, q3⟩
  · cases hq
theorem next_len {k : Nat} {s : St} (h : Inv k s) {i j : Nat} (hi : i < 3) (hj : j < 3) : (nextS s i j).length = min 8 ((s.own j).length - (s.v i).getD j 0) := by
  rw [next_seg h hi hj]; simp
theorem taken_spec {k : Nat} {s : St} (h : Inv k s) {i j : Nat} (hi : i < 3) (hj : j < 3) (hb : (s.own j).length < 1000) :
    (takenS s i j).2.length = 3 ∧ Good s.own (takenS s i j).1 (takenS s i j).2 ∧ (∀ m, m ≠ j → (takenS s i j).2.getD m 0 = (s.v i).getD m 0) ∧ (s.v i).getD j 0 ≤ (takenS s i j).2.getD j 0 ∧
    (takenS s i j).2.getD j 0 ≤ (s.own j).length ∧ (takenS s i j).1.length ≤ (s.has i).length + 8 ∧
    ∀ r, r ≤ (nextS s i j).length → (∀ q st, q < r → (s.own j)[(s.v i).getD j 0 + q]? = some (itemC j st) → ∀ m, m < 3 → m ≠ j → st.getD m 0 ≤ (s.v i).getD m 0) → (s.v i).getD j 0 + r ≤ (takenS s i j).2.getD j 0 := by
  have hle := h.le i j hi hj
  have hlen := next_len h hi hj
  obtain ⟨q1, q2, q3, q4, q5, q6, q7⟩ := takeV_spec s.own j hj (nextS s i j) ((s.v i).getD j 0) (s.has i) (s.v i) (fun q x hq => next_at h hi hj q x hq) (h.len i hi) (by omega) (h.has i hi)
  refine ⟨q1, q2, q3, q4, ?_, ?_, fun r hr hd => q7 r hr rfl (fun q st hq he m hm hmj => hd q st hq (next_at h hi hj q _ he).1 m hm hmj)⟩
  · unfold takenS
    rcases q5 with q5 | q5 <;> omega
  · unfold takenS
    omega

theorem inv_ask {k : Nat} {s : St} (h : Inv k s) {i j : Nat} (hi : i < 3) (hj : j < 3) (hb : (s.own j).length < 1000) : Inv (k + 1) (askS s i j) := by
  obtain ⟨q1, q2, q3, q4, q5, q6, q7⟩ := taken_spec h hi hj hb
  refine ⟨fun a ha => ?_, fun a ha => h.tml a ha, fun a ha => ?_, fun a c ha hc => ?_, fun a n x ha hx => h.item a n x ha hx, fun a n ha hn => Nat.lt_succ_of_lt (h.tlt a n ha hn), fun a n n' ha hnn hn => h.mono a n n' ha hnn hn, fun a c n ha hc hne hn => ?_, fun a ha => ?_⟩
  · show (upd s.v i _ a).length = 3
    by_cases e : a = i
    · subst e; rw [upd_self]; exact q1
    · rw [upd_ne _ _ _ _ e]; exact h.len a ha
  · show (upd s.v i _ a).getD a 0 = (s.own a).length
    by_cases e : a = i
    · subst e
      rw [upd_self]
      by_cases e2 : a = j
      · subst e2
        have := h.self a ha
        omega
      · rw [q3 a e2]; exact h.self a ha
    · rw [upd_ne _ _ _ _ e]; exact h.self a ha
  · show (upd s.v i _ a).getD c 0 ≤ (s.own c).length
    by_cases e : a = i
    · subst e
      rw [upd_self]
      by_cases e2 : c = j
      · subst e2; exact q5
      · rw [q3 c e2]; exact h.le a c ha hc
    · rw [upd_ne _ _ _ _ e]; exact h.le a c ha hc
  · replace hn : n < (upd s.v i (takenS s i j).2 a).getD c 0 := hn
    show (s.tm c).getD n 0 + 2 ≤ k + 1
    have hlt : n < (s.own c).length := by
      by_cases e : a = i
      · subst e
        rw [upd_self] at hn
        by_cases e2 : c = j
        · subst e2; omega
        · rw [q3 c e2] at hn; exact Nat.lt_of_lt_of_le hn (h.le a c ha hc)
      · rw [upd_ne _ _ _ _ e] at hn; exact Nat.lt_of_lt_of_le hn (h.le a c ha hc)
    have := h.tlt c n hc hlt
    omega
  · show Good s.own (upd s.has i _ a) (upd s.v i _ a)
    by_cases e : a = i
    · subst e; rw [upd_self, upd_self]; exact q2
    · rw [upd_ne _ _ _ _ e, upd_ne _ _ _ _ e]; exact h.has a ha

/-! ### The run -/
theorem own_len (l : List (Nat × Nat × Nat)) : ∀ k j, ((runC l k).own j).length ≤ k ∧ ((runC l k).own j).length ≤ l.length
  | 0, j => ⟨by simp [runC, st0], by simp [runC, st0]⟩
  | k + 1, j => by
    obtain ⟨h1, h2⟩ := own_len l k j
    unfold runC stepC
    by_cases e : (actC l k).1 = true
    · rw [if_pos e]
      have hk : k < l.length := by
        rcases Nat.lt_or_ge k l.length with hk | hk
        · exact hk
        · rw [actC_late l k hk] at e; cases e
      unfold makeS
      dsimp only
      by_cases e2 : j = (actC l k).2.1
      · rw [e2, upd_self]
        have := own_len l k (actC l k).2.1
        simp only [List.length_append, List.length_singleton]
        omega
      · rw [upd_ne _ _ _ _ e2]; omega
    · rw [if_neg e]
      show ((runC l k).own j).length ≤ k + 1 ∧ ((runC l k).own j).length ≤ l.length
      omega
theorem inv_run (l : List (Nat × Nat × Nat)) (hl : l.length ≤ 60) : ∀ k, Inv k (runC l k)
  | 0 => inv0
  | k + 1 => by
    have h := inv_run l hl k
    obtain ⟨h1, h2⟩ := actC_lt l k
    unfold runC stepC
    split
    · exact inv_make h h1 (by have := own_len l k (actC l k).2.1; omega)
    · exact inv_ask h h1 h2 (by have := own_len l k (actC l k).2.2; omega)
theorem has_len (l : List (Nat × Nat × Nat)) (hl : l.length ≤ 60) : ∀ k i, i < 3 → ((runC l k).has i).length ≤ 8 * k
  | 0, i, _ => by simp [runC, st0]
  | k + 1, i, hi => by
    have ih := has_len l hl k i hi
    obtain ⟨h1, h2⟩ := actC_lt l k
    unfold runC stepC
    split
    · unfold makeS
      dsimp only
      by_cases e2 : i = (actC l k).2.1
      · rw [← e2, upd_self]
        simp only [List.length_append, List.length_singleton]
        omega
      · rw [upd_ne _ _ _ _ e2]; omega
    · unfold askS
      dsimp only
      by_cases e2 : i = (actC l k).2.1
      · have := (taken_spec (inv_run l hl k) (i := (actC l k).2.1) (j := (actC l k).2.2) h1 h2 (by have := own_len l k (actC l k).2.2; omega)).2.2.2.2.2.1
        rw [e2, upd_self]
        rw [← e2] at this ⊢
        omega
      · rw [upd_ne _ _ _ _ e2]; omega
theorem tm_lt (l : List (Nat × Nat × Nat)) : ∀ k j t, t ∈ (runC l k).tm j → t < l.length
  | 0, j, t, h => by simp [runC, st0] at h
  | k + 1, j, t, h => by
    have ih := tm_lt l k j t
    unfold runC stepC at h
    split at h
    · rename_i e
      have hk : k < l.length := by
        rcases Nat.lt_or_ge k l.length with hk | hk
        · exact hk
        · rw [actC_late l k hk] at e; cases e
      unfold makeS at h
      dsimp only at h
      by_cases e2 : j = (actC l k).2.1
      · rw [← e2, upd_self] at h
        rcases List.mem_append.1 h with h | h
        · exact ih h
        · have : t = k := by simpa using h
          omega
      · rw [upd_ne _ _ _ _ e2] at h; exact ih h
    · exact ih h

/-! ### All have all -/
theorem late_step (l : List (Nat × Nat × Nat)) (hl : l.length ≤ 60) (k : Nat) (hk : l.length ≤ k) : (runC l (k + 1)).own = (runC l k).own ∧ (runC l (k + 1)).tm = (runC l k).tm ∧ (∀ i m, i < 3 → ((runC l k).v i).getD m 0 ≤ ((runC l (k + 1)).v i).getD m 0) ∧
    (runC l (k + 1)).v (k % 3) = (takenS (runC l k) (k % 3) (k / 3 % 3)).2 := by
  have e : runC l (k + 1) = askS (runC l k) (k % 3) (k / 3 % 3) := by
    show stepC k (runC l k) (actC l k) = _
    rw [actC_late l k hk]; rfl
  rw [e]
  refine ⟨rfl, rfl, fun i m hi => ?_, by unfold askS; dsimp only; rw [upd_self]⟩
  obtain ⟨q1, q2, q3, q4, _⟩ := taken_spec (inv_run l hl k) (i := k % 3) (j := k / 3 % 3) (by omega) (by omega) (by have := own_len l k (k / 3 % 3); omega)
  unfold askS
  dsimp only
  by_cases e2 : i = k % 3
  · rw [e2, upd_self]
    by_cases e3 : m = k / 3 % 3
    · rw [e3]; exact q4
    · rw [q3 m e3]; exact Nat.le_refl _
  · rw [upd_ne _ _ _ _ e2]; exact Nat.le_refl _
theorem late_steps (l : List (Nat × Nat × Nat)) (hl : l.length ≤ 60) (k : Nat) (hk : l.length ≤ k) : ∀ d, (runC l (k + d)).own = (runC l k).own ∧ (runC l (k + d)).tm = (runC l k).tm ∧ ∀ i m, i < 3 → ((runC l k).v i).getD m 0 ≤ ((runC l (k + d)).v i).getD m 0
  | 0 => ⟨rfl, rfl, fun _ _ _ => Nat.le_refl _⟩
  | d + 1 => by
    obtain ⟨h1, h2, h3⟩ := late_steps l hl k hk d
    obtain ⟨g1, g2, g3, _⟩ := late_step l hl (k + d) (by omega)
    rw [show k + (d + 1) = k + d + 1 by omega]
    exact ⟨g1.trans h1, g2.trans h2, fun i m hi => Nat.le_trans (h3 i m hi) (g3 i m hi)⟩
theorem tm_gap {k : Nat} {s : St} (h : Inv k s) {j : Nat} (hj : j < 3) (a : Nat) : ∀ d, a + d < (s.own j).length → (s.tm j).getD a 0 + d ≤ (s.tm j).getD (a + d) 0
  | 0, _ => Nat.le_refl _
  | d + 1, hd => by
    have ih := tm_gap h hj a d (by omega)
    have := h.mono j (a + d) (a + (d + 1)) hj (by omega) hd
    omega
/-- At an ask of i of j: an item of j that was made at t at the latest is there behind it, where what is missing of j was made at t - 2 at the earliest and all that it waits for is there. -/
theorem ask_gets (l : List (Nat × Nat × Nat)) (hl : l.length ≤ 60) (k : Nat) (hk : l.length ≤ k) (i j : Nat) (hi : k % 3 = i) (hj : k / 3 % 3 = j) (hij : i ≠ j) (t : Nat)
    (hmiss : ∀ n, n < ((runC l k).own j).length → ((runC l k).v i).getD j 0 ≤ n → t ≤ ((runC l k).tm j).getD n 0 + 2)
    (hdep : ∀ m n, m < 3 → m ≠ i → m ≠ j → n < ((runC l k).own m).length → ((runC l k).tm m).getD n 0 + 2 ≤ t → n < ((runC l k).v i).getD m 0) :
    ∀ n, n < ((runC l k).own j).length → ((runC l k).tm j).getD n 0 ≤ t → n < ((runC l (k + 1)).v i).getD j 0 := by
  intro n hn ht
  have hi3 : i < 3 := by omega
  have hj3 : j < 3 := by omega
  obtain ⟨g1, g2, g3, g4⟩ := late_step l hl k hk
  rw [hi, hj] at g4
  have h := inv_run l hl k
  have hown := own_len l k j
  rcases Nat.lt_or_ge n (((runC l k).v i).getD j 0) with hlt | hge
  · exact Nat.lt_of_lt_of_le hlt (g3 i j hi3)
  obtain ⟨d, rfl⟩ := Nat.exists_eq_add_of_le hge
  rw [g4]
  have hgap := tm_gap h hj3 _ d hn
  have hfst := hmiss _ (by omega) (Nat.le_refl _)
  have hd2 : d ≤ 2 := by omega
  obtain ⟨_, _, _, _, _, _, q7⟩ := taken_spec h (i := i) (j := j) hi3 hj3 (by omega)
  have hnl := next_len h hi3 hj3
  have := q7 (d + 1) (by omega) (fun q st hq he m hm hmj => by
    have hql : ((runC l k).v i).getD j 0 + q < ((runC l k).own j).length := (List.getElem?_eq_some_iff.1 he).1
    obtain ⟨st', e1, e2, e3, e4⟩ := h.item j _ _ hj3 he
    have est : st = st' := by
      have := congrArg ItemD.stamp e1
      exact this
    subst est
    by_cases e : m = i
    · subst e
      rw [h.self m hm]; exact (e4 m hm hmj).1
    · obtain ⟨p1, p2⟩ := e4 m hm hmj
      rcases Nat.lt_or_ge (((runC l k).v i).getD m 0) (st.getD m 0) with hlt | hge2
      · exfalso
        have h5 := p2 _ hlt
        have h6 : ((runC l k).tm j).getD (((runC l k).v i).getD j 0 + q) 0 ≤ t := by
          rcases Nat.lt_or_ge q d with hqd | hqd
          · have := h.mono j (((runC l k).v i).getD j 0 + q) (((runC l k).v i).getD j 0 + d) hj3 (by omega) hn
            omega
          · have : q = d := by omega
            rw [this]; exact ht
        have := hdep m _ hm e hmj (Nat.lt_of_lt_of_le hlt p1) (by omega)
        omega
      · exact hge2)
  omega

/-- What may be missing at a site i of the others' items, a asked ahead of b. -/
def Miss (T : Nat) (s : St) (i a b : Nat) : Prop :=
  (∀ n, n < (s.own a).length → (s.v i).getD a 0 ≤ n → T ≤ (s.tm a).getD n 0 + 1) ∧ (∀ n, n < (s.own b).length → (s.v i).getD b 0 ≤ n → T ≤ (s.tm b).getD n 0)
theorem Miss.later {l : List (Nat × Nat × Nat)} (hl : l.length ≤ 60) {k T i a b : Nat} (hi : i < 3) (hk : l.length ≤ k) (d : Nat) (h : Miss T (runC l k) i a b) : Miss T (runC l (k + d)) i a b := by
  obtain ⟨h1, h2, h3⟩ := late_steps l hl k hk d
  unfold Miss
  rw [h1, h2]
  exact ⟨fun n hn hv => h.1 n hn (Nat.le_trans (h3 i a hi) hv), fun n hn hv => h.2 n hn (Nat.le_trans (h3 i b hi) hv)⟩
theorem miss_window (l : List (Nat × Nat × Nat)) (hl : l.length ≤ 60) (c : Nat) (hc : l.length ≤ 9 * c) (i a b T : Nat) (hi : i < 3) (hab : a < b) (hb : b < 3) (hia : i ≠ a) (hib : i ≠ b)
    (h : Miss T (runC l (9 * c)) i a b) : Miss (T + 3) (runC l (9 * c + 9)) i a b := by
  have hm : ∀ m, m < 3 → m ≠ i → m ≠ a → m = b := by omega
  have hm2 : ∀ m, m < 3 → m ≠ i → m ≠ b → m = a := by omega
  obtain ⟨ka, hka⟩ : ∃ ka, ka = 9 * c + (3 * a + i) := ⟨_, rfl⟩
  have h1 : Miss T (runC l ka) i a b := by rw [hka]; exact h.later hl hi hc _
  -- the ask of a
  have ga := ask_gets l hl ka (by omega) i a (by omega) (by omega) hia (T + 1) (fun n hn hv => by have := h1.1 n hn hv; omega)
    (fun m n hm3 hmi hma hn ht => by
      obtain rfl := hm m hm3 hmi hma
      rcases Nat.lt_or_ge n (((runC l ka).v i).getD m 0) with q | q
      · exact q
      · have := h1.2 n hn q; omega)
  obtain ⟨kb, hkb⟩ : ∃ kb, kb = 9 * c + (3 * b + i) := ⟨_, rfl⟩
  have h2 : Miss T (runC l kb) i a b := by rw [hkb]; exact h.later hl hi hc _
  obtain ⟨p1, p2, p3⟩ := late_steps l hl ka (by omega) (kb - ka)
  obtain ⟨r1, r2, r3⟩ := late_steps l hl (ka + 1) (by omega) (kb - (ka + 1))
  rw [show ka + (kb - ka) = kb by omega] at p1 p2 p3
  rw [show ka + 1 + (kb - (ka + 1)) = kb by omega] at r1 r2 r3
  -- the ask of b
  have gb := ask_gets l hl kb (by omega) i b (by omega) (by omega) hib (T + 2) (fun n hn hv => by have := h2.2 n hn hv; omega)
    (fun m n hm3 hmi hmb hn ht => by
      obtain rfl := hm2 m hm3 hmi hmb
      rw [p1] at hn
      rw [p2] at ht
      exact Nat.lt_of_lt_of_le (ga n hn (by omega)) (r3 i m hi))
  obtain ⟨s1, s2, s3⟩ := late_steps l hl ka (by omega) (9 * c + 9 - ka)
  obtain ⟨u1, u2, u3⟩ := late_steps l hl (ka + 1) (by omega) (9 * c + 9 - (ka + 1))
  obtain ⟨t1, t2, t3⟩ := late_steps l hl kb (by omega) (9 * c + 9 - kb)
  obtain ⟨x1, x2, x3⟩ := late_steps l hl (kb + 1) (by omega) (9 * c + 9 - (kb + 1))
  rw [show ka + (9 * c + 9 - ka) = 9 * c + 9 by omega] at s1 s2 s3
  rw [show ka + 1 + (9 * c + 9 - (ka + 1)) = 9 * c + 9 by omega] at u1 u2 u3
  rw [show kb + (9 * c + 9 - kb) = 9 * c + 9 by omega] at t1 t2 t3
  rw [show kb + 1 + (9 * c + 9 - (kb + 1)) = 9 * c + 9 by omega] at x1 x2 x3
  refine ⟨fun n hn hv => ?_, fun n hn hv => ?_⟩
  · rw [s1] at hn
    rw [s2]
    rcases Nat.lt_or_ge (T + 1) (((runC l ka).tm a).getD n 0) with q | q
    · omega
    · have := Nat.lt_of_lt_of_le (ga n hn q) (u3 i a hi)
      omega
  · rw [t1] at hn
    rw [t2]
    rcases Nat.lt_or_ge (T + 2) (((runC l kb).tm b).getD n 0) with q | q
    · omega
    · have := Nat.lt_of_lt_of_le (gb n hn q) (x3 i b hi)
      omega
theorem miss_windows (l : List (Nat × Nat × Nat)) (hl : l.length ≤ 60) (c : Nat) (hc : l.length ≤ 9 * c) (i a b : Nat) (hi : i < 3) (hab : a < b) (hb : b < 3) (hia : i ≠ a) (hib : i ≠ b) : ∀ d, Miss (3 * d) (runC l (9 * (c + d))) i a b
  | 0 => ⟨fun _ _ _ => by omega, fun _ _ _ => by omega⟩
  | d + 1 => by
    have ih := miss_windows l hl c hc i a b hi hab hb hia hib d
    have := miss_window l hl (c + d) (by omega) i a b (3 * d) hi hab hb hia hib ih
    rw [show 9 * (c + (d + 1)) = 9 * (c + d) + 9 by omega, show 3 * (d + 1) = 3 * d + 3 by omega]
    exact this
theorem all_have (l : List (Nat × Nat × Nat)) (hl : l.length ≤ 60) (i j : Nat) (hi : i < 3) (hj : j < 3) : ((runC l (l.length + 200)).v i).getD j 0 = ((runC l (l.length + 200)).own j).length := by
  have hinv := inv_run l hl (l.length + 200)
  by_cases e : i = j
  · subst e; exact hinv.self i hi
  obtain ⟨c, hc⟩ : ∃ c, c = (l.length + 8) / 9 := ⟨_, rfl⟩
  have key : ∀ a b, a < b → b < 3 → i ≠ a → i ≠ b → Miss 63 (runC l (l.length + 200)) i a b := by
    intro a b hab hb hia hib
    have h := miss_windows l hl c (by omega) i a b hi hab hb hia hib 21
    have := h.later hl hi (by omega) (l.length + 200 - 9 * (c + 21))
    rwa [show 9 * (c + 21) + (l.length + 200 - 9 * (c + 21)) = l.length + 200 by omega] at this
  have small : ∀ j n, j < 3 → n < ((runC l (l.length + 200)).own j).length → ((runC l (l.length + 200)).tm j).getD n 0 < 60 := by
    intro j n hj hn
    have hn' : n < ((runC l (l.length + 200)).tm j).length := by rw [hinv.tml j hj]; exact hn
    have := tm_lt l _ j _ (List.getElem_mem hn')
    rw [getD_eq hn']; omega
  have hle := hinv.le i j hi hj
  rcases Nat.lt_or_ge (((runC l (l.length + 200)).v i).getD j 0) (((runC l (l.length + 200)).own j).length) with hlt | hge
  · exfalso
    have hs := small j _ hj hlt
    have : ∃ m, m < 3 ∧ m ≠ i ∧ m ≠ j := by
      rcases (by omega : (i = 0 ∧ j = 1) ∨ (i = 0 ∧ j = 2) ∨ (i = 1 ∧ j = 0) ∨ (i = 1 ∧ j = 2) ∨ (i = 2 ∧ j = 0) ∨ (i = 2 ∧ j = 1)) with h | h | h | h | h | h
      · exact ⟨2, by omega⟩
      · exact ⟨1, by omega⟩
      · exact ⟨2, by omega⟩
      · exact ⟨0, by omega⟩
      · exact ⟨1, by omega⟩
      · exact ⟨0, by omega⟩
    obtain ⟨m, hm, hmi, hmj⟩ := this
    rcases Nat.lt_or_ge j m with q | q
    · have := (key j m q hm e (fun e => hmi e.symm)).1 _ hlt (Nat.le_refl _)
      omega
    · have := (key m j (by omega) hj (fun e => hmi e.symm) e).2 _ hlt (Nat.le_refl _)
      omega
  · omega
theorem all_same (l : List (Nat × Nat × Nat)) (hl : l.length ≤ 60) (i : Nat) (hi : i < 3) : (runC l (l.length + 200)).v i = (runC l (l.length + 200)).v 0 := by
  have hinv := inv_run l hl (l.length + 200)
  refine ext3 (hinv.len i hi) (hinv.len 0 (by decide)) fun j hj => ?_
  rw [all_have l hl i j hi hj, all_have l hl 0 j (by decide) hj]
end Go.Proofs.Ytpdninnnpoiblaa
