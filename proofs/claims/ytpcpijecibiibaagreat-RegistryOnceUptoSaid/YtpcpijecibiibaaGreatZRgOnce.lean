/-
  Package registry: what one entry does to a token, as RegistryOnce asks for it; the arrays in which RegistryOnce keeps what was.
-/
import Derived.Test.YtpcpijecibiibaaGreatZRgTurn
import Derived.Test.YtpcpijecibiibaaGreatZArr
set_option linter.unusedVariables false
set_option linter.unusedSimpArgs false
set_option maxRecDepth 100000
namespace Go.Proofs.YtpcpijecibiibaaGreat
open Go.RowKit
theorem leqV_max {a b : List Nat} (h : b.length = a.length) : leqV a (maxV a b) = true := by
  rw [leqV_iff _ _ (maxV_len h).symm]
  intro j hj
  unfold pairAt maxV
  rw [if_pos h.symm]
  unfold upto
  simp only [List.getElem?_map, List.getElem?_range hj, Option.map_some, Option.getD_some]
  unfold maxAt pairAt
  exact Nat.le_max_left _ _
structure OnceP (kind : Nat) (t t' : Tok) : Prop where
  lo : t.epoch ≤ t'.epoch
  hi : t'.epoch ≤ t.epoch + 1
  neg : t'.holder < 0 → t'.epoch = t.epoch
  same : 0 ≤ t'.holder → t'.epoch = t.epoch → t'.holder = t.holder
  back : t.epoch < t'.epoch → 0 ≤ t.holder → kind = 9
  front : leqV t.frontier t'.frontier = true
theorem OnceP.refl (kind : Nat) (t : Tok) : OnceP kind t t := ⟨Nat.le_refl _, Nat.le_succ _, fun _ => rfl, fun _ _ => rfl, fun h => absurd h (Nat.lt_irrefl _), leqV_refl _⟩
theorem once_next {kind : Nat} {t u : Tok} (hu : u.epoch = t.epoch) (hf : leqV t.frontier u.frontier = true) (hk : kind = 9 ∨ u.holder = t.holder) (hh : u.holder = t.holder ∨ u.holder = -1) (he : t.epoch + 1 < 2 ^ 64) (hq : ∀ q ∈ u.queue, 0 ≤ q) : OnceP kind t (nextT u) := by
  by_cases hc : u.holder < 0 ∧ 0 < u.queue.length
  · rw [nextT_pos hc.1 hc.2]
    have e1 : (u.epoch + 1) % 2 ^ 64 = t.epoch + 1 := by rw [hu]; exact Nat.mod_eq_of_lt he
    have h0 : 0 ≤ u.queue.headD 0 := by
      cases h : u.queue with
      | nil => simp
      | cons a l => exact hq a (by rw [h]; exact .head _)
    refine ⟨?_, ?_, fun h => ?_, fun _ h => ?_, fun _ h => ?_, hf⟩
    · show t.epoch ≤ (u.epoch + 1) % 2 ^ 64; omega
    · show (u.epoch + 1) % 2 ^ 64 ≤ t.epoch + 1; omega
    · exact absurd h0 (by have : u.queue.headD 0 < 0 := h; omega)
    · have h : (u.epoch + 1) % 2 ^ 64 = t.epoch := h
      omega
    · rcases hk with hk | hk
      · exact hk
      · have := hc.1; omega
  · have e : nextT u = u := by unfold nextT; rw [if_neg hc]
    rw [e]
    refine ⟨by omega, by omega, fun _ => hu, fun h _ => ?_, fun h => by omega, hf⟩
    rcases hh with hh | hh
    · exact hh
    · omega
theorem once_step {r : RegD} (h : Reg34 r) {x : EntD} (ok : EntOk x) (big : EntBig x) {j : Int} (h0 : 0 ≤ j) (h1 : j < 4) (he : (atG r j).epoch + 1 < 2 ^ 64) : OnceP x.kind (atG r j) (atG (applyG r (putV x).1) j) := by
  have t0 := h.tok h0 h1
  rcases applyP_form r ok big with ⟨_, e⟩ | ⟨_, e⟩ <;> rw [e]
  · rw [applyX_at]
    split
    · unfold stepP
      split
      · rename_i hs
        obtain ⟨t, ht⟩ : ∃ t, t = atG r j := ⟨_, rfl⟩
        rw [← ht] at t0 he ⊢
        cases hd : doT x t with
        | none => exact OnceP.refl _ _
        | some u =>
          show OnceP x.kind t (nextT u)
          unfold doT at hd
          split at hd
          · unfold wantT at hd
            split at hd
            · cases hd
            · injection hd with hd
              subst hd
              refine once_next rfl (leqV_refl _) (.inr rfl) (.inl rfl) he fun q hq => ?_
              rcases List.mem_append.1 hq with hq | hq
              · exact (t0.queue q hq).1
              · rw [List.mem_singleton.1 hq]; exact hs.1
          · split at hd
            · rename_i h9
              unfold backT at hd
              split at hd
              · cases hd
              · rename_i hc
                injection hd with hd
                subst hd
                have hl : x.frontier.length = t.frontier.length := Classical.not_not.1 fun e => hc (.inr (.inr e))
                exact once_next rfl (leqV_max hl) (.inl h9) (.inr rfl) he fun q hq => (t0.queue q hq).1
            · cases hd
      · exact OnceP.refl _ _
    · exact OnceP.refl _ _
  · exact OnceP.refl _ _
/-- What was of the four tokens: arrays of the call's own, off the registry. -/
structure Arrs (w W : World) (P : Nat → Prop) (bl bw bf : Nat) (T : Nat → Tok) (fv : Nat → Value) : Prop where
  kl : Arr W bl 4 39 (fun j => .int .u64 ((T j).epoch : Int))
  kw : Arr W bw 4 3 (fun j => .int .i64 (T j).holder)
  kf : Arr W bf 4 26 fv
  pl : w.heap.size ≤ bl ∧ ¬ P bl
  pw : w.heap.size ≤ bw ∧ ¬ P bw
  pf : w.heap.size ≤ bf ∧ ¬ P bf
  n1 : bl ≠ bw
  n2 : bl ≠ bf
  n3 : bw ≠ bf
  fs : ∀ j, j < 4 → Sl W (fv j) (nums (T j).frontier)
  fb : ∀ j, j < 4 → ∀ k, (fv j).ownBlock = some k → ¬ P k ∧ k < W.heap.size ∧ k ≠ bl ∧ k ≠ bw ∧ k ≠ bf
section
variable {w W W' : World} {P P' : Nat → Prop} {bl bw bf : Nat} {T : Nat → Tok} {fv : Nat → Value}
theorem Arrs.keep {ρ : Nat → Prop} (h : Arrs w W P bl bw bf T fv) (c : Ch ρ W W') (hl : ¬ ρ bl) (hw : ¬ ρ bw) (hf : ¬ ρ bf) (hn : ∀ j, j < 4 → ∀ k, (fv j).ownBlock = some k → ¬ ρ k) : Arrs w W' P bl bw bf T fv :=
  ⟨h.kl.ch c hl, h.kw.ch c hw, h.kf.ch c hf, h.pl, h.pw, h.pf, h.n1, h.n2, h.n3, fun j hj => (h.fs j hj).ch c (hn j hj), fun j hj k hk => by
    obtain ⟨h1, h2, h3⟩ := h.fb j hj k hk
    exact ⟨h1, Nat.lt_of_lt_of_le h2 c.size, h3⟩⟩
theorem Arrs.gr (h : Arrs w W P bl bw bf T fv) (g : Gr W W') : Arrs w W' P bl bw bf T fv := h.keep (Ch.of_gr (ρ := fun _ => False) g) (fun e => e) (fun e => e) (fun e => e) (fun _ _ _ _ e => e)
/-- The registry was written, and took new blocks. -/
theorem Arrs.applied (h : Arrs w W P bl bw bf T fv) (hn : ∀ k, P' k → P k ∨ W.heap.size ≤ k) (c : Ch P W W') : Arrs w W' P' bl bw bf T fv := by
  have h1 := h.keep c h.pl.2 h.pw.2 h.pf.2 (fun j hj k hk => (h.fb j hj k hk).1)
  have up : ∀ k, k < W.heap.size → ¬ P k → ¬ P' k := fun k hk hp e => (hn k e).elim hp (fun e => by omega)
  exact ⟨h1.kl, h1.kw, h1.kf, ⟨h1.pl.1, up _ h.kl.lt h.pl.2⟩, ⟨h1.pw.1, up _ h.kw.lt h.pw.2⟩, ⟨h1.pf.1, up _ h.kf.lt h.pf.2⟩, h1.n1, h1.n2, h1.n3, h1.fs, fun j hj k hk => ⟨up _ (h.fb j hj k hk).2.1 (h.fb j hj k hk).1, (h1.fb j hj k hk).2⟩⟩
/-- A block that is new lies off it all. -/
theorem Arrs.newBlock (h : Arrs w W P bl bw bf T fv) {B : Nat} (hB : W.heap.size ≤ B) (hP : ∀ k, P k → k < W.heap.size) : Arrs w W P bl bw bf T fv ∧ ¬ P B ∧ bl ≠ B ∧ bw ≠ B ∧ bf ≠ B ∧ ∀ j, j < 4 → ∀ k, (fv j).ownBlock = some k → k ≠ B :=
  ⟨h, fun e => by have := hP B e; omega, by have := h.kl.lt; omega, by have := h.kw.lt; omega, by have := h.kf.lt; omega, fun j hj k hk => by have := (h.fb j hj k hk).2.1; omega⟩
theorem Arrs.lt (h : Arrs w W P bl bw bf T fv) : bl < W.heap.size ∧ bw < W.heap.size ∧ bf < W.heap.size := ⟨h.kl.lt, h.kw.lt, h.kf.lt⟩
/-- A token's row is written. -/
theorem Arrs.set3 (h : Arrs w W P bl bw bf T fv) (k : Nat) (hk : k < 4) (t : Tok) (v : Value) (hs : Sl W v (nums t.frontier)) (hb : ∀ j, v.ownBlock = some j → ¬ P j ∧ j < W.heap.size ∧ j ≠ bl ∧ j ≠ bw ∧ j ≠ bf) :
    Arrs w (((W.setCell ⟨bl, k, none⟩ (.int .u64 (t.epoch : Int))).setCell ⟨bf, k, none⟩ v).setCell ⟨bw, k, none⟩ (.int .i64 t.holder)) P bl bw bf (upd T k t) (upd fv k v) ∧
    Ch (fun j => j = bl ∨ j = bf ∨ j = bw) W (((W.setCell ⟨bl, k, none⟩ (.int .u64 (t.epoch : Int))).setCell ⟨bf, k, none⟩ v).setCell ⟨bw, k, none⟩ (.int .i64 t.holder)) := by
  have c1 := ch_mono (σ := fun j => j = bl ∨ j = bf ∨ j = bw) (ch_setCell' W bl k (.int .u64 (t.epoch : Int))) fun _ e => .inl e
  have c2 := ch_mono (σ := fun j => j = bl ∨ j = bf ∨ j = bw) (ch_setCell' (W.setCell ⟨bl, k, none⟩ (.int .u64 (t.epoch : Int))) bf k v) fun _ e => .inr (.inl e)
  have c3 := ch_mono (σ := fun j => j = bl ∨ j = bf ∨ j = bw) (ch_setCell' ((W.setCell ⟨bl, k, none⟩ (.int .u64 (t.epoch : Int))).setCell ⟨bf, k, none⟩ v) bw k (.int .i64 t.holder)) fun _ e => .inr (.inr e)
  have c := (c1.trans c2).trans c3
  refine ⟨⟨?_, ?_, ?_, h.pl, h.pw, h.pf, h.n1, h.n2, h.n3, fun j hj => ?_, fun j hj b hb' => ?_⟩, c⟩
  · refine (((h.kl.set k _ hk).set_ne h.n2 _ _).set_ne h.n1 _ _).congr fun i hi => ?_
    unfold upd; by_cases e : i = k <;> simp [e]
  · refine (((h.kw.set_ne h.n1.symm _ _).set_ne h.n3 _ _).set k _ hk).congr fun i hi => ?_
    unfold upd; by_cases e : i = k <;> simp [e]
  · refine (((h.kf.set_ne h.n2.symm _ _).set k v hk).set_ne h.n3.symm _ _).congr fun i hi => ?_
    unfold upd; by_cases e : i = k <;> simp [e]
  · unfold upd
    by_cases e : j = k
    · rw [if_pos e, if_pos e]
      exact hs.ch c (fun b hb' hr => by obtain ⟨_, _, h3, h4, h5⟩ := hb b hb'; rcases hr with hr | hr | hr <;> omega)
    · rw [if_neg e, if_neg e]
      exact (h.fs j hj).ch c (fun b hb' hr => by obtain ⟨_, _, h3, h4, h5⟩ := h.fb j hj b hb'; rcases hr with hr | hr | hr <;> omega)
  · unfold upd at hb'
    by_cases e : j = k
    · rw [if_pos e] at hb'
      obtain ⟨h1, h2, h3⟩ := hb b hb'
      exact ⟨h1, Nat.lt_of_lt_of_le h2 c.size, h3⟩
    · rw [if_neg e] at hb'
      obtain ⟨h1, h2, h3⟩ := h.fb j hj b hb'
      exact ⟨h1, Nat.lt_of_lt_of_le h2 c.size, h3⟩
theorem Arrs.congr (h : Arrs w W P bl bw bf T fv) {T' : Nat → Tok} (e : ∀ j, j < 4 → T j = T' j) : Arrs w W P bl bw bf T' fv :=
  ⟨h.kl.congr fun i hi => by rw [e i hi], h.kw.congr fun i hi => by rw [e i hi], h.kf, h.pl, h.pw, h.pf, h.n1, h.n2, h.n3, fun j hj => by rw [← e j hj]; exact h.fs j hj, h.fb⟩
end
def mixT (k : Nat) (r r' : RegD) (j : Nat) : Tok := if j < k then atG r' (j : Int) else atG r (j : Int)
theorem mixT_upd (k : Nat) (r r' : RegD) (j : Nat) : upd (mixT k r r') k (atG r' (k : Int)) j = mixT (k + 1) r r' j := by
  unfold upd mixT
  by_cases e : j = k
  · subst e; rw [if_pos rfl, if_pos (Nat.lt_succ_self _)]
  · rw [if_neg e]
    by_cases h : j < k
    · rw [if_pos h, if_pos (by omega)]
    · rw [if_neg h, if_neg (by omega)]
theorem new_at (j : Nat) (h : j < 4) : atG (newG 3 4) (j : Int) = tok0 3 := by
  have : j = 0 ∨ j = 1 ∨ j = 2 ∨ j = 3 := by omega
  rcases this with rfl | rfl | rfl | rfl <;> rfl
end Go.Proofs.YtpcpijecibiibaaGreat
