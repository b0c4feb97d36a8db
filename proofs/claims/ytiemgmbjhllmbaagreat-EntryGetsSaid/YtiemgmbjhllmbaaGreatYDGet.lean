/-
  Of the document: what stands while Get reads.
-/
import Derived.Test.YtiemgmbjhllmbaaGreatYDItem
import Derived.Test.YtiemgmbjhllmbaaGreatYDRead6
import Derived.Test.YtiemgmbjhllmbaaGreatYN
set_option linter.unusedVariables false
set_option maxRecDepth 100000
namespace Go.Proofs.YtiemgmbjhllmbaaGreat
open Go.RowKit
theorem dPart_mk (x : EntD) (s : RS) (p : PartK) : dPart (x, s) p = (putVal x (dVal p s).1, (dVal p s).2) := rfl
/-- Block w.heap.size holds the zero entry, block b the entry x so far; the reader g is in the state s. -/
def GMid (w W : World) (base : Nat → Prop) (g : Nat) (s : RS) (b : Nat) (x : EntD) : Prop :=
  CellsAt W w.heap.size zeroL 35 ∧ Ds W base g s ∧ (∃ q, CellsAt W b (entCells x q) 35 ∧ EntP (fun j => b < j) W x q) ∧ Gr w W ∧ g = w.heap.size + 1 ∧ b = w.heap.size + 2 ∧ ∀ k, base k → k < b
section
variable {w W W' : World} {base : Nat → Prop} {g : Nat} {s s' : RS} {b : Nat} {x x' : EntD}
theorem GMid.call (h : GMid w W base g s b x) (hr : Ds W' base g s') (hg : W.grownBy W' (some g)) : GMid w W' base g s' b x := by
  obtain ⟨h1, h2, ⟨q, h3, h4⟩, h5, h6, h7, h8⟩ := h
  exact ⟨h1.other hg (fun e => by injection e with e; omega), hr, ⟨q, h3.other hg (fun e => by injection e with e; omega), h4.keep (Keep.of_grown hg (fun e => by omega))⟩,
    Below.trans (show Below w.heap.size w W from h5) (grownBy_below hg h5.size (fun k hk => by cases hk; omega)), h6, h7, h8⟩
theorem GMid.part (h : GMid w W base g s b x) (q' : EntV) (hc : CellsAt W' b (entCells x' q') 35) (hp : EntP (fun j => b < j) W' x' q') (hg : W.grownBy W' (some b)) : GMid w W' base g s b x' := by
  obtain ⟨h1, h2, ⟨q, h3, h4⟩, h5, h6, h7, h8⟩ := h
  exact ⟨h1.other hg (fun e => by injection e with e; omega), ds_new h2 hg (fun k => by have := h8 b k; omega), ⟨q', hc, hp⟩,
    Below.trans (show Below w.heap.size w W from h5) (grownBy_below hg h5.size (fun k hk => by cases hk; omega)), h6, h7, h8⟩
theorem GMid.gr (h : GMid w W base g s b x) (hg : Gr W W') : GMid w W' base g s b x := by
  obtain ⟨h1, h2, ⟨q, h3, h4⟩, h5, h6, h7, h8⟩ := h
  exact ⟨h1.gr hg, h2.gr hg, ⟨q, h3.gr hg, h4.gr hg⟩, h5.trans hg, h6, h7, h8⟩
theorem GMid.zero (h : GMid w W base g s b x) : CellsAt W w.heap.size zeroL 35 := h.1
theorem GMid.ds (h : GMid w W base g s b x) : Ds W base g s := h.2.1
theorem GMid.ent (h : GMid w W base g s b x) : ∃ q, CellsAt W b (entCells x q) 35 ∧ EntP (fun j => b < j) W x q := h.2.2.1
theorem GMid.grw (h : GMid w W base g s b x) : Gr w W := h.2.2.2.1
theorem GMid.hb (h : GMid w W base g s b x) : b = w.heap.size + 2 := h.2.2.2.2.2.1
theorem GMid.blt (h : GMid w W base g s b x) : ∀ k, base k → k < W.heap.size := fun k hk => by
  obtain ⟨h1, h2, ⟨q, h3, h4⟩, h5, h6, h7, h8⟩ := h
  exact Nat.lt_trans (h8 k hk) h3.lt
theorem GMid.kind (h : GMid w W base g s b x) (k : Nat) (hk : x.kind = k) : W.cell? ⟨b, 0, none⟩ = some (.int .u8 (k : Int)) := by
  obtain ⟨q, h3, h4⟩ := h.ent
  subst hk
  exact h3.cell 0
theorem GMid.start (w : World) (v : Value) (l : List UInt8) (a : Option Addr) (c : Nat) (hv : v = .slice a l.length c) (hs : Sl w v (bytes l)) (hl : l.length ≤ 1000000000) :
    GMid w (((w.alloc (.cells zeroL.toArray 35)).alloc (.cells #[v, .int .i64 0, .bool false] 64)).alloc (.cells zeroL.toArray 35)) (fun k => k < w.heap.size ∨ k = w.heap.size + 1) (w.heap.size + 1) (l, false) (w.heap.size + 2) zeroX := by
  subst hv
  obtain ⟨w1, hw1⟩ : ∃ w1, w1 = w.alloc (.cells zeroL.toArray 35) := ⟨_, rfl⟩
  have g1 : Gr w w1 := by rw [hw1]; exact (Gr.refl w).alloc _
  have e1 : w1.heap.size = w.heap.size + 1 := by rw [hw1]; simp
  have k1 : CellsAt w1 w.heap.size zeroL 35 := by rw [hw1]; exact CellsAt.new w zeroL _
  rw [← hw1]
  obtain ⟨w2, hw2⟩ : ∃ w2, w2 = w1.alloc (.cells #[.slice a l.length c, .int .i64 0, .bool false] 64) := ⟨_, rfl⟩
  have g2 : Gr w1 w2 := by rw [hw2]; exact (Gr.refl w1).alloc _
  have e2 : w2.heap.size = w.heap.size + 2 := by rw [hw2]; simp [e1]
  have k2 : CellsAt w2 (w.heap.size + 1) [.slice a l.length c, .int .i64 0, .bool false] 64 := by rw [hw2, ← e1]; exact CellsAt.new w1 [_, _, _] _
  rw [← hw2]
  obtain ⟨w3, hw3⟩ : ∃ w3, w3 = w2.alloc (.cells zeroL.toArray 35) := ⟨_, rfl⟩
  have g3 : Gr w2 w3 := by rw [hw3]; exact (Gr.refl w2).alloc _
  have k3 : CellsAt w3 (w.heap.size + 2) zeroL 35 := by rw [hw3, ← e2]; exact CellsAt.new w2 zeroL _
  rw [← hw3]
  have s3 := hs.below (g1.trans (g2.trans g3))
  refine ⟨(k1.gr g2).gr g3, ⟨.inr rfl, a, c, l, ⟨0, k2.gr g3, Nat.zero_le _, rfl⟩, s3, ?_, hl⟩, ⟨zeroQ, k3, EntP.zero _ _ 0⟩, g1.trans (g2.trans g3), rfl, rfl, fun k hk => by omega⟩
  obtain ⟨a', c', he, hc, hcase⟩ := hs
  injection he with h1 h2 h3
  subst h1
  rcases hcase with h | ⟨bk, o, rfl, hb, _⟩
  · exact .inl h
  · right
    intro k hk
    obtain rfl : bk = k := by simpa [Value.ownBlock] using hk
    exact ⟨.inl hb, by omega⟩
end
/-- What the document's Get hands back. -/
def RetD (w : World) (l : List UInt8) (e : Ending) (w' : World) : Prop := ∃ q, e = .returned (.tuple #[.agg (entCells (dGetV l).1 q).toArray, .int .i64 (dGetV l).2]) ∧ EntP (From w.heap.size) w' (dGetV l).1 q ∧ Gr w w'
theorem retD_no {w : World} {l : List UInt8} {x : EntD} {s : RS} (hd : dEnt l = (x, s)) (h : ¬ ((putV x).2 = 0 ∧ rDone s = 0 ∧ (putV x).1 = l)) (w' : World) (hg : Gr w w') : RetD w l (.returned (.tuple #[.agg zeroL.toArray, .int .i64 2])) w' := by
  have e : dGetV l = (zeroX, 2) := by unfold dGetV; rw [hd]; exact if_neg h
  exact ⟨zeroQ, by rw [e]; rfl, by rw [e]; exact EntP.zero _ _ 0, hg⟩
theorem retD_yes {w : World} {l : List UInt8} {x : EntD} {s : RS} (hd : dEnt l = (x, s)) (h : (putV x).2 = 0 ∧ rDone s = 0 ∧ (putV x).1 = l) (w' : World) (hg : Gr w w') (q : EntV) (hp : EntP (From w.heap.size) w' x q) : RetD w l (.returned (.tuple #[.agg (entCells x q).toArray, .int .i64 0])) w' := by
  have e : dGetV l = (x, 0) := by unfold dGetV; rw [hd]; exact if_pos h
  exact ⟨q, by rw [e], by rw [e]; exact hp, hg⟩
/-- What is at hand where the reading is done. -/
theorem dget_pack {w W : World} {base : Nat → Prop} {g b : Nat} {s : RS} {x : EntD} {l : List UInt8} (hl : l.length ≤ 10000) (hD : dEnt l = (x, s)) (M : GMid w W base g s b x) :
    ∃ (q : EntV) (E : List Value) (pe : Int) (cL : List UInt8) (dn : Bool), Hid (CellsAt W b E 35) ∧ Hid (E.length = 23) ∧ Hid (oneAll E) ∧ Hid (EntP (fun j => b < j) W x q) ∧
      Hid (pe = 0 → dn = true → cL = l → ∀ w', Gr w w' → EntP (From w.heap.size) w' x q → RetD w l (.returned (.tuple #[.agg E.toArray, .int .i64 0])) w') ∧
      Hid (¬ (pe = 0 ∧ dn = true ∧ cL = l) → ∀ w', Gr w w' → RetD w l (.returned (.tuple #[.agg zeroL.toArray, .int .i64 2])) w') ∧
      Hid (∀ W', Ds W' base g s → Calls Tryz.prog 31 #[.pointer (some ⟨g, 0, none⟩)] W' fun e w' => e = .returned (.bool dn) ∧ Gr W' w') ∧
      Hid (Calls Tryz.prog 10 #[.agg E.toArray] W (fun e w' => ∃ v, e = .returned (.tuple #[v, .int .i64 pe]) ∧ Sl w' v (bytes cL) ∧ Gr W w')) := by
  have ok : EntOk x := by have h := dEnt_ok l; rw [hD] at h; exact h
  have bd : Bd x := by have h := dEnt_bd l hl; rw [hD] at h; exact h
  obtain ⟨q, K, hp⟩ := M.ent
  refine ⟨q, entCells x q, (putV x).2, (putV x).1, decide (rDone s = 0), Lib.hid K, Lib.hid rfl, Lib.hid hp.one, Lib.hid hp, Lib.hid fun h1 h2 h3 w' hg' hp' => ?_, Lib.hid fun h w' hg' => ?_, Lib.hid fun W' h => ds_done W' base g s h, Lib.hid ?_⟩
  · exact retD_yes hD ⟨h1, by simpa using h2, h3⟩ w' hg' q hp'
  · exact retD_no hD (fun hc => h ⟨hc.1, by simpa using hc.2.1, hc.2.2⟩) w' hg'
  · exact dput_any W x q (hp.mono (fun _ _ => trivial)) ok bd.big bd.short
theorem dget_zero {w W : World} {base : Nat → Prop} {g b : Nat} {s : RS} {x : EntD} {l : List UInt8} {p : Prop} (M : GMid w W base g s b x) (NN : p → ∀ w', Gr w w' → RetD w l (.returned (.tuple #[.agg zeroL.toArray, .int .i64 2])) w') (hp : p) :
    Hid (CellsAt W w.heap.size zeroL 35) ∧ Hid (∀ W', Ch (fun j => j = w.heap.size) W W' → RetD w l (.returned (.tuple #[.agg zeroL.toArray, .int .i64 2])) W') :=
  ⟨Lib.hid M.zero, Lib.hid fun W' hc => NN hp W' (Below.trans M.grw (hc.below M.grw.size (fun j hj => by have : j = w.heap.size := hj; omega)))⟩
theorem dget_last {w W W' : World} {base : Nat → Prop} {g b : Nat} {s : RS} {x : EntD} {l : List UInt8} {q : EntV} {e : Ending} (M : GMid w W base g s b x) (EP : EntP (fun j => b < j) W x q) (FIN : ∀ w', Gr w w' → EntP (From w.heap.size) w' x q → RetD w l e w') (ch : Ch (fun j => j = w.heap.size) W W') : RetD w l e W' :=
  FIN W' (Below.trans M.grw (ch.below M.grw.size (fun j hj => by have : j = w.heap.size := hj; omega))) ((EP.keep (Keep.of_ch ch (fun j h1 h2 => by have := M.hb; have h3 : b < j := h1; have h4 : j = w.heap.size := h2; omega))).mono (Q := From w.heap.size) (fun j hj => by have := M.hb; show w.heap.size ≤ j; omega))
end Go.Proofs.YtiemgmbjhllmbaaGreat
