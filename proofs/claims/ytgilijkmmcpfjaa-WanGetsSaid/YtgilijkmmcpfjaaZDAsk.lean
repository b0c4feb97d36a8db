/-
  Of the document: what reads operations.
-/
import Derived.Test.YtgilijkmmcpfjaaZM
import Derived.Test.YtgilijkmmcpfjaaZEnGetOp
import Derived.Test.YtgilijkmmcpfjaaZC
import Derived.Test.YtgilijkmmcpfjaaZJ
set_option linter.unusedVariables false
set_option linter.unusedSimpArgs false
set_option maxRecDepth 100000
namespace Go.Proofs.Ytgilijkmmcpfjaa
open Go.RowKit
/-- Block w.heap.size holds Z, block b holds cs; the reader g is in the state s. -/
def DMid (w W : World) (base : Nat → Prop) (g : Nat) (s : RS) (b : Nat) (cs Z : List Value) (T : TypeId) : Prop :=
  CellsAt W b cs T ∧ CellsAt W w.heap.size Z T ∧ Ds W base g s ∧ w.grownBy W (some g) ∧ g < w.heap.size ∧ b = w.heap.size + 1 ∧ ∀ k, base k → k < w.heap.size
theorem DMid.call {w W W' : World} {base : Nat → Prop} {g : Nat} {s s' : RS} {b : Nat} {cs Z : List Value} {T : TypeId} (h : DMid w W base g s b cs Z T) (hr : Ds W' base g s') (hg : W.grownBy W' (some g)) : DMid w W' base g s' b cs Z T := by
  obtain ⟨h1, h2, h3, h4, h5, h6, h7⟩ := h
  exact ⟨h1.other hg (fun e => by injection e with e; omega), h2.other hg (fun e => by injection e with e; omega), hr, grownBy_trans h4 hg, h5, h6, h7⟩
theorem DMid.store {w W : World} {base : Nat → Prop} {g : Nat} {s : RS} {b : Nat} {cs Z : List Value} {T : TypeId} (h : DMid w W base g s b cs Z T) (i : Nat) (v : Value) : DMid w (W.setCell ⟨b, i, none⟩ v) base g s b (cs.set i v) Z T := by
  obtain ⟨h1, h2, h3, h4, h5, h6, h7⟩ := h
  have gf := grownBy_setCell W b i v
  exact ⟨h1.set i v, h2.other gf (fun e => by injection e with e; omega), ds_new h3 gf (fun hk => by have := h7 b hk; omega), grown_new h4 gf (by omega), h5, h6, h7⟩
theorem DMid.gr {w W W' : World} {base : Nat → Prop} {g : Nat} {s : RS} {b : Nat} {cs Z : List Value} {T : TypeId} (h : DMid w W base g s b cs Z T) (hg : Gr W W') : DMid w W' base g s b cs Z T := by
  obtain ⟨h1, h2, h3, h4, h5, h6, h7⟩ := h
  exact ⟨h1.gr hg, h2.gr hg, h3.gr hg, grownBy_trans h4 (gr_grown hg g), h5, h6, h7⟩
theorem DMid.growO {w W W' : World} {base : Nat → Prop} {g : Nat} {s : RS} {b : Nat} {cs Z : List Value} {T : TypeId} {q : Option Nat} (h : DMid w W base g s b cs Z T) (hg : W.grownBy W' q) (hq : ∀ k, q = some k → b < k) : DMid w W' base g s b cs Z T := by
  obtain ⟨h1, h2, h3, h4, h5, h6, h7⟩ := h
  exact ⟨h1.other hg (fun e => by have := hq b e; omega), h2.other hg (fun e => by have := hq _ e; omega), ds_newO h3 hg (fun k hk hb => by have := hq k hk; have := h7 k hb; omega), grown_newO h4 hg (fun k hk => by have := hq k hk; omega), h5, h6, h7⟩
theorem DMid.cells {w W : World} {base : Nat → Prop} {g : Nat} {s : RS} {b : Nat} {cs Z : List Value} {T : TypeId} (h : DMid w W base g s b cs Z T) : CellsAt W b cs T := h.1
theorem DMid.zero {w W : World} {base : Nat → Prop} {g : Nat} {s : RS} {b : Nat} {cs Z : List Value} {T : TypeId} (h : DMid w W base g s b cs Z T) : CellsAt W w.heap.size Z T := h.2.1
theorem DMid.ds {w W : World} {base : Nat → Prop} {g : Nat} {s : RS} {b : Nat} {cs Z : List Value} {T : TypeId} (h : DMid w W base g s b cs Z T) : Ds W base g s := h.2.2.1
theorem DMid.gro {w W : World} {base : Nat → Prop} {g : Nat} {s : RS} {b : Nat} {cs Z : List Value} {T : TypeId} (h : DMid w W base g s b cs Z T) : w.grownBy W (some g) := h.2.2.2.1
theorem DMid.blt {w W : World} {base : Nat → Prop} {g : Nat} {s : RS} {b : Nat} {cs Z : List Value} {T : TypeId} (h : DMid w W base g s b cs Z T) : ∀ k, base k → k < W.heap.size := fun k hk => Nat.lt_of_lt_of_le (h.2.2.2.2.2.2 k hk) h.2.2.2.1.size
theorem DMid.start {w : World} {base : Nat → Prop} {g : Nat} {s : RS} {Z : List Value} {T : TypeId} (hr : Ds w base g s) (hb : ∀ k, base k → k < w.heap.size) : DMid w ((w.alloc (.cells Z.toArray T)).alloc (.cells Z.toArray T)) base g s (w.heap.size + 1) Z Z T := by
  have g1 : Gr w (w.alloc (.cells Z.toArray T)) := (Gr.refl w).alloc _
  have g2 : Gr (w.alloc (.cells Z.toArray T)) ((w.alloc (.cells Z.toArray T)).alloc (.cells Z.toArray T)) := (Gr.refl _).alloc _
  have hs : (w.alloc (.cells Z.toArray T)).heap.size = w.heap.size + 1 := by simp
  have k2 := CellsAt.new (w.alloc (.cells Z.toArray T)) Z T
  rw [hs] at k2
  exact ⟨k2, (CellsAt.new w Z T).gr g2, hr.gr (g1.trans g2), gr_grown (g1.trans g2) g, hr.lt, rfl, hb⟩
/-- What lies in blocks behind b stays when no such block is written. -/
theorem SlP.past {W W' : World} {b z k : Nat} {dv : Value} {l : List Value} (h : SlP (fun j => b < j ∧ j < z) W dv l) (hg : W.grownBy W' (some k)) (hk : k ≤ b) : SlP (fun j => b < j ∧ j < z) W' dv l := h.keep (Keep.of_grown hg (fun h => by omega))
theorem SlP.pastO {W W' : World} {b z : Nat} {q : Option Nat} {dv : Value} {l : List Value} (h : SlP (fun j => b < j ∧ j < z) W dv l) (hg : W.grownBy W' q) (hk : ∀ k, q = some k → z ≤ k) : SlP (fun j => b < j ∧ j < z) W' dv l := h.keep (keepO hg (fun k hq h => by have := hk k hq; omega))
theorem Own.past {W : World} {e : TypeId} {B b : Nat} {dv : Value} {l : List Value} (h : Own W B e dv l) (hb : b < B) : SlP (fun j => b < j ∧ j < W.heap.size) W dv l := h.slP.monoLt fun k hk hlt => ⟨by have : B ≤ k := hk; omega, hlt⟩
theorem SlP.pastZ {W : World} {b z z' : Nat} {dv : Value} {l : List Value} (h : SlP (fun j => b < j ∧ j < z) W dv l) (hz : z ≤ z') : SlP (fun j => b < j ∧ j < z') W dv l := h.mono fun k hk => ⟨hk.1, by omega⟩
def dst1 (a b : RS) : Nat → RS
  | 0 => a
  | _ => b
def dOpM (m : Nat) (s : RS) : OpD × RS := (.mk (dHead s).1 (dList m dOp0 (dHead s).2).1, (dList m dOp0 (dHead s).2).2)
end Go.Proofs.Ytgilijkmmcpfjaa
