/-
  Words that all of this seat's walks use: what it is that a slice reads as a list of values; slices of the call's own; arguments opened. No program in sight.
  A REGION THAT DRAWS ITS ORDER, WHOSE OPERATIONS AND CALLEES WRITE NOTHING THAT WAS THERE (they may make new memory): walked once, in the order of the text.
  Of each operation it is said ahead what it gives: a value, or a word on the value and the world that stays true while the world only grows ('plan'). Each operation is then walked in an arbitrary world that has grown out of the region's first one, with the words on just those operations that it waits for.
  A REGION THAT DRAWS ITS ORDER, OF WHOSE OPERATIONS SOME TURN WHAT WAS THERE, ONE BEHIND THE OTHER (calls on an object: a reader): as Grow, with a state: 'S k' holds behind k such operations; the others only make new memory.
-/
import Derived.WalkKit
import Derived.ProofKit
import Derived.OpenShut
import Derived.ShutString
import Derived.ChangeOld
import Derived.Below
import Derived.Laws.OwnMore
import Derived.Lib.Hide
import Derived.Deep.Draws
import Derived.Orders
section
set_option linter.unusedVariables false
namespace Go.Proofs.Ytiemgmbjhllmbaa
theorem pt1 {α : Type _} (l : List α) (i : Nat) (a : α) : l.toArray.setIfInBounds i a = (l.set i a).toArray := List.setIfInBounds_toArray ..
theorem pt2 {α : Type _} (x : α) (xs : List α) (y : α) : (x :: xs).set 0 y = y :: xs := List.set_cons_zero
theorem pt3 {α : Type _} (a : α) (as : List α) (n : Nat) (b : α) : (a :: as).set (n + 1) b = a :: as.set n b := List.set_cons_succ
open Go.ChangeShapes Go.WideShapes Go.ChangeAt Go.RowKit
/-- The slice value v reads in the world w as the list xs. -/
def Sl (w : World) (v : Value) (xs : List Value) : Prop :=
  ∃ a cap, v = .slice a xs.length cap ∧ xs.length ≤ cap ∧ (xs = [] ∨ ∃ b off, a = some ⟨b, off, none⟩ ∧ b < w.heap.size ∧ ∀ k (h : k < xs.length), w.cell? ⟨b, off + k, none⟩ = some xs[k])
theorem Sl.below {w w' : World} {v : Value} {xs : List Value} (h : Sl w v xs) (hb : Below w.heap.size w w') : Sl w' v xs := by
  obtain ⟨a, cap, rfl, hcap, h⟩ := h
  refine ⟨a, cap, rfl, hcap, ?_⟩
  rcases h with h | ⟨b, off, rfl, hlt, h⟩
  · exact .inl h
  · exact .inr ⟨b, off, rfl, Nat.lt_of_lt_of_le hlt hb.size, fun k hk => by rw [hb.cell (p := ⟨b, off + k, none⟩) hlt]; exact h k hk⟩
def byte (c : UInt8) : Value := .int .u8 (c.toNat : Int)
def bytes (l : List UInt8) : List Value := l.map byte
theorem bytes_length (l : List UInt8) : (bytes l).length = l.length := by simp [bytes]
theorem bytes_nil (l : List UInt8) : bytes l = [] ↔ l = [] := by simp [bytes]
/-- A slice of bytes opened: its length, and, if it is not empty, its cells. -/
theorem Sl.bytes {w : World} {v : Value} {l : List UInt8} (h : Sl w v (bytes l)) :
    ∃ a cap, v = .slice a l.length cap ∧ l.length ≤ cap ∧ (l = [] ∨ ∃ b off, a = some ⟨b, off, none⟩ ∧ b < w.heap.size ∧ ∀ k (_ : k < l.length), w.cell? ⟨b, off + k, none⟩ = some (.int .u8 (l[k].toNat : Int))) := by
  obtain ⟨a, cap, rfl, hcap, h⟩ := h
  refine ⟨a, cap, by rw [bytes_length], by rwa [bytes_length] at hcap, ?_⟩
  rcases h with h | ⟨b, off, rfl, hlt, h⟩
  · exact .inl ((bytes_nil l).1 h)
  · refine .inr ⟨b, off, rfl, hlt, fun k hk => ?_⟩
    rw [h k (by rw [bytes_length]; exact hk)]
    simp [Go.Proofs.Ytiemgmbjhllmbaa.bytes, byte]
/-- A block that has just been laid, read from its head. -/
theorem Sl.new (w : World) (xs : List Value) (t : TypeId) (fr : Nat × Nat) (n cap : Nat) (hn : n = xs.length) (hcap : n ≤ cap) :
    Sl (w.alloc (.cells xs.toArray t fr)) (.slice (some ⟨w.heap.size, 0, none⟩) n cap) xs := by
  subst hn
  refine ⟨_, cap, rfl, hcap, .inr ⟨w.heap.size, 0, rfl, by simp, fun k hk => ?_⟩⟩
  have h : (w.alloc (.cells xs.toArray t fr)).heap[w.heap.size]? = some (.cells xs.toArray t fr) := by
    show (w.heap.push _)[w.heap.size]? = _
    simp
  unfold World.cell?
  rw [h]
  simp [hk]
theorem Sl.at (w : World) (xs : List Value) (t : TypeId) (fr : Nat × Nat) (B n cap : Nat) (hB : B = w.heap.size) (hn : n = xs.length) (hcap : n ≤ cap) :
    Sl (w.alloc (.cells xs.toArray t fr)) (.slice (some ⟨B, 0, none⟩) n cap) xs := by
  subst hB; exact Sl.new w xs t fr n cap hn hcap
theorem Sl.nil (w : World) (a : Option Addr) (cap : Nat) : Sl w (.slice a 0 cap) [] := ⟨a, cap, rfl, Nat.zero_le _, .inl rfl⟩
/-- 'string(b)' of a slice that reads as the bytes l. -/
theorem run_string_sl {P : Program} {w : World} {v : Value} {l : List UInt8} (src e dst : TypeId) (hs : P.underlying src = some (.slice e)) (he : P.underlying e = some (.int .u8)) (hd : P.underlying dst = some .string)
    (h : Sl w v (Go.Proofs.Ytiemgmbjhllmbaa.bytes l)) : (convert src dst v).run P w = .ok (.string ⟨l.toArray⟩) w := by
  obtain ⟨a, cap, rfl, _, hc⟩ := h.bytes
  rcases hc with rfl | ⟨b, off, rfl, hb, hc⟩
  · cases a with
    | none => rw [run_convert_bytes_nil w src e hs he _ _ dst hd]; rfl
    | some a => exact run_convert_bytes_back w src dst e a cap [] hs he hd (fun j hj => absurd hj (by simp))
  · exact run_convert_bytes_back w src dst e _ cap l hs he hd (fun j hj => by
      have hplain : (⟨b, off, none⟩ : Addr).add j = ⟨b, off + j, none⟩ := by unfold Addr.add; split <;> simp_all
      rw [hplain]; exact hc j hj)
/-- The first k of a block's cells. -/
theorem Sl.take {w : World} {b off : Nat} (xs : List Value) (hb : b < w.heap.size) (hc : ∀ k (h : k < xs.length), w.cell? ⟨b, off + k, none⟩ = some xs[k]) (k cap : Nat) (hk : k ≤ xs.length) (hkc : k ≤ cap) :
    Sl w (.slice (some ⟨b, off, none⟩) k cap) (xs.take k) := by
  have hl : (xs.take k).length = k := by simp [hk]
  refine ⟨_, cap, by rw [hl], by rw [hl]; exact hkc, .inr ⟨b, off, rfl, hb, fun j hj => ?_⟩⟩
  rw [hl] at hj
  rw [hc j (by omega), List.getElem_take]
theorem bytes_take (l : List UInt8) (k : Nat) : (bytes l).take k = bytes (l.take k) := by simp [bytes, List.map_take]
/-- The cells of a block that has just been laid, the world then grown. -/
theorem cells_at {w w' : World} (xs : List Value) (t : TypeId) (fr : Nat × Nat) (hb : Below (w.alloc (.cells xs.toArray t fr)).heap.size (w.alloc (.cells xs.toArray t fr)) w') :
    ∀ k (h : k < xs.length), w'.cell? ⟨w.heap.size, 0 + k, none⟩ = some xs[k] := by
  intro k hk
  rw [hb.cell (p := ⟨w.heap.size, 0 + k, none⟩) (by simp)]
  have h : (w.alloc (.cells xs.toArray t fr)).heap[w.heap.size]? = some (.cells xs.toArray t fr) := by
    show (w.heap.push _)[w.heap.size]? = _
    simp
  unfold World.cell?
  rw [h]
  simp [hk]
/-- A slice keeps what it reads while blocks that are not its own are written. -/
theorem Sl.grown {w w' : World} {v : Value} {xs : List Value} {row : Option Nat} (h : Sl w v xs) (hg : w.grownBy w' row) (hne : v.ownBlock = none ∨ v.ownBlock ≠ row) : Sl w' v xs := by
  obtain ⟨a, cap, rfl, hcap, h⟩ := h
  refine ⟨a, cap, rfl, hcap, ?_⟩
  rcases h with h | ⟨b, off, rfl, hlt, h⟩
  · exact .inl h
  · refine .inr ⟨b, off, rfl, Nat.lt_of_lt_of_le hlt hg.size, fun k hk => ?_⟩
    have hne' : some b ≠ row := by simpa [Value.ownBlock] using hne
    rw [World.cell?_of_block (hg.block b hlt hne')]
    exact h k hk
theorem Sl.ownBlock_lt {w : World} {v : Value} {xs : List Value} (h : Sl w v xs) (hn : xs ≠ []) : ∃ b, v.ownBlock = some b ∧ b < w.heap.size := by
  obtain ⟨a, cap, rfl, hcap, h⟩ := h
  rcases h with h | ⟨b, off, rfl, hlt, h⟩
  · exact absurd h hn
  · exact ⟨b, rfl, hlt⟩
theorem addr_add (b off n : Nat) : (⟨b, off, none⟩ : Addr).add n = ⟨b, off + n, none⟩ := by unfold Addr.add; split <;> simp_all
theorem grownBy_below {w w' : World} {row : Option Nat} {B : Nat} (hg : w.grownBy w' row) (hB : B ≤ w.heap.size) (hr : ∀ k, row = some k → B ≤ k) : Below B w w' := (Below.refl B w).grown hg hB hr
theorem below_grownBy {w w' : World} (h : Below w.heap.size w w') (row : Option Nat) : w.grownBy w' row := ⟨h.os, h.tape, h.output, h.size, fun k hk _ => h.block k hk⟩
theorem grownBy_trans {a b c : World} {row : Option Nat} (h : a.grownBy b row) (k : b.grownBy c row) : a.grownBy c row :=
  ⟨k.os.trans h.os, k.tape.trans h.tape, k.output.trans h.output, Nat.le_trans h.size k.size, fun i hi hn => (k.block i (Nat.lt_of_lt_of_le hi h.size) hn).trans (h.block i hi hn)⟩
theorem below_drewN {B : Nat} {a w : World} (h : Below B a w) (n : Nat) : Below B a (w.drewN n) := ⟨h.os, h.tape, h.output, h.size, h.block⟩
/-- What a slice expression makes of a slice: 's[l:h:m]'. -/
theorem Sl.sliced {w : World} {a : Option Addr} {cap : Nat} {xs : List Value} (h : Sl w (.slice a xs.length cap) xs) (lo hi mx : Nat) (h1 : lo ≤ hi) (h2 : hi ≤ mx) (h3 : mx ≤ cap) (h4 : hi ≤ xs.length) :
    Sl w (Go.sliced a lo hi mx 1) ((xs.take hi).drop lo) := by
  obtain ⟨a', cap', he, hcap, hx⟩ := h
  injection he with e1 e2 e3
  subst e1 e3
  have hl : ((xs.take hi).drop lo).length = hi - lo := by simp; omega
  refine ⟨_, mx - lo, by rw [hl]; rfl, by rw [hl]; omega, ?_⟩
  by_cases h0 : lo = hi
  · left
    exact List.eq_nil_of_length_eq_zero (by rw [hl]; omega)
  · rcases hx with rfl | ⟨b, off, rfl, hb, hx⟩
    · left; simp
    · right
      refine ⟨b, off + lo, ?_, hb, fun k hk => ?_⟩
      · rw [if_neg (by omega)]
        simp [addr_add]
      · rw [hl] at hk
        rw [Nat.add_assoc, hx (lo + k) (by omega)]
        simp [List.getElem_drop, List.getElem_take]
theorem ownBlock_sliced (a : Option Addr) (n cap lo hi mx : Nat) : (Go.sliced a lo hi mx 1).ownBlock = (Value.slice a n cap).ownBlock := by
  unfold Go.sliced
  split
  · cases a <;> rfl
  · cases a with
    | none => rfl
    | some ad => obtain ⟨b, off, sp⟩ := ad; simp only [Option.map, Value.ownBlock]; unfold Addr.add; split <;> rfl
theorem bcell {W w1 : World} (hb : Below W.heap.size W w1) : (∀ b o, b < W.heap.size → w1.cell? ⟨b, o, none⟩ = W.cell? ⟨b, o, none⟩) ∧ (∀ b o, b < W.heap.size → w1.frozen? ⟨b, o, none⟩ = W.frozen? ⟨b, o, none⟩) :=
  ⟨fun b o h => hb.cell (p := ⟨b, o, none⟩) h, fun b o h => hb.frozen (p := ⟨b, o, none⟩) h⟩
theorem ret_int {k : IntKind} {a b : Int} (h : a = b) : Ending.returned (.int k a) = .returned (.int k b) := by rw [h]
theorem ret_bool {a b : Bool} (h : a = b) : Ending.returned (.bool a) = .returned (.bool b) := by rw [h]
theorem val_int {k : IntKind} {a b : Int} (h : a = b) : Value.int k a = .int k b := by rw [h]
/-- v is a slice of the call's own (blocks from base on), its elements are xs, one cell each. -/
def Own (w : World) (base : Nat) (e : TypeId) (v : Value) (xs : List Value) : Prop := w.ownsRow base e 1 v xs.length xs
theorem Own.form {w : World} {base : Nat} {e : TypeId} {v : Value} {xs : List Value} (h : Own w base e v xs) (hn : xs ≠ []) : ∃ g cap, v = .slice (some ⟨g, 0, none⟩) xs.length cap ∧ base ≤ g ∧ g < w.heap.size ∧ xs.length ≤ cap := by
  have h0 := h.lt
  rcases h.2 with ⟨_, h1⟩ | ⟨g, cap, cur, rfl, hb, hh, hnc, _⟩
  · exact absurd (List.eq_nil_of_length_eq_zero h1) hn
  · exact ⟨g, cap, rfl, hb, (Array.getElem?_eq_some_iff.1 hh).1, hnc⟩
theorem Own.sl {w : World} {base : Nat} {e : TypeId} {v : Value} {xs : List Value} (h : Own w base e v xs) : Sl w v xs := by
  by_cases hn : xs = []
  · subst hn
    rcases h.2 with ⟨rfl, _⟩ | ⟨g, cap, cur, rfl, _⟩
    · exact ⟨none, 0, rfl, Nat.zero_le _, .inl rfl⟩
    · exact ⟨_, cap, rfl, Nat.zero_le _, .inl rfl⟩
  · obtain ⟨g, cap, rfl, hb, hlt, hnc⟩ := h.form hn
    refine ⟨_, cap, rfl, hnc, .inr ⟨g, 0, rfl, hlt, fun k hk => ?_⟩⟩
    have := World.ownsRow.cellAt h k (by omega)
    rw [Nat.zero_add, this, List.getElem?_eq_getElem hk]
theorem Own.shape {w : World} {base : Nat} {e : TypeId} {v : Value} {xs : List Value} (h : Own w base e v xs) : ∃ a cap, v = .slice a xs.length cap := by
  rcases h.2 with ⟨rfl, h1⟩ | ⟨g, cap, cur, rfl, hb, hh, hnc, _⟩
  · exact ⟨none, 0, by rw [h1]⟩
  · exact ⟨_, cap, rfl⟩
theorem Own.mono {w : World} {base base' : Nat} {e : TypeId} {v : Value} {xs : List Value} (h : Own w base e v xs) (hb : base' ≤ base) : Own w base' e v xs :=
  ⟨h.1, h.2.imp id fun ⟨g, cap, cur, hv, hg, r⟩ => ⟨g, cap, cur, hv, Nat.le_trans hb hg, r⟩⟩
theorem Own.nil_lit (w : World) (e : TypeId) {base : Nat} (hb : base ≤ w.heap.size) : Own (w.alloc (.cells #[] e)) base e (.slice (some ⟨w.heap.size, 0, none⟩) 0 0) [] :=
  World.ownsRow_lit w #[] 0 hb (by simp) rfl
theorem Own.nil0 (w : World) (base : Nat) (e : TypeId) : Own w base e (.slice none 0 0) [] := World.ownsRow_nil w base e 1
theorem Own.store {w : World} {base g cap : Nat} {e : TypeId} {xs : List Value} (h : Own w base e (.slice (some ⟨g, 0, none⟩) xs.length cap) xs) (j : Nat) (u : Value) :
    Own (w.setCell ⟨g, j, none⟩ u) base e (.slice (some ⟨g, 0, none⟩) (xs.set j u).length cap) (xs.set j u) ∧ w.grownBy (w.setCell ⟨g, j, none⟩ u) (some g) := by
  have := World.ownsRow.stored h j u
  unfold Own
  rw [List.length_set]
  exact this
theorem Sl.oneCells {w : World} {v : Value} {xs : List Value} (h : Sl w v xs) : ∃ a cap, v = .slice a xs.length cap := by
  obtain ⟨a, cap, rfl, _, _⟩ := h
  exact ⟨a, cap, rfl⟩
section
variable {P : Program}
/-- append(s, x...), s the call's own, x whatever slice. -/
theorem run_append_sl (w : World) (base : Nat) (t ty e : TypeId) (i : TypeInfo) (z : Value) (by_ : Nat) (ht : P.underlying t = some (.slice e)) (hi : P.info? e = some i) (hz : i.zero = some z)
    (hsize : i.size = 1) (hby : i.bytes = by_) (hzs : z.cells.size = 1)
    (v y : Value) (xs ys : List Value) (hown : Own w base e v xs) (hy : Sl w y ys) (h1 : ∀ u ∈ ys, u.oneCell' = true)
    (h63 : xs.length + ys.length ≤ maxLen) (hbytes : (xs.length + ys.length) * by_ ≤ 140737488355328) (hbase : base ≤ w.heap.size) :
    ∃ v' w', (Builtin.append_ #[t, t] ty #[v, y]).run P w = .ok v' w' ∧ Own w' base e v' (xs ++ ys) ∧ w.grownBy w' v.ownBlock := by
  obtain ⟨a, cap, rfl, _, hc⟩ := hy
  cases a with
  | none =>
    have hy0 : ys = [] := by
      rcases hc with h | ⟨b, off, h, _⟩
      · exact h
      · cases h
    subst hy0
    refine ⟨v, w, ?_, by simpa using hown, ⟨rfl, rfl, rfl, Nat.le_refl _, fun _ _ _ => rfl⟩⟩
    rcases hown.2 with ⟨rfl, h0⟩ | ⟨g, cap', cur, rfl, _, _, hnc, _⟩
    · simp [Builtin.append_, run_underlying ht, sizeOf, typeInfo, hi, Builtin.lenOf, Builtin.firstCells]
    · simp [Builtin.append_, run_underlying ht, sizeOf, typeInfo, hi, Builtin.lenOf, Builtin.firstCells, hnc, storeCells]
  | some ad =>
    have hcells : ∀ j u, ys[j]? = some u → w.cell? (ad.add j) = some u := by
      intro j u hu
      rcases hc with h | ⟨b, off, h, _, hcell⟩
      · subst h; simp at hu
      · injection h with h
        subst h
        have hj : j < ys.length := (List.getElem?_eq_some_iff.1 hu).1
        have hadd : (⟨b, off, none⟩ : Addr).add j = ⟨b, off + j, none⟩ := by unfold Addr.add; split <;> simp_all
        rw [hadd, hcell j hj, ← hu, List.getElem?_eq_getElem hj]
    obtain ⟨v', w', hr, h2, h3, _⟩ := run_append_own (P := P) w base t ty e i z 1 by_ ht hi hz hsize hby hzs (by decide) v xs.length xs hown ad ys.length cap ys (by simp) hcells h1 h63 hbytes hbase
    refine ⟨v', w', hr, ?_, h3⟩
    unfold Own
    rw [List.length_append]
    exact h2
/-- An append whose run is known. -/
theorem wpList_run_append {w w' : World} {ops : Array Oper} {rest : List Oper} {o : Oper} {a : Act} {Q : Exit → Act → World → Prop} {t : TypeId} {v y v' : Value}
    (hr : (Builtin.append_ #[t, t] o.type #[v, y]).run P w = .ok v' w') (hgd : o.guard = none) (s x : Operand)
    (ho : o.op = .call { callee := .builtin .append, args := #[s, x], argTypes := #[t, t] }) (hs : a.eval s = v) (hx : a.eval x = y)
    (h : wpList P ops Q rest (a.put o.dst v') w') : wpList P ops Q (o :: rest) a w :=
  wpList_plain hgd fun _ hK => by
    unfold Oper.wp execOp
    simp only [ho, resolve, invoke, builtin, Sem.run_bind, Sem.run_pure, Result.andThen_ok, List.map_toArray, List.map_cons, List.map_nil, hs, hx, hr]
    exact hK _ _ h
end
section
variable {H : Type} {enc : TypeId × Value → H} {P : Program} {w : World}
theorem cell_block_lt {b off : Nat} {sp : Option Nat} {x : Value} (h : w.cell? ⟨b, off, sp⟩ = some x) : b < w.heap.size := by
  unfold World.cell? at h
  cases hb : w.heap[b]? with
  | none => simp [hb] at h
  | some o => exact (Array.getElem?_eq_some_iff.1 hb).1
theorem open_sl_ints {r : Reach} {b0 : Nat} {t e : TypeId} {k : IntKind} {v : Value} {d : DataW H} {ps : List MemPlace} (ht : P.underlying t = some (.slice e)) (he : P.underlying e = some (.int k)) (hc : P.cellsOf e = 1)
    (hval : Value.okWide P w r b0 t v) (hd : DataW.Trod enc P w 0 (fun _ => true) true t v d ps) :
    ∃ zs : List Int, Sl w v (zs.map (Value.int k)) ∧ (∀ z ∈ zs, (Lit.int k z).wf = true) ∧ zs.length ≤ maxLen := by
  obtain ⟨a, len, cap, rfl⟩ := okWide_slice ht hval
  obtain ⟨fuel, hf⟩ := hd
  rcases open_ints ht he hc hf with ⟨hcs, _⟩ | ⟨x, l, c, zs, hcs, _, hl, hm, hz, _, hcell, hwz⟩
  · simp [Value.cells] at hcs
    obtain ⟨rfl, rfl, rfl⟩ := hcs
    exact ⟨[], ⟨none, 0, rfl, Nat.zero_le _, .inl rfl⟩, by simp, by simp⟩
  · simp [Value.cells] at hcs
    obtain ⟨rfl, rfl, rfl⟩ := hcs
    simp only [if_true] at hz
    have hlen : (zs.take len).length = len := by simp; omega
    refine ⟨zs.take len, ⟨some x, cap, by simp; omega, by simp; omega, ?_⟩, fun z hzm => hwz z (List.mem_of_mem_take hzm), by rw [hlen]; omega⟩
    by_cases h0 : len = 0
    · left; subst h0; simp
    · right
      obtain ⟨b, off, sp⟩ := x
      have h1 := hcell 0 (by omega)
      have hsp : sp = none := by simpa [Addr.add] using World.cell?_spot h1
      subst hsp
      have hadd : ∀ i, (⟨b, off, none⟩ : Addr).add i = ⟨b, off + i, none⟩ := by intro i; unfold Addr.add; split <;> simp_all
      refine ⟨b, off, rfl, ?_, fun i hi => ?_⟩
      · rw [hadd] at h1; exact cell_block_lt h1
      · simp only [List.length_map] at hi
        rw [hlen] at hi
        have := hcell i (by omega)
        rw [hadd] at this
        rw [this]
        simp [List.getD, List.getElem?_eq_getElem (show i < zs.length by omega)]
theorem wf_byte {z : Int} (h : (Lit.int .u8 z).wf = true) : 0 ≤ z ∧ z < 256 := by
  simp [Lit.wf, IntKind.min, IntKind.max, IntKind.bits, IntKind.signed] at h
  omega
theorem bytes_of_ints (zs : List Int) (h : ∀ z ∈ zs, (Lit.int .u8 z).wf = true) : zs.map (Value.int .u8) = bytes (zs.map fun z => UInt8.ofNat z.toNat) := by
  unfold bytes
  rw [List.map_map]
  refine List.map_congr_left fun z hz => ?_
  have := wf_byte (h z hz)
  simp only [Function.comp, byte, UInt8.toNat_ofNat']
  congr 1
  omega
theorem open_bytes {r : Reach} {b0 : Nat} {t e : TypeId} {v : Value} {d : DataW H} {ps : List MemPlace} (ht : P.underlying t = some (.slice e)) (he : P.underlying e = some (.int .u8)) (hc : P.cellsOf e = 1)
    (hval : Value.okWide P w r b0 t v) (hd : DataW.Trod enc P w 0 (fun _ => true) true t v d ps) : ∃ l : List UInt8, Sl w v (bytes l) ∧ l.length ≤ maxLen := by
  obtain ⟨zs, hs, hw, hm⟩ := open_sl_ints ht he hc hval hd
  exact ⟨_, by rw [← bytes_of_ints zs hw]; exact hs, by simpa using hm⟩
theorem ints_of_cells {e : TypeId} {k : IntKind} (he : P.underlying e = some (.int k)) (hc : P.cellsOf e = 1) {cs : List Value} {m : Nat} {xs : List (DataW H × List MemPlace)} (hx : xs.length = cs.length)
    (h : ∀ i, i < cs.length → DataW.trod enc P w 0 (fun _ => true) true m e ((cs.drop (i * P.cellsOf e)).take (P.cellsOf e)) = xs[i]?) :
    ∃ zs : List Int, cs = zs.map (Value.int k) ∧ (∀ z ∈ zs, (Lit.int k z).wf = true) := by
  have each : ∀ c ∈ cs, ∃ z, c = .int k z ∧ (Lit.int k z).wf = true := by
    intro c hcm
    obtain ⟨i, hi, rfl⟩ := List.getElem_of_mem hcm
    have h1 := h i hi
    rw [hc, List.getElem?_eq_getElem (by omega)] at h1
    have e1 : (cs.drop (i * 1)).take 1 = [cs[i]] := by
      rw [Nat.mul_one, List.drop_eq_getElem_cons hi]; rfl
    rw [e1] at h1
    obtain ⟨n, hn, _, hw⟩ := DataW.trod_int he h1
    exact ⟨n, by simpa using hn, hw⟩
  clear h hx
  induction cs with
  | nil => exact ⟨[], rfl, by simp⟩
  | cons c cs ih =>
    obtain ⟨z, rfl, hz⟩ := each c (by simp)
    obtain ⟨zs, rfl, hzs⟩ := ih (fun c hc => each c (by simp [hc]))
    exact ⟨z :: zs, rfl, by simp; exact ⟨hz, hzs⟩⟩
/-- An array of n bytes, by value. -/
theorem open_byte_array {r : Reach} {b0 n : Nat} {t e : TypeId} {v : Value} {d : DataW H} {ps : List MemPlace} (ht : P.underlying t = some (.array n e)) (he : P.underlying e = some (.int .u8)) (hc : P.cellsOf e = 1) (hct : P.cellsOf t = n)
    (hval : Value.okWide P w r b0 t v) (hd : DataW.Trod enc P w 0 (fun _ => true) true t v d ps) : ∃ l : List UInt8, v = .agg (bytes l).toArray ∧ l.length = n := by
  simp only [Value.okWide, ht] at hval
  obtain ⟨cs, rfl, hsz, _⟩ := hval
  obtain ⟨fuel, hf⟩ := hd
  obtain ⟨xs, m, _, _, hl, hx, hall⟩ := DataW.trod_array ht hf
  simp only [Value.cells] at hl hall
  rw [hct] at hl
  obtain ⟨zs, hz, hw⟩ := ints_of_cells (cs := cs.toList) he hc (by rw [hx, hl]) (by rw [hl]; exact hall)
  refine ⟨zs.map fun z => UInt8.ofNat z.toNat, ?_, ?_⟩
  · rw [← bytes_of_ints zs hw, ← hz]
  · have := congrArg List.length hz
    simp at this ⊢
    omega
theorem open_nat {r : Reach} {b0 : Nat} {t : TypeId} {k : IntKind} {v : Value} {d : DataW H} {ps : List MemPlace} (hk : k.signed = false) (ht : P.underlying t = some (.int k))
    (hval : Value.okWide P w r b0 t v) (hd : DataW.Trod enc P w 0 (fun _ => true) true t v d ps) : ∃ n : Nat, v = .int k (n : Int) ∧ n < 2 ^ k.bits := by
  obtain ⟨z, rfl, _, _, hw⟩ := open_int ht hval hd
  have : 0 ≤ z ∧ z < 2 ^ k.bits := by
    cases k <;> simp [IntKind.signed] at hk <;> simp [Lit.wf, IntKind.min, IntKind.max, IntKind.bits, IntKind.signed] at hw ⊢ <;> omega
  refine ⟨z.toNat, by rw [Int.toNat_of_nonneg this.1], ?_⟩
  have h2 := this.2
  have : ((2 ^ k.bits : Nat) : Int) = 2 ^ k.bits := by simp
  omega
end
end Go.Proofs.Ytiemgmbjhllmbaa
end
section
set_option linter.unusedVariables false
namespace Go.Proofs.Ytiemgmbjhllmbaa
open Go.RowKit
/-- The world has only grown. -/
def Gr (w w' : World) : Prop := Below w.heap.size w w'
theorem Gr.refl (w : World) : Gr w w := Below.refl _ _
theorem Gr.trans {a b c : World} (h : Gr a b) (k : Gr b c) : Gr a c := Below.trans h (Below.mono k h.size)
theorem Gr.drew {a b : World} (h : Gr a b) : Gr a b.drew := Below.drew h
theorem Gr.alloc {a b : World} (h : Gr a b) (o : Obj) : Gr a (b.alloc o) := Below.alloc h h.size o
theorem Gr.below {a b c : World} {B : Nat} (h : Below B a b) (hB : B ≤ b.heap.size) (k : Gr b c) : Below B a c := h.trans (Below.mono k hB)
abbrev Sp := Value → World → Prop
def MonoSp (V : Sp) : Prop := ∀ v w w', Gr w w' → V v w → V v w'
inductive Pl where
  | eq (c : Value)
  | ok (V : Sp)
def Pl.V : Pl → Sp
  | .eq c => fun v _ => v = c
  | .ok V => V
def Pl.mono : Pl → Prop
  | .eq _ => True
  | .ok V => MonoSp V
theorem Pl.mono_V {p : Pl} (h : p.mono) : MonoSp p.V := by
  cases p with
  | eq c => exact fun v w w' _ h => h
  | ok V => exact h
def resG (P : Program) (W : World) (V : Sp) : Result Next → Prop
  | .ok (.value v) W' => Gr W W' ∧ V v W'
  | .ok .skip W' => Gr W W' ∧ V undef W'
  | .ok (.enter f args) W' => Gr W W' ∧ Calls P f args W' fun e W'' => ∃ v, e = .returned v ∧ Gr W' W'' ∧ V v W''
  | _ => False
theorem resG_value (P : Program) (W W' : World) (V : Sp) (v : Value) : resG P W V (.ok (.value v) W') = (Gr W W' ∧ V v W') := rfl
theorem resG_skip (P : Program) (W W' : World) (V : Sp) : resG P W V (.ok .skip W') = (Gr W W' ∧ V undef W') := rfl
theorem resG_enter (P : Program) (W W' : World) (V : Sp) (f : FuncId) (args : Array Value) : resG P W V (.ok (.enter f args) W') = (Gr W W' ∧ Calls P f args W' fun e W'' => ∃ v, e = .returned v ∧ Gr W' W'' ∧ V v W'') := rfl
/-- One operation, in one world. -/
def opG (P : Program) (ops : Array Oper) (o : Oper) (a : Act) (W : World) (V : Sp) : Prop :=
  if Region.wanted o (yielded ops a.tmps) then resG P W V ((execOp a.eval o).run P W) else V undef W
def needs (o : Oper) (k : Nat) : Bool := o.after.toList.any fun e => Region.binds .any e && e.on == k
/-- The walk in the text's order. -/
def wpG (P : Program) (ops : Array Oper) (w : World) (Q : Exit → Act → World → Prop) : List Pl → List (Nat × (World → Prop)) → Nat → List Oper → Act → Prop
  | _, seen, _, [], a => ∀ W, Gr w W → (∀ p ∈ seen, p.2 W) → Q .normal a W
  | .eq c :: ps, seen, i, o :: rest, a =>
    (∀ W, Gr w W → (∀ p ∈ seen, needs o p.1 = true → p.2 W) → opG P ops o a W fun v _ => v = c) ∧ wpG P ops w Q ps seen (i + 1) rest (a.put o.dst c)
  | .ok V :: ps, seen, i, o :: rest, a =>
    (∀ W, Gr w W → (∀ p ∈ seen, needs o p.1 = true → p.2 W) → opG P ops o a W V) ∧ ∀ v, wpG P ops w Q ps ((i, V v) :: seen) (i + 1) rest (a.put o.dst v)
  | [], _, _, _ :: _, _ => False
section
variable {P : Program} {ops : Array Oper} {w : World} {Q : Exit → Act → World → Prop} {ps : List Pl} {seen : List (Nat × (World → Prop))} {i : Nat} {o : Oper} {rest : List Oper} {a : Act}
theorem wpG_eq (c : Value) (h : ∀ W, Gr w W → (∀ p ∈ seen, needs o p.1 = true → p.2 W) → opG P ops o a W fun v _ => v = c) (h2 : wpG P ops w Q ps seen (i + 1) rest (a.put o.dst c)) : wpG P ops w Q (.eq c :: ps) seen i (o :: rest) a := ⟨h, h2⟩
theorem wpG_ok (V : Sp) (h : ∀ W, Gr w W → (∀ p ∈ seen, needs o p.1 = true → p.2 W) → opG P ops o a W V) (h2 : ∀ v, wpG P ops w Q ps ((i, V v) :: seen) (i + 1) rest (a.put o.dst v)) : wpG P ops w Q (.ok V :: ps) seen i (o :: rest) a := ⟨h, h2⟩
theorem wpG_nil (h : ∀ W, Gr w W → (∀ p ∈ seen, p.2 W) → Q .normal a W) : wpG P ops w Q ps seen i [] a := by cases ps <;> exact h
end
/-! ### The closed checks -/
/-- Every edge leads back; what is not apart waits. -/
def chkG (ops : Array Oper) : Bool :=
  (ops.zipIdx.all fun (o, i) => o.after.all fun e => !Region.binds .any e || decide (e.on < i)) && Region.noSelect ops &&
  ((List.range ops.size).all fun j => match ops[j]? with
    | none => true
    | some oj => (List.range j).all fun i => match ops[i]? with
      | none => true
      | some oi => oi.apart ops oj || ((Region.before ops).getD j 0).testBit i)
section
variable {ops : Array Oper}
theorem chk_edge (h : chkG ops = true) {i : Nat} {o : Oper} (ho : ops[i]? = some o) {e : Edge} (he : e ∈ o.after) (hb : Region.binds .any e = true) : e.on < i := by
  simp only [chkG, Bool.and_eq_true] at h
  have h1 := h.1.1
  rw [Array.all_eq_true_iff_forall_mem] at h1
  have hm : (o, i) ∈ ops.zipIdx := by
    rw [Array.mem_zipIdx_iff_getElem?]; exact ho
  have h2 := h1 _ hm
  simp only [Array.all_eq_true_iff_forall_mem] at h2
  have h3 := h2 e he
  simpa [hb] using h3
theorem chk_sel (h : chkG ops = true) : Region.noSelect ops = true := by
  simp only [chkG, Bool.and_eq_true] at h
  exact h.1.2
theorem chk_apart (h : chkG ops = true) {i j : Nat} {oi oj : Oper} (hi : ops[i]? = some oi) (hj : ops[j]? = some oj) (hij : i < j) : oi.apart ops oj = true ∨ ((Region.before ops).getD j 0).testBit i = true := by
  simp only [chkG, Bool.and_eq_true] at h
  have h1 := h.2
  rw [List.all_eq_true] at h1
  have h2 := h1 j (List.mem_range.2 (Array.getElem?_eq_some_iff.1 hj).1)
  rw [hj] at h2
  simp only [List.all_eq_true] at h2
  have h3 := h2 i (List.mem_range.2 hij)
  rw [hi] at h3
  simpa using h3
end
/-! ### What stands before -/
def befStep (acc : Array Nat) (o : Oper) : Array Nat := acc.push (o.after.foldl (fun s e => if Region.binds .any e then s ||| 2 ^ e.on ||| acc.getD e.on 0 else s) 0)
theorem before_eq (ops : Array Oper) : Region.before ops = ops.toList.foldl befStep #[] := by
  unfold Region.before
  rw [← Array.foldl_toList]
  rfl
theorem foldl_bits (acc : Array Nat) (i : Nat) : ∀ (l : List Edge) (s : Nat), (l.foldl (fun s e => if Region.binds .any e then s ||| 2 ^ e.on ||| acc.getD e.on 0 else s) s).testBit i = true →
    s.testBit i = true ∨ ∃ e ∈ l, Region.binds .any e = true ∧ (e.on = i ∨ (acc.getD e.on 0).testBit i = true) := by
  intro l
  induction l with
  | nil => intro s h; exact .inl h
  | cons e l ih =>
    intro s h
    rw [List.foldl_cons] at h
    rcases ih _ h with h | ⟨e', he', hb, h'⟩
    · split at h
      · rename_i hb
        rw [Nat.testBit_or, Nat.testBit_or, Nat.testBit_two_pow] at h
        simp only [Bool.or_eq_true, decide_eq_true_eq] at h
        rcases h with (h | h) | h
        · exact .inl h
        · exact .inr ⟨e, by simp, hb, .inl h⟩
        · exact .inr ⟨e, by simp, hb, .inr h⟩
      · exact .inl h
    · exact .inr ⟨e', by simp [he'], hb, h'⟩
theorem befFold (l : List Oper) : ∀ (acc : Array Nat) (pre : List Oper), acc.size = pre.length →
    (∀ j i, (acc.getD j 0).testBit i = true → ∃ o, pre[j]? = some o ∧ ∃ e ∈ o.after, Region.binds .any e = true ∧ (e.on = i ∨ (e.on < j ∧ (acc.getD e.on 0).testBit i = true))) →
    ∀ j i, ((l.foldl befStep acc).getD j 0).testBit i = true → ∃ o, (pre ++ l)[j]? = some o ∧ ∃ e ∈ o.after, Region.binds .any e = true ∧ (e.on = i ∨ (e.on < j ∧ ((l.foldl befStep acc).getD e.on 0).testBit i = true)) := by
  induction l with
  | nil => intro acc pre hs h j i hb; simpa using h j i hb
  | cons o l ih =>
    intro acc pre hs h j i hb
    have hold : ∀ k, k < acc.size → (befStep acc o).getD k 0 = acc.getD k 0 := by
      intro k hk
      unfold befStep
      simp [Array.getElem?_push, Nat.ne_of_lt hk]
    have := ih (befStep acc o) (pre ++ [o]) (by simp [befStep, hs]) (by
      intro j i hb
      rcases Nat.lt_trichotomy j acc.size with hj | hj | hj
      · rw [hold j hj] at hb
        obtain ⟨o', ho', e, he, hbn, h'⟩ := h j i hb
        refine ⟨o', by rw [List.getElem?_append_left (by omega)]; exact ho', e, he, hbn, h'.imp id fun ⟨h1, h2⟩ => ⟨h1, ?_⟩⟩
        rw [hold _ (by omega)]; exact h2
      · subst hj
        have hv : (befStep acc o).getD acc.size 0 = o.after.foldl (fun s e => if Region.binds .any e then s ||| 2 ^ e.on ||| acc.getD e.on 0 else s) 0 := by simp [befStep]
        rw [hv, ← Array.foldl_toList] at hb
        rcases foldl_bits acc i _ _ hb with h0 | ⟨e, he, hbn, h'⟩
        · simp at h0
        · refine ⟨o, by rw [hs]; simp, e, by simpa using he, hbn, h'.imp id fun h2 => ?_⟩
          have hlt : e.on < acc.size := by
            rcases Nat.lt_or_ge e.on acc.size with h | h
            · exact h
            · simp [Array.getElem?_eq_none h] at h2
          exact ⟨hlt, by rw [hold _ hlt]; exact h2⟩
      · exfalso
        have : (befStep acc o).getD j 0 = 0 := by
          have hsz : (befStep acc o).size = acc.size + 1 := by simp [befStep]
          simp [Array.getElem?_eq_none (show (befStep acc o).size ≤ j by omega)]
        rw [this] at hb
        simp at hb) j i (by simpa using hb)
    simpa using this
theorem before_step (ops : Array Oper) {j i : Nat} (h : ((Region.before ops).getD j 0).testBit i = true) :
    ∃ o, ops[j]? = some o ∧ ∃ e ∈ o.after, Region.binds .any e = true ∧ (e.on = i ∨ (e.on < j ∧ ((Region.before ops).getD e.on 0).testBit i = true)) := by
  rw [before_eq] at h ⊢
  have := befFold ops.toList #[] [] rfl (by intro j i hb; simp at hb) j i h
  simpa using this
/-- A set of operations that holds, with each, what it waits for. -/
def Closed (ops : Array Oper) (L : Nat → Prop) : Prop := ∀ j o, L j → ops[j]? = some o → ∀ e ∈ o.after, Region.binds .any e = true → L e.on
theorem Closed.before {L : Nat → Prop} {ops : Array Oper} (hc : Closed ops L) : ∀ (n j i : Nat), j < n → L j → ((Region.before ops).getD j 0).testBit i = true → L i := by
  intro n
  induction n with
  | zero => intro j i h; omega
  | succ n ih =>
    intro j i hj hL hb
    obtain ⟨o, ho, e, he, hbn, h⟩ := before_step ops hb
    have hLe := hc j o hL ho e he hbn
    rcases h with rfl | ⟨hlt, hb'⟩
    · exact hLe
    · exact ih e.on i (by omega) hLe hb'
/-! ### The frame, put by put -/
def dstOf (ops : Array Oper) (k : Nat) : Option Tmp := (ops[k]?).bind (·.dst)
def tf (ops : Array Oper) (val : Nat → Value) (a : Act) (l : List Nat) : Act := l.foldl (fun a k => a.put (dstOf ops k) (val k)) a
structure Agr (look : List Tmp) (a b : Act) : Prop where
  size : a.tmps.size = b.tmps.size
  defers : a.defers = b.defers
  at_ : ∀ t ∈ look, a.tmps[t]? = b.tmps[t]?
theorem Agr.refl (look : List Tmp) (a : Act) : Agr look a a := ⟨rfl, rfl, fun _ _ => rfl⟩
theorem Agr.trans {look : List Tmp} {a b c : Act} (h : Agr look a b) (k : Agr look b c) : Agr look a c := ⟨h.size.trans k.size, h.defers.trans k.defers, fun t ht => (h.at_ t ht).trans (k.at_ t ht)⟩
theorem Agr.symm {look : List Tmp} {a b : Act} (h : Agr look a b) : Agr look b a := ⟨h.size.symm, h.defers.symm, fun t ht => (h.at_ t ht).symm⟩
theorem Agr.put {look : List Tmp} {a b : Act} (h : Agr look a b) (d : Option Tmp) (v : Value) : Agr look (a.put d v) (b.put d v) := by
  cases d with
  | none => exact h
  | some d =>
    refine ⟨by simp [Act.put, h.size], h.defers, fun t ht => ?_⟩
    simp only [Act.put]
    rw [Array.getElem?_setIfInBounds, Array.getElem?_setIfInBounds, h.size, h.at_ t ht]
theorem Agr.skip {look : List Tmp} {a b : Act} (h : Agr look a b) (d : Option Tmp) (v : Value) (hd : ∀ t, d = some t → t ∉ look) : Agr look (a.put d v) b := by
  cases d with
  | none => exact h
  | some d =>
    refine ⟨by simp [Act.put, h.size], h.defers, fun t ht => ?_⟩
    have hne : d ≠ t := fun e => hd d rfl (e ▸ ht)
    simp only [Act.put]
    rw [Array.getElem?_setIfInBounds_ne hne]
    exact h.at_ t ht
theorem agr_skips {ops : Array Oper} {val : Nat → Value} {look : List Tmp} (l : List Nat) : ∀ {a b : Act}, Agr look a b → (∀ k ∈ l, ∀ t, dstOf ops k = some t → t ∉ look) → Agr look (tf ops val a l) b := by
  induction l with
  | nil => intro a b h _; exact h
  | cons k l ih => intro a b h hd; exact ih (h.skip _ _ (hd k (by simp))) (fun j hj => hd j (by simp [hj]))
theorem agr_filter {ops : Array Oper} {val : Nat → Value} {look : List Tmp} (p : Nat → Bool) (l : List Nat) : ∀ {a b : Act}, Agr look a b → (∀ k ∈ l, p k = false → ∀ t, dstOf ops k = some t → t ∉ look) → Agr look (tf ops val a l) (tf ops val b (l.filter p)) := by
  induction l with
  | nil => intro a b h _; exact h
  | cons k l ih =>
    intro a b h hd
    cases hp : p k with
    | true => rw [List.filter_cons_of_pos hp]; exact ih (h.put _ _) (fun j hj => hd j (by simp [hj]))
    | false => rw [List.filter_cons_of_neg (by simp [hp])]; exact ih (h.skip _ _ (hd k (by simp) hp)) (fun j hj => hd j (by simp [hj]))
theorem tf_append (ops : Array Oper) (val : Nat → Value) (a : Act) (l m : List Nat) : tf ops val a (l ++ m) = tf ops val (tf ops val a l) m := by simp [tf]
theorem tf_congr {ops : Array Oper} {val val' : Nat → Value} (l : List Nat) : ∀ {a : Act}, (∀ k ∈ l, val k = val' k) → tf ops val a l = tf ops val' a l := by
  induction l with
  | nil => intro a _; rfl
  | cons k l ih => intro a h; simp only [tf, List.foldl_cons]; rw [h k (by simp)]; exact ih (fun j hj => h j (by simp [hj]))
theorem tf_put {ops : Array Oper} {val : Nat → Value} (d : Option Tmp) (v : Value) (l : List Nat) : ∀ {a : Act}, (∀ k ∈ l, ∀ t, d = some t → dstOf ops k ≠ some t) → (tf ops val a l).put d v = tf ops val (a.put d v) l := by
  induction l with
  | nil => intro a _; rfl
  | cons k l ih =>
    intro a h
    simp only [tf, List.foldl_cons]
    rw [Act.put_comm a v (val k) (h k (by simp))]
    exact ih (fun j hj => h j (by simp [hj]))
theorem Agr.exec {ops : Array Oper} {o : Oper} {a b : Act} (h : Agr (o.looksAt ops) a b) (hs : ∀ cs b, o.op ≠ .select cs b) : execOp a.eval o = execOp b.eval o := by
  refine execOp_congr o hs fun x hx => ?_
  cases x with
  | tmp t =>
    have ht : t ∈ o.looksAt ops := List.mem_append_left _ (List.mem_filterMap.2 ⟨.tmp t, by simpa using hx, rfl⟩)
    have := h.at_ t ht
    simp [Act.eval, Array.getD_eq_getD_getElem?, this]
  | const v => rfl
  | global g => rfl
  | func f => rfl
theorem Agr.wanted {ops : Array Oper} {o : Oper} {a b : Act} (h : Agr (o.looksAt ops) a b) : Region.wanted o (yielded ops a.tmps) = Region.wanted o (yielded ops b.tmps) := by
  unfold Region.wanted
  cases hg : o.guard with
  | none => rfl
  | some gw =>
    obtain ⟨g, want⟩ := gw
    have hy : yielded ops a.tmps g = yielded ops b.tmps g := by
      unfold yielded
      cases ht : (ops[g]?).bind (·.dst) with
      | none => rfl
      | some t => simp only [Option.bind_some]; rw [h.at_ t (by simp [Oper.looksAt, hg, ht])]
    simp only [hy]
/-! ### What the walk has shown -/
section
variable {P : Program} {ops : Array Oper} {w : World} {Q : Exit → Act → World → Prop}
def Obl (P : Program) (ops : Array Oper) (w : World) (a0 : Act) (ps : List Pl) (val : Nat → Value) (k : Nat) : Prop :=
  ∀ o p, ops[k]? = some o → ps[k]? = some p → ∀ W, Gr w W → (∀ j pj, j < k → ps[j]? = some pj → needs o j = true → pj.V (val j) W) → opG P ops o (tf ops val a0 (List.range k)) W p.V
def Fin (ops : Array Oper) (w : World) (Q : Exit → Act → World → Prop) (a0 : Act) (ps : List Pl) (val : Nat → Value) : Prop :=
  ∀ W, Gr w W → (∀ j pj, j < ops.size → ps[j]? = some pj → pj.V (val j) W) → Q .normal (tf ops val a0 (List.range ops.size)) W
def Holds (ps : List Pl) (val : Nat → Value) : Prop := ∀ k c, ps[k]? = some (.eq c) → val k = c
theorem wpG_obl (a0 : Act) (val : Nat → Value) (rest : List Oper) : ∀ (ps pre : List Pl) (seen : List (Nat × (World → Prop))) (i : Nat) (a : Act),
    wpG P ops w Q ps seen i rest a → pre.length = i → rest = ops.toList.drop i → i ≤ ops.size → a = tf ops val a0 (List.range i) → Holds (pre ++ ps) val →
    (∀ p ∈ seen, ∃ pj, (pre ++ ps)[p.1]? = some pj ∧ p.1 < i ∧ p.2 = pj.V (val p.1)) →
    (∀ k, i ≤ k → k < ops.size → Obl P ops w a0 (pre ++ ps) val k ∧ ∃ p, (pre ++ ps)[k]? = some p) ∧ Fin ops w Q a0 (pre ++ ps) val := by
  induction rest with
  | nil =>
    intro ps pre seen i a h hl hr hi ha hv hs
    have hn : i = ops.size := by
      have := congrArg List.length hr
      simp at this
      omega
    subst hn
    refine ⟨fun k h1 h2 => absurd h1 (by omega), fun W hW hall => ?_⟩
    rw [← ha]
    have hfin : ∀ W, Gr w W → (∀ p ∈ seen, p.2 W) → Q .normal a W := by cases ps with
      | nil => exact h
      | cons p ps => cases p <;> exact h
    refine hfin W hW fun p hp => ?_
    obtain ⟨pj, h1, h2, h3⟩ := hs p hp
    rw [h3]
    exact hall _ pj h2 h1
  | cons o rest ih =>
    intro ps pre seen i a h hl hr hi ha hv hs
    have hlt : i < ops.size := by
      rcases Nat.lt_or_ge i ops.size with h | h
      · exact h
      · rw [List.drop_eq_nil_of_le (by simpa using h)] at hr; cases hr
    have ho : ops[i]? = some o := by
      have h0 : (ops.toList.drop i)[0]? = some o := by rw [← hr]; rfl
      simpa using h0
    have hr' : rest = ops.toList.drop (i + 1) := by
      have := congrArg List.tail hr
      simpa using this
    cases ps with
    | nil => exact h.elim
    | cons p ps =>
      have hat : (pre ++ p :: ps)[i]? = some p := by rw [← hl]; simp
      have happ : pre ++ p :: ps = (pre ++ [p]) ++ ps := by simp
      have hdst : dstOf ops i = o.dst := by simp [dstOf, ho]
      -- the operation's own word
      have key : (∀ W, Gr w W → (∀ q ∈ seen, needs o q.1 = true → q.2 W) → opG P ops o a W p.V) → Obl P ops w a0 (pre ++ p :: ps) val i := by
        intro hk o' p' ho' hp' W hW hd
        rw [ho] at ho'; injection ho' with ho'; subst ho'
        rw [hat] at hp'; injection hp' with hp'; subst hp'
        rw [← ha]
        refine hk W hW fun q hq hn => ?_
        obtain ⟨pj, h1, h2, h3⟩ := hs q hq
        rw [h3]
        exact hd _ pj h2 h1 hn
      have step : ∀ (v : Value) (seen' : List (Nat × (World → Prop))), wpG P ops w Q ps seen' (i + 1) rest (a.put o.dst v) → val i = v →
          (∀ q ∈ seen', ∃ pj, (pre ++ p :: ps)[q.1]? = some pj ∧ q.1 < i + 1 ∧ q.2 = pj.V (val q.1)) →
          (∀ k, i + 1 ≤ k → k < ops.size → Obl P ops w a0 (pre ++ p :: ps) val k ∧ ∃ p', (pre ++ p :: ps)[k]? = some p') ∧ Fin ops w Q a0 (pre ++ p :: ps) val := by
        intro v seen' hw hvi hs'
        rw [happ] at hv hs' ⊢
        refine ih ps (pre ++ [p]) seen' (i + 1) (a.put o.dst v) hw (by simp [hl]) hr' hlt ?_ hv hs'
        rw [List.range_succ, tf_append, ← ha]
        simp [tf, hdst, hvi]
      cases p with
      | eq c =>
        obtain ⟨h1, h2⟩ := h
        obtain ⟨r1, r2⟩ := step c seen h2 (hv i c hat) fun q hq => by
          obtain ⟨pj, g1, g2, g3⟩ := hs q hq
          exact ⟨pj, g1, by omega, g3⟩
        refine ⟨fun k hk hks => ?_, r2⟩
        by_cases hki : k = i
        · subst hki; exact ⟨key h1, _, hat⟩
        · exact r1 k (by omega) hks
      | ok V =>
        obtain ⟨h1, h2⟩ := h
        obtain ⟨r1, r2⟩ := step (val i) _ (h2 (val i)) rfl fun q hq => by
          rcases List.mem_cons.1 hq with rfl | hq
          · exact ⟨_, hat, by simp, rfl⟩
          · obtain ⟨pj, g1, g2, g3⟩ := hs q hq
            exact ⟨pj, g1, by omega, g3⟩
        refine ⟨fun k hk hks => ?_, r2⟩
        by_cases hki : k = i
        · subst hki; exact ⟨key h1, _, hat⟩
        · exact r1 k (by omega) hks
end
/-! ### Any order -/
section
variable {P : Program} {ops : Array Oper} {w : World} {Q : Exit → Act → World → Prop}
theorem range_split (n i : Nat) (h : i < n) : List.range n = List.range i ++ i :: List.range' (i + 1) (n - (i + 1)) := by
  rw [List.range_eq_range', List.range_eq_range']
  have e : n = i + (1 + (n - (i + 1))) := by omega
  conv => lhs; rw [e]
  rw [← List.range'_append_1]
  simp [Nat.add_comm 1, List.range'_succ]
def isL (listed : Array Bool) (k : Nat) : Bool := listed.getD k false
theorem isL_set {listed : Array Bool} {i k : Nat} (hi : i < listed.size) : isL (listed.setIfInBounds i true) k = (isL listed k || decide (k = i)) := by
  unfold isL
  by_cases h : i = k
  · subst h; simp [hi]
  · rw [getD_set_ne false h]; simp [Ne.symm h]
theorem growAny (hc : chkG ops = true) (a0 : Act) (ps : List Pl) (hm : ∀ p ∈ ps, p.mono)
    (hob : ∀ val, Holds ps val → (∀ k, k < ops.size → Obl P ops w a0 ps val k ∧ ∃ p, ps[k]? = some p) ∧ Fin ops w Q a0 ps val) :
    ∀ (fuel : Nat) (listed : Array Bool) (a : Act) (W : World) (val : Nat → Value), listed.size = ops.size → Closed ops (fun k => isL listed k = true) →
      a = tf ops val a0 ((List.range ops.size).filter (isL listed)) → Gr w W → Holds ps val → (∀ k p, isL listed k = true → ps[k]? = some p → p.V (val k) W) →
      ((List.range ops.size).filter fun k => !isL listed k).length = fuel → wpAny P .any ops Q fuel listed a W := by
  -- where nothing is ready all is done
  have doneAll : ∀ (listed : Array Bool), listed.size = ops.size → Closed ops (fun k => isL listed k = true) → Region.ready .any ops listed = [] → ∀ k, k < ops.size → isL listed k = true := by
    intro listed hsz hcl hr
    have : ∀ n k, k < n → k < ops.size → isL listed k = true := by
      intro n
      induction n with
      | zero => intro k h; omega
      | succ n ih =>
        intro k hk hks
        cases hu : isL listed k with
        | true => rfl
        | false =>
          exfalso
          have hmem : k ∈ Region.ready .any ops listed := by
            rw [mem_ready]
            refine ⟨?_, ops[k], Array.getElem?_eq_getElem hks, fun e he hb => ?_⟩
            · unfold isL at hu; simp [hsz, hks] at hu ⊢; exact hu
            · have hlt := chk_edge hc (Array.getElem?_eq_getElem hks) he hb
              exact ih e.on (by omega) (by omega)
          rw [hr] at hmem
          cases hmem
    exact fun k hk => this (k + 1) k (by omega) hk
  have finish : ∀ (listed : Array Bool) (a : Act) (W : World) (val : Nat → Value), (∀ k, k < ops.size → isL listed k = true) →
      a = tf ops val a0 ((List.range ops.size).filter (isL listed)) → Gr w W → Holds ps val → (∀ k p, isL listed k = true → ps[k]? = some p → p.V (val k) W) → Q .normal a W := by
    intro listed a W val hall ha hW hv hV
    have hf : (List.range ops.size).filter (isL listed) = List.range ops.size := List.filter_eq_self.2 fun k hk => hall k (List.mem_range.1 hk)
    rw [ha, hf]
    exact (hob val hv).2 W hW fun j pj hj hp => hV j pj (hall j hj) hp
  intro fuel
  induction fuel with
  | zero =>
    intro listed a W val hsz hcl ha hW hv hV hfu
    have hall : ∀ k, k < ops.size → isL listed k = true := by
      intro k hk
      have h0 := List.eq_nil_of_length_eq_zero hfu
      cases hu : isL listed k with
      | true => rfl
      | false =>
        have : k ∈ (List.range ops.size).filter fun k => !isL listed k := List.mem_filter.2 ⟨List.mem_range.2 hk, by simp [hu]⟩
        rw [h0] at this
        cases this
    refine ⟨?_, finish listed a W val hall ha hW hv hV⟩
    cases hr : Region.ready .any ops listed with
    | nil => rfl
    | cons k l =>
      have hk : k ∈ Region.ready .any ops listed := by rw [hr]; simp
      rw [mem_ready] at hk
      obtain ⟨h1, o, ho, _⟩ := hk
      have hks : k < ops.size := (Array.getElem?_eq_some_iff.1 ho).1
      have h2 := hall k hks
      unfold isL at h2
      simp [hsz, hks] at h1 h2
      rw [h1] at h2
      cases h2
  | succ fuel ih =>
    intro listed a W val hsz hcl ha hW hv hV hfu
    refine ⟨fun hr => finish listed a W val (doneAll listed hsz hcl hr) ha hW hv hV, fun i hi => ?_⟩
    rw [mem_ready] at hi
    obtain ⟨hun, o, ho, hall⟩ := hi
    have his : i < ops.size := (Array.getElem?_eq_some_iff.1 ho).1
    have hui : isL listed i = false := by unfold isL; simp [hsz, his] at hun ⊢; exact hun
    have hdst : dstOf ops i = o.dst := by simp [dstOf, ho]
    obtain ⟨hobl, p, hp⟩ := (hob val hv).1 i his
    have hsel := Region.noSelect_spec (chk_sel hc) i o
    have hbef : ∀ j, ((Region.before ops).getD i 0).testBit j = true → isL listed j = true := by
      intro j hj
      obtain ⟨o', ho', e, he, hbn, h⟩ := before_step ops hj
      rw [ho] at ho'; injection ho' with ho'; subst ho'
      have hLe : isL listed e.on = true := hall e he hbn
      rcases h with rfl | ⟨hlt, hb'⟩
      · exact hLe
      · exact hcl.before (e.on + 1) e.on j (by omega) hLe hb'
    -- what is later and done does not touch this operation, nor what is earlier and not done
    have hlate : ∀ k, i < k → isL listed k = true → ∀ ok, ops[k]? = some ok → o.apart ops ok = true := by
      intro k hk hL ok hok
      rcases chk_apart hc ho hok hk with h | h
      · exact h
      · exfalso
        have := hcl.before (k + 1) k i (by omega) hL h
        rw [hui] at this
        cases this
    have hearly : ∀ k, k < i → isL listed k = false → ∀ ok, ops[k]? = some ok → ok.apart ops o = true := by
      intro k hk hL ok hok
      rcases chk_apart hc hok ho hk with h | h
      · exact h
      · exfalso
        have := hbef k h
        rw [hL] at this
        cases this
    have hsp := range_split ops.size i his
    have hfL : (List.range ops.size).filter (isL listed) = (List.range i).filter (isL listed) ++ (List.range' (i + 1) (ops.size - (i + 1))).filter (isL listed) := by
      rw [hsp, List.filter_append, List.filter_cons_of_neg (by simp [hui])]
    have hagr : Agr (o.looksAt ops) a (tf ops val a0 (List.range i)) := by
      rw [ha, hfL, tf_append]
      refine (agr_skips _ (Agr.refl _ _) ?_).trans (Agr.symm (agr_filter (isL listed) (List.range i) (Agr.refl _ _) ?_))
      · intro k hk t ht
        obtain ⟨hk1, hk2⟩ := List.mem_filter.1 hk
        have hik : i < k := by have := List.mem_range'_1.1 hk1; omega
        cases hok : ops[k]? with
        | none => simp [dstOf, hok] at ht
        | some ok =>
          have := (Oper.apart_spec (hlate k hik hk2 ok hok)).2.2
          exact this t (by simpa [dstOf, hok] using ht)
      · intro k hk hL t ht
        cases hok : ops[k]? with
        | none => simp [dstOf, hok] at ht
        | some ok =>
          have := (Oper.apart_spec (hearly k (List.mem_range.1 hk) hL ok hok)).1
          exact this t (by simpa [dstOf, hok] using ht)
    have hop : opG P ops o (tf ops val a0 (List.range i)) W p.V := hobl o p ho hp W hW fun j pj hj hpj hn => by
      refine hV j pj ?_ hpj
      unfold needs at hn
      obtain ⟨e, he, hb⟩ := List.any_eq_true.1 hn
      simp only [Bool.and_eq_true, beq_iff_eq] at hb
      rw [← hb.2]
      exact hall e (by simpa using he) hb.1
    -- what stands behind it
    have hnext : ∀ v W', Gr W W' → p.V v W' → wpAny P .any ops Q fuel (listed.setIfInBounds i true) (a.put o.dst v) W' := by
      intro v W' hg hpv
      let val' : Nat → Value := fun k => if k = i then v else val k
      have hisL : ∀ k, isL (listed.setIfInBounds i true) k = (isL listed k || decide (k = i)) := fun k => isL_set (by rw [hsz]; exact his)
      refine ih (listed.setIfInBounds i true) (a.put o.dst v) W' val' (by simp [hsz]) ?_ ?_ (hW.trans hg) ?_ ?_ ?_
      · intro j oj hj hoj e he hb
        show isL _ e.on = true
        rw [hisL]
        have hj' : isL (listed.setIfInBounds i true) j = true := hj
        rw [hisL] at hj'
        simp only [Bool.or_eq_true, decide_eq_true_eq] at hj' ⊢
        rcases hj' with h | rfl
        · exact .inl (hcl j oj h hoj e he hb)
        · rw [ho] at hoj; injection hoj with hoj; subst hoj
          exact .inl (hall e he hb)
      · have hfL' : (List.range ops.size).filter (isL (listed.setIfInBounds i true)) = (List.range i).filter (isL listed) ++ i :: (List.range' (i + 1) (ops.size - (i + 1))).filter (isL listed) := by
          rw [hsp, List.filter_append, List.filter_cons_of_pos (by rw [hisL]; simp)]
          congr 1
          · refine List.filter_congr fun k hk => ?_
            have := List.mem_range.1 hk
            rw [hisL]; simp; omega
          · congr 1
            refine List.filter_congr fun k hk => ?_
            have := List.mem_range'_1.1 hk
            rw [hisL]; simp; omega
        rw [hfL', tf_append]
        have e1 : ∀ (b : Act) (l : List Nat), tf ops val' b (i :: l) = tf ops val' (b.put o.dst v) l := by
          intro b l
          simp only [tf, List.foldl_cons, hdst]
          congr 2
          simp [val']
        rw [e1, ha, hfL, tf_append]
        rw [tf_put o.dst v _ (fun k hk t ht => ?_)]
        · rw [tf_congr (val := val) (val' := val') ((List.range i).filter (isL listed)) (fun k hk => ?_), tf_congr (val := val) (val' := val') ((List.range' (i + 1) (ops.size - (i + 1))).filter (isL listed)) (fun k hk => ?_)]
          · have := List.mem_range'_1.1 (List.mem_filter.1 hk).1
            simp [val']; omega
          · have := List.mem_range.1 (List.mem_filter.1 hk).1
            simp [val']; omega
        · obtain ⟨hk1, hk2⟩ := List.mem_filter.1 hk
          have hik : i < k := by have := List.mem_range'_1.1 hk1; omega
          cases hok : ops[k]? with
          | none => simp [dstOf, hok]
          | some ok =>
            have := (Oper.apart_spec (hlate k hik hk2 ok hok)).2.1 t ht
            simpa [dstOf, hok] using this
      · intro k c hk
        by_cases hki : k = i
        · subst hki
          rw [hk] at hp
          injection hp with hp
          subst hp
          have hpv' : v = c := hpv
          simp [val', hpv']
        · simp [val', hki]; exact hv k c hk
      · intro k pk hk hpk
        rw [hisL] at hk
        by_cases hki : k = i
        · subst hki
          rw [hpk] at hp
          injection hp with hp
          subst hp
          simpa [val'] using hpv
        · simp only [hki, decide_false, Bool.or_false] at hk
          have := hV k pk hk hpk
          simp only [val', hki, if_false]
          exact Pl.mono_V (hm pk (List.mem_of_getElem? hpk)) _ _ _ hg this
      · have hcount : ((List.range ops.size).filter fun k => !isL listed k).length = ((List.range ops.size).filter fun k => !isL (listed.setIfInBounds i true) k).length + 1 := by
          rw [hsp, List.filter_append, List.filter_append, List.filter_cons_of_pos (by simp [hui]), List.filter_cons_of_neg (by rw [hisL]; simp)]
          rw [List.filter_congr (l := List.range i) (q := fun k => !isL (listed.setIfInBounds i true) k) (fun k hk => by have := List.mem_range.1 hk; rw [hisL]; simp; omega),
            List.filter_congr (l := List.range' (i + 1) (ops.size - (i + 1))) (q := fun k => !isL (listed.setIfInBounds i true) k) (fun k hk => by have := List.mem_range'_1.1 hk; rw [hisL]; simp; omega)]
          simp [Nat.add_assoc]
        omega
    unfold wpOp
    simp only [ho]
    unfold opG at hop
    rw [hagr.wanted]
    split
    · rename_i hwt
      rw [if_pos hwt] at hop
      refine .inl ?_
      unfold Oper.wp
      rw [hagr.exec (fun cs b => hsel cs b ho)]
      generalize (execOp (tf ops val a0 (List.range i)).eval o).run P W = r at hop
      cases r with
      | halt x W' => cases hop
      | ok n W' =>
        cases n <;> first | exact hop.elim | skip
        case value v => exact hnext v W' hop.1 hop.2
        case skip => exact hnext undef W' hop.1 hop.2
        case enter f args =>
          refine hop.2.mono fun e W'' h => ?_
          obtain ⟨v, rfl, hg, hpv⟩ := h
          exact hnext v W'' (hop.1.trans hg) hpv
    · rename_i hwt
      rw [if_neg hwt] at hop
      exact hnext undef W (Gr.refl W) hop
end
/-- THE RULE: a region that draws its order, by its walk in the text's order. -/
theorem wp_region_grow {P : Program} {ops : List Oper} {id : Nat} {w : World} {Q : Exit → Act → World → Prop} {a : Act} (ps : List Pl)
    (hmix : P.follows .mixedOrders = true) (hc : chkG ops.toArray = true) (hm : ∀ p ∈ ps, p.mono) (h : wpG P ops.toArray w.drew Q ps [] 0 ops a) : (Code.region id ops.toArray true).wp P Q a w := by
  refine wp_region_any hmix ?_
  have hob : ∀ val, Holds ps val → (∀ k, k < ops.toArray.size → Obl P ops.toArray w.drew a ps val k ∧ ∃ p, ps[k]? = some p) ∧ Fin ops.toArray w.drew Q a ps val := by
    intro val hv
    have := wpG_obl a val ops ps [] [] 0 a h rfl rfl (Nat.zero_le _) rfl (by simpa using hv) (by simp)
    simpa using this
  have hf : (List.range ops.toArray.size).filter (isL (Array.replicate ops.toArray.size false)) = [] := by
    rw [List.filter_eq_nil_iff]
    intro k _
    simp [isL, Array.getElem?_replicate]
    split <;> simp
  exact growAny hc a ps hm hob _ _ a w.drew (fun k => match ps[k]? with | some (.eq c) => c | _ => undef) (by simp) (by intro j o hj; simp [isL, Array.getElem?_replicate] at hj; split at hj <;> simp at hj) (by rw [hf]; rfl) (Gr.refl _) (by intro k c hk; simp [hk]) (by intro k p hk; simp [isL, Array.getElem?_replicate] at hk; split at hk <;> simp at hk)
    (by
      have : (List.range ops.toArray.size).filter (fun k => !isL (Array.replicate ops.toArray.size false) k) = List.range ops.toArray.size := by
        rw [List.filter_eq_self]
        intro k _
        simp [isL, Array.getElem?_replicate]
        split <;> simp
      rw [this]; simp)
theorem resG_eq_mk (P : Program) (W : World) (c : Value) : resG P W (fun v _ => v = c) (.ok (.value c) W) := ⟨Gr.refl _, rfl⟩
theorem resG_mk {P : Program} {W W' : World} {V : Sp} {v : Value} (h : Gr W W') (hv : V v W') : resG P W V (.ok (.value v) W') := ⟨h, hv⟩
theorem resG_call {P : Program} {W : World} {V : Sp} {f : FuncId} {args : Array Value} (h : Calls P f args W fun e W'' => ∃ v, e = .returned v ∧ Gr W W'' ∧ V v W'') : resG P W V (.ok (.enter f args) W) := ⟨Gr.refl _, h⟩
def allMono : List Pl → Prop
  | [] => True
  | .eq _ :: r => allMono r
  | .ok V :: r => MonoSp V ∧ allMono r
theorem allMono_mem : ∀ (ps : List Pl), allMono ps → ∀ p ∈ ps, p.mono
  | [], _, p, hp => by cases hp
  | .eq c :: r, h, p, hp => by
    rcases List.mem_cons.1 hp with rfl | hp
    · trivial
    · exact allMono_mem r h p hp
  | .ok V :: r, h, p, hp => by
    rcases List.mem_cons.1 hp with rfl | hp
    · exact h.1
    · exact allMono_mem r h.2 p hp
/-- The rule, as it is used: 'apply wp_region_draw_grow [.eq _, .ok .., ..] (by kernel_rfl) (by kernel_rfl) ⟨.., trivial⟩'. -/
theorem wp_region_draw_grow {P : Program} {ops : List Oper} {id : Nat} {w : World} {Q : Exit → Act → World → Prop} {a : Act} (ps : List Pl)
    (hmix : P.follows .mixedOrders = true) (hc : chkG ops.toArray = true) (hm : allMono ps) (h : wpG P ops.toArray w.drew Q ps [] 0 ops a) : (Code.region id ops.toArray true).wp P Q a w :=
  wp_region_grow ps hmix hc (allMono_mem ps hm) h
end Go.Proofs.Ytiemgmbjhllmbaa
end
section
set_option linter.unusedVariables false
namespace Go.Proofs.Ytiemgmbjhllmbaa
open Go.RowKit
/-- Of what was there only blocks of ρ have turned. -/
structure Ch (ρ : Nat → Prop) (w w' : World) : Prop where
  os : w'.os = w.os
  tape : w'.tape = w.tape
  output : w'.output = w.output
  size : w.heap.size ≤ w'.heap.size
  block : ∀ k, k < w.heap.size → ¬ ρ k → w'.heap[k]? = w.heap[k]?
section
variable {ρ : Nat → Prop}
theorem Ch.refl (w : World) : Ch ρ w w := ⟨rfl, rfl, rfl, Nat.le_refl _, fun _ _ _ => rfl⟩
theorem Ch.trans {a b c : World} (h : Ch ρ a b) (k : Ch ρ b c) : Ch ρ a c :=
  ⟨k.os.trans h.os, k.tape.trans h.tape, k.output.trans h.output, Nat.le_trans h.size k.size, fun i hi hn => (k.block i (Nat.lt_of_lt_of_le hi h.size) hn).trans (h.block i hi hn)⟩
theorem Ch.of_gr {a b : World} (h : Gr a b) : Ch ρ a b := ⟨h.os, h.tape, h.output, h.size, fun k hk _ => h.block k hk⟩
theorem Ch.of_grownBy {a b : World} {row : Option Nat} (h : a.grownBy b row) (hr : ∀ k, row = some k → ρ k) : Ch ρ a b :=
  ⟨h.os, h.tape, h.output, h.size, fun k hk hn => h.block k hk (fun e => hn (hr k e.symm))⟩
theorem Ch.grownBy {a b : World} {g : Nat} (h : Ch (fun k => k = g) a b) : a.grownBy b (some g) := ⟨h.os, h.tape, h.output, h.size, fun k hk hn => h.block k hk (fun e => hn (by rw [e]))⟩
theorem Ch.below {a b : World} {B : Nat} (h : Ch ρ a b) (hB : B ≤ a.heap.size) (hr : ∀ k, ρ k → B ≤ k) : Below B a b := ⟨h.os, h.tape, h.output, h.size, fun k hk => h.block k (by omega) (fun hk' => by have := hr k hk'; omega)⟩
theorem Ch.cell {a b : World} (h : Ch ρ a b) {p : Addr} (hp : p.block < a.heap.size) (hn : ¬ ρ p.block) : b.cell? p = a.cell? p := World.cell?_of_block (h.block p.block hp hn)
end
theorem Sl.ch {ρ : Nat → Prop} {w w' : World} {v : Value} {xs : List Value} (h : Sl w v xs) (hg : Ch ρ w w') (hne : ∀ k, v.ownBlock = some k → ¬ ρ k) : Sl w' v xs := by
  obtain ⟨a, cap, rfl, hcap, h⟩ := h
  refine ⟨a, cap, rfl, hcap, ?_⟩
  rcases h with h | ⟨b, off, rfl, hlt, h⟩
  · exact .inl h
  · refine .inr ⟨b, off, rfl, Nat.lt_of_lt_of_le hlt hg.size, fun k hk => ?_⟩
    rw [hg.cell (p := ⟨b, off + k, none⟩) hlt (hne b rfl)]
    exact h k hk
def MonoT (ρ : Nat → Prop) (V : Sp) : Prop := ∀ v w w', Ch ρ w w' → V v w → V v w'
/-- What is said ahead of an operation: does it use the object; its value, or a word on it. -/
inductive Pt where
  | eq (c : Value)
  | ok (V : Sp)
  | useEq (c : Value)
  | use (V : Sp)
def Pt.V : Pt → Sp
  | .eq c => fun v _ => v = c
  | .useEq c => fun v _ => v = c
  | .ok V => V
  | .use V => V
def Pt.uses : Pt → Bool
  | .eq _ => false
  | .ok _ => false
  | .useEq _ => true
  | .use _ => true
def Pt.mono (ρ : Nat → Prop) : Pt → Prop
  | .eq _ => True
  | .useEq _ => True
  | .ok V => MonoT ρ V
  | .use V => MonoT ρ V
theorem Pt.mono_V {ρ : Nat → Prop} {p : Pt} (h : p.mono ρ) : MonoT ρ p.V := by
  cases p with
  | eq c => exact fun v w w' _ h => h
  | useEq c => exact fun v w w' _ h => h
  | ok V => exact h
  | use V => exact h
def resT (P : Program) (R : World → World → Prop) (W : World) (V : Sp) : Result Next → Prop
  | .ok (.value v) W' => R W W' ∧ V v W'
  | .ok .skip W' => R W W' ∧ V undef W'
  | .ok (.enter f args) W' => Gr W W' ∧ Calls P f args W' fun e W'' => ∃ v, e = .returned v ∧ R W W'' ∧ V v W''
  | _ => False
def opT (P : Program) (R : World → World → Prop) (ops : Array Oper) (o : Oper) (a : Act) (W : World) (V : Sp) : Prop :=
  if Region.wanted o (yielded ops a.tmps) then resT P R W V ((execOp a.eval o).run P W) else R W W ∧ V undef W
/-- Behind a user the state is one further. -/
def usedR (ρ : Nat → Prop) (S : Nat → World → Prop) (k : Nat) (W W' : World) : Prop := Ch ρ W W' ∧ S (k + 1) W'
def wpT (P : Program) (ρ : Nat → Prop) (S : Nat → World → Prop) (ops : Array Oper) (w : World) (Q : Exit → Act → World → Prop) : List Pt → List (Nat × (World → Prop)) → Nat → Nat → List Oper → Act → Prop
  | _, seen, _, k, [], a => ∀ W, Ch ρ w W → S k W → (∀ p ∈ seen, p.2 W) → Q .normal a W
  | .eq c :: ps, seen, i, k, o :: rest, a =>
    (∀ W, Ch ρ w W → (∀ p ∈ seen, needs o p.1 = true → p.2 W) → opT P Gr ops o a W fun v _ => v = c) ∧ wpT P ρ S ops w Q ps seen (i + 1) k rest (a.put o.dst c)
  | .ok V :: ps, seen, i, k, o :: rest, a =>
    (∀ W, Ch ρ w W → (∀ p ∈ seen, needs o p.1 = true → p.2 W) → opT P Gr ops o a W V) ∧ ∀ v, wpT P ρ S ops w Q ps ((i, V v) :: seen) (i + 1) k rest (a.put o.dst v)
  | .useEq c :: ps, seen, i, k, o :: rest, a =>
    (∀ W, Ch ρ w W → S k W → (∀ p ∈ seen, needs o p.1 = true → p.2 W) → opT P (usedR ρ S k) ops o a W fun v _ => v = c) ∧ wpT P ρ S ops w Q ps seen (i + 1) (k + 1) rest (a.put o.dst c)
  | .use V :: ps, seen, i, k, o :: rest, a =>
    (∀ W, Ch ρ w W → S k W → (∀ p ∈ seen, needs o p.1 = true → p.2 W) → opT P (usedR ρ S k) ops o a W V) ∧ ∀ v, wpT P ρ S ops w Q ps ((i, V v) :: seen) (i + 1) (k + 1) rest (a.put o.dst v)
  | [], _, _, _, _ :: _, _ => False
section
variable {P : Program} {ρ : Nat → Prop} {S : Nat → World → Prop} {ops : Array Oper} {w : World} {Q : Exit → Act → World → Prop} {ps : List Pt} {seen : List (Nat × (World → Prop))} {i k : Nat} {o : Oper} {rest : List Oper} {a : Act}
theorem wpT_eq (c : Value) (h : ∀ W, Ch ρ w W → (∀ p ∈ seen, needs o p.1 = true → p.2 W) → opT P Gr ops o a W fun v _ => v = c) (h2 : wpT P ρ S ops w Q ps seen (i + 1) k rest (a.put o.dst c)) : wpT P ρ S ops w Q (.eq c :: ps) seen i k (o :: rest) a := ⟨h, h2⟩
theorem wpT_ok (V : Sp) (h : ∀ W, Ch ρ w W → (∀ p ∈ seen, needs o p.1 = true → p.2 W) → opT P Gr ops o a W V) (h2 : ∀ v, wpT P ρ S ops w Q ps ((i, V v) :: seen) (i + 1) k rest (a.put o.dst v)) : wpT P ρ S ops w Q (.ok V :: ps) seen i k (o :: rest) a := ⟨h, h2⟩
theorem wpT_useEq (c : Value) (h : ∀ W, Ch ρ w W → S k W → (∀ p ∈ seen, needs o p.1 = true → p.2 W) → opT P (usedR ρ S k) ops o a W fun v _ => v = c) (h2 : wpT P ρ S ops w Q ps seen (i + 1) (k + 1) rest (a.put o.dst c)) : wpT P ρ S ops w Q (.useEq c :: ps) seen i k (o :: rest) a := ⟨h, h2⟩
theorem wpT_use (V : Sp) (h : ∀ W, Ch ρ w W → S k W → (∀ p ∈ seen, needs o p.1 = true → p.2 W) → opT P (usedR ρ S k) ops o a W V) (h2 : ∀ v, wpT P ρ S ops w Q ps ((i, V v) :: seen) (i + 1) (k + 1) rest (a.put o.dst v)) : wpT P ρ S ops w Q (.use V :: ps) seen i k (o :: rest) a := ⟨h, h2⟩
theorem wpT_nil (h : ∀ W, Ch ρ w W → S k W → (∀ p ∈ seen, p.2 W) → Q .normal a W) : wpT P ρ S ops w Q ps seen i k [] a := by cases ps <;> exact h
end
/-- How many of the first users there are. -/
def rank (ps : List Pt) (i : Nat) : Nat := ((ps.take i).filter Pt.uses).length
theorem rank_succ (ps : List Pt) (i : Nat) (p : Pt) (h : ps[i]? = some p) : rank ps (i + 1) = rank ps i + (if p.uses then 1 else 0) := by
  obtain ⟨hlt, he⟩ := List.getElem?_eq_some_iff.1 h
  unfold rank
  rw [List.take_succ_eq_append_getElem hlt, he, List.filter_append, List.length_append]
  cases hu : p.uses <;> simp [hu]
/-- Users wait for one another. -/
def chkT (ops : Array Oper) (ps : List Pt) : Bool :=
  (List.range ops.size).all fun j => !((ps[j]?).map Pt.uses).getD false || (List.range j).all fun i => !((ps[i]?).map Pt.uses).getD false || ((Region.before ops).getD j 0).testBit i
theorem chkT_spec {ops : Array Oper} {ps : List Pt} (h : chkT ops ps = true) {i j : Nat} {pi pj : Pt} (hj : j < ops.size) (hij : i < j) (hi : ps[i]? = some pi) (hpj : ps[j]? = some pj) (ui : pi.uses = true) (uj : pj.uses = true) :
    ((Region.before ops).getD j 0).testBit i = true := by
  unfold chkT at h
  rw [List.all_eq_true] at h
  have h1 := h j (List.mem_range.2 hj)
  rw [hpj] at h1
  simp only [Option.map_some, Option.getD_some, uj, Bool.not_true, Bool.false_or, List.all_eq_true] at h1
  have h2 := h1 i (List.mem_range.2 hij)
  rw [hi] at h2
  simpa [ui] using h2
section
variable {P : Program} {ρ : Nat → Prop} {S : Nat → World → Prop} {ops : Array Oper} {w : World} {Q : Exit → Act → World → Prop}
def OblT (P : Program) (ρ : Nat → Prop) (S : Nat → World → Prop) (ops : Array Oper) (w : World) (a0 : Act) (ps : List Pt) (val : Nat → Value) (k : Nat) : Prop :=
  ∀ o p, ops[k]? = some o → ps[k]? = some p → ∀ W, Ch ρ w W → (p.uses = true → S (rank ps k) W) → (∀ j pj, j < k → ps[j]? = some pj → needs o j = true → pj.V (val j) W) →
    opT P (if p.uses then usedR ρ S (rank ps k) else Gr) ops o (tf ops val a0 (List.range k)) W p.V
def FinT (ρ : Nat → Prop) (S : Nat → World → Prop) (ops : Array Oper) (w : World) (Q : Exit → Act → World → Prop) (a0 : Act) (ps : List Pt) (val : Nat → Value) : Prop :=
  ∀ W, Ch ρ w W → S (rank ps ops.size) W → (∀ j pj, j < ops.size → ps[j]? = some pj → pj.V (val j) W) → Q .normal (tf ops val a0 (List.range ops.size)) W
def HoldsT (ps : List Pt) (val : Nat → Value) : Prop := ∀ k c, (ps[k]? = some (.eq c) ∨ ps[k]? = some (.useEq c)) → val k = c
theorem wpT_obl (a0 : Act) (val : Nat → Value) (rest : List Oper) : ∀ (ps pre : List Pt) (seen : List (Nat × (World → Prop))) (i k : Nat) (a : Act),
    wpT P ρ S ops w Q ps seen i k rest a → pre.length = i → k = rank (pre ++ ps) i → rest = ops.toList.drop i → i ≤ ops.size → a = tf ops val a0 (List.range i) → HoldsT (pre ++ ps) val →
    (∀ p ∈ seen, ∃ pj, (pre ++ ps)[p.1]? = some pj ∧ p.1 < i ∧ p.2 = pj.V (val p.1)) →
    (∀ k, i ≤ k → k < ops.size → OblT P ρ S ops w a0 (pre ++ ps) val k ∧ ∃ p, (pre ++ ps)[k]? = some p) ∧ FinT ρ S ops w Q a0 (pre ++ ps) val := by
  induction rest with
  | nil =>
    intro ps pre seen i k a h hl hk hr hi ha hv hs
    have hn : i = ops.size := by
      have := congrArg List.length hr
      simp at this
      omega
    subst hn
    refine ⟨fun k h1 h2 => absurd h1 (by omega), fun W hW hS hall => ?_⟩
    rw [← ha]
    have hfin : ∀ W, Ch ρ w W → S k W → (∀ p ∈ seen, p.2 W) → Q .normal a W := by cases ps with
      | nil => exact h
      | cons p ps => cases p <;> exact h
    refine hfin W hW (hk ▸ hS) fun p hp => ?_
    obtain ⟨pj, h1, h2, h3⟩ := hs p hp
    rw [h3]
    exact hall _ pj h2 h1
  | cons o rest ih =>
    intro ps pre seen i k a h hl hk hr hi ha hv hs
    have hlt : i < ops.size := by
      rcases Nat.lt_or_ge i ops.size with h | h
      · exact h
      · rw [List.drop_eq_nil_of_le (by simpa using h)] at hr; cases hr
    have ho : ops[i]? = some o := by
      have h0 : (ops.toList.drop i)[0]? = some o := by rw [← hr]; rfl
      simpa using h0
    have hr' : rest = ops.toList.drop (i + 1) := by
      have := congrArg List.tail hr
      simpa using this
    cases ps with
    | nil => exact h.elim
    | cons p ps =>
      have hat : (pre ++ p :: ps)[i]? = some p := by rw [← hl]; simp
      have happ : pre ++ p :: ps = (pre ++ [p]) ++ ps := by simp
      have hdst : dstOf ops i = o.dst := by simp [dstOf, ho]
      have key : (∀ W, Ch ρ w W → (p.uses = true → S k W) → (∀ q ∈ seen, needs o q.1 = true → q.2 W) → opT P (if p.uses then usedR ρ S k else Gr) ops o a W p.V) → OblT P ρ S ops w a0 (pre ++ p :: ps) val i := by
        intro hk' o' p' ho' hp' W hW hS hd
        rw [ho] at ho'; injection ho' with ho'; subst ho'
        rw [hat] at hp'; injection hp' with hp'; subst hp'
        rw [← ha, ← hk]
        refine hk' W hW (fun hu => hk ▸ hS hu) fun q hq hn => ?_
        obtain ⟨pj, h1, h2, h3⟩ := hs q hq
        rw [h3]
        exact hd _ pj h2 h1 hn
      have step : ∀ (v : Value) (k' : Nat) (seen' : List (Nat × (World → Prop))), wpT P ρ S ops w Q ps seen' (i + 1) k' rest (a.put o.dst v) → k' = k + (if p.uses then 1 else 0) → val i = v →
          (∀ q ∈ seen', ∃ pj, (pre ++ p :: ps)[q.1]? = some pj ∧ q.1 < i + 1 ∧ q.2 = pj.V (val q.1)) →
          (∀ k, i + 1 ≤ k → k < ops.size → OblT P ρ S ops w a0 (pre ++ p :: ps) val k ∧ ∃ p', (pre ++ p :: ps)[k]? = some p') ∧ FinT ρ S ops w Q a0 (pre ++ p :: ps) val := by
        intro v k' seen' hw hk' hvi hs'
        have hk2 : k' = rank (pre ++ p :: ps) (i + 1) := by rw [rank_succ _ _ _ hat, ← hk]; exact hk'
        rw [happ] at hv hs' hk2 ⊢
        refine ih ps (pre ++ [p]) seen' (i + 1) k' (a.put o.dst v) hw (by simp [hl]) hk2 hr' hlt ?_ hv hs'
        rw [List.range_succ, tf_append, ← ha]
        simp [tf, hdst, hvi]
      have old : ∀ q ∈ seen, ∃ pj, (pre ++ p :: ps)[q.1]? = some pj ∧ q.1 < i + 1 ∧ q.2 = pj.V (val q.1) := fun q hq => by
        obtain ⟨pj, g1, g2, g3⟩ := hs q hq
        exact ⟨pj, g1, by omega, g3⟩
      have oldc : ∀ q ∈ (i, p.V (val i)) :: seen, ∃ pj, (pre ++ p :: ps)[q.1]? = some pj ∧ q.1 < i + 1 ∧ q.2 = pj.V (val q.1) := fun q hq => by
        rcases List.mem_cons.1 hq with rfl | hq
        · exact ⟨_, hat, by simp, rfl⟩
        · exact old q hq
      have fin : OblT P ρ S ops w a0 (pre ++ p :: ps) val i → ((∀ k, i + 1 ≤ k → k < ops.size → OblT P ρ S ops w a0 (pre ++ p :: ps) val k ∧ ∃ p', (pre ++ p :: ps)[k]? = some p') ∧ FinT ρ S ops w Q a0 (pre ++ p :: ps) val) →
          (∀ k, i ≤ k → k < ops.size → OblT P ρ S ops w a0 (pre ++ p :: ps) val k ∧ ∃ p', (pre ++ p :: ps)[k]? = some p') ∧ FinT ρ S ops w Q a0 (pre ++ p :: ps) val := by
        rintro h1 ⟨r1, r2⟩
        refine ⟨fun k hk hks => ?_, r2⟩
        by_cases hki : k = i
        · subst hki; exact ⟨h1, _, hat⟩
        · exact r1 k (by omega) hks
      cases p with
      | eq c => exact fin (key fun W hW _ hd => h.1 W hW hd) (step c k seen h.2 rfl (hv i c (.inl hat)) old)
      | ok V => exact fin (key fun W hW _ hd => h.1 W hW hd) (step (val i) k _ (h.2 (val i)) rfl rfl oldc)
      | useEq c => exact fin (key fun W hW hS hd => h.1 W hW (hS rfl) hd) (step c (k + 1) seen h.2 rfl (hv i c (.inr hat)) old)
      | use V => exact fin (key fun W hW hS hd => h.1 W hW (hS rfl) hd) (step (val i) (k + 1) _ (h.2 (val i)) rfl rfl oldc)
/-- How many users are done. -/
def rankL (ops : Array Oper) (ps : List Pt) (L : Nat → Bool) : Nat := ((List.range ops.size).filter fun k => L k && ((ps[k]?).map Pt.uses).getD false).length
theorem rank_range (ps : List Pt) (i : Nat) : rank ps i = ((List.range i).filter fun k => ((ps[k]?).map Pt.uses).getD false).length := by
  induction i with
  | zero => simp [rank]
  | succ i ih =>
    rw [List.range_succ, List.filter_append, List.length_append, ← ih]
    cases hp : ps[i]? with
    | none =>
      have hle : ps.length ≤ i := by
        rcases Nat.lt_or_ge i ps.length with h | h
        · simp [List.getElem?_eq_getElem h] at hp
        · exact h
      unfold rank
      rw [List.take_of_length_le (by omega), List.take_of_length_le hle]
      simp [hp]
    | some p =>
      rw [rank_succ ps i p hp]
      cases hu : p.uses <;> simp [hp, hu]
theorem rankL_all (ops : Array Oper) (ps : List Pt) (L : Nat → Bool) (h : ∀ k, k < ops.size → L k = true) : rankL ops ps L = rank ps ops.size := by
  rw [rank_range]
  unfold rankL
  rw [List.filter_congr fun k hk => by rw [h k (List.mem_range.1 hk), Bool.true_and]]
theorem rankL_eq (ops : Array Oper) (ps : List Pt) (L : Nat → Bool) (i : Nat) (hi : i < ops.size) (h1 : ∀ j pj, j < i → ps[j]? = some pj → pj.uses = true → L j = true)
    (h2 : ∀ j pj, i ≤ j → j < ops.size → ps[j]? = some pj → pj.uses = true → L j = false) : rankL ops ps L = rank ps i := by
  have e : List.range ops.size = List.range i ++ List.range' i (ops.size - i) := by
    rw [List.range_eq_range', List.range_eq_range']
    have e : ops.size = i + (ops.size - i) := by omega
    conv => lhs; rw [e]
    rw [← List.range'_append_1]
    simp
  rw [rank_range]
  unfold rankL
  rw [e, List.filter_append, List.length_append]
  have z : ((List.range' i (ops.size - i)).filter fun k => L k && ((ps[k]?).map Pt.uses).getD false) = [] := by
    rw [List.filter_eq_nil_iff]
    intro k hk
    have hk' := List.mem_range'_1.1 hk
    cases hp : ps[k]? with
    | none => simp
    | some p =>
      cases hu : p.uses with
      | false => simp [hu]
      | true => simp [h2 k p hk'.1 (by omega) hp hu]
  rw [z, List.filter_congr (q := fun k => ((ps[k]?).map Pt.uses).getD false) (l := List.range i)]
  · simp
  · intro k hk
    have hk' := List.mem_range.1 hk
    cases hp : ps[k]? with
    | none => simp
    | some p =>
      cases hu : p.uses with
      | false => simp [hu]
      | true => simp [hu, h1 k p hk' hp hu]
theorem rankL_set (ops : Array Oper) (ps : List Pt) (L L' : Nat → Bool) (i : Nat) (p : Pt) (hi : i < ops.size) (hp : ps[i]? = some p) (hL : L i = false) (hL' : ∀ k, L' k = (L k || decide (k = i))) :
    rankL ops ps L' = rankL ops ps L + (if p.uses then 1 else 0) := by
  unfold rankL
  rw [range_split ops.size i hi, List.filter_append, List.filter_append, List.length_append, List.length_append]
  rw [List.filter_congr (l := List.range i) (q := fun k => L k && ((ps[k]?).map Pt.uses).getD false) (fun k hk => by have := List.mem_range.1 hk; rw [hL']; simp [show ¬ k = i by omega])]
  have e2 : ∀ (M : Nat → Bool), (List.filter (fun k => M k && ((ps[k]?).map Pt.uses).getD false) (i :: List.range' (i + 1) (ops.size - (i + 1)))).length = (if M i && p.uses then 1 else 0) + (List.filter (fun k => M k && ((ps[k]?).map Pt.uses).getD false) (List.range' (i + 1) (ops.size - (i + 1)))).length := by
    intro M
    rw [List.filter_cons]
    simp only [hp, Option.map_some, Option.getD_some]
    split <;> simp [Nat.add_comm]
  rw [e2, e2]
  rw [List.filter_congr (l := List.range' (i + 1) (ops.size - (i + 1))) (q := fun k => L k && ((ps[k]?).map Pt.uses).getD false) (fun k hk => by have := List.mem_range'_1.1 hk; rw [hL']; simp [show ¬ k = i by omega])]
  rw [hL, hL' i]
  simp only [hL, decide_true, Bool.or_true, Bool.true_and, Bool.false_and]
  simp
  omega
theorem turnAny (hc : chkG ops = true) (a0 : Act) (ps : List Pt) (hct : chkT ops ps = true) (hm : ∀ p ∈ ps, p.mono ρ) (hS0 : ∀ k W W', Gr W W' → S k W → S k W')
    (hob : ∀ val, HoldsT ps val → (∀ k, k < ops.size → OblT P ρ S ops w a0 ps val k ∧ ∃ p, ps[k]? = some p) ∧ FinT ρ S ops w Q a0 ps val) :
    ∀ (fuel : Nat) (listed : Array Bool) (a : Act) (W : World) (val : Nat → Value), listed.size = ops.size → Closed ops (fun k => isL listed k = true) →
      a = tf ops val a0 ((List.range ops.size).filter (isL listed)) → Ch ρ w W → S (rankL ops ps (isL listed)) W → HoldsT ps val → (∀ k p, isL listed k = true → ps[k]? = some p → p.V (val k) W) →
      ((List.range ops.size).filter fun k => !isL listed k).length = fuel → wpAny P .any ops Q fuel listed a W := by
  -- where nothing is ready all is done
  have doneAll : ∀ (listed : Array Bool), listed.size = ops.size → Closed ops (fun k => isL listed k = true) → Region.ready .any ops listed = [] → ∀ k, k < ops.size → isL listed k = true := by
    intro listed hsz hcl hr
    have : ∀ n k, k < n → k < ops.size → isL listed k = true := by
      intro n
      induction n with
      | zero => intro k h; omega
      | succ n ih =>
        intro k hk hks
        cases hu : isL listed k with
        | true => rfl
        | false =>
          exfalso
          have hmem : k ∈ Region.ready .any ops listed := by
            rw [mem_ready]
            refine ⟨?_, ops[k], Array.getElem?_eq_getElem hks, fun e he hb => ?_⟩
            · unfold isL at hu; simp [hsz, hks] at hu ⊢; exact hu
            · have hlt := chk_edge hc (Array.getElem?_eq_getElem hks) he hb
              exact ih e.on (by omega) (by omega)
          rw [hr] at hmem
          cases hmem
    exact fun k hk => this (k + 1) k (by omega) hk
  have finish : ∀ (listed : Array Bool) (a : Act) (W : World) (val : Nat → Value), (∀ k, k < ops.size → isL listed k = true) →
      a = tf ops val a0 ((List.range ops.size).filter (isL listed)) → Ch ρ w W → S (rankL ops ps (isL listed)) W → HoldsT ps val → (∀ k p, isL listed k = true → ps[k]? = some p → p.V (val k) W) → Q .normal a W := by
    intro listed a W val hall ha hW hS hv hV
    have hf : (List.range ops.size).filter (isL listed) = List.range ops.size := List.filter_eq_self.2 fun k hk => hall k (List.mem_range.1 hk)
    rw [ha, hf]
    refine (hob val hv).2 W hW ?_ fun j pj hj hp => hV j pj (hall j hj) hp
    rw [rankL_all ops ps (isL listed) hall] at hS
    exact hS
  intro fuel
  induction fuel with
  | zero =>
    intro listed a W val hsz hcl ha hW hS hv hV hfu
    have hall : ∀ k, k < ops.size → isL listed k = true := by
      intro k hk
      have h0 := List.eq_nil_of_length_eq_zero hfu
      cases hu : isL listed k with
      | true => rfl
      | false =>
        have : k ∈ (List.range ops.size).filter fun k => !isL listed k := List.mem_filter.2 ⟨List.mem_range.2 hk, by simp [hu]⟩
        rw [h0] at this
        cases this
    refine ⟨?_, finish listed a W val hall ha hW hS hv hV⟩
    cases hr : Region.ready .any ops listed with
    | nil => rfl
    | cons k l =>
      have hk : k ∈ Region.ready .any ops listed := by rw [hr]; simp
      rw [mem_ready] at hk
      obtain ⟨h1, o, ho, _⟩ := hk
      have hks : k < ops.size := (Array.getElem?_eq_some_iff.1 ho).1
      have h2 := hall k hks
      unfold isL at h2
      simp [hsz, hks] at h1 h2
      rw [h1] at h2
      cases h2
  | succ fuel ih =>
    intro listed a W val hsz hcl ha hW hS hv hV hfu
    refine ⟨fun hr => finish listed a W val (doneAll listed hsz hcl hr) ha hW hS hv hV, fun i hi => ?_⟩
    rw [mem_ready] at hi
    obtain ⟨hun, o, ho, hall⟩ := hi
    have his : i < ops.size := (Array.getElem?_eq_some_iff.1 ho).1
    have hui : isL listed i = false := by unfold isL; simp [hsz, his] at hun ⊢; exact hun
    have hdst : dstOf ops i = o.dst := by simp [dstOf, ho]
    obtain ⟨hobl, p, hp⟩ := (hob val hv).1 i his
    have hsel := Region.noSelect_spec (chk_sel hc) i o
    have hbef : ∀ j, ((Region.before ops).getD i 0).testBit j = true → isL listed j = true := by
      intro j hj
      obtain ⟨o', ho', e, he, hbn, h⟩ := before_step ops hj
      rw [ho] at ho'; injection ho' with ho'; subst ho'
      have hLe : isL listed e.on = true := hall e he hbn
      rcases h with rfl | ⟨hlt, hb'⟩
      · exact hLe
      · exact hcl.before (e.on + 1) e.on j (by omega) hLe hb'
    -- what is later and done does not touch this operation, nor what is earlier and not done
    have hlate : ∀ k, i < k → isL listed k = true → ∀ ok, ops[k]? = some ok → o.apart ops ok = true := by
      intro k hk hL ok hok
      rcases chk_apart hc ho hok hk with h | h
      · exact h
      · exfalso
        have := hcl.before (k + 1) k i (by omega) hL h
        rw [hui] at this
        cases this
    have hearly : ∀ k, k < i → isL listed k = false → ∀ ok, ops[k]? = some ok → ok.apart ops o = true := by
      intro k hk hL ok hok
      rcases chk_apart hc hok ho hk with h | h
      · exact h
      · exfalso
        have := hbef k h
        rw [hL] at this
        cases this
    have hsp := range_split ops.size i his
    have hfL : (List.range ops.size).filter (isL listed) = (List.range i).filter (isL listed) ++ (List.range' (i + 1) (ops.size - (i + 1))).filter (isL listed) := by
      rw [hsp, List.filter_append, List.filter_cons_of_neg (by simp [hui])]
    have hagr : Agr (o.looksAt ops) a (tf ops val a0 (List.range i)) := by
      rw [ha, hfL, tf_append]
      refine (agr_skips _ (Agr.refl _ _) ?_).trans (Agr.symm (agr_filter (isL listed) (List.range i) (Agr.refl _ _) ?_))
      · intro k hk t ht
        obtain ⟨hk1, hk2⟩ := List.mem_filter.1 hk
        have hik : i < k := by have := List.mem_range'_1.1 hk1; omega
        cases hok : ops[k]? with
        | none => simp [dstOf, hok] at ht
        | some ok =>
          have := (Oper.apart_spec (hlate k hik hk2 ok hok)).2.2
          exact this t (by simpa [dstOf, hok] using ht)
      · intro k hk hL t ht
        cases hok : ops[k]? with
        | none => simp [dstOf, hok] at ht
        | some ok =>
          have := (Oper.apart_spec (hearly k (List.mem_range.1 hk) hL ok hok)).1
          exact this t (by simpa [dstOf, hok] using ht)
    -- where this operation uses the object, just the earlier users are done
    have hrk : p.uses = true → rankL ops ps (isL listed) = rank ps i := by
      intro hu
      refine rankL_eq ops ps (isL listed) i his (fun j pj hj hpj huj => ?_) (fun j pj hj hjs hpj huj => ?_)
      · exact hbef j (chkT_spec hct his hj hpj hp huj hu)
      · by_cases hji : j = i
        · rw [hji]; exact hui
        · cases hL : isL listed j with
          | false => rfl
          | true =>
            have := hcl.before (j + 1) j i (by omega) hL (chkT_spec hct hjs (by omega) hp hpj hu huj)
            rw [hui] at this
            cases this
    have hop : opT P (if p.uses then usedR ρ S (rank ps i) else Gr) ops o (tf ops val a0 (List.range i)) W p.V := hobl o p ho hp W hW (fun hu => hrk hu ▸ hS) fun j pj hj hpj hn => by
      refine hV j pj ?_ hpj
      unfold needs at hn
      obtain ⟨e, he, hb⟩ := List.any_eq_true.1 hn
      simp only [Bool.and_eq_true, beq_iff_eq] at hb
      rw [← hb.2]
      exact hall e (by simpa using he) hb.1
    -- what stands behind it
    have hnext : ∀ v W', (if p.uses then usedR ρ S (rank ps i) else Gr) W W' → p.V v W' → wpAny P .any ops Q fuel (listed.setIfInBounds i true) (a.put o.dst v) W' := by
      intro v W' hg0 hpv
      have hg : Ch ρ W W' := by
        cases hu : p.uses with
        | true => rw [if_pos hu] at hg0; exact hg0.1
        | false => rw [if_neg (by simp [hu])] at hg0; exact Ch.of_gr hg0
      let val' : Nat → Value := fun k => if k = i then v else val k
      have hisL : ∀ k, isL (listed.setIfInBounds i true) k = (isL listed k || decide (k = i)) := fun k => isL_set (by rw [hsz]; exact his)
      refine ih (listed.setIfInBounds i true) (a.put o.dst v) W' val' (by simp [hsz]) ?_ ?_ (hW.trans hg) ?_ ?_ ?_ ?_
      · intro j oj hj hoj e he hb
        show isL _ e.on = true
        rw [hisL]
        have hj' : isL (listed.setIfInBounds i true) j = true := hj
        rw [hisL] at hj'
        simp only [Bool.or_eq_true, decide_eq_true_eq] at hj' ⊢
        rcases hj' with h | rfl
        · exact .inl (hcl j oj h hoj e he hb)
        · rw [ho] at hoj; injection hoj with hoj; subst hoj
          exact .inl (hall e he hb)
      · have hfL' : (List.range ops.size).filter (isL (listed.setIfInBounds i true)) = (List.range i).filter (isL listed) ++ i :: (List.range' (i + 1) (ops.size - (i + 1))).filter (isL listed) := by
          rw [hsp, List.filter_append, List.filter_cons_of_pos (by rw [hisL]; simp)]
          congr 1
          · refine List.filter_congr fun k hk => ?_
            have := List.mem_range.1 hk
            rw [hisL]; simp; omega
          · congr 1
            refine List.filter_congr fun k hk => ?_
            have := List.mem_range'_1.1 hk
            rw [hisL]; simp; omega
        rw [hfL', tf_append]
        have e1 : ∀ (b : Act) (l : List Nat), tf ops val' b (i :: l) = tf ops val' (b.put o.dst v) l := by
          intro b l
          simp only [tf, List.foldl_cons, hdst]
          congr 2
          simp [val']
        rw [e1, ha, hfL, tf_append]
        rw [tf_put o.dst v _ (fun k hk t ht => ?_)]
        · rw [tf_congr (val := val) (val' := val') ((List.range i).filter (isL listed)) (fun k hk => ?_), tf_congr (val := val) (val' := val') ((List.range' (i + 1) (ops.size - (i + 1))).filter (isL listed)) (fun k hk => ?_)]
          · have := List.mem_range'_1.1 (List.mem_filter.1 hk).1
            simp [val']; omega
          · have := List.mem_range.1 (List.mem_filter.1 hk).1
            simp [val']; omega
        · obtain ⟨hk1, hk2⟩ := List.mem_filter.1 hk
          have hik : i < k := by have := List.mem_range'_1.1 hk1; omega
          cases hok : ops[k]? with
          | none => simp [dstOf, hok]
          | some ok =>
            have := (Oper.apart_spec (hlate k hik hk2 ok hok)).2.1 t ht
            simpa [dstOf, hok] using this
      · rw [rankL_set ops ps (isL listed) (isL (listed.setIfInBounds i true)) i p his hp hui hisL]
        cases hu : p.uses with
        | true => rw [if_pos hu] at hg0; rw [hrk hu]; exact hg0.2
        | false => rw [if_neg (by simp [hu])] at hg0; exact hS0 _ _ _ hg0 hS
      · intro k c hk
        by_cases hki : k = i
        · subst hki
          have hpc : p = .eq c ∨ p = .useEq c := by
            rcases hk with hk | hk <;> rw [hk] at hp <;> injection hp with hp
            · exact .inl hp.symm
            · exact .inr hp.symm
          have hpv' : v = c := by rcases hpc with rfl | rfl <;> exact hpv
          simp [val', hpv']
        · simp [val', hki]; exact hv k c hk
      · intro k pk hk hpk
        rw [hisL] at hk
        by_cases hki : k = i
        · subst hki
          rw [hpk] at hp
          injection hp with hp
          subst hp
          simpa [val'] using hpv
        · simp only [hki, decide_false, Bool.or_false] at hk
          have := hV k pk hk hpk
          simp only [val', hki, if_false]
          exact Pt.mono_V (hm pk (List.mem_of_getElem? hpk)) _ _ _ hg this
      · have hcount : ((List.range ops.size).filter fun k => !isL listed k).length = ((List.range ops.size).filter fun k => !isL (listed.setIfInBounds i true) k).length + 1 := by
          rw [hsp, List.filter_append, List.filter_append, List.filter_cons_of_pos (by simp [hui]), List.filter_cons_of_neg (by rw [hisL]; simp)]
          rw [List.filter_congr (l := List.range i) (q := fun k => !isL (listed.setIfInBounds i true) k) (fun k hk => by have := List.mem_range.1 hk; rw [hisL]; simp; omega),
            List.filter_congr (l := List.range' (i + 1) (ops.size - (i + 1))) (q := fun k => !isL (listed.setIfInBounds i true) k) (fun k hk => by have := List.mem_range'_1.1 hk; rw [hisL]; simp; omega)]
          simp [Nat.add_assoc]
        omega
    unfold wpOp
    simp only [ho]
    unfold opT at hop
    rw [hagr.wanted]
    split
    · rename_i hwt
      rw [if_pos hwt] at hop
      refine .inl ?_
      unfold Oper.wp
      rw [hagr.exec (fun cs b => hsel cs b ho)]
      generalize (execOp (tf ops val a0 (List.range i)).eval o).run P W = r at hop
      cases r with
      | halt x W' => cases hop
      | ok n W' =>
        cases n <;> first | exact hop.elim | skip
        case value v => exact hnext v W' hop.1 hop.2
        case skip => exact hnext undef W' hop.1 hop.2
        case enter f args =>
          refine hop.2.mono fun e W'' h => ?_
          obtain ⟨v, rfl, hg, hpv⟩ := h
          exact hnext v W'' hg hpv
    · rename_i hwt
      rw [if_neg hwt] at hop
      exact hnext undef W hop.1 hop.2
end
def allMonoT (ρ : Nat → Prop) : List Pt → Prop
  | [] => True
  | .eq _ :: r => allMonoT ρ r
  | .useEq _ :: r => allMonoT ρ r
  | .ok V :: r => MonoT ρ V ∧ allMonoT ρ r
  | .use V :: r => MonoT ρ V ∧ allMonoT ρ r
theorem allMonoT_mem {ρ : Nat → Prop} : ∀ (ps : List Pt), allMonoT ρ ps → ∀ p ∈ ps, p.mono ρ
  | [], _, p, hp => by cases hp
  | .eq c :: r, h, p, hp => by
    rcases List.mem_cons.1 hp with rfl | hp
    · trivial
    · exact allMonoT_mem r h p hp
  | .useEq c :: r, h, p, hp => by
    rcases List.mem_cons.1 hp with rfl | hp
    · trivial
    · exact allMonoT_mem r h p hp
  | .ok V :: r, h, p, hp => by
    rcases List.mem_cons.1 hp with rfl | hp
    · exact h.1
    · exact allMonoT_mem r h.2 p hp
  | .use V :: r, h, p, hp => by
    rcases List.mem_cons.1 hp with rfl | hp
    · exact h.1
    · exact allMonoT_mem r h.2 p hp
/-- THE RULE, with a state. -/
theorem wp_region_draw_turn {P : Program} {ops : List Oper} {id : Nat} {w : World} {Q : Exit → Act → World → Prop} {a : Act} (ρ : Nat → Prop) (S : Nat → World → Prop) (ps : List Pt)
    (hmix : P.follows .mixedOrders = true) (hc : chkG ops.toArray = true) (hct : chkT ops.toArray ps = true) (hm : allMonoT ρ ps) (hS0 : ∀ k W W', Gr W W' → S k W → S k W') (hS : S 0 w.drew)
    (h : wpT P ρ S ops.toArray w.drew Q ps [] 0 0 ops a) : (Code.region id ops.toArray true).wp P Q a w := by
  refine wp_region_any hmix ?_
  have hob : ∀ val, HoldsT ps val → (∀ k, k < ops.toArray.size → OblT P ρ S ops.toArray w.drew a ps val k ∧ ∃ p, ps[k]? = some p) ∧ FinT ρ S ops.toArray w.drew Q a ps val := by
    intro val hv
    have := wpT_obl a val ops ps [] [] 0 0 a h rfl rfl rfl (Nat.zero_le _) rfl (by simpa using hv) (by simp)
    simpa using this
  have hno : ∀ k, isL (Array.replicate ops.toArray.size false) k = false := by
    intro k
    simp [isL, Array.getElem?_replicate]
    split <;> simp
  have hf : (List.range ops.toArray.size).filter (isL (Array.replicate ops.toArray.size false)) = [] := by
    rw [List.filter_eq_nil_iff]
    intro k _ h
    rw [hno k] at h
    cases h
  have hr0 : rankL ops.toArray ps (isL (Array.replicate ops.toArray.size false)) = 0 := by
    unfold rankL
    rw [List.length_eq_zero_iff, List.filter_eq_nil_iff]
    intro k _ h
    rw [hno k] at h
    cases h
  exact turnAny hc a ps hct (allMonoT_mem ps hm) hS0 hob _ _ a w.drew (fun k => match ps[k]? with | some (.eq c) => c | some (.useEq c) => c | _ => undef) (by simp) (by intro j o hj; have h1 : isL (Array.replicate ops.toArray.size false) j = true := hj; rw [hno j] at h1; cases h1) (by rw [hf]; rfl) (Ch.refl _) (by rw [hr0]; exact hS) (by intro k c hk; rcases hk with hk | hk <;> simp [hk]) (by intro k p hk; rw [hno k] at hk; cases hk)
    (by
      have : (List.range ops.toArray.size).filter (fun k => !isL (Array.replicate ops.toArray.size false) k) = List.range ops.toArray.size := by
        rw [List.filter_eq_self]
        intro k _
        rw [hno k]; rfl
      rw [this]; simp)
theorem resT_eq_mk (P : Program) (W : World) (c : Value) : resT P Gr W (fun v _ => v = c) (.ok (.value c) W) := ⟨Gr.refl _, rfl⟩
theorem resT_mk {P : Program} {R : World → World → Prop} {W W' : World} {V : Sp} {v : Value} (h : R W W') (hv : V v W') : resT P R W V (.ok (.value v) W') := ⟨h, hv⟩
theorem resT_call {P : Program} {R : World → World → Prop} {W : World} {V : Sp} {f : FuncId} {args : Array Value} (h : Calls P f args W fun e W'' => ∃ v, e = .returned v ∧ R W W'' ∧ V v W'') : resT P R W V (.ok (.enter f args) W) := ⟨Gr.refl _, h⟩
end Go.Proofs.Ytiemgmbjhllmbaa
end
