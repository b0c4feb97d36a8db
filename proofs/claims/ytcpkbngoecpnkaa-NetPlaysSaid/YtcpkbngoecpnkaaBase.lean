/-
  Words that all of this seat's walks use: what it is that a slice reads as a list of values; slices of the call's own; arguments opened. No program in sight.
-/
import Derived.WalkKit
import Derived.ProofKit
import Derived.OpenShut
import Derived.ShutString
import Derived.ChangeOld
import Derived.Below
import Derived.Laws.OwnMore
import Derived.Lib.Hide
import Derived.Deep.Draws
set_option linter.unusedVariables false
namespace Go.Proofs.Ytcpkbngoecpnkaa
open Go.ChangeShapes Go.WideShapes Go.ChangeAt Go.RowKit

/-- The slice value v reads in the world w as the list xs. -/
def Sl (w : World) (v : Value) (xs : List Value) : Prop :=
  ∃ a cap, v = .slice a xs.length cap ∧ xs.length ≤ cap ∧ (xs = [] ∨ ∃ b off, a = some ⟨b, off, none⟩ ∧ b < w.heap.size ∧ ∀ k (h : k < xs.length), w.cell? ⟨b, off + k, none⟩ = some xs[k])

theorem Sl.below {w w' : World} {v : Value} {xs : List Value} (h : Sl w v xs) (hb : Below w.heap.size w w') : Sl w' v xs := by
  obtain ⟨a, cap, rfl, hcap, h⟩ := h
  refine ⟨a, cap, rfl, hcap, ?_⟩
  rcases h with h | ⟨b, off, rfl, hlt, h⟩
  · exact .inl h
  · exact .inr ⟨b, off, rfl, Nat.lt_of_lt_of_le hlt hb.size, fun k hk => by rw [hb.cell (p := ⟨b, off + k, none⟩) hlt]; exact h k hk⟩

def byte (c : UInt8) : Value := .int .u8 (c.toNat : Int)
def bytes (l : List UInt8) : List Value := l.map byte
theorem bytes_length (l : List UInt8) : (bytes l).length = l.length := by simp [bytes]
theorem bytes_nil (l : List UInt8) : bytes l = [] ↔ l = [] := by simp [bytes]

/-- A slice of bytes opened: its length, and, if it is not empty, its cells. -/
theorem Sl.bytes {w : World} {v : Value} {l : List UInt8} (h : Sl w v (bytes l)) :
    ∃ a cap, v = .slice a l.length cap ∧ l.length ≤ cap ∧ (l = [] ∨ ∃ b off, a = some ⟨b, off, none⟩ ∧ b < w.heap.size ∧ ∀ k (_ : k < l.length), w.cell? ⟨b, off + k, none⟩ = some (.int .u8 (l[k].toNat : Int))) := by
  obtain ⟨a, cap, rfl, hcap, h⟩ := h
  refine ⟨a, cap, by rw [bytes_length], by rwa [bytes_length] at hcap, ?_⟩
  rcases h with h | ⟨b, off, rfl, hlt, h⟩
  · exact .inl ((bytes_nil l).1 h)
  · refine .inr ⟨b, off, rfl, hlt, fun k hk => ?_⟩
    rw [h k (by rw [bytes_length]; exact hk)]
    simp [Go.Proofs.Ytcpkbngoecpnkaa.bytes, byte]

/-- A block that has just been laid, read from its head. -/
theorem Sl.new (w : World) (xs : List Value) (t : TypeId) (fr : Nat × Nat) (n cap : Nat) (hn : n = xs.length) (hcap : n ≤ cap) :
    Sl (w.alloc (.cells xs.toArray t fr)) (.slice (some ⟨w.heap.size, 0, none⟩) n cap) xs := by
  subst hn
  refine ⟨_, cap, rfl, hcap, .inr ⟨w.heap.size, 0, rfl, by simp, fun k hk => ?_⟩⟩
  have h : (w.alloc (.cells xs.toArray t fr)).heap[w.heap.size]? = some (.cells xs.toArray t fr) := by
    show (w.heap.push _)[w.heap.size]? = _
    simp
  unfold World.cell?
  rw [h]
  simp [hk]
theorem Sl.at (w : World) (xs : List Value) (t : TypeId) (fr : Nat × Nat) (B n cap : Nat) (hB : B = w.heap.size) (hn : n = xs.length) (hcap : n ≤ cap) :
    Sl (w.alloc (.cells xs.toArray t fr)) (.slice (some ⟨B, 0, none⟩) n cap) xs := by
  subst hB; exact Sl.new w xs t fr n cap hn hcap
theorem Sl.nil (w : World) (a : Option Addr) (cap : Nat) : Sl w (.slice a 0 cap) [] := ⟨a, cap, rfl, Nat.zero_le _, .inl rfl⟩

/-- 'string(b)' of a slice that reads as the bytes l. -/
theorem run_string_sl {P : Program} {w : World} {v : Value} {l : List UInt8} (src e dst : TypeId) (hs : P.underlying src = some (.slice e)) (he : P.underlying e = some (.int .u8)) (hd : P.underlying dst = some .string)
    (h : Sl w v (Go.Proofs.Ytcpkbngoecpnkaa.bytes l)) : (convert src dst v).run P w = .ok (.string ⟨l.toArray⟩) w := by
  obtain ⟨a, cap, rfl, _, hc⟩ := h.bytes
  rcases hc with rfl | ⟨b, off, rfl, hb, hc⟩
  · cases a with
    | none => rw [run_convert_bytes_nil w src e hs he _ _ dst hd]; rfl
    | some a => exact run_convert_bytes_back w src dst e a cap [] hs he hd (fun j hj => absurd hj (by simp))
  · exact run_convert_bytes_back w src dst e _ cap l hs he hd (fun j hj => by
      have hplain : (⟨b, off, none⟩ : Addr).add j = ⟨b, off + j, none⟩ := by unfold Addr.add; split <;> simp_all
      rw [hplain]; exact hc j hj)

/-- The first k of a block's cells. -/
theorem Sl.take {w : World} {b off : Nat} (xs : List Value) (hb : b < w.heap.size) (hc : ∀ k (h : k < xs.length), w.cell? ⟨b, off + k, none⟩ = some xs[k]) (k cap : Nat) (hk : k ≤ xs.length) (hkc : k ≤ cap) :
    Sl w (.slice (some ⟨b, off, none⟩) k cap) (xs.take k) := by
  have hl : (xs.take k).length = k := by simp [hk]
  refine ⟨_, cap, by rw [hl], by rw [hl]; exact hkc, .inr ⟨b, off, rfl, hb, fun j hj => ?_⟩⟩
  rw [hl] at hj
  rw [hc j (by omega), List.getElem_take]

theorem bytes_take (l : List UInt8) (k : Nat) : (bytes l).take k = bytes (l.take k) := by simp [bytes, List.map_take]

/-- The cells of a block that has just been laid, the world then grown. -/
theorem cells_at {w w' : World} (xs : List Value) (t : TypeId) (fr : Nat × Nat) (hb : Below (w.alloc (.cells xs.toArray t fr)).heap.size (w.alloc (.cells xs.toArray t fr)) w') :
    ∀ k (h : k < xs.length), w'.cell? ⟨w.heap.size, 0 + k, none⟩ = some xs[k] := by
  intro k hk
  rw [hb.cell (p := ⟨w.heap.size, 0 + k, none⟩) (by simp)]
  have h : (w.alloc (.cells xs.toArray t fr)).heap[w.heap.size]? = some (.cells xs.toArray t fr) := by
    show (w.heap.push _)[w.heap.size]? = _
    simp
  unfold World.cell?
  rw [h]
  simp [hk]


/-- A slice keeps what it reads while blocks that are not its own are written. -/
theorem Sl.grown {w w' : World} {v : Value} {xs : List Value} {row : Option Nat} (h : Sl w v xs) (hg : w.grownBy w' row) (hne : v.ownBlock = none ∨ v.ownBlock ≠ row) : Sl w' v xs := by
  obtain ⟨a, cap, rfl, hcap, h⟩ := h
  refine ⟨a, cap, rfl, hcap, ?_⟩
  rcases h with h | ⟨b, off, rfl, hlt, h⟩
  · exact .inl h
  · refine .inr ⟨b, off, rfl, Nat.lt_of_lt_of_le hlt hg.size, fun k hk => ?_⟩
    have hne' : some b ≠ row := by simpa [Value.ownBlock] using hne
    rw [World.cell?_of_block (hg.block b hlt hne')]
    exact h k hk

theorem Sl.ownBlock_lt {w : World} {v : Value} {xs : List Value} (h : Sl w v xs) (hn : xs ≠ []) : ∃ b, v.ownBlock = some b ∧ b < w.heap.size := by
  obtain ⟨a, cap, rfl, hcap, h⟩ := h
  rcases h with h | ⟨b, off, rfl, hlt, h⟩
  · exact absurd h hn
  · exact ⟨b, rfl, hlt⟩

theorem addr_add (b off n : Nat) : (⟨b, off, none⟩ : Addr).add n = ⟨b, off + n, none⟩ := by unfold Addr.add; split <;> simp_all

theorem grownBy_below {w w' : World} {row : Option Nat} {B : Nat} (hg : w.grownBy w' row) (hB : B ≤ w.heap.size) (hr : ∀ k, row = some k → B ≤ k) : Below B w w' := (Below.refl B w).grown hg hB hr
theorem below_grownBy {w w' : World} (h : Below w.heap.size w w') (row : Option Nat) : w.grownBy w' row := ⟨h.os, h.tape, h.output, h.size, fun k hk _ => h.block k hk⟩
theorem grownBy_trans {a b c : World} {row : Option Nat} (h : a.grownBy b row) (k : b.grownBy c row) : a.grownBy c row :=
  ⟨k.os.trans h.os, k.tape.trans h.tape, k.output.trans h.output, Nat.le_trans h.size k.size, fun i hi hn => (k.block i (Nat.lt_of_lt_of_le hi h.size) hn).trans (h.block i hi hn)⟩
theorem below_drewN {B : Nat} {a w : World} (h : Below B a w) (n : Nat) : Below B a (w.drewN n) := ⟨h.os, h.tape, h.output, h.size, h.block⟩

/-- What a slice expression makes of a slice: 's[l:h:m]'. -/
theorem Sl.sliced {w : World} {a : Option Addr} {cap : Nat} {xs : List Value} (h : Sl w (.slice a xs.length cap) xs) (lo hi mx : Nat) (h1 : lo ≤ hi) (h2 : hi ≤ mx) (h3 : mx ≤ cap) (h4 : hi ≤ xs.length) :
    Sl w (Go.sliced a lo hi mx 1) ((xs.take hi).drop lo) := by
  obtain ⟨a', cap', he, hcap, hx⟩ := h
  injection he with e1 e2 e3
  subst e1 e3
  have hl : ((xs.take hi).drop lo).length = hi - lo := by simp; omega
  refine ⟨_, mx - lo, by rw [hl]; rfl, by rw [hl]; omega, ?_⟩
  by_cases h0 : lo = hi
  · left
    exact List.eq_nil_of_length_eq_zero (by rw [hl]; omega)
  · rcases hx with rfl | ⟨b, off, rfl, hb, hx⟩
    · left; simp
    · right
      refine ⟨b, off + lo, ?_, hb, fun k hk => ?_⟩
      · rw [if_neg (by omega)]
        simp [addr_add]
      · rw [hl] at hk
        rw [Nat.add_assoc, hx (lo + k) (by omega)]
        simp [List.getElem_drop, List.getElem_take]
theorem ownBlock_sliced (a : Option Addr) (n cap lo hi mx : Nat) : (Go.sliced a lo hi mx 1).ownBlock = (Value.slice a n cap).ownBlock := by
  unfold Go.sliced
  split
  · cases a <;> rfl
  · cases a with
    | none => rfl
    | some ad => obtain ⟨b, off, sp⟩ := ad; simp only [Option.map, Value.ownBlock]; unfold Addr.add; split <;> rfl

theorem bcell {W w1 : World} (hb : Below W.heap.size W w1) : (∀ b o, b < W.heap.size → w1.cell? ⟨b, o, none⟩ = W.cell? ⟨b, o, none⟩) ∧ (∀ b o, b < W.heap.size → w1.frozen? ⟨b, o, none⟩ = W.frozen? ⟨b, o, none⟩) :=
  ⟨fun b o h => hb.cell (p := ⟨b, o, none⟩) h, fun b o h => hb.frozen (p := ⟨b, o, none⟩) h⟩

theorem ret_int {k : IntKind} {a b : Int} (h : a = b) : Ending.returned (.int k a) = .returned (.int k b) := by rw [h]
theorem ret_bool {a b : Bool} (h : a = b) : Ending.returned (.bool a) = .returned (.bool b) := by rw [h]
theorem val_int {k : IntKind} {a b : Int} (h : a = b) : Value.int k a = .int k b := by rw [h]

/-- v is a slice of the call's own (blocks from base on), its elements are xs, one cell each. -/
def Own (w : World) (base : Nat) (e : TypeId) (v : Value) (xs : List Value) : Prop := w.ownsRow base e 1 v xs.length xs

theorem Own.form {w : World} {base : Nat} {e : TypeId} {v : Value} {xs : List Value} (h : Own w base e v xs) (hn : xs ≠ []) : ∃ g cap, v = .slice (some ⟨g, 0, none⟩) xs.length cap ∧ base ≤ g ∧ g < w.heap.size ∧ xs.length ≤ cap := by
  have h0 := h.lt
  rcases h.2 with ⟨_, h1⟩ | ⟨g, cap, cur, rfl, hb, hh, hnc, _⟩
  · exact absurd (List.eq_nil_of_length_eq_zero h1) hn
  · exact ⟨g, cap, rfl, hb, (Array.getElem?_eq_some_iff.1 hh).1, hnc⟩

theorem Own.sl {w : World} {base : Nat} {e : TypeId} {v : Value} {xs : List Value} (h : Own w base e v xs) : Sl w v xs := by
  by_cases hn : xs = []
  · subst hn
    rcases h.2 with ⟨rfl, _⟩ | ⟨g, cap, cur, rfl, _⟩
    · exact ⟨none, 0, rfl, Nat.zero_le _, .inl rfl⟩
    · exact ⟨_, cap, rfl, Nat.zero_le _, .inl rfl⟩
  · obtain ⟨g, cap, rfl, hb, hlt, hnc⟩ := h.form hn
    refine ⟨_, cap, rfl, hnc, .inr ⟨g, 0, rfl, hlt, fun k hk => ?_⟩⟩
    have := World.ownsRow.cellAt h k (by omega)
    rw [Nat.zero_add, this, List.getElem?_eq_getElem hk]

theorem Own.shape {w : World} {base : Nat} {e : TypeId} {v : Value} {xs : List Value} (h : Own w base e v xs) : ∃ a cap, v = .slice a xs.length cap := by
  rcases h.2 with ⟨rfl, h1⟩ | ⟨g, cap, cur, rfl, hb, hh, hnc, _⟩
  · exact ⟨none, 0, by rw [h1]⟩
  · exact ⟨_, cap, rfl⟩

theorem Own.mono {w : World} {base base' : Nat} {e : TypeId} {v : Value} {xs : List Value} (h : Own w base e v xs) (hb : base' ≤ base) : Own w base' e v xs :=
  ⟨h.1, h.2.imp id fun ⟨g, cap, cur, hv, hg, r⟩ => ⟨g, cap, cur, hv, Nat.le_trans hb hg, r⟩⟩

theorem Own.nil_lit (w : World) (e : TypeId) {base : Nat} (hb : base ≤ w.heap.size) : Own (w.alloc (.cells #[] e)) base e (.slice (some ⟨w.heap.size, 0, none⟩) 0 0) [] :=
  World.ownsRow_lit w #[] 0 hb (by simp) rfl

theorem Own.nil0 (w : World) (base : Nat) (e : TypeId) : Own w base e (.slice none 0 0) [] := World.ownsRow_nil w base e 1

theorem Own.store {w : World} {base g cap : Nat} {e : TypeId} {xs : List Value} (h : Own w base e (.slice (some ⟨g, 0, none⟩) xs.length cap) xs) (j : Nat) (u : Value) :
    Own (w.setCell ⟨g, j, none⟩ u) base e (.slice (some ⟨g, 0, none⟩) (xs.set j u).length cap) (xs.set j u) ∧ w.grownBy (w.setCell ⟨g, j, none⟩ u) (some g) := by
  have := World.ownsRow.stored h j u
  unfold Own
  rw [List.length_set]
  exact this

theorem Sl.oneCells {w : World} {v : Value} {xs : List Value} (h : Sl w v xs) : ∃ a cap, v = .slice a xs.length cap := by
  obtain ⟨a, cap, rfl, _, _⟩ := h
  exact ⟨a, cap, rfl⟩

section
variable {P : Program}
/-- append(s, x...), s the call's own, x whatever slice. -/
theorem run_append_sl (w : World) (base : Nat) (t ty e : TypeId) (i : TypeInfo) (z : Value) (by_ : Nat) (ht : P.underlying t = some (.slice e)) (hi : P.info? e = some i) (hz : i.zero = some z)
    (hsize : i.size = 1) (hby : i.bytes = by_) (hzs : z.cells.size = 1)
    (v y : Value) (xs ys : List Value) (hown : Own w base e v xs) (hy : Sl w y ys) (h1 : ∀ u ∈ ys, u.oneCell' = true)
    (h63 : xs.length + ys.length ≤ maxLen) (hbytes : (xs.length + ys.length) * by_ ≤ 140737488355328) (hbase : base ≤ w.heap.size) :
    ∃ v' w', (Builtin.append_ #[t, t] ty #[v, y]).run P w = .ok v' w' ∧ Own w' base e v' (xs ++ ys) ∧ w.grownBy w' v.ownBlock := by
  obtain ⟨a, cap, rfl, _, hc⟩ := hy
  cases a with
  | none =>
    have hy0 : ys = [] := by
      rcases hc with h | ⟨b, off, h, _⟩
      · exact h
      · cases h
    subst hy0
    refine ⟨v, w, ?_, by simpa using hown, ⟨rfl, rfl, rfl, Nat.le_refl _, fun _ _ _ => rfl⟩⟩
    rcases hown.2 with ⟨rfl, h0⟩ | ⟨g, cap', cur, rfl, _, _, hnc, _⟩
    · simp [Builtin.append_, run_underlying ht, sizeOf, typeInfo, hi, Builtin.lenOf, Builtin.firstCells]
    · simp [Builtin.append_, run_underlying ht, sizeOf, typeInfo, hi, Builtin.lenOf, Builtin.firstCells, hnc, storeCells]
  | some ad =>
    have hcells : ∀ j u, ys[j]? = some u → w.cell? (ad.add j) = some u := by
      intro j u hu
      rcases hc with h | ⟨b, off, h, _, hcell⟩
      · subst h; simp at hu
      · injection h with h
        subst h
        have hj : j < ys.length := (List.getElem?_eq_some_iff.1 hu).1
        have hadd : (⟨b, off, none⟩ : Addr).add j = ⟨b, off + j, none⟩ := by unfold Addr.add; split <;> simp_all
        rw [hadd, hcell j hj, ← hu, List.getElem?_eq_getElem hj]
    obtain ⟨v', w', hr, h2, h3, _⟩ := run_append_own (P := P) w base t ty e i z 1 by_ ht hi hz hsize hby hzs (by decide) v xs.length xs hown ad ys.length cap ys (by simp) hcells h1 h63 hbytes hbase
    refine ⟨v', w', hr, ?_, h3⟩
    unfold Own
    rw [List.length_append]
    exact h2
/-- An append whose run is known. -/
theorem wpList_run_append {w w' : World} {ops : Array Oper} {rest : List Oper} {o : Oper} {a : Act} {Q : Exit → Act → World → Prop} {t : TypeId} {v y v' : Value}
    (hr : (Builtin.append_ #[t, t] o.type #[v, y]).run P w = .ok v' w') (hgd : o.guard = none) (s x : Operand)
    (ho : o.op = .call { callee := .builtin .append, args := #[s, x], argTypes := #[t, t] }) (hs : a.eval s = v) (hx : a.eval x = y)
    (h : wpList P ops Q rest (a.put o.dst v') w') : wpList P ops Q (o :: rest) a w :=
  wpList_plain hgd fun _ hK => by
    unfold Oper.wp execOp
    simp only [ho, resolve, invoke, builtin, Sem.run_bind, Sem.run_pure, Result.andThen_ok, List.map_toArray, List.map_cons, List.map_nil, hs, hx, hr]
    exact hK _ _ h
end
section
variable {H : Type} {enc : TypeId × Value → H} {P : Program} {w : World}

theorem cell_block_lt {b off : Nat} {sp : Option Nat} {x : Value} (h : w.cell? ⟨b, off, sp⟩ = some x) : b < w.heap.size := by
  unfold World.cell? at h
  cases hb : w.heap[b]? with
  | none => simp [hb] at h
  | some o => exact (Array.getElem?_eq_some_iff.1 hb).1

theorem open_sl_ints {r : Reach} {b0 : Nat} {t e : TypeId} {k : IntKind} {v : Value} {d : DataW H} {ps : List MemPlace} (ht : P.underlying t = some (.slice e)) (he : P.underlying e = some (.int k)) (hc : P.cellsOf e = 1)
    (hval : Value.okWide P w r b0 t v) (hd : DataW.Trod enc P w 0 (fun _ => true) true t v d ps) :
    ∃ zs : List Int, Sl w v (zs.map (Value.int k)) ∧ (∀ z ∈ zs, (Lit.int k z).wf = true) ∧ zs.length ≤ maxLen := by
  obtain ⟨a, len, cap, rfl⟩ := okWide_slice ht hval
  obtain ⟨fuel, hf⟩ := hd
  rcases open_ints ht he hc hf with ⟨hcs, _⟩ | ⟨x, l, c, zs, hcs, _, hl, hm, hz, _, hcell, hwz⟩
  · simp [Value.cells] at hcs
    obtain ⟨rfl, rfl, rfl⟩ := hcs
    exact ⟨[], ⟨none, 0, rfl, Nat.zero_le _, .inl rfl⟩, by simp, by simp⟩
  · simp [Value.cells] at hcs
    obtain ⟨rfl, rfl, rfl⟩ := hcs
    simp only [if_true] at hz
    have hlen : (zs.take len).length = len := by simp; omega
    refine ⟨zs.take len, ⟨some x, cap, by simp; omega, by simp; omega, ?_⟩, fun z hzm => hwz z (List.mem_of_mem_take hzm), by rw [hlen]; omega⟩
    by_cases h0 : len = 0
    · left; subst h0; simp
    · right
      obtain ⟨b, off, sp⟩ := x
      have h1 := hcell 0 (by omega)
      have hsp : sp = none := by simpa [Addr.add] using World.cell?_spot h1
      subst hsp
      have hadd : ∀ i, (⟨b, off, none⟩ : Addr).add i = ⟨b, off + i, none⟩ := by intro i; unfold Addr.add; split <;> simp_all
      refine ⟨b, off, rfl, ?_, fun i hi => ?_⟩
      · rw [hadd] at h1; exact cell_block_lt h1
      · simp only [List.length_map] at hi
        rw [hlen] at hi
        have := hcell i (by omega)
        rw [hadd] at this
        rw [this]
        simp [List.getD, List.getElem?_eq_getElem (show i < zs.length by omega)]

theorem wf_byte {z : Int} (h : (Lit.int .u8 z).wf = true) : 0 ≤ z ∧ z < 256 := by
  simp [Lit.wf, IntKind.min, IntKind.max, IntKind.bits, IntKind.signed] at h
  omega

theorem bytes_of_ints (zs : List Int) (h : ∀ z ∈ zs, (Lit.int .u8 z).wf = true) : zs.map (Value.int .u8) = bytes (zs.map fun z => UInt8.ofNat z.toNat) := by
  unfold bytes
  rw [List.map_map]
  refine List.map_congr_left fun z hz => ?_
  have := wf_byte (h z hz)
  simp only [Function.comp, byte, UInt8.toNat_ofNat']
  congr 1
  omega

theorem open_bytes {r : Reach} {b0 : Nat} {t e : TypeId} {v : Value} {d : DataW H} {ps : List MemPlace} (ht : P.underlying t = some (.slice e)) (he : P.underlying e = some (.int .u8)) (hc : P.cellsOf e = 1)
    (hval : Value.okWide P w r b0 t v) (hd : DataW.Trod enc P w 0 (fun _ => true) true t v d ps) : ∃ l : List UInt8, Sl w v (bytes l) ∧ l.length ≤ maxLen := by
  obtain ⟨zs, hs, hw, hm⟩ := open_sl_ints ht he hc hval hd
  exact ⟨_, by rw [← bytes_of_ints zs hw]; exact hs, by simpa using hm⟩

theorem ints_of_cells {e : TypeId} {k : IntKind} (he : P.underlying e = some (.int k)) (hc : P.cellsOf e = 1) {cs : List Value} {m : Nat} {xs : List (DataW H × List MemPlace)} (hx : xs.length = cs.length)
    (h : ∀ i, i < cs.length → DataW.trod enc P w 0 (fun _ => true) true m e ((cs.drop (i * P.cellsOf e)).take (P.cellsOf e)) = xs[i]?) :
    ∃ zs : List Int, cs = zs.map (Value.int k) ∧ (∀ z ∈ zs, (Lit.int k z).wf = true) := by
  have each : ∀ c ∈ cs, ∃ z, c = .int k z ∧ (Lit.int k z).wf = true := by
    intro c hcm
    obtain ⟨i, hi, rfl⟩ := List.getElem_of_mem hcm
    have h1 := h i hi
    rw [hc, List.getElem?_eq_getElem (by omega)] at h1
    have e1 : (cs.drop (i * 1)).take 1 = [cs[i]] := by
      rw [Nat.mul_one, List.drop_eq_getElem_cons hi]; rfl
    rw [e1] at h1
    obtain ⟨n, hn, _, hw⟩ := DataW.trod_int he h1
    exact ⟨n, by simpa using hn, hw⟩
  clear h hx
  induction cs with
  | nil => exact ⟨[], rfl, by simp⟩
  | cons c cs ih =>
    obtain ⟨z, rfl, hz⟩ := each c (by simp)
    obtain ⟨zs, rfl, hzs⟩ := ih (fun c hc => each c (by simp [hc]))
    exact ⟨z :: zs, rfl, by simp; exact ⟨hz, hzs⟩⟩

/-- An array of n bytes, by value. -/
theorem open_byte_array {r : Reach} {b0 n : Nat} {t e : TypeId} {v : Value} {d : DataW H} {ps : List MemPlace} (ht : P.underlying t = some (.array n e)) (he : P.underlying e = some (.int .u8)) (hc : P.cellsOf e = 1) (hct : P.cellsOf t = n)
    (hval : Value.okWide P w r b0 t v) (hd : DataW.Trod enc P w 0 (fun _ => true) true t v d ps) : ∃ l : List UInt8, v = .agg (bytes l).toArray ∧ l.length = n := by
  simp only [Value.okWide, ht] at hval
  obtain ⟨cs, rfl, hsz, _⟩ := hval
  obtain ⟨fuel, hf⟩ := hd
  obtain ⟨xs, m, _, _, hl, hx, hall⟩ := DataW.trod_array ht hf
  simp only [Value.cells] at hl hall
  rw [hct] at hl
  obtain ⟨zs, hz, hw⟩ := ints_of_cells (cs := cs.toList) he hc (by rw [hx, hl]) (by rw [hl]; exact hall)
  refine ⟨zs.map fun z => UInt8.ofNat z.toNat, ?_, ?_⟩
  · rw [← bytes_of_ints zs hw, ← hz]
  · have := congrArg List.length hz
    simp at this ⊢
    omega

theorem open_nat {r : Reach} {b0 : Nat} {t : TypeId} {k : IntKind} {v : Value} {d : DataW H} {ps : List MemPlace} (hk : k.signed = false) (ht : P.underlying t = some (.int k))
    (hval : Value.okWide P w r b0 t v) (hd : DataW.Trod enc P w 0 (fun _ => true) true t v d ps) : ∃ n : Nat, v = .int k (n : Int) ∧ n < 2 ^ k.bits := by
  obtain ⟨z, rfl, _, _, hw⟩ := open_int ht hval hd
  have : 0 ≤ z ∧ z < 2 ^ k.bits := by
    cases k <;> simp [IntKind.signed] at hk <;> simp [Lit.wf, IntKind.min, IntKind.max, IntKind.bits, IntKind.signed] at hw ⊢ <;> omega
  refine ⟨z.toNat, by rw [Int.toNat_of_nonneg this.1], ?_⟩
  have h2 := this.2
  have : ((2 ^ k.bits : Nat) : Int) = 2 ^ k.bits := by simp
  omega
end
end Go.Proofs.Ytcpkbngoecpnkaa
