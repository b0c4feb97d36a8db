/-
  Words that all of this seat's walks use: what it is that a slice reads as a list of values; what becomes of it while the world grows.
-/
import Derived.WalkKit
import Derived.ProofKit
import Derived.OpenShut
import Derived.ShutString
import Derived.ChangeOld
import Derived.Below
namespace Go.Proofs.Ytjomimbclcjkcaa
open Go.RowKit

/-- The slice value v reads in the world w as the list xs. -/
def Sl (w : World) (v : Value) (xs : List Value) : Prop :=
  ∃ a cap, v = .slice a xs.length cap ∧ (xs = [] ∨ ∃ b off, a = some ⟨b, off, none⟩ ∧ b < w.heap.size ∧ ∀ k (h : k < xs.length), w.cell? ⟨b, off + k, none⟩ = some xs[k])

theorem Sl.below {w w' : World} {v : Value} {xs : List Value} (h : Sl w v xs) (hb : Below w.heap.size w w') : Sl w' v xs := by
  obtain ⟨a, cap, rfl, h⟩ := h
  refine ⟨a, cap, rfl, ?_⟩
  rcases h with h | ⟨b, off, rfl, hlt, h⟩
  · exact .inl h
  · exact .inr ⟨b, off, rfl, Nat.lt_of_lt_of_le hlt hb.size, fun k hk => by rw [hb.cell (p := ⟨b, off + k, none⟩) hlt]; exact h k hk⟩

def byte (c : UInt8) : Value := .int .u8 (c.toNat : Int)
def bytes (l : List UInt8) : List Value := l.map byte
theorem bytes_length (l : List UInt8) : (bytes l).length = l.length := by simp [bytes]
theorem bytes_nil (l : List UInt8) : bytes l = [] ↔ l = [] := by simp [bytes]

/-- A slice of bytes opened: its length, and, if it is not empty, its cells. -/
theorem Sl.bytes {w : World} {v : Value} {l : List UInt8} (h : Sl w v (bytes l)) :
    ∃ a cap, v = .slice a l.length cap ∧ (l = [] ∨ ∃ b off, a = some ⟨b, off, none⟩ ∧ b < w.heap.size ∧ ∀ k (_ : k < l.length), w.cell? ⟨b, off + k, none⟩ = some (.int .u8 (l[k].toNat : Int))) := by
  obtain ⟨a, cap, rfl, h⟩ := h
  refine ⟨a, cap, by rw [bytes_length], ?_⟩
  rcases h with h | ⟨b, off, rfl, hlt, h⟩
  · exact .inl ((bytes_nil l).1 h)
  · refine .inr ⟨b, off, rfl, hlt, fun k hk => ?_⟩
    rw [h k (by rw [bytes_length]; exact hk)]
    simp [Go.Proofs.Ytjomimbclcjkcaa.bytes, byte]

/-- A block that has just been laid, read from its head. -/
theorem Sl.new (w : World) (xs : List Value) (t : TypeId) (fr : Nat × Nat) (n cap : Nat) (hn : n = xs.length) :
    Sl (w.alloc (.cells xs.toArray t fr)) (.slice (some ⟨w.heap.size, 0, none⟩) n cap) xs := by
  subst hn
  refine ⟨_, cap, rfl, .inr ⟨w.heap.size, 0, rfl, by simp, fun k hk => ?_⟩⟩
  have h : (w.alloc (.cells xs.toArray t fr)).heap[w.heap.size]? = some (.cells xs.toArray t fr) := by
    show (w.heap.push _)[w.heap.size]? = _
    simp
  unfold World.cell?
  rw [h]
  simp [hk]
theorem Sl.at (w : World) (xs : List Value) (t : TypeId) (fr : Nat × Nat) (B n cap : Nat) (hB : B = w.heap.size) (hn : n = xs.length) :
    Sl (w.alloc (.cells xs.toArray t fr)) (.slice (some ⟨B, 0, none⟩) n cap) xs := by
  subst hB; exact Sl.new w xs t fr n cap hn
theorem Sl.nil (w : World) (a : Option Addr) (cap : Nat) : Sl w (.slice a 0 cap) [] := ⟨a, cap, rfl, .inl rfl⟩

/-- 'string(b)' of a slice that reads as the bytes l. -/
theorem run_string_sl {P : Program} {w : World} {v : Value} {l : List UInt8} (src e dst : TypeId) (hs : P.underlying src = some (.slice e)) (he : P.underlying e = some (.int .u8)) (hd : P.underlying dst = some .string)
    (h : Sl w v (Go.Proofs.Ytjomimbclcjkcaa.bytes l)) : (convert src dst v).run P w = .ok (.string ⟨l.toArray⟩) w := by
  obtain ⟨a, cap, rfl, hc⟩ := h.bytes
  rcases hc with rfl | ⟨b, off, rfl, hb, hc⟩
  · cases a with
    | none => rw [run_convert_bytes_nil w src e hs he _ _ dst hd]; rfl
    | some a => exact run_convert_bytes_back w src dst e a cap [] hs he hd (fun j hj => absurd hj (by simp))
  · exact run_convert_bytes_back w src dst e _ cap l hs he hd (fun j hj => by
      have hplain : (⟨b, off, none⟩ : Addr).add j = ⟨b, off + j, none⟩ := by unfold Addr.add; split <;> simp_all
      rw [hplain]; exact hc j hj)

/-- The first k of a block's cells. -/
theorem Sl.take {w : World} {b off : Nat} (xs : List Value) (hb : b < w.heap.size) (hc : ∀ k (h : k < xs.length), w.cell? ⟨b, off + k, none⟩ = some xs[k]) (k cap : Nat) (hk : k ≤ xs.length) :
    Sl w (.slice (some ⟨b, off, none⟩) k cap) (xs.take k) := by
  have hl : (xs.take k).length = k := by simp [hk]
  refine ⟨_, cap, by rw [hl], .inr ⟨b, off, rfl, hb, fun j hj => ?_⟩⟩
  rw [hl] at hj
  rw [hc j (by omega), List.getElem_take]

theorem bytes_take (l : List UInt8) (k : Nat) : (bytes l).take k = bytes (l.take k) := by simp [bytes, List.map_take]

/-- The cells of a block that has just been laid, the world then grown. -/
theorem cells_at {w w' : World} (xs : List Value) (t : TypeId) (fr : Nat × Nat) (hb : Below (w.alloc (.cells xs.toArray t fr)).heap.size (w.alloc (.cells xs.toArray t fr)) w') :
    ∀ k (h : k < xs.length), w'.cell? ⟨w.heap.size, 0 + k, none⟩ = some xs[k] := by
  intro k hk
  rw [hb.cell (p := ⟨w.heap.size, 0 + k, none⟩) (by simp)]
  have h : (w.alloc (.cells xs.toArray t fr)).heap[w.heap.size]? = some (.cells xs.toArray t fr) := by
    show (w.heap.push _)[w.heap.size]? = _
    simp
  unfold World.cell?
  rw [h]
  simp [hk]

theorem bcell {W w1 : World} (hb : Below W.heap.size W w1) : (∀ b o, b < W.heap.size → w1.cell? ⟨b, o, none⟩ = W.cell? ⟨b, o, none⟩) ∧ (∀ b o, b < W.heap.size → w1.frozen? ⟨b, o, none⟩ = W.frozen? ⟨b, o, none⟩) :=
  ⟨fun b o h => hb.cell (p := ⟨b, o, none⟩) h, fun b o h => hb.frozen (p := ⟨b, o, none⟩) h⟩

theorem ret_int {k : IntKind} {a b : Int} (h : a = b) : Ending.returned (.int k a) = .returned (.int k b) := by rw [h]
theorem ret_bool {a b : Bool} (h : a = b) : Ending.returned (.bool a) = .returned (.bool b) := by rw [h]
theorem val_int {k : IntKind} {a b : Int} (h : a = b) : Value.int k a = .int k b := by rw [h]
end Go.Proofs.Ytjomimbclcjkcaa
