/-
  What the arguments of a law are, opened: a slice of integers as a list; an array of bytes.
-/
import Derived.Test.YtjomimbclcjkcaaBase
set_option linter.unusedVariables false
namespace Go.Proofs.Ytjomimbclcjkcaa
open Go.ChangeShapes Go.WideShapes Go.ChangeAt Go.RowKit
section
variable {H : Type} {enc : TypeId × Value → H} {P : Program} {w : World}

theorem cell_block_lt {b off : Nat} {sp : Option Nat} {x : Value} (h : w.cell? ⟨b, off, sp⟩ = some x) : b < w.heap.size := by
  unfold World.cell? at h
  cases hb : w.heap[b]? with
  | none => simp [hb] at h
  | some o => exact (Array.getElem?_eq_some_iff.1 hb).1

theorem open_sl_ints {r : Reach} {b0 : Nat} {t e : TypeId} {k : IntKind} {v : Value} {d : DataW H} {ps : List MemPlace} (ht : P.underlying t = some (.slice e)) (he : P.underlying e = some (.int k)) (hc : P.cellsOf e = 1)
    (hval : Value.okWide P w r b0 t v) (hd : DataW.Trod enc P w 0 (fun _ => true) true t v d ps) :
    ∃ zs : List Int, Sl w v (zs.map (Value.int k)) ∧ (∀ z ∈ zs, (Lit.int k z).wf = true) ∧ zs.length ≤ maxLen := by
  obtain ⟨a, len, cap, rfl⟩ := okWide_slice ht hval
  obtain ⟨fuel, hf⟩ := hd
  rcases open_ints ht he hc hf with ⟨hcs, _⟩ | ⟨x, l, c, zs, hcs, _, hl, hm, hz, _, hcell, hwz⟩
  · simp [Value.cells] at hcs
    obtain ⟨rfl, rfl, rfl⟩ := hcs
    exact ⟨[], ⟨none, 0, rfl, .inl rfl⟩, by simp, by simp⟩
  · simp [Value.cells] at hcs
    obtain ⟨rfl, rfl, rfl⟩ := hcs
    simp only [if_true] at hz
    have hlen : (zs.take len).length = len := by simp; omega
    refine ⟨zs.take len, ⟨some x, cap, by simp; omega, ?_⟩, fun z hzm => hwz z (List.mem_of_mem_take hzm), by rw [hlen]; omega⟩
    by_cases h0 : len = 0
    · left; subst h0; simp
    · right
      obtain ⟨b, off, sp⟩ := x
      have h1 := hcell 0 (by omega)
      have hsp : sp = none := by simpa [Addr.add] using World.cell?_spot h1
      subst hsp
      have hadd : ∀ i, (⟨b, off, none⟩ : Addr).add i = ⟨b, off + i, none⟩ := by intro i; unfold Addr.add; split <;> simp_all
      refine ⟨b, off, rfl, ?_, fun i hi => ?_⟩
      · rw [hadd] at h1; exact cell_block_lt h1
      · simp only [List.length_map] at hi
        rw [hlen] at hi
        have := hcell i (by omega)
        rw [hadd] at this
        rw [this]
        simp [List.getD, List.getElem?_eq_getElem (show i < zs.length by omega)]

theorem wf_byte {z : Int} (h : (Lit.int .u8 z).wf = true) : 0 ≤ z ∧ z < 256 := by
  simp [Lit.wf, IntKind.min, IntKind.max, IntKind.bits, IntKind.signed] at h
  omega

theorem bytes_of_ints (zs : List Int) (h : ∀ z ∈ zs, (Lit.int .u8 z).wf = true) : zs.map (Value.int .u8) = bytes (zs.map fun z => UInt8.ofNat z.toNat) := by
  unfold bytes
  rw [List.map_map]
  refine List.map_congr_left fun z hz => ?_
  have := wf_byte (h z hz)
  simp only [Function.comp, byte, UInt8.toNat_ofNat']
  congr 1
  omega

theorem open_bytes {r : Reach} {b0 : Nat} {t e : TypeId} {v : Value} {d : DataW H} {ps : List MemPlace} (ht : P.underlying t = some (.slice e)) (he : P.underlying e = some (.int .u8)) (hc : P.cellsOf e = 1)
    (hval : Value.okWide P w r b0 t v) (hd : DataW.Trod enc P w 0 (fun _ => true) true t v d ps) : ∃ l : List UInt8, Sl w v (bytes l) ∧ l.length ≤ maxLen := by
  obtain ⟨zs, hs, hw, hm⟩ := open_sl_ints ht he hc hval hd
  exact ⟨_, by rw [← bytes_of_ints zs hw]; exact hs, by simpa using hm⟩

theorem ints_of_cells {e : TypeId} {k : IntKind} (he : P.underlying e = some (.int k)) (hc : P.cellsOf e = 1) {cs : List Value} {m : Nat} {xs : List (DataW H × List MemPlace)} (hx : xs.length = cs.length)
    (h : ∀ i, i < cs.length → DataW.trod enc P w 0 (fun _ => true) true m e ((cs.drop (i * P.cellsOf e)).take (P.cellsOf e)) = xs[i]?) :
    ∃ zs : List Int, cs = zs.map (Value.int k) ∧ (∀ z ∈ zs, (Lit.int k z).wf = true) := by
  have each : ∀ c ∈ cs, ∃ z, c = .int k z ∧ (Lit.int k z).wf = true := by
    intro c hcm
    obtain ⟨i, hi, rfl⟩ := List.getElem_of_mem hcm
    have h1 := h i hi
    rw [hc, List.getElem?_eq_getElem (by omega)] at h1
    have e1 : (cs.drop (i * 1)).take 1 = [cs[i]] := by
      rw [Nat.mul_one, List.drop_eq_getElem_cons hi]; rfl
    rw [e1] at h1
    obtain ⟨n, hn, _, hw⟩ := DataW.trod_int he h1
    exact ⟨n, by simpa using hn, hw⟩
  clear h hx
  induction cs with
  | nil => exact ⟨[], rfl, by simp⟩
  | cons c cs ih =>
    obtain ⟨z, rfl, hz⟩ := each c (by simp)
    obtain ⟨zs, rfl, hzs⟩ := ih (fun c hc => each c (by simp [hc]))
    exact ⟨z :: zs, rfl, by simp; exact ⟨hz, hzs⟩⟩

/-- An array of n bytes, by value. -/
theorem open_byte_array {r : Reach} {b0 n : Nat} {t e : TypeId} {v : Value} {d : DataW H} {ps : List MemPlace} (ht : P.underlying t = some (.array n e)) (he : P.underlying e = some (.int .u8)) (hc : P.cellsOf e = 1) (hct : P.cellsOf t = n)
    (hval : Value.okWide P w r b0 t v) (hd : DataW.Trod enc P w 0 (fun _ => true) true t v d ps) : ∃ l : List UInt8, v = .agg (bytes l).toArray ∧ l.length = n := by
  simp only [Value.okWide, ht] at hval
  obtain ⟨cs, rfl, hsz, _⟩ := hval
  obtain ⟨fuel, hf⟩ := hd
  obtain ⟨xs, m, _, _, hl, hx, hall⟩ := DataW.trod_array ht hf
  simp only [Value.cells] at hl hall
  rw [hct] at hl
  obtain ⟨zs, hz, hw⟩ := ints_of_cells (cs := cs.toList) he hc (by rw [hx, hl]) (by rw [hl]; exact hall)
  refine ⟨zs.map fun z => UInt8.ofNat z.toNat, ?_, ?_⟩
  · rw [← bytes_of_ints zs hw, ← hz]
  · have := congrArg List.length hz
    simp at this ⊢
    omega

theorem open_nat {r : Reach} {b0 : Nat} {t : TypeId} {k : IntKind} {v : Value} {d : DataW H} {ps : List MemPlace} (hk : k.signed = false) (ht : P.underlying t = some (.int k))
    (hval : Value.okWide P w r b0 t v) (hd : DataW.Trod enc P w 0 (fun _ => true) true t v d ps) : ∃ n : Nat, v = .int k (n : Int) ∧ n < 2 ^ k.bits := by
  obtain ⟨z, rfl, _, _, hw⟩ := open_int ht hval hd
  have : 0 ≤ z ∧ z < 2 ^ k.bits := by
    cases k <;> simp [IntKind.signed] at hk <;> simp [Lit.wf, IntKind.min, IntKind.max, IntKind.bits, IntKind.signed] at hw ⊢ <;> omega
  refine ⟨z.toNat, by rw [Int.toNat_of_nonneg this.1], ?_⟩
  have h2 := this.2
  have : ((2 ^ k.bits : Nat) : Int) = 2 ^ k.bits := by simp
  omega
end
end Go.Proofs.Ytjomimbclcjkcaa
