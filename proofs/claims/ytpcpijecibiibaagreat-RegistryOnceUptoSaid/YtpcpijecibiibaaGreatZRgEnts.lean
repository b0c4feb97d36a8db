/-
  Package registry: slices of entries; great.
-/
import Derived.Test.YtpcpijecibiibaaGreatZRgE
import Derived.Test.YtpcpijecibiibaaGreatZEO
set_option linter.unusedVariables false
set_option linter.unusedSimpArgs false
set_option maxRecDepth 100000
namespace Go.Proofs.YtpcpijecibiibaaGreat
open Go.RowKit
section
variable {H : Type} {enc : TypeId × Value → H} {w : World}
theorem EntBulk.mono {x : EntD} {B C : Nat} (h : EntBulk x B) (hB : B ≤ C) : EntBulk x C :=
  ⟨by have := h.op; omega, by have := h.parts; omega, ⟨by have := h.item.all; omega, fun e he => by have := h.item.effs e he; omega, by have := h.item.elen; omega, by have := h.item.slen; omega⟩, by have := h.frontier; omega⟩
theorem cell_ents {m : Nat} {v : Value} {y : DataW H × List MemPlace} (h : DataW.trod enc Tryz.prog w 0 (fun _ => true) true m 22 [v] = some y) :
    ∃ xs : List EntD, EntsP Any w v xs ∧ (∀ x ∈ xs, EntOk x ∧ EntBulk x (Rows.uptoBulk y.1)) ∧ xs.length ≤ maxLen := by
  obtain ⟨len, R, Bf, hR, hs, hlb, hl, hc⟩ := cell_rowsKB (k := 23) Tryz.underlying22 (by kernel_rfl) (by decide) h
  have each : ∀ i, i < len → ∃ x : EntD, EntOk x ∧ EntP Any w x ⟨R i 7, R i 11, R i 16, R i 17, R i 22⟩ ∧ EntBulk x (Bf i) ∧ ∀ j u, (entCells x ⟨R i 7, R i 11, R i 16, R i 17, R i 22⟩)[j]? = some u → R i j = u := fun i hi => by
    obtain ⟨m', y', h', hb⟩ := hc i hi
    obtain ⟨x, h1, h2, h3, h4⟩ := cell_ent h'
    exact ⟨x, h1, h2, by rw [← hb]; exact h3, h4⟩
  obtain ⟨X, hX⟩ := Go.Deep.choose_lt each
  have hlen : ((List.range len).map X).length = len := by simp
  refine ⟨(List.range len).map X, ⟨R, ⟨by rw [hlen]; exact hR, .inr fun _ _ => trivial⟩, fun i hi => ?_⟩, fun x hx => ?_, by rw [hlen]; exact hl⟩
  · have hi' : i < len := by simpa using hi
    obtain ⟨_, h2, _, h4⟩ := hX i hi'
    exact ⟨⟨R i 7, R i 11, R i 16, R i 17, R i 22⟩, by simpa using h2, by simpa using h4⟩
  · obtain ⟨i, hi, rfl⟩ := List.mem_map.1 hx
    have hi' : i < len := by simpa using hi
    obtain ⟨h1, _, h3, _⟩ := hX i hi'
    have := le_sum Bf len i hi'
    exact ⟨h1, h3.mono (by omega)⟩
theorem open_ents {r : Reach} {b0 : Nat} {v : Value} {d : DataW H} {ps : List MemPlace} (hval : Value.okWide Tryz.prog w r b0 22 v) (hd : DataW.Trod enc Tryz.prog w 0 (fun _ => true) true 22 v d ps) :
    ∃ xs : List EntD, EntsP Any w v xs ∧ (∀ x ∈ xs, EntOk x ∧ EntBulk x (Rows.uptoBulk d)) ∧ xs.length ≤ maxLen := by
  obtain ⟨a, len, cap, rfl⟩ := Go.WideShapes.okWide_slice Tryz.underlying22 hval
  obtain ⟨fuel, hf⟩ := hd
  exact cell_ents (y := (d, ps)) (by simpa [Value.cells] using hf)
end
/-- What great lets pass. -/
def Small (xs : List EntD) : Prop := xs.length ≤ 100 ∧ ∀ x ∈ xs, x.frontier.length ≤ 10
set_option maxHeartbeats 2000000 in
theorem great_any (w : World) (v : Value) (xs : List EntD) (hp : EntsP Any w v xs) : Calls Tryz.prog 9 #[v] w fun e w' => ∃ z : Bool, e = .returned (.bool z) ∧ (z = false → Small xs) ∧ w' = w := by
  obtain ⟨a, cap, rfl⟩ := hp.shape
  obtain ⟨n, hn⟩ : ∃ n, n = xs.length := ⟨_, rfl⟩
  have HN := Lib.hid hn
  rw [← hn]
  have AT : Hid (∀ k, (hk : k < xs.length) → ∃ B o, a = some ⟨B, o, none⟩ ∧ ∃ vf cf, w.cell? ⟨B, o + k * 23 + 22, none⟩ = some (.slice vf xs[k].frontier.length cf)) := Lib.hid fun k hk => by
    obtain ⟨B, o, c, q, e, _, h3, h4⟩ := hp.at k hk
    injection e with e1 e2 e3
    obtain ⟨af, cf, hfv, _, _⟩ := Sl.numsAt' h3.2.2.1
    refine ⟨B, o, e1, af, cf, ?_⟩
    have := h4 22 q.fv rfl
    rw [hfv] at this
    exact this
  by_cases hgr : 100 < n
  · have e1 : (100 < (n : Int)) = True := by simp <;> omega
    clear hgr hn hp
    go_enter Tryz.func9, Tryz.ntmps9
    go_wp2
    go_ret
    exact ⟨true, rfl, fun h => (by cases h), rfl⟩
  have e1 : (100 < (n : Int)) = False := by simp <;> omega
  have HL : Hid (n ≤ 100) := Lib.hid (by omega)
  clear hgr hn hp
  go_enter Tryz.func9, Tryz.ntmps9
  go_wp2_with fail
  clear e1
  go_loopw [3] (fun i wr => ∃ k : Nat, k ≤ n ∧ i = .int .i64 k ∧ (∀ j (hj : j < xs.length), j < k → xs[j].frontier.length ≤ 10) ∧ wr = w) (fun i _ => n - (intOf i).toNat)
  case atStart => exact ⟨0, Nat.zero_le _, rfl, fun j _ h => absurd h (Nat.not_lt_zero _), rfl⟩
  case round =>
    obtain ⟨k, hk, rfl, hall, hwr⟩ := hrel
    subst hwr
    have HA := Lib.hid hall
    clear hall
    by_cases hlt : k < n
    · as_aux_lemma =>
      have hk2 : k < xs.length := by rw [← HN.out]; exact hlt
      obtain ⟨B, o, ha, vf, cf, hcell⟩ := AT.out k hk2
      subst ha
      obtain ⟨nf, hnf⟩ : ∃ nf, nf = xs[k].frontier.length := ⟨_, rfl⟩
      rw [← hnf] at hcell
      have HF := Lib.hid hnf
      have i1 : (0 : Int) ≤ (k : Int) := by omega
      have i2 : (k : Int) < (n : Int) := by omega
      have kw : wrap64 ((k : Int) + 1) = (k : Int) + 1 := by have := HL.out; unfold wrap64; omega
      clear hnf
      by_cases hf : 10 < nf
      · have f1 : (10 < (nf : Int)) = True := by simp <;> omega
        clear hf
        go_wp2
        go_ret
        exact ⟨true, rfl, fun h => (by cases h), rfl⟩
      · have f1 : (10 < (nf : Int)) = False := by simp <;> omega
        have HF2 : Hid (nf ≤ 10) := Lib.hid (by omega)
        clear hf
        go_wp2
        go_roundw
        case rel => exact ⟨k + 1, by omega, by go_num, fun j hj hjk => by
          by_cases e : j = k
          · subst e; rw [← HF.out]; exact HF2.out
          · exact HA.out j hj (by omega), by first | rfl | trivial⟩
        case measure =>
          rw [kw]
          have h9 : n - (k + 1) < n - k := by omega
          clear kw f1 i1 i2 HF HF2 HA AT hcell
          simp [intOf]; omega
    · obtain rfl : k = n := by omega
      go_wp2
      go_ret
      exact ⟨false, rfl, fun _ => ⟨by rw [← HN.out]; exact HL.out, fun x hx => by
        obtain ⟨j, hj, rfl⟩ := List.getElem_of_mem hx
        exact HA.out j hj (by rw [HN.out]; exact hj)⟩, rfl⟩
end Go.Proofs.YtpcpijecibiibaaGreat
