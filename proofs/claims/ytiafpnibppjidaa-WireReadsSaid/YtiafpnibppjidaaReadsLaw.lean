/-
  WireReads: any asks of a reader: as the document says, and it is no part of the bytes that it was made of. Every input; no conditions.
-/
import Derived.Test.YtiafpnibppjidaaAsked
import Derived.Test.YtiafpnibppjidaaRdPuts
import Derived.Test.YtiafpnibppjidaaStructs
import Derived.Test.YtiafpnibppjidaaRdRef
set_option linter.unusedVariables false
namespace Go.Proofs.Ytiafpnibppjidaa
open Go.RowKit

/-- A new reader, of whose blocks it is known that they are of now. -/
theorem new_any3 (v : Value) (l : List UInt8) (w : World) (hs : Sl w v (bytes l)) (hl : l.length ≤ 1000000000) :
    Calls Try.prog 18 #[v] w fun en w' => ∃ g, en = .returned (.pointer (some ⟨g, 0, none⟩)) ∧ Rd w' (fun k => w.heap.size ≤ k ∧ k < w'.heap.size) g l false ∧ Below w.heap.size w w' := by
  go_enter Try.func18, Try.ntmps18
  go_wp2_with fail
  refine (clone_any _ l _ hs (by omega)).mono ?_
  rintro e w1 ⟨v1, rfl, hown1, hb1⟩
  obtain ⟨a1, c1, rfl⟩ := hown1.shape
  go_wp2
  go_ret
  have hs1 := hown1.sl.below ((Below.refl _ _).alloc (Nat.le_refl _) (.cells #[.slice a1 (bytes l).length c1, .bool false] 60))
  refine ⟨w1.heap.size, rfl, ⟨⟨hb1.size, by simp⟩, _, heap_alloc_new w1 _, hs1, ?_, fun k hk => ⟨hown1.ownBlock_ge k hk, ?_⟩⟩, hb1.alloc hb1.size _⟩
  · intro h
    have := (World.ownsRow.lt hown1 _ h).2
    omega
  · have := (World.ownsRow.lt hown1 _ hk).2
    simp
    omega

theorem Sl.own_lt3 {w : World} {v : Value} {xs : List Value} (h : Sl w v xs) : xs = [] ∨ ∀ k, v.ownBlock = some k → k < w.heap.size := by
  obtain ⟨a, cap, rfl, hcap, h⟩ := h
  rcases h with h | ⟨b, off, rfl, hlt, _⟩
  · exact .inl h
  · right
    intro k hk
    obtain rfl : b = k := by simpa [Value.ownBlock] using hk
    exact hlt

set_option maxHeartbeats 4000000 in
theorem reads_walk (w : World) (vb va : Value) (l : List UInt8) (n : Nat) (R : Nat → Nat → Value) (hl : Sl w vb (bytes l)) (hr : Rows w va n 2 R)
    (hp : ∀ i, i < n → ∃ (d : Nat) (z : Int), R i 0 = .int .u8 (d : Int) ∧ R i 1 = .int .i64 z ∧ d < 256 ∧ z ≤ 9223372036854775807) :
    Calls Try.prog 7 #[vb, va] w fun e w' => e = .returned (.bool true) ∧ Below w.heap.size w w' := by
  obtain ⟨ab, cb, rfl, _, _⟩ := hl.bytes
  obtain ⟨aa, ca, rfl, hca, hrow⟩ := hr
  by_cases h5 : 400 < l.length
  · go_enter Try.func7, Try.ntmps7
    go_wp2
    all_goals (go_ret; exact ⟨rfl, Below.refl _ _⟩)
  by_cases h6 : 60 < n
  · go_enter Try.func7, Try.ntmps7
    go_wp2
    all_goals (go_ret; exact ⟨rfl, Below.refl _ _⟩)
  have hcells : ∀ k, k < n → ∃ B o d z, aa = some ⟨B, o, none⟩ ∧ B < w.heap.size ∧ d < 256 ∧ z ≤ 9223372036854775807 ∧
      (∀ W, Below w.heap.size w W → W.cell? ⟨B, o + k * 2, none⟩ = some (.int .u8 ((d : Nat) : Int)) ∧ W.cell? ⟨B, o + k * 2 + 1, none⟩ = some (.int .i64 z)) := by
    intro k hk
    obtain ⟨B, o, rfl, hB, hcell⟩ := hrow.resolve_left (by omega)
    obtain ⟨d, z, p0, p1, p2, p3⟩ := hp k hk
    refine ⟨B, o, d, z, rfl, hB, p2, p3, fun W hW => ⟨?_, ?_⟩⟩
    · rw [hW.cell (p := ⟨B, o + k * 2, none⟩) hB]; have := hcell k hk 0 (by decide); rw [p0] at this; exact this
    · rw [hW.cell (p := ⟨B, o + k * 2 + 1, none⟩) hB]; have := hcell k hk 1 (by decide); rw [p1] at this; exact this
  have HC := Lib.hid hcells
  clear hcells hp hrow
  obtain ⟨v2, w2, hr2, ho2, hg2⟩ := run_append_u8 (w.alloc (.cells #[] 5)) w.heap.size (.slice (some ⟨w.heap.size, 0, none⟩) 0 0) (.slice ab l.length cb) [] l (Own.nil_lit _ _ (Nat.le_refl _)) (hl.below ((Below.refl _ _).alloc (Nat.le_refl _) _)) (by simp; omega) (by simp)
  have b2 : Below w.heap.size w w2 := ((Below.refl _ _).alloc (Nat.le_refl _) _).grown hg2 (by simp) (fun k hk => by simp [Value.ownBlock] at hk; omega)
  rw [List.nil_append] at ho2
  go_enter Try.func7, Try.ntmps7
  go_wp2_with (at_builtin; refine wpList_run_append hr2 rfl _ _ rfl rfl rfl ?_)
  refine (new_any3 _ _ _ ho2.sl (by omega)).mono ?_
  rintro e w3 ⟨g, rfl, r3, hx⟩
  have hin : ∀ k, v2.ownBlock = some k → k < w2.heap.size := fun k hk => (World.ownsRow.lt ho2 k hk).2
  have ho3 : Own w3 w.heap.size 5 v2 (bytes l) := World.ownsRow.kept ho2 (below_grownBy hx none) (by cases h : v2.ownBlock <;> simp)
  obtain ⟨ai, ci, rfl⟩ := ho2.shape
  rw [bytes_length] at ho3 hin
  simp only [bytes_length]
  have b3 := b2.trans (hx.mono b2.size)
  have hz23 := hx.size
  have hz2 := b2.size
  clear hr2 hg2 ho2 hx b2
  go_wp2
  go_loopw [7] (fun i W => ∃ (k : Nat) (l' : List UInt8), k ≤ l.length ∧ i = .int .i64 k ∧ l'.length = l.length ∧ Own W w.heap.size 5 (.slice ai l.length ci) (bytes l') ∧ Rs W (fun k => w2.heap.size ≤ k ∧ k < w3.heap.size) g (l, false) ∧ w3.heap.size ≤ W.heap.size ∧ Below w.heap.size w W) (fun i _ => l.length - (intOf i).toNat)
  case atStart => exact ⟨0, l, Nat.zero_le _, rfl, rfl, ho3, r3, Nat.le_refl _, b3⟩
  case round =>
    clear ho3 r3 b3
    obtain ⟨k, l', hk, rfl, hl', ho, rr, hzw, br⟩ := hrel
    by_cases hlt : k < l.length
    · have ho' : Own wr w.heap.size 5 (.slice ai l'.length ci) (bytes l') := by rw [hl']; exact ho
      obtain ⟨gI, c', he, hgI, _, _⟩ := Own.form ho' (by intro h; have h2 := congrArg List.length h; rw [bytes_length] at h2; have h3 : l'.length = 0 := h2; omega)
      injection he with e1 e2 e3
      subst e1 e3
      have hgI2 : gI < w2.heap.size := hin gI rfl
      obtain ⟨c0, hc0⟩ : ∃ c, l'[k]? = some c := ⟨_, List.getElem?_eq_getElem (by omega)⟩
      have cg := ho'.cellByte k c0 hc0
      have fg := ho'.frozenByte k
      have HOWN := Lib.hid (ho'.storeByte k (UInt8.ofNat (c0.toNat + 1)))
      have hce : ((UInt8.ofNat (c0.toNat + 1)).toNat : Int) = ((c0.toNat : Int) + 1) % 256 := by rw [UInt8.toNat_ofNat']; simp
      rw [hce, hl'] at HOWN
      have g9 := fun u => grownBy_setCell wr gI k u
      clear ho ho' hc0 hce
      go_wp2
      go_roundw
      case rel =>
        exact ⟨k + 1, l'.set k (UInt8.ofNat (c0.toNat + 1)), by omega, by go_num, by simp [hl'], HOWN.out, Rd.grown rr (g9 _) (fun k hk => by cases hk; exact fun h => absurd h.1 (Nat.not_le.2 hgI2)), by simpa using hzw, br.setCell (p := ⟨gI, k, none⟩) hgI _⟩
      case measure => simp [intOf]; omega
    · obtain rfl : k = l.length := by omega
      have hlb := hl.below br
      have hlo := hl.own_lt3
      clear ho
      go_wp2
      generalize hWq : wr.alloc (Obj.cells #[Value.slice ab l.length cb, Value.int IntKind.i64 0, Value.bool false] 48) = Wq
      have bq : Below wr.heap.size wr Wq := by rw [← hWq]; exact (Below.refl _ _).alloc (Nat.le_refl _) _
      have hf : Fast (fun k => w2.heap.size ≤ k ∧ k < w3.heap.size) g wr.heap.size ab cb l :=
        ⟨rr.1, fun h => absurd h.2 (Nat.not_lt.2 hzw), hlo.imp id fun h k hk => by have := h k hk; have := rr.1.1; omega, hlo.imp id fun h k hk => by have := h k hk; omega, by omega⟩
      have bo : Both Wq (fun k => w2.heap.size ≤ k ∧ k < w3.heap.size) g wr.heap.size ab cb l (l, false) :=
        ⟨Rd.grown rr (below_grownBy bq none) (by simp), ⟨0, by rw [← hWq]; exact heap_alloc_new wr _, Nat.zero_le _, rfl⟩, hlb.below bq⟩
      have b5 := br.trans (bq.mono br.size)
      have hgW : w.heap.size ≤ g := Nat.le_trans hz2 rr.1.1
      have hqW : w.heap.size ≤ wr.heap.size := br.size
      clear rr hlb hlo bq br hWq
      go_loopw [9] (fun i W => ∃ (k : Nat) (s : RS), k ≤ n ∧ i = .int .i64 k ∧ Both W (fun k => w2.heap.size ≤ k ∧ k < w3.heap.size) g wr.heap.size ab cb l s ∧ Below w.heap.size w W) (fun i _ => n - (intOf i).toNat)
      case atStart => exact ⟨0, _, Nat.zero_le _, rfl, bo, b5⟩
      case round =>
        clear bo b5
        obtain ⟨k, s, hk, rfl, bo, br⟩ := hrel
        by_cases hlt : k < n
        · obtain ⟨B, o, d, z, rfl, hB, hd, hz, hc⟩ := HC.out k hlt
          obtain ⟨c0, c1⟩ := hc _ br
          clear hc
          go_wp2_with fail
          refine (asked_any _ _ g _ ab cb l s d z bo hf hd hz).mono ?_
          rintro e w6 ⟨rfl, bo6, ch6⟩
          have b6 : Below w.heap.size w w6 := ⟨ch6.os.trans br.os, ch6.tape.trans br.tape, ch6.output.trans br.output, Nat.le_trans br.size ch6.size, fun k hk => by
            rw [ch6.block k (Nat.lt_of_lt_of_le hk br.size) (by rintro (h | h) <;> omega)]; exact br.block k hk⟩
          clear bo br ch6
          go_wp2
          go_roundw
          case rel => exact ⟨k + 1, _, by omega, by go_num, bo6, b6⟩
          case measure => simp [intOf]; omega
        · obtain rfl : k = n := by omega
          go_wp2_with fail
          refine (asked_any _ _ g _ ab cb l s 6 0 bo hf (by decide) (by decide)).mono ?_
          rintro e w6 ⟨rfl, bo6, ch6⟩
          have b6 : Below w.heap.size w w6 := ⟨ch6.os.trans br.os, ch6.tape.trans br.tape, ch6.output.trans br.output, Nat.le_trans br.size ch6.size, fun k hk => by
            rw [ch6.block k (Nat.lt_of_lt_of_le hk br.size) (by rintro (h | h) <;> omega)]; exact br.block k hk⟩
          clear bo br ch6
          go_wp2_with fail
          refine (puts_any _).mono ?_
          rintro e w7 ⟨rfl, h7⟩
          go_wp2
          go_ret
          exact ⟨rfl, b6.trans (h7.mono b6.size)⟩

open Go.ChangeShapes Go.WideShapes Go.ChangeAt Go.RowKit
open Go.ChangeMaps (open_string shut_string)
theorem own_wireReads : ownKnob Try.prog.godebug = none := by kernel_rfl
theorem laidOut_wireReads : laidOutB Try.prog = true := by kernel_rfl
set_option maxRecDepth 100000 in
theorem lifted_wireReads (os : Os) (started : os.Started) (H : Type) (enc : TypeId × Value → H) :
    ReturnsInHanded {} Try.checked os 7 .any (Rows.wireReadsSpec.pre6 enc Try.prog Try.f7 Rows.wireReadsRow.domain false) (Rows.wireReadsSpec.post enc Try.prog Try.f7 false true false false) := by
  refine returnsInHanded_of_change (C := Try.checked) own_wireReads started (by kernel_rfl) Try.func7
    (ChangeSpec.witness6 (enc := enc) (C := Try.checked) false ⟨#[], #[.slice none 0 0, .slice none 0 0], []⟩ 8 (by kernel_rfl) (by kernel_rfl) (by kernel_rfl) (by kernel_rfl)) ?_
  intro W base args ds gs before hval0 hW hcnd _
  have hval : ∀ (j : Nat) t v, Try.f7.params[j]? = some t → args[j]? = some v → Value.okWide Try.prog W .any base t v := hval0
  have hW' := hW
  obtain ⟨p, q, hA0, hV, rfl, hfz, hnd⟩ := hW
  have hA : DataW.TrodAll enc Try.prog W 0 (fun _ => true) true Try.f7.params.toList args.toList ds p := hA0
  rw [Try.params7] at hA hval
  obtain ⟨v0, vs0, d0, ds0, p0, q0, hargs, rfl, rfl, k0, r0⟩ := trodAll_cons hA
  obtain ⟨v1, vs1, d1, ds1, p1, q1, rfl, rfl, rfl, k1, r1⟩ := trodAll_cons r0
  obtain ⟨rfl, rfl, rfl⟩ := trodAll_nil r1
  obtain rfl : args = #[v0, v1] := by cases args; simp_all
  obtain ⟨rfl, rfl⟩ := trodVars_none hV
  have lt0 : ∀ x ∈ p0, x.block < W.heap.size := by obtain ⟨m, hm⟩ := k0; exact DataW.trod_lt m _ _ _ hm
  have lt1 : ∀ x ∈ p1, x.block < W.heap.size := by obtain ⟨m, hm⟩ := k1; exact DataW.trod_lt m _ _ _ hm
  obtain ⟨l0, s0, w0⟩ := open_bytes Try.underlying23 Try.underlying5 (by kernel_rfl) (hval 0 23 v0 rfl rfl) k0
  obtain ⟨n1, R1, s1, w1, f1⟩ := open_rows Try.underlying45 Try.underlying51 (by kernel_rfl) (by kernel_rfl) (by decide) (hval 1 45 v1 rfl rfl) k1
  clear hA0 hval0
  refine (reads_walk W v0 v1 l0 n1 R1 s0 s1 (fun i hi => by obtain ⟨_, _, h0⟩ := f1 i hi 0 _ rfl; obtain ⟨_, _, h1⟩ := f1 i hi 1 _ rfl; obtain ⟨d, hd, ld⟩ := cell_nat rfl Try.underlying5 h0; obtain ⟨z, hz, _, h2⟩ := cell_int Try.underlying3 h1; exact ⟨d, z, hd, hz, ld, h2⟩) ).mono fun e W' ⟨he, bel⟩ => ?_
  subst he
  exact ⟨_, rfl, _, _, _, [], _, [], hW', trodAll_mk1 (shut_bool Try.underlying4 _), (trodAll_cons_mk (Below.trod laidOut_wireReads (by kernel_rfl) (of_decide_eq_true (by kernel_rfl)) k0 bel lt0) (trodAll_cons_mk (Below.trod laidOut_wireReads (by kernel_rfl) (of_decide_eq_true (by kernel_rfl)) k1 bel lt1) trodAll_mk0)), rfl, bel.frame _, fun h => by cases h⟩

theorem over_wireReads : Rows.wireReadsRow.holds Try.pinned (OpenSpec.ofChange Rows.wireReadsSpec) :=
  OpenClaim.holds_of_wide 7 Try.f7 rfl rfl rfl rfl rfl rfl rfl ⟨rfl, rfl, rfl, rfl, rfl⟩ rfl rfl rfl rfl rfl (by kernel_rfl) Try.func7 (by kernel_rfl)
    (of_decide_eq_true (by kernel_rfl)) (by unfold Func.isWrapper; first | (rw [if_pos (by decide +kernel)]; kernel_rfl) | (rw [if_neg (by decide +kernel)]; exact ⟨rfl, rfl⟩))
    (fun os started H enc _ => lifted_wireReads os started H enc)

theorem wireReads_proved : Rows.WireReadsSaid := over_wireReads
#print axioms wireReads_proved
end Go.Proofs.Ytiafpnibppjidaa
