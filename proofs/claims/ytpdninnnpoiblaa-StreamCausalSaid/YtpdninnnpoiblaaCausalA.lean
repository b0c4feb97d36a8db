/-
  StreamCausal: sites that take only what is ready have all in order, and ahead of each what its stamp says; as soon as all have asked all again and again, they have the same. Every input; no conditions.
-/
import Derived.Test.YtpdninnnpoiblaaSCz
import Derived.Test.YtpdninnnpoiblaaVecNew
import Derived.Test.YtpdninnnpoiblaaArr
set_option linter.unusedVariables false
namespace Go.Proofs.Ytpdninnnpoiblaa
open Go.RowKit

/-- Steps as an argument. -/
def StepsL (w : World) (v : Value) (l : List (Nat × Nat × Nat)) : Prop :=
  ∃ R, Rows w v l.length 3 R ∧ ∀ i (h : i < l.length), R i 0 = .int .u8 (l[i].1 : Int) ∧ R i 1 = .int .u8 (l[i].2.1 : Int) ∧ R i 2 = .int .u8 (l[i].2.2 : Int) ∧ l[i].1 < 256 ∧ l[i].2.1 < 256 ∧ l[i].2.2 < 256
section
open Go.ChangeShapes Go.WideShapes Go.ChangeAt Go.Deep
variable {H : Type} {enc : TypeId × Value → H} {w : World}
theorem open_steps {r : Reach} {b0 : Nat} {v : Value} {d : DataW H} {ps : List MemPlace} (hval : Value.okWide Try.prog w r b0 49 v) (hd : DataW.Trod enc Try.prog w 0 (fun _ => true) true 49 v d ps) : ∃ l : List (Nat × Nat × Nat), StepsL w v l ∧ l.length ≤ maxLen := by
  obtain ⟨len, R, hR, hl, hc⟩ := open_rowsK (k := 3) Try.underlying49 (by kernel_rfl) (by decide) hval hd
  have each : ∀ i, i < len → ∃ x : Nat × Nat × Nat, R i 0 = .int .u8 (x.1 : Int) ∧ R i 1 = .int .u8 (x.2.1 : Int) ∧ R i 2 = .int .u8 (x.2.2 : Int) ∧ x.1 < 256 ∧ x.2.1 < 256 ∧ x.2.2 < 256 := fun i hi => by
    obtain ⟨m', y', h'⟩ := hc i hi
    obtain ⟨m0, y0, g0⟩ := trod_at Try.underlying54 h' 0 _ rfl
    obtain ⟨m1, y1, g1⟩ := trod_at Try.underlying54 h' 1 _ rfl
    obtain ⟨m2, y2, g2⟩ := trod_at Try.underlying54 h' 2 _ rfl
    obtain ⟨a, e0, l0⟩ := cell_nat (v := R i 0) (k := .u8) rfl Try.underlying5 g0
    obtain ⟨b, e1, l1⟩ := cell_nat (v := R i 1) (k := .u8) rfl Try.underlying5 g1
    obtain ⟨c, e2, l2⟩ := cell_nat (v := R i 2) (k := .u8) rfl Try.underlying5 g2
    exact ⟨(a, b, c), e0, e1, e2, l0, l1, l2⟩
  obtain ⟨X, hX⟩ := Go.Deep.choose_lt each
  refine ⟨(List.range len).map X, ⟨R, by simpa using hR, fun i hi => ?_⟩, by simpa using hl⟩
  have hi' : i < len := by simpa using hi
  simpa using hX i hi'
end
def rawC (l : List (Nat × Nat × Nat)) (k : Nat) : Nat × Nat × Nat := match l[k]? with | some x => x | none => (1, k % 3, k / 3 % 3)
theorem actC_raw (l : List (Nat × Nat × Nat)) (k : Nat) : actC l k = ((rawC l k).1 % 2 == 0, (rawC l k).2.1 % 3, (rawC l k).2.2 % 3) := by
  unfold actC rawC
  cases l[k]? <;> simp
/-- The state in memory. -/
def CzR (w W : World) (O H V : Nat) (own has : Nat → List ItemD) (v : Nat → List Nat) (nx : Value × List ItemD) : Prop :=
  ∃ f u, CzF W w.heap.size O H V f u v ∧ (∀ i, i < 3 → (f i).2 = own i) ∧ (∀ i, i < 3 → (f (i + 3)).2 = has i) ∧ f 6 = nx ∧ Below w.heap.size w W
theorem CzR.gr {w W W' : World} {O H V : Nat} {own has : Nat → List ItemD} {v : Nat → List Nat} {nx : Value × List ItemD} (h : CzR w W O H V own has v nx) (g : Gr W W') : CzR w W' O H V own has v nx := by
  obtain ⟨f, u, c, h1, h2, h3, h4⟩ := h
  exact ⟨f, u, c.gr g, h1, h2, h3, Below.trans h4 (g.mono h4.size)⟩
theorem CzR.keep {w W W' : World} {O H V : Nat} {own has : Nat → List ItemD} {v : Nat → List Nat} {nx : Value × List ItemD} (h : CzR w W O H V own has v nx) (hk : ∀ (j : Nat) (cs : Array Value) (t : TypeId) (fr : Nat × Nat), t ≠ 54 → W.heap[j]? = some (.cells cs t fr) → W'.heap[j]? = W.heap[j]?) (hb : Below w.heap.size w W') : CzR w W' O H V own has v nx := by
  obtain ⟨f, u, c, h1, h2, h3, h4⟩ := h
  exact ⟨f, u, c.keep hk, h1, h2, h3, hb⟩
theorem cell_lt {W : World} {b i : Nat} {v : Value} (h : W.cell? ⟨b, i, Option.none⟩ = some v) : b < W.heap.size := by
  rcases Nat.lt_or_ge b W.heap.size with h1 | h1
  · exact h1
  · simp [World.cell?, Array.getElem?_eq_none h1] at h
theorem Gr.cell' {W W' : World} (g : Gr W W') {b i : Nat} {v : Value} (h : W.cell? ⟨b, i, Option.none⟩ = some v) : W'.cell? ⟨b, i, Option.none⟩ = W.cell? ⟨b, i, Option.none⟩ := g.cell (p := ⟨b, i, Option.none⟩) (cell_lt h)
theorem Gr.drew0 {W W' : World} (g : Gr W.drew W') {b i : Nat} {v : Value} (h : W.cell? ⟨b, i, Option.none⟩ = some v) : W'.cell? ⟨b, i, Option.none⟩ = some v := by
  have g2 : Gr W W' := Gr.trans ((Gr.refl W).drew) g
  rw [g2.cell' h]; exact h
theorem mono_eff (B : Nat) (es : List EffD) : MonoSp (fun r W => EffsK W W B r es es.length) := fun _ _ _ g h => (h.below g).full
theorem mono_effx (B : Nat) (x : ItemD) (sv : Value) : MonoSp (fun r W => ∃ ev, r = .agg (itemCells x sv ev) ∧ EffsK W W B ev [effG] 1) := fun _ _ _ g ⟨ev, e, h⟩ => ⟨ev, e, (EffsK.below h g).full⟩
theorem mono_ptr (N : Nat) : MonoSp (fun r W => ∃ X, r = .pointer (some ⟨X, 0, Option.none⟩) ∧ N ≤ X ∧ CellsAt W X zItem 33) := fun _ _ _ g ⟨X, e, h1, h2⟩ => ⟨X, e, h1, h2.gr g⟩
theorem chk0 (w : World) (x : ItemD) (sv ev : Value) (h0 : checkV x 3 1 = 0) (hx : ItemIs w x sv ev) (hok : ItemOk x) (hn : NumOk x) : Calls Try.prog 12 #[.agg (itemCells x sv ev), .int .i64 3, .int .i64 1] w fun e w' => e = .returned (.int .i64 0) ∧ Gr w w' := by
  have := check_any w x sv ev 3 1 hx hok hn (by decide)
  rwa [h0] at this
theorem rdy1 (w : World) (x : ItemD) (sv ev vv : Value) (v : List Nat) (h0 : readyV x v = true) (hx : ItemIs w x sv ev) (hv : Sl w vv (nums v)) (hok : ItemOk x) (hn : NumOk x) (hl : v.length ≤ 100000) : Calls Try.prog 14 #[.agg (itemCells x sv ev), vv] w fun e w' => e = .returned (.bool true) ∧ Gr w w' := by
  have := ready_any w x sv ev vv v hx hv hok hn hl
  rwa [h0] at this
theorem rdyb (w : World) (x : ItemD) (sv ev vv : Value) (v : List Nat) (r : Bool) (h0 : r = readyV x v) (hx : ItemIs w x sv ev) (hv : Sl w vv (nums v)) (hok : ItemOk x) (hn : NumOk x) (hl : v.length ≤ 100000) : Calls Try.prog 14 #[.agg (itemCells x sv ev), vv] w fun e w' => e = .returned (.bool r) ∧ Gr w w' := by
  have := ready_any w x sv ev vv v hx hv hok hn hl
  rwa [← h0] at this
theorem leqt (w : World) (va vb : Value) (xs ys : List Nat) (h0 : leqV xs ys = true) (ha : Sl w va (nums xs)) (hb : Sl w vb (nums ys)) (hx : xs.length ≤ 1000000) (hy : ys.length ≤ 1000000) : Calls Try.prog 18 #[va, vb] w fun e w' => e = .returned (.bool true) ∧ Gr w w' := by
  have := leq_any w va vb xs ys ha hb hx hy
  rwa [h0] at this
theorem seenV_len (hs : List ItemD) : (seenV hs).length = 3 := by
  have h : ∀ (hs : List ItemD) (v : List Nat), v.length = 3 → (hs.foldl (fun v x => incV v x.origin) v).length = 3 := by
    intro hs
    induction hs with
    | nil => exact fun v h => h
    | cons x hs ih => exact fun v h => ih _ (by rw [incV_len]; exact h)
  exact h hs _ rfl
theorem effG_forms : Forms [effG] := fun x hx => by
  rw [List.mem_singleton.1 hx]
  exact ⟨0, 0, 0, 0, 0, 0, 0, 0, rfl⟩
def vK (k : Nat) : Nat → List Nat := fun i => if i < k then [0, 0, 0] else []
theorem tab_of_arr {w : World} {g : Nat} {t : TypeId} {z : Value} (h : Arr w g 3 t (fun _ => z)) : Tab w g t (fun _ => z) := by
  obtain ⟨c, h1, h2, h3⟩ := h
  unfold Tab
  rw [h1]
  congr 2
  apply Array.ext_getElem?
  intro i
  by_cases hi : i < 3
  · rw [h3 i hi]
    match i, hi with
    | 0, _ => rfl
    | 1, _ => rfl
    | 2, _ => rfl
  · rw [Array.getElem?_eq_none (by omega), Array.getElem?_eq_none (by simp; omega)]
theorem info_items : (Try.prog.info? 22).map (fun i => (i.zero, i.size, i.bytes)) = some (some (.slice none 0 0), 1, 24) := by kernel_rfl
theorem info_nums : (Try.prog.info? 24).map (fun i => (i.zero, i.size, i.bytes)) = some (some (.slice none 0 0), 1, 24) := by kernel_rfl
theorem make_items (w : World) : ∃ w', (Instr.makeSlice 50 (.int .i64 3) (.int .i64 3)).run Try.prog w = .ok (.slice (some ⟨w.heap.size, 0, none⟩) 3 3) w' ∧ Tab w' w.heap.size 22 (fun _ => .slice none 0 0) ∧ Gr w w' := by
  obtain ⟨i0, hi0, hz0, hz1, hz2⟩ := info_parts info_items
  obtain ⟨w', h1, h2, h3⟩ := run_make_arr w 50 22 i0 _ 24 Try.underlying50 hi0 hz0 hz1 hz2 rfl 3 (by decide) (by decide)
  exact ⟨w', h1, tab_of_arr h2, h3⟩
theorem make_nums (w : World) : ∃ w', (Instr.makeSlice 51 (.int .i64 3) (.int .i64 3)).run Try.prog w = .ok (.slice (some ⟨w.heap.size, 0, none⟩) 3 3) w' ∧ Tab w' w.heap.size 24 (fun _ => .slice none 0 0) ∧ Gr w w' := by
  obtain ⟨i0, hi0, hz0, hz1, hz2⟩ := info_parts info_nums
  obtain ⟨w', h1, h2, h3⟩ := run_make_arr w 51 24 i0 _ 24 Try.underlying51 hi0 hz0 hz1 hz2 rfl 3 (by decide) (by decide)
  exact ⟨w', h1, tab_of_arr h2, h3⟩
theorem eff_own (w : World) (B : Nat) (hB : B ≤ w.heap.size) : EffsK (w.alloc (.cells (effRow effG (.slice none 0 0)).toArray 45)) (w.alloc (.cells (effRow effG (.slice none 0 0)).toArray 45)) B (.slice (some ⟨w.heap.size, 0, none⟩) 1 1) [effG] 1 :=
  ⟨[effRow effG (.slice none 0 0)], OwnR.lit w 45 11 _ _ (by simp) (by intro r hr; rw [List.mem_singleton.1 hr]; rfl) (by unfold maxLen; decide) hB, rfl, fun i hi => by
    obtain rfl : i = 0 := by simp at hi; omega
    exact ⟨effG_ok, .slice none 0 0, rfl, fun _ => ⟨Own.nil0 _ _ _, fun b hb => by cases hb⟩, fun h => absurd h (by decide)⟩⟩
theorem itemC_ok (i : Nat) {st : List Nat} (hs : st.length = 3) : ItemOk (itemC i st) := ⟨by show st.length ≤ _; omega, by simp [itemC]⟩
theorem itemC_n {i : Nat} (hi : i < 3) {st : List Nat} (h : st.getD i 0 < 1000000) : NumOk (itemC i st) := ⟨by show st.getD i 0 + 1 < _; omega, by show -9223372036854775808 ≤ (i : Int); omega, by show (i : Int) ≤ _; omega⟩
theorem itemC_check {i : Nat} (hi : i < 3) {st : List Nat} (hs : st.length = 3) : checkV (itemC i st) 3 1 = 0 := by
  have : badV (itemC i st) 3 1 = false := by
    unfold badV writeV closesV itemC
    simp [hs]
    omega
  unfold checkV
  rw [this]; rfl
theorem takeV_len3 (j : Nat) : ∀ (xs hs : List ItemD) (v : List Nat), v.length = 3 → (takeV j xs (hs, v)).2.length = 3
  | [], _, _, h => h
  | x :: xs, hs, v, h => by
    unfold takeV
    split
    · exact takeV_len3 j xs _ _ (by rw [incV_len]; exact h)
    · exact takeV_len3 j xs _ _ h
theorem takeV_fst (j : Nat) : ∀ (xs hs : List ItemD) (v : List Nat), (takeV j xs (hs, v)).1.length ≤ hs.length + xs.length
  | [], _, _ => Nat.le_refl _
  | x :: xs, hs, v => by
    unfold takeV
    split
    · have := takeV_fst j xs (hs ++ [x]) (incV v (j : Int))
      simp only [List.length_append, List.length_cons, List.length_nil] at this ⊢
      omega
    · have := takeV_fst j xs hs v
      simp only [List.length_cons]
      omega
theorem nextV_len8 (hv : Nat) (xs : List ItemD) : (nextV hv xs).length ≤ 8 := by unfold nextV; rw [List.length_take]; omega
theorem takeV_snoc (j : Nat) : ∀ (xs : List ItemD) (x : ItemD) (p : List ItemD × List Nat), takeV j (xs ++ [x]) p = if readyV x (takeV j xs p).2 then ((takeV j xs p).1 ++ [x], incV (takeV j xs p).2 (j : Int)) else takeV j xs p
  | [], x, p => rfl
  | y :: ys, x, p => takeV_snoc j ys x _
set_option maxHeartbeats 0 in
set_option maxRecDepth 100000 in
def causal_split : (P1 : Prop) ×' (P2 : Prop) ×' (P3 : Prop) ×' (Hid P1 → Hid P2 → Hid P3 → ∀ (w : World) (lv : Value) (l : List (Nat × Nat × Nat)) (hs : StepsL w lv l) (hm : l.length ≤ maxLen),
    Calls Try.prog 7 #[lv] w fun e w' => e = .returned (.bool true) ∧ Below w.heap.size w w') := by
  refine' ⟨_, _, _, fun hP1 hP2 hP3 w lv l hs hm => _⟩
  rotate_left 3
  · skip
    obtain ⟨R, hR, hx⟩ := hs
    obtain ⟨a0, c0, rfl⟩ : ∃ a c, lv = .slice a l.length c := by obtain ⟨a, c, e, _⟩ := hR; exact ⟨a, c, e⟩
    have HR := Lib.hid hR
    have HX := Lib.hid hx
    clear hR hx
    obtain ⟨n, hn⟩ : ∃ n, n = l.length := ⟨_, rfl⟩
    rw [← hn] at hm ⊢
    have HN := Lib.hid hn
    unfold maxLen at hm
    clear hn
    by_cases h60 : 60 < n
    · go_enter Try.func7, Try.ntmps7
      go_wp2
      go_ret
      exact ⟨rfl, Below.refl _ _⟩
    have h60' : n ≤ 60 := by omega
    obtain ⟨w1, r1, t1, g1⟩ := make_items w
    obtain ⟨w2, r2, t2, g2⟩ := make_items w1
    obtain ⟨w3, r3, t3, g3⟩ := make_nums w2
    obtain ⟨O, hO⟩ : ∃ O, O = w.heap.size := ⟨_, rfl⟩
    obtain ⟨H, hH⟩ : ∃ H, H = w1.heap.size := ⟨_, rfl⟩
    obtain ⟨V, hV⟩ : ∃ V, V = w2.heap.size := ⟨_, rfl⟩
    have l1 := t1.lt
    have l2 := t2.lt
    rw [← hO] at t1 r1 l1
    rw [← hH] at t2 r2 l2
    rw [← hV] at t3 r3
    have hs1 := g1.size
    have hs2 := g2.size
    have c0 : CzF w3 w.heap.size O H V (fun _ => (.slice none 0 0, [])) (fun _ => .slice none 0 0) (vK 0) :=
      ⟨⟨fun i _ => ItemsT.nil _ _, fun i j _ _ _ g h => by cases h⟩, fun i _ => Own.nil0 _ _ _, (g3.block _ (by omega)).trans ((g2.block _ (by omega)).trans t1), (g3.block _ (by omega)).trans t2, t3, by omega, by omega, by omega, by omega⟩
    have HC0 := Lib.hid c0
    have G3 := Lib.hid (Gr.trans g1 (Gr.trans g2 g3))
    have HV := Lib.hid (show V < w3.heap.size from t3.lt)
    clear t1 t2 t3 g1 g2 g3 hs1 hs2 l1 l2 hO hH hV c0
    go_enter Try.func7, Try.ntmps7
    go_wp2
    clear r1 r2 r3
    go_loopw [6] (fun i W => ∃ k : Nat, k ≤ 3 ∧ i = .int .i64 k ∧ (∃ u, CzF W w.heap.size O H V (fun _ => (.slice none 0 0, [])) u (vK k)) ∧ Below w.heap.size w W) (fun i _ => 3 - (intOf i).toNat)
    case atStart => exact ⟨0, Nat.zero_le _, rfl, ⟨_, HC0.out⟩, G3.out⟩
    case round =>
      obtain ⟨k, hk, rfl, ⟨u, cz⟩, hb⟩ := hrel
      have HC := Lib.hid cz
      have HB := Lib.hid hb
      clear cz hb
      by_cases hlt : k < 3
      · go_wp2_with fail
        refine (new_n _ 3).mono ?_
        rintro e w4 ⟨v4, rfl, ho, g4⟩
        have hnv : newV 3 = [0, 0, 0] := by rfl
        rw [hnv] at ho
        obtain ⟨a4, c4, e4⟩ := ho.shape
        have C4 := Lib.hid (HC.out.gr g4)
        have HO4 := Lib.hid (ho.mono (base' := w.heap.size) HB.out.size)
        have B4 := Lib.hid (Below.trans HB.out (g4.mono HB.out.size))
        clear ho g4 hnv
        have q1 := C4.out.t.cell k hlt
        have q2 := C4.out.t.frozen k
        have c5 := C4.out.setV k hlt v4 _ HO4.out
        have C5 := Lib.hid c5
        have B5 := Lib.hid (Below.setCell B4.out C4.out.bv (p := ⟨V, k, none⟩) v4)
        have q3 := c5.t.cell k hlt
        rw [upd_self] at q3
        have e4' : v4 = .slice a4 3 c4 := e4
        rw [e4'] at C5 B5 q3 ⊢
        clear c5 e4 HO4
        go_wp2_with fail
        go_roundw
        case rel => exact ⟨k + 1, by omega, by go_num, ⟨_, C5.out.congr (fun i _ => rfl) (fun i _ => rfl) (fun i _ => by unfold vK upd; by_cases e : i = k <;> simp [e]; by_cases e2 : i < k <;> simp [e2] <;> omega)⟩, B5.out⟩
        case measure => simp [intOf]; omega
      · obtain rfl : k = 3 := by omega
        have HR0 : Hid (CzR w wr O H V st0.own st0.has st0.v (.slice none 0 0, [])) := Lib.hid ⟨_, _, HC.out.congr (fun i _ => rfl) (fun i _ => rfl) (fun i hi => by unfold vK; rw [if_pos hi]; rfl), fun i _ => rfl, fun i _ => rfl, rfl, HB.out⟩
        clear HC HB HC0 G3 HV
        go_wp2_with fail
        go_loopw [7] (fun i W => ∃ k : Nat, k ≤ n + 200 ∧ i = .int .i64 k ∧ ∃ nx, CzR w W O H V (runC l k).own (runC l k).has (runC l k).v nx) (fun i _ => n + 200 - (intOf i).toNat)
        case atStart => exact ⟨0, Nat.zero_le _, rfl, _, HR0.out⟩
        case round =>
          clear HR0
          obtain ⟨k, hk, rfl, nx, hcz⟩ := hrel
          have HCZ := Lib.hid hcz
          clear hcz
          by_cases hlt : k < n + 200
          · have HINV := Lib.hid (inv_run l (by rw [← HN.out]; exact h60') k)
            have hol := own_len l k
            have hhl := has_len l (by rw [← HN.out]; exact h60') k
            have HOL := Lib.hid hol
            have HHL := Lib.hid hhl
            clear hol hhl
            obtain ⟨s, hs⟩ : ∃ s, s = runC l k := ⟨_, rfl⟩
            have hsn : runC l (k + 1) = stepC k s (actC l k) := by rw [hs]; rfl
            rw [← hs] at HCZ HINV HOL HHL
            obtain ⟨d, hd⟩ : ∃ d, d = (rawC l k).1 := ⟨_, rfl⟩
            obtain ⟨aa, haa⟩ : ∃ d, d = (rawC l k).2.1 := ⟨_, rfl⟩
            obtain ⟨ff, hff⟩ : ∃ d, d = (rawC l k).2.2 := ⟨_, rfl⟩
            rw [actC_raw, ← hd, ← haa, ← hff] at hsn
            have HSN := Lib.hid hsn
            have hraw : rawC l k = (d, aa, ff) := by rw [hd, haa, hff]
            have hlate : n ≤ k → d = 1 ∧ aa = k % 3 ∧ ff = k / 3 % 3 := fun h => by rw [hd, haa, hff]; unfold rawC; rw [List.getElem?_eq_none (by rw [← HN.out]; exact h)]; exact ⟨rfl, rfl, rfl⟩
            have hsoon : ∀ h : k < n, l[k]'(by rw [← HN.out]; exact h) = (d, aa, ff) := fun h => by rw [← hraw]; unfold rawC; rw [List.getElem?_eq_getElem (by rw [← HN.out]; exact h)]
            have hd256 : d < 256 ∧ aa < 256 ∧ ff < 256 := by
              by_cases h : k < n
              · have h2 := HX.out k (by rw [← HN.out]; exact h)
                rw [hsoon h] at h2
                exact h2.2.2.2
              · have := hlate (by omega)
                omega
            have HLATE := Lib.hid hlate
            have HSOON := Lib.hid hsoon
            have hk1 : ((k : Int).tmod 3) = ((k % 3 : Nat) : Int) := by rw [Int.tmod_eq_emod_of_nonneg (by omega)]; omega
            have hk2 : ((k : Int).tdiv 3) = ((k / 3 : Nat) : Int) := by rw [Int.tdiv_eq_ediv_of_nonneg (by omega)]; omega
            have hk3 : (((k / 3 : Nat) : Int).tmod 3) = ((k / 3 % 3 : Nat) : Int) := by rw [Int.tmod_eq_emod_of_nonneg (by omega)]; omega
            clear hs hd haa hff hsn hraw hlate hsoon
            go_upto_if 56 with fail
            have HB0 : Hid (Gr w wr) := Lib.hid (by obtain ⟨_, _, _, _, _, _, h⟩ := HCZ.out; exact h)
            go_cut [8] (fun s8 wx => s8 = .pointer (some ⟨wr.heap.size, 0, none⟩) ∧ wx.cell? ⟨wr.heap.size, 0, none⟩ = some (.int .u8 (d : Int)) ∧ wx.cell? ⟨wr.heap.size, 1, none⟩ = some (.int .u8 (aa : Int)) ∧ wx.cell? ⟨wr.heap.size, 2, none⟩ = some (.int .u8 (ff : Int)) ∧ CzR w wx O H V s.own s.has s.v nx)
            case first =>
              by_cases hkn : k < n
              · obtain ⟨Bl, ol, rfl, hBl, hcell⟩ := rows_at HR.out k (by rw [← HN.out]; exact hkn)
                have h2 := HX.out k (by rw [← HN.out]; exact hkn)
                rw [HSOON.out hkn] at h2
                have ga : Gr w (wr.alloc (.cells #[.int .u8 1, .int .u8 ((k : Int) % 3), .int .u8 ((k : Int) / 3 % 3)] 54)) := HB0.out.alloc _
                have p0 : (wr.alloc (.cells #[.int .u8 1, .int .u8 ((k : Int) % 3), .int .u8 ((k : Int) / 3 % 3)] 54)).cell? ⟨Bl, ol + k * 3, none⟩ = some (R k 0) := (ga.cell (p := ⟨Bl, ol + k * 3, none⟩) hBl).trans (hcell 0 (by decide))
                have p1 := (ga.cell (p := ⟨Bl, ol + k * 3 + 1, none⟩) hBl).trans (hcell 1 (by decide))
                have p2 := (ga.cell (p := ⟨Bl, ol + k * 3 + 2, none⟩) hBl).trans (hcell 2 (by decide))
                rw [h2.1] at p0
                rw [h2.2.1] at p1
                rw [h2.2.2.1] at p2
                clear hcell h2 ga
                go_wp2_with fail
                go_meet
                exact ⟨rfl, (CellsAt.new wr _ 54).cell 0, (CellsAt.new wr _ 54).cell 1, (CellsAt.new wr _ 54).cell 2, HCZ.out.gr ((Gr.refl _).alloc _)⟩
              · have hl := HLATE.out (by omega)
                go_wp2_with fail
                go_meet
                have e1 : (d : Int) = 1 := by omega
                have e2 : (aa : Int) = (k : Int) % 3 := by omega
                have e3 : (ff : Int) = (k : Int) / 3 % 3 := by omega
                rw [e1, e2, e3]
                exact ⟨rfl, (CellsAt.new wr _ 54).cell 0, (CellsAt.new wr _ 54).cell 1, (CellsAt.new wr _ 54).cell 2, HCZ.out.gr ((Gr.refl _).alloc _)⟩
            case rest =>
            obtain ⟨rfl, hx0, hx1, hx2, hcz⟩ := hcut
            obtain ⟨a, ha⟩ : ∃ a, a = aa % 3 := ⟨_, rfl⟩
            obtain ⟨b, hb⟩ : ∃ b, b = ff % 3 := ⟨_, rfl⟩
            rw [← ha, ← hb] at HSN
            have ha3 : a < 3 := by omega
            have ha3i : (a : Int) < 3 := by omega
            have hb3i : (b : Int) < 3 := by omega
            have hb3 : b < 3 := by omega
            have ha0i : (0 : Int) ≤ (a : Int) := by omega
            have hb0i : (0 : Int) ≤ (b : Int) := by omega
            have hai : (IntKind.i64.wrap (aa : Int)).tmod 3 = (a : Int) := by
              have : IntKind.i64.wrap (aa : Int) = (aa : Int) := by simp [IntKind.wrap, IntKind.bits, IntKind.signed]; omega
              rw [this, Int.tmod_eq_emod_of_nonneg (by omega)]; omega
            have hbi : (IntKind.i64.wrap (ff : Int)).tmod 3 = (b : Int) := by
              have : IntKind.i64.wrap (ff : Int) = (ff : Int) := by simp [IntKind.wrap, IntKind.bits, IntKind.signed]; omega
              rw [this, Int.tmod_eq_emod_of_nonneg (by omega)]; omega
            have HCZ2 := Lib.hid hcz
            clear hcz hk1 hk2 hk3 ha hb
            have HX0 : Hid (∀ W, Gr wc W → W.cell? ⟨wr.heap.size, 0, none⟩ = some (.int .u8 (d : Int)) ∧ W.cell? ⟨wr.heap.size, 1, none⟩ = some (.int .u8 (aa : Int)) ∧ W.cell? ⟨wr.heap.size, 2, none⟩ = some (.int .u8 (ff : Int))) := Lib.hid fun W hW =>
              ⟨(hW.cell' hx0).trans hx0, (hW.cell' hx1).trans hx1, (hW.cell' hx2).trans hx2⟩
            clear hx0 hx1 hx2
            go_upto_region 18 with fail
            apply wp_region_draw_grow (.eq _ :: .eq _ :: .eq _ :: .eq _ :: .eq _ :: .eq _ :: .eq _ :: .eq _ :: .eq _ :: .eq _ :: []) (by kernel_rfl) (by kernel_rfl) trivial
            apply wpG_eq
            · intro W hW hs
              unfold opG
              go_simp
              first | exact resG_eq_mk _ _ _ | rfl
            simp only [Act.put, List.setIfInBounds_toArray, List.set_cons_zero, List.set_cons_succ]
            apply wpG_eq
            · intro W hW hs
              obtain ⟨hx0, hx1, hx2⟩ := HX0.out W (Gr.trans ((Gr.refl wc).drew) hW)
              unfold opG
              go_simp
              first | exact resG_eq_mk _ _ _ | rfl
            simp only [Act.put, List.setIfInBounds_toArray, List.set_cons_zero, List.set_cons_succ]
            apply wpG_eq
            · intro W hW hs
              unfold opG
              go_simp
              first | exact resG_eq_mk _ _ _ | rfl
            simp only [Act.put, List.setIfInBounds_toArray, List.set_cons_zero, List.set_cons_succ]
            apply wpG_eq
            · intro W hW hs
              unfold opG
              go_simp
              first | exact resG_eq_mk _ _ _ | rfl
            simp only [Act.put, List.setIfInBounds_toArray, List.set_cons_zero, List.set_cons_succ]
            apply wpG_eq
            · intro W hW hs
              unfold opG
              go_simp
              first | exact resG_eq_mk _ _ _ | rfl
            simp only [Act.put, List.setIfInBounds_toArray, List.set_cons_zero, List.set_cons_succ]
            apply wpG_eq
            · intro W hW hs
              obtain ⟨hx0, hx1, hx2⟩ := HX0.out W (Gr.trans ((Gr.refl wc).drew) hW)
              unfold opG
              go_simp
              first | exact resG_eq_mk _ _ _ | rfl
            simp only [Act.put, List.setIfInBounds_toArray, List.set_cons_zero, List.set_cons_succ]
            apply wpG_eq
            · intro W hW hs
              unfold opG
              go_simp
              first | exact resG_eq_mk _ _ _ | rfl
            simp only [Act.put, List.setIfInBounds_toArray, List.set_cons_zero, List.set_cons_succ]
            apply wpG_eq
            · intro W hW hs
              unfold opG
              go_simp
              first | exact resG_eq_mk _ _ _ | rfl
            simp only [Act.put, List.setIfInBounds_toArray, List.set_cons_zero, List.set_cons_succ]
            apply wpG_eq
            · intro W hW hs
              unfold opG
              go_simp
              first | exact resG_eq_mk _ _ _ | rfl
            simp only [Act.put, List.setIfInBounds_toArray, List.set_cons_zero, List.set_cons_succ]
            apply wpG_eq
            · intro W hW hs
              unfold opG
              go_simp
              first | exact resG_eq_mk _ _ _ | rfl
            simp only [Act.put, List.setIfInBounds_toArray, List.set_cons_zero, List.set_cons_succ]
            apply wpG_nil
            intro W9 hW9 hsAll
            obtain ⟨wd, hwd⟩ : ∃ wd, wd = W9 := ⟨_, rfl⟩
            have GD : Hid (Gr wc wd) := Lib.hid (by rw [hwd]; exact Gr.trans ((Gr.refl wc).drew) hW9)
            rw [← hwd]
            clear hsAll hW9 hwd
            obtain ⟨hx0, hx1, hx2⟩ := HX0.out wd GD.out
            have HCZ3 := Lib.hid (HCZ2.out.gr GD.out)
            clear HX0 HCZ2
            obtain ⟨f, u, cf, hfo, hfh, hf6, hbw⟩ := HCZ3.out
            have hla : (s.v a).length = 3 := HINV.out.len a ha3
            obtain ⟨ga, ca, eua, _, _, _⟩ := (cf.vec a ha3).formN (by omega)
            have qv := cf.t.cell a ha3
            rw [eua, hla] at qv
            have CF := Lib.hid cf
            have HFO := Lib.hid hfo
            have HFH := Lib.hid hfh
            have HF6 := Lib.hid hf6
            have HBW := Lib.hid hbw
            have hown : Own wd w.heap.size 23 (.slice (some ⟨ga, 0, none⟩) (s.v a).length ca) (nums (s.v a)) := by rw [← eua]; exact cf.vec a ha3
            clear cf hfo hfh hf6 hbw
            by_cases hmk : d % 2 = 0
            · rename_i in1 in2 in3 in4 in5 in6 in7 in8 in9 in10 in11 in12 in13 in14 in15 in16 in17 in18 in19 in20 in21 in22 in23 in24 in25 in26 in27 in28 in29 in30 in31 in32 in33 in34 in35 in36 in37 in38 in39 in40 in41 in42 in43 in44 in45 in46 in47 in48 in49 in50 in51 in52 in53 in54 in55 in56 in57 in58 in59 in60 in61 in62 in63 in64 in65 in66 in67 in68 in69 in70 in71 in72 in73 in74 in75 in76 in77 in78 in79 in80 in81 in82 in83 in84 in85 in86 in87 in88 in89 in90 in91 in92 in93 in94 in95 in96 in97 in98 in99 in100 in101 in102 in103 in104 in105 in106 in107 in108 in109 in110 in111 in112 in113 in114 in115 in116 in117 in118 in119 in120 in121 in122 in123 in124 in125 in126 in127 in128 in129 in130 in131 in132 in133 in134 in135 in136 in137 in138 in139 in140 in141 in142 in143 in144 in145 in146 in147 in148 in149 in150 in151 in152 in153 in154 in155 in156 in157 in158 in159 in160 in161 in162 in163
              revert w l R a0 c0 HR HX n hm HN h60 h60' w1 w2 w3 O H V in1 in2 in3 in4 in5 u24 u25 u26 u27 u28 u29 u30 u31 u32 u33 u34 u35 u36 u37 in6 in7 in8 in9 in10 in11 in12 in13 wr u2 u8 u9 u10 u11 u12 u13 in14 in15 in16 in17 in18 in19 in20 in21 in22 in23 in24 in25 in26 in27 in28 in29 in30 in31 in32 in33 in34 in35 in36 in37 in38 in39 in40 in41 in42 in43 in44 in45 in46 in47 in48 in49 in50 in51 in52 in53 in54 in55 in56 in57 in58 in59 in60 in61 in62 in63 in64 in65 in66 in67 in68 in69 in70 in71 in72 in73 in74 in75 in76 in77 in78 in79 in80 in81 in82 in83 in84 in85 in86 in87 in88 in89 in90 in91 in92 in93 in94 in95 in96 in97 in98 in99 in100 in101 in102 in103 in104 in105 in106 in107 in108 in109 in110 in111 in112 in113 in114 in115 in116 in117 in118 in119 in120 in121 in122 in123 in124 in125 in126 in127 in128 in129 in130 in131 in132 in133 in134 in135 in136 in137 in138 in139 in140 in141 in142 in143 in144 in145 in146 in147 in148 in149 in150 in151 in152 in153 in154 k hk nx hlt s HHL HOL HINV HCZ d aa ff hd256 HLATE HSOON in155 in156 in157 in158 HB0 wc u38 u39 u40 u41 u42 u43 u44 u45 u46 u47 u48 u49 u50 u51 u52 u53 u54 u55 u56 u57 u58 u59 u60 u61 u62 u63 u64 u65 u66 u67 u68 u69 u70 u71 u72 u73 u74 u75 u76 u77 u78 u79 u80 u81 u82 u83 u84 u85 u86 u87 u88 u89 u90 u91 u92 u93 u94 u95 u96 u97 u98 u99 u100 u101 u102 u103 u104 u105 u106 u107 u108 u109 u110 u111 u112 u113 u114 u115 u116 u117 u118 u119 u120 u121 u122 u123 u124 u125 u126 u127 u128 u129 u130 u131 u132 u133 u134 u135 u136 u137 u138 u139 u140 u141 u142 u143 u144 u145 u146 u147 u148 u149 u150 u151 u152 u153 u154 u155 u156 u157 u158 u159 u160 u161 u162 u163 u164 u165 u166 u167 u168 u169 u170 u171 u172 u173 u174 u175 u176 u177 u178 a b HSN ha3 ha3i hb3i hb3 ha0i hb0i hai hbi in159 in160 W9 wd GD hx0 hx1 hx2 HCZ3 f u hla ga ca eua in161 in162 in163 qv CF HFO HFH HF6 HBW hown hmk
              exact hP1.out
            · rename_i in1 in2 in3 in4 in5 in6 in7 in8 in9 in10 in11 in12 in13 in14 in15 in16 in17 in18 in19 in20 in21 in22 in23 in24 in25 in26 in27 in28 in29 in30 in31 in32 in33 in34 in35 in36 in37 in38 in39 in40 in41 in42 in43 in44 in45 in46 in47 in48 in49 in50 in51 in52 in53 in54 in55 in56 in57 in58 in59 in60 in61 in62 in63 in64 in65 in66 in67 in68 in69 in70 in71 in72 in73 in74 in75 in76 in77 in78 in79 in80 in81 in82 in83 in84 in85 in86 in87 in88 in89 in90 in91 in92 in93 in94 in95 in96 in97 in98 in99 in100 in101 in102 in103 in104 in105 in106 in107 in108 in109 in110 in111 in112 in113 in114 in115 in116 in117 in118 in119 in120 in121 in122 in123 in124 in125 in126 in127 in128 in129 in130 in131 in132 in133 in134 in135 in136 in137 in138 in139 in140 in141 in142 in143 in144 in145 in146 in147 in148 in149 in150 in151 in152 in153 in154 in155 in156 in157 in158 in159 in160 in161 in162 in163
              revert w l R a0 c0 HR HX n hm HN h60 h60' w1 w2 w3 O H V in1 in2 in3 in4 in5 u24 u25 u26 u27 u28 u29 u30 u31 u32 u33 u34 u35 u36 u37 in6 in7 in8 in9 in10 in11 in12 in13 wr u2 u8 u9 u10 u11 u12 u13 in14 in15 in16 in17 in18 in19 in20 in21 in22 in23 in24 in25 in26 in27 in28 in29 in30 in31 in32 in33 in34 in35 in36 in37 in38 in39 in40 in41 in42 in43 in44 in45 in46 in47 in48 in49 in50 in51 in52 in53 in54 in55 in56 in57 in58 in59 in60 in61 in62 in63 in64 in65 in66 in67 in68 in69 in70 in71 in72 in73 in74 in75 in76 in77 in78 in79 in80 in81 in82 in83 in84 in85 in86 in87 in88 in89 in90 in91 in92 in93 in94 in95 in96 in97 in98 in99 in100 in101 in102 in103 in104 in105 in106 in107 in108 in109 in110 in111 in112 in113 in114 in115 in116 in117 in118 in119 in120 in121 in122 in123 in124 in125 in126 in127 in128 in129 in130 in131 in132 in133 in134 in135 in136 in137 in138 in139 in140 in141 in142 in143 in144 in145 in146 in147 in148 in149 in150 in151 in152 in153 in154 k hk nx hlt s HHL HOL HINV HCZ d aa ff hd256 HLATE HSOON in155 in156 in157 in158 HB0 wc u38 u39 u40 u41 u42 u43 u44 u45 u46 u47 u48 u49 u50 u51 u52 u53 u54 u55 u56 u57 u58 u59 u60 u61 u62 u63 u64 u65 u66 u67 u68 u69 u70 u71 u72 u73 u74 u75 u76 u77 u78 u79 u80 u81 u82 u83 u84 u85 u86 u87 u88 u89 u90 u91 u92 u93 u94 u95 u96 u97 u98 u99 u100 u101 u102 u103 u104 u105 u106 u107 u108 u109 u110 u111 u112 u113 u114 u115 u116 u117 u118 u119 u120 u121 u122 u123 u124 u125 u126 u127 u128 u129 u130 u131 u132 u133 u134 u135 u136 u137 u138 u139 u140 u141 u142 u143 u144 u145 u146 u147 u148 u149 u150 u151 u152 u153 u154 u155 u156 u157 u158 u159 u160 u161 u162 u163 u164 u165 u166 u167 u168 u169 u170 u171 u172 u173 u174 u175 u176 u177 u178 a b HSN ha3 ha3i hb3i hb3 ha0i hb0i hai hbi in159 in160 W9 wd GD hx0 hx1 hx2 HCZ3 f u hla ga ca eua in161 in162 in163 qv CF HFO HFH HF6 HBW hown hmk
              exact hP2.out
          · rename_i in1 in2 in3 in4 in5 in6 in7 in8 in9 in10 in11 in12
            revert w l R a0 c0 HR HX n hm HN h60 h60' w1 w2 w3 O H V in1 in2 in3 in4 in5 u24 u25 u26 u27 u28 u29 u30 u31 u32 u33 u34 u35 u36 u37 u in6 in7 in8 in9 in10 in11 in12 wr u2 u8 u9 u10 u11 u12 u13 u38 u39 u40 u41 u42 u43 u44 u45 u46 u47 u48 u49 u50 u51 u52 u53 u54 u55 u56 u57 u58 u59 u60 u61 u62 u63 u64 u65 u66 u67 u68 u69 u70 u71 u72 u73 u74 u75 u76 u77 u78 u79 u80 u81 u82 u83 u84 u85 u86 u87 u88 u89 u90 u91 u92 u93 u94 u95 u96 u97 u98 u99 u100 u101 u102 u103 u104 u105 u106 u107 u108 u109 u110 u111 u112 u113 u114 u115 u116 u117 u118 u119 u120 u121 u122 u123 u124 u125 u126 u127 u128 u129 u130 u131 u132 u133 u134 u135 u136 u137 u138 u139 u140 u141 u142 u143 u144 u145 u146 u147 u148 u149 u150 u151 u152 u153 u154 u155 u156 u157 u158 u159 u160 u161 u162 u163 u164 u165 u166 u167 u168 u169 u170 u171 u172 u173 u174 u175 u176 u177 u178 k hk nx HCZ hlt
            exact hP3.out
end Go.Proofs.Ytpdninnnpoiblaa
