/-
  Package wan: the deferred call of Get; what is read, its ranges.
-/
import Derived.Test.YtgilijkmmcpfjaaZWGet
import Derived.Test.YtgilijkmmcpfjaaZEnReadF
import Derived.Defers
set_option linter.unusedVariables false
set_option linter.unusedSimpArgs false
set_option maxRecDepth 100000
namespace Go.Proofs.Ytgilijkmmcpfjaa
open Go.RowKit
/-- What is read behind the first two bytes. -/
def rBody (k : Nat) (site : Int) (hv hi hr he hf : Bool) (s : RS) : WanD × RS :=
  let r := rOpt hr (rCount 3) 0 s
  let e := rOpt he rUint 0 r.2
  let v := rOpt hv rStamp [] e.2
  let f := rOpt hf rStamp [] v.2
  let i := rOpt hi (rList 8 rItem) [] f.2
  (⟨k, site, v.1, i.1, (r.1 : Int), e.1, f.1⟩, i.2)
theorem rWan_body (s : RS) : rWan s = rBody (k16 (rByte s).1) ((rByte (rByte s).2).1 : Int) (hasV (k16 (rByte s).1)) (hasI (k16 (rByte s).1)) (hasR (k16 (rByte s).1)) (hasE (k16 (rByte s).1)) (hasF (k16 (rByte s).1)) (rByte (rByte s).2).2 := rfl
theorem rList_max {α : Type} (f : RS → α × RS) (m : Nat) (s : RS) : (rList m f s).1.length ≤ m := by
  unfold rList
  rw [rMany_length]
  exact rCount_most m s
theorem effs_of_tup (z : Int × Nat × Int × Nat × List Nat × List EffD × Nat) (h : z.2.2.2.2.2.1.length ≤ 16) : (tupI z).effs.length ≤ 16 := h
theorem rEffs_rng : Rng (rList 16 rEff) (fun l => l.length ≤ 16) := rList_max rEff 16
theorem rItem_effs : Rng rItem (fun x => x.effs.length ≤ 16) := fun s => by
  rw [rItem_seq]
  exact effs_of_tup _ ((rSite_rng.seq (rUint_rng.seq (rReg_rng.seq (rUint_rng.seq (rStamp_rng.seq (rEffs_rng.seq rSmall_rng)))))) s).2.2.2.2.2.1
theorem rWan_rng (s : RS) : WanOk (rWan s).1 ∧ WanLen (rWan s).1 := by
  have ho : ∀ {α : Type} (c : Bool) (f : RS → α × RS) (z : α) (d : α → Prop) (s : RS), (∀ s, d (f s).1) → d z → d (rOpt c f z s).1 := by
    intro α c f z d s h hz
    cases c with
    | true => exact h s
    | false => exact hz
  refine ⟨⟨?_, nat_i64 (rByte_lt _), ?_, ?_, ?_, ?_, ?_⟩, ⟨?_, ?_⟩⟩
  · show k16 _ < 256; unfold k16; omega
  · exact ho _ rStamp [] (fun l => ∀ k ∈ l, k < 2 ^ 64) _ rStamp_rng (fun k hk => by cases hk)
  · exact ho _ (rList 8 rItem) [] (fun l => ∀ y ∈ l, ItemOk y) _ (rList_rng 8 rItem_rng) (fun k hk => by cases hk)
  · have h := ho (hasR (k16 (rByte s).1)) (rCount 3) 0 (fun n => n ≤ 3) (rByte (rByte s).2).2 (rCount_most 3) (Nat.zero_le _)
    show I64 (((rOpt (hasR (k16 (rByte s).1)) (rCount 3) 0 (rByte (rByte s).2).2).1 : Nat) : Int)
    unfold I64; omega
  · exact ho _ rUint 0 (fun n => n < 2 ^ 64) _ rUint_lt (by decide)
  · exact ho _ rStamp [] (fun l => ∀ k ∈ l, k < 2 ^ 64) _ rStamp_rng (fun k hk => by cases hk)
  · exact ho _ (rList 8 rItem) [] (fun l => l.length ≤ maxLen) _ (fun s => Nat.le_trans (rList_max rItem 8 s) (by decide)) (by decide)
  · exact ho _ (rList 8 rItem) [] (fun l => ∀ y ∈ l, y.effs.length ≤ maxLen) _ (rList_rng 8 fun s => Nat.le_trans (rItem_effs s) (by decide)) (fun k hk => by cases hk)
theorem ch_mono {ρ σ : Nat → Prop} {a b : World} (h : Ch ρ a b) (hs : ∀ k, ρ k → σ k) : Ch σ a b := ⟨h.os, h.tape, h.output, h.size, fun k hk hn => h.block k hk (fun e => hn (hs k e))⟩
theorem ch_setCell' (w : World) (b i : Nat) (v : Value) : Ch (fun j => j = b) w (w.setCell ⟨b, i, none⟩ v) := Ch.of_grownBy (grownBy_setCell w b i v) (fun k hk => by cases hk; rfl)
def zeroWL : List Value := [.int .u8 0, .int .i64 0, .slice none 0 0, .slice none 0 0, .int .i64 0, .int .u64 0, .slice none 0 0]
theorem built_wan0 : Try.prog.built 26 [] = some zeroWL.toArray := by kernel_rfl
theorem wan_one {P : Nat → Prop} {w : World} {x : WanD} {vv iv fv : Value} (h : WanP P w x vv iv fv) : oneAll (wanCells x vv iv fv) := by
  have o1 := sl_one h.1
  have o3 := sl_one h.2.2
  have o2 : iv.oneCell' = true := by obtain ⟨a, c, e⟩ := h.2.1.shape; rw [e]; rfl
  unfold oneAll wanCells
  simp only [List.all_cons, List.all_nil, o1, o2, o3, Bool.and_true]
  rfl
/-- What stands in the two results behind the deferred call. -/
def DoneW (B0 b c : Nat) (s : RS) (y : WanD) (w w' : World) : Prop :=
  ∃ z n vv iv fv, (z, n) = (if rDone s = 0 ∧ mayW y = true then (y, (0 : Int)) else (zeroW, 2)) ∧ CellsAt w' b (wanCells z vv iv fv) 26 ∧ WanP (From B0) w' z vv iv fv ∧ CellsAt w' c [.int .i64 n] 29 ∧ Ch (fun k => k = b ∨ k = c) w w'
set_option maxHeartbeats 4000000 in
theorem getD_any (u : FrameMode) (w : World) (base : Nat → Prop) (B0 b c r g : Nat) (s : RS) (y : WanD) (vv iv fv : Value) (hr : Rs w base g s) (hl : s.1.length ≤ 1000000000) (kr : CellsAt w r [.pointer (some ⟨g, 0, none⟩)] 61)
    (kb : CellsAt w b (wanCells y vv iv fv) 26) (kc : CellsAt w c [.int .i64 0] 29) (hp : WanP (From B0) w y vv iv fv) (ok : WanOk y) (len : WanLen y) (hbc : b ≠ c) (hbB : b < B0) (hcB : c < B0) :
    CallsD Try.prog 28 #[.pointer (some ⟨r, 0, none⟩), .pointer (some ⟨b, 0, none⟩), .pointer (some ⟨c, 0, none⟩)] u w fun e u' w' => u' = u ∧ (∃ v, e = .returned v) ∧ DoneW B0 b c s y w w' := by
  have DN := Lib.hid (get_done w base g s hr hl)
  have MY := Lib.hid (mayW_any w y vv iv fv (hp.mono fun _ _ => trivial) ok len)
  have c0 := kr.cell 0
  have e0 := kc.cell 0
  have z0 := kc.frozen 0
  have KB := Lib.hid kb
  have KC := Lib.hid kc
  have HPH := Lib.hid hp
  have ONE : Hid (oneAll (wanCells y vv iv fv)) := Lib.hid (wan_one hp)
  obtain ⟨E, hE⟩ : ∃ E, E = wanCells y vv iv fv := ⟨_, rfl⟩
  have EN : Hid (E.length = 7) := Lib.hid (by rw [hE]; rfl)
  have HE := Lib.hid hE
  rw [← hE] at MY KB
  obtain ⟨m, hm⟩ : ∃ m, m = mayW y := ⟨_, rfl⟩
  obtain ⟨d, hd⟩ : ∃ d, d = rDone s := ⟨_, rfl⟩
  have HM := Lib.hid hm
  have HD := Lib.hid hd
  rw [← hm] at MY
  rw [← hd] at DN
  clear hE hm hd hr kr kb kc hp ok len
  go_enter_d Try.func28, Try.ntmps28
  go_wp2_with fail
  refine DN.out.mono ?_
  rintro e w1 ⟨rfl, rfl⟩
  have bad : ∀ w9, Gr w w9 → (rDone s ≠ 0 ∨ mayW y = false) → Hid (∀ W', CellsAt W' b zeroWL 26 → Ch (fun j => j = b) w9 W' → (W'.cell? ⟨c, 0, none⟩ = some (.int .i64 0) ∧ W'.frozen? ⟨c, 0, none⟩ = false) ∧ DoneW B0 b c s y w (W'.setCell ⟨c, 0, none⟩ (.int .i64 2))) := fun w9 g9 hb => Lib.hid fun W' kz ch => by
    have kc9 : CellsAt W' c [.int .i64 0] 29 := (KC.out.gr g9).block (ch.block c ((KC.out.gr g9).lt) (fun e => hbc e.symm))
    refine ⟨⟨kc9.cell 0, kc9.frozen 0⟩, zeroW, 2, .slice none 0 0, .slice none 0 0, .slice none 0 0, ?_, ?_, ⟨SlP.nil _ _ _ _, ItemsP.nil _ _ _ _, SlP.nil _ _ _ _⟩, kc9.set 0 _, ?_⟩
    · rw [if_neg]; rintro ⟨h1, h2⟩; rcases hb with h | h
      · exact h h1
      · rw [h] at h2; cases h2
    · exact kz.block (by rw [Below.heap_setCell]; exact hbc)
    · refine (Ch.of_gr g9).trans ((ch_mono ch fun k hk => .inl hk).trans ?_)
      exact ch_mono (ch_setCell' W' c 0 _) fun k hk => .inr hk
  have good : d = 0 → m = true → ∀ w9, Gr w w9 → DoneW B0 b c s y w w9 := fun h1 h2 w9 g9 =>
    ⟨y, 0, vv, iv, fv, by rw [if_pos ⟨by rw [← HD.out]; exact h1, by rw [← HM.out]; exact h2⟩], by rw [← HE.out]; exact KB.out.gr g9, HPH.out.gr g9, KC.out.gr g9, Ch.of_gr g9⟩
  have BAD := Lib.hid bad
  have GOOD := Lib.hid good
  clear bad good
  by_cases hd0 : d = 0
  · subst hd0
    have q0 : ((0 : Int) != 0) = false := by decide
    go_wp2_with (first | (refine wpList_loadW wanTy _ rfl rfl rfl KB.out EN.out ?_) | fail)
    refine MY.out.mono ?_
    rintro e w2 ⟨rfl, g2⟩
    have G2 := Lib.hid g2
    clear g2
    cases m with
    | true =>
      have GD := Lib.hid (GOOD.out (by trivial) (by trivial) w2 G2.out)
      go_wp2
      go_end0
      exact ⟨⟨_, rfl⟩, GD.out⟩
    | false =>
      have BB := BAD.out w2 G2.out (.inr HM.out.symm)
      have KB2 := Lib.hid (KB.out.gr G2.out)
      clear e0 z0 c0
      go_wp2_with (first | (refine wpList_buildTo rfl 26 _ rfl (some 11) rfl _ built_wan0 ?_) | (refine wpList_storeE wanTy _ _ rfl rfl rfl rfl KB2.out rfl EN.out rfl ?_) | fail)
      intro w3 k3 ch3
      obtain ⟨⟨e0, z0⟩, DW⟩ := BB.out w3 k3 ch3
      have DWH := Lib.hid DW
      clear DW k3 ch3
      go_wp2
      go_end0
      exact ⟨⟨_, rfl⟩, DWH.out⟩
  · have q0 : (d != 0) = true := by simpa using hd0
    have BB := BAD.out w (Gr.refl w) (.inl (by rw [← HD.out]; exact hd0))
    clear e0 z0
    go_wp2_with (first | (refine wpList_buildTo rfl 26 _ rfl (some 11) rfl _ built_wan0 ?_) | (refine wpList_storeE wanTy _ _ rfl rfl rfl rfl KB.out rfl EN.out rfl ?_) | fail)
    intro w3 k3 ch3
    obtain ⟨⟨e0, z0⟩, DW⟩ := BB.out w3 k3 ch3
    have DWH := Lib.hid DW
    clear DW k3 ch3
    go_wp2
    go_end0
    exact ⟨⟨_, rfl⟩, DWH.out⟩
end Go.Proofs.Ytgilijkmmcpfjaa
