/-
  Package entry: the parts of entries: what puts them, what reads them, what allows them.
-/
import Derived.Test.YtiemgmbjhllmbaaYEnGetOp
import Derived.Test.YtiemgmbjhllmbaaYI
set_option linter.unusedVariables false
set_option maxRecDepth 100000
namespace Go.Proofs.Ytiemgmbjhllmbaa
open Go.RowKit
/-- Block b is an entry. -/
def EntAt (Q : Nat → Prop) (w : World) (b : Nat) (x : EntD) : Prop := ∃ q, CellsAt w b (entCells x q) 39 ∧ EntP Q w x q
theorem EntAt.lt {Q : Nat → Prop} {w : World} {b : Nat} {x : EntD} (h : EntAt Q w b x) : b < w.heap.size := by obtain ⟨q, h1, _⟩ := h; exact h1.lt
theorem EntAt.gr {Q : Nat → Prop} {w w' : World} {b : Nat} {x : EntD} (h : EntAt Q w b x) (g : Gr w w') : EntAt Q w' b x := by obtain ⟨q, h1, h2⟩ := h; exact ⟨q, h1.gr g, h2.gr g⟩
theorem EntAt.mono {Q Q' : Nat → Prop} {w : World} {b : Nat} {x : EntD} (h : EntAt Q w b x) (hq : ∀ k, Q k → Q' k) : EntAt Q' w b x := by obtain ⟨q, h1, h2⟩ := h; exact ⟨q, h1, h2.mono hq⟩
theorem EntAt.keep {Q : Nat → Prop} {w w' : World} {b : Nat} {x : EntD} (h : EntAt Q w b x) (k : Keep Q w w') (hb : w'.heap[b]? = w.heap[b]?) : EntAt Q w' b x := by obtain ⟨q, h1, h2⟩ := h; exact ⟨q, h1.block hb, h2.keep k⟩
/-- How much there may be of an entry. -/
structure EntBig (x : EntD) : Prop where
  op : (opB x.op).length ≤ 100000000
  item : ItemFit x.item
  frontier : x.frontier.length ≤ 10000000
theorem EntBig.fit {x : EntD} (h : EntBig x) : EntFit x 100000000 := ⟨h.op, h.item.1, by have := h.frontier; omega⟩
theorem EntBig.parts {x : EntD} (h : EntBig x) : x.op.parts.length ≤ maxLen := by
  have h1 := opsB_ge x.op.parts
  have h2 : (opsB x.op.parts).length ≤ (opB x.op).length := by
    obtain ⟨a, ps⟩ := x.op
    rw [opB_mk]; simp only [OpD.parts, List.length_append]; omega
  have := h.op
  unfold maxLen; omega
theorem EntBig.effs {x : EntD} (h : EntBig x) : x.item.effs.length ≤ maxLen := by
  have h1 := (itemB_stamp x.item).2
  have := h.item.1
  unfold maxLen; omega
theorem partB_le {x : EntD} (h : EntBig x) (p : PartK) : (partB x p).length ≤ 100000000 := by
  cases p with
  | client => show (be 8 x.client ++ be 8 x.req).length ≤ _; simp [be_length]
  | owner => show (sessB x.osite x.on).length ≤ _; rw [sessB_length]; omega
  | op => exact h.op
  | item => exact h.item.1
  | site => show (be 1 _).length ≤ _; rw [be_length]; omega
  | wher => show (be 8 _).length ≤ _; rw [be_length]; omega
  | epoch => show (be 8 _).length ≤ _; rw [be_length]; omega
  | stamp => show (stampB x.frontier).length ≤ _; rw [stampB_length]; have := h.frontier; omega
/-! ### What puts them -/
def putF : PartK → FuncId
  | .client => 17
  | .owner => 21
  | .op => 27
  | .item => 33
  | .site => 39
  | .wher => 44
  | .epoch => 49
  | .stamp => 52
def getF : PartK → FuncId
  | .client => 19
  | .owner => 23
  | .op => 29
  | .item => 35
  | .site => 41
  | .wher => 46
  | .epoch => 50
  | .stamp => 54
def mayF : PartK → Value
  | .client => .nilFunc
  | .owner => .func (.func 25) #[] #[]
  | .op => .func (.func 31) #[] #[]
  | .item => .func (.func 37) #[] #[]
  | .site => .func (.func 43) #[] #[]
  | .wher => .func (.func 48) #[] #[]
  | .epoch => .nilFunc
  | .stamp => .func (.func 56) #[] #[]
theorem put_client (w : World) (b : Nat) (x : EntD) (v : Value) (l : List UInt8) (h : EntAt Any w b x) (ok : EntOk x) (big : EntBig x) (hs : Sl w v (bytes l)) (hl : l.length ≤ 500000000) :
    Calls Try.prog 17 #[v, .pointer (some ⟨b, 0, none⟩)] w (RetSl w (l ++ partB x .client)) := by
  obtain ⟨q, K, hp⟩ := h
  have C1 : Hid (∀ W, Gr w W → W.cell? ⟨b, 1, none⟩ = some (.int .u32 (x.client : Int))) := Lib.hid fun W hW => (K.gr hW).cell 1
  have C2 : Hid (∀ W, Gr w W → W.cell? ⟨b, 2, none⟩ = some (.int .u32 (x.req : Int))) := Lib.hid fun W hW => (K.gr hW).cell 2
  have b1 : x.client < 2 ^ 64 := Nat.lt_trans ok.client (by decide)
  have b2 : x.req < 2 ^ 64 := Nat.lt_trans ok.req (by decide)
  have H1 := Lib.hid (wrap_nat64 x.client b1)
  have H2 := Lib.hid (wrap_nat64 x.req b2)
  have GD : Hid (Gr w w.drew) := Lib.hid ((Gr.refl w).drew)
  have S0 := Lib.hid hs
  have L0 : l.length ≤ 1000000000 := by omega
  have L1 : (l ++ be 8 x.client).length ≤ 1000000000 := by rw [List.length_append, be_length]; omega
  obtain ⟨a, c, rfl⟩ := hs.oneCells
  clear K hp ok big
  go_enter Try.func17, Try.ntmps17
  go_wp2_with fail
  apply wp_region_draw_grow (.eq _ :: .eq _ :: .eq _ :: .eq _ :: .eq _ :: .eq _ :: .ok (fun v W => Sl W v (bytes (l ++ be 8 x.client))) :: .eq _ :: .eq _ :: .eq _ :: .eq _ :: .eq _ :: .ok (fun v W => Sl W v (bytes (l ++ (be 8 x.client ++ be 8 x.req)))) :: .ok (fun v W => Sl W v (bytes (l ++ (be 8 x.client ++ be 8 x.req)))) :: []) (by kernel_rfl) (by kernel_rfl) ⟨mono_sl _, mono_sl _, mono_sl _, trivial⟩
  iterate 5
   apply wpG_eq
   · intro W hW hs
     have c1 := C1.out W (GD.out.trans hW)
     have c2 := C2.out W (GD.out.trans hW)
     unfold opG
     go_simp
     first | exact resG_eq_mk _ _ _ | rfl
   simp only [Act.put, pt1, pt2, pt3]
  apply wpG_eq
  · intro W hW hs
    have c1 := C1.out W (GD.out.trans hW)
    have c2 := C2.out W (GD.out.trans hW)
    have hB := H1.out
    unfold opG
    go_simp
    first | exact resG_eq_mk _ _ _ | rfl
  simp only [Act.put, pt1, pt2, pt3]
  apply wpG_ok
  · intro W hW hs
    have c1 := C1.out W (GD.out.trans hW)
    have c2 := C2.out W (GD.out.trans hW)
    unfold opG
    go_simp
    refine resG_call ((wuint _ l x.client _ (S0.out.below (GD.out.trans hW)) L0 b1).mono ?_)
    rintro e W2 ⟨v2, rfl, s2, g2⟩
    exact ⟨_, rfl, g2, by simpa only [List.append_assoc] using s2⟩
  intro v6
  simp only [Act.put, pt1, pt2, pt3]
  iterate 4
   apply wpG_eq
   · intro W hW hs
     have c1 := C1.out W (GD.out.trans hW)
     have c2 := C2.out W (GD.out.trans hW)
     unfold opG
     go_simp
     first | exact resG_eq_mk _ _ _ | rfl
   simp only [Act.put, pt1, pt2, pt3]
  apply wpG_eq
  · intro W hW hs
    have c1 := C1.out W (GD.out.trans hW)
    have c2 := C2.out W (GD.out.trans hW)
    have hB := H2.out
    unfold opG
    go_simp
    first | exact resG_eq_mk _ _ _ | rfl
  simp only [Act.put, pt1, pt2, pt3]
  apply wpG_ok
  · intro W hW hs
    obtain s1 := hs _ (.head _) (by rfl)
    have c1 := C1.out W (GD.out.trans hW)
    have c2 := C2.out W (GD.out.trans hW)
    unfold opG
    go_simp
    refine resG_call ((wuint _ _ x.req _ s1 L1 b2).mono ?_)
    rintro e W2 ⟨v2, rfl, s2, g2⟩
    exact ⟨_, rfl, g2, by simpa only [List.append_assoc] using s2⟩
  intro v12
  simp only [Act.put, pt1, pt2, pt3]
  apply wpG_ok
  · intro W hW hs
    obtain s1 := hs _ (.head _) (by rfl)
    have c1 := C1.out W (GD.out.trans hW)
    have c2 := C2.out W (GD.out.trans hW)
    unfold opG
    go_simp
    exact resG_mk (Gr.refl _) s1
  intro v13
  simp only [Act.put, pt1, pt2, pt3]
  apply wpG_nil
  intro W9 hW9 hsAll
  obtain s9 := hsAll _ (.head _)
  clear hsAll
  go_wp2
  go_ret
  exact ⟨_, rfl, s9, GD.out.trans hW9⟩
theorem put_owner (w : World) (b : Nat) (x : EntD) (v : Value) (l : List UInt8) (h : EntAt Any w b x) (ok : EntOk x) (big : EntBig x) (hs : Sl w v (bytes l)) (hl : l.length ≤ 500000000) :
    Calls Try.prog 21 #[v, .pointer (some ⟨b, 0, none⟩)] w (RetSl w (l ++ partB x .owner)) := by
  obtain ⟨q, K, hp⟩ := h
  have c3 : w.cell? ⟨b, 3, none⟩ = some (.int .i64 x.osite) := K.cell 3
  have c4 : w.cell? ⟨b, 4, none⟩ = some (.int .u32 (x.on : Int)) := K.cell 4
  have C := putSess_any v l x.osite x.on w hs (by omega) ok.on
  have CC := Lib.hid C
  clear C K hp ok big hs
  go_enter Try.func21, Try.ntmps21
  go_wp2_with fail
  refine CC.out.mono ?_
  rintro e w1 ⟨v1, rfl, s1, g1⟩
  go_wp2
  go_ret
  exact ⟨_, rfl, s1, g1⟩
theorem put_op (w : World) (b : Nat) (x : EntD) (v : Value) (l : List UInt8) (h : EntAt Any w b x) (ok : EntOk x) (big : EntBig x) (hs : Sl w v (bytes l)) (hl : l.length ≤ 500000000) :
    Calls Try.prog 27 #[v, .pointer (some ⟨b, 0, none⟩)] w (RetSl w (l ++ partB x .op)) := by
  obtain ⟨q, K, hp⟩ := h
  have c5 : w.cell? ⟨b, 5, none⟩ = some (.int .u8 (x.op.h.kind : Int)) := K.cell 5
  have c6 : w.cell? ⟨b, 6, none⟩ = some (.string ⟨x.op.h.path.toArray⟩) := K.cell 6
  have c7 : w.cell? ⟨b, 7, none⟩ = some (q.dv) := K.cell 7
  have c8 : w.cell? ⟨b, 8, none⟩ = some (.int .i64 x.op.h.version) := K.cell 8
  have c9 : w.cell? ⟨b, 9, none⟩ = some (.bool x.op.h.seq) := K.cell 9
  have c10 : w.cell? ⟨b, 10, none⟩ = some (.bool x.op.h.eph) := K.cell 10
  have c11 : w.cell? ⟨b, 11, none⟩ = some (q.pv) := K.cell 11
  have C := putOp_any w x.op q.dv q.pv hp.1 ok.op w v l (Gr.refl _) hs (by have := big.op; omega)
  have CC := Lib.hid C
  clear C K hp ok big hs
  go_enter Try.func27, Try.ntmps27
  go_wp2_with fail
  refine CC.out.mono ?_
  rintro e w1 ⟨v1, rfl, s1, g1⟩
  go_wp2
  go_ret
  exact ⟨_, rfl, s1, g1⟩
theorem put_item (w : World) (b : Nat) (x : EntD) (v : Value) (l : List UInt8) (h : EntAt Any w b x) (ok : EntOk x) (big : EntBig x) (hs : Sl w v (bytes l)) (hl : l.length ≤ 500000000) :
    Calls Try.prog 33 #[v, .pointer (some ⟨b, 0, none⟩)] w (RetSl w (l ++ partB x .item)) := by
  obtain ⟨q, K, hp⟩ := h
  have c12 : w.cell? ⟨b, 12, none⟩ = some (.int .i64 x.item.origin) := K.cell 12
  have c13 : w.cell? ⟨b, 13, none⟩ = some (.int .u64 (x.item.seq : Int)) := K.cell 13
  have c14 : w.cell? ⟨b, 14, none⟩ = some (.int .i64 x.item.region) := K.cell 14
  have c15 : w.cell? ⟨b, 15, none⟩ = some (.int .u64 (x.item.epoch : Int)) := K.cell 15
  have c16 : w.cell? ⟨b, 16, none⟩ = some (q.sv) := K.cell 16
  have c17 : w.cell? ⟨b, 17, none⟩ = some (q.ev) := K.cell 17
  have c18 : w.cell? ⟨b, 18, none⟩ = some (.int .u32 (x.item.closed : Int)) := K.cell 18
  have C := putItem_any v l x.item q.sv q.ev w hs hp.2.1 ok.item big.item (by omega)
  have CC := Lib.hid C
  clear C K hp ok big hs
  go_enter Try.func33, Try.ntmps33
  go_wp2_with fail
  refine CC.out.mono ?_
  rintro e w1 ⟨v1, rfl, s1, g1⟩
  go_wp2
  go_ret
  exact ⟨_, rfl, s1, g1⟩
theorem put_site (w : World) (b : Nat) (x : EntD) (v : Value) (l : List UInt8) (h : EntAt Any w b x) (ok : EntOk x) (big : EntBig x) (hs : Sl w v (bytes l)) (hl : l.length ≤ 500000000) :
    Calls Try.prog 39 #[v, .pointer (some ⟨b, 0, none⟩)] w (RetSl w (l ++ partB x .site)) := by
  obtain ⟨q, K, hp⟩ := h
  have c19 : w.cell? ⟨b, 19, none⟩ = some (.int .i64 x.site) := K.cell 19
  have hB := wrap_byte x.site
  have C := wbyte v l (byteOf x.site) w hs (by omega) (byteOf_lt _)
  have CC := Lib.hid C
  clear C K hp ok big hs
  go_enter Try.func39, Try.ntmps39
  go_wp2_with fail
  refine CC.out.mono ?_
  rintro e w1 ⟨v1, rfl, s1, g1⟩
  go_wp2
  go_ret
  exact ⟨_, rfl, s1, g1⟩
theorem put_wher (w : World) (b : Nat) (x : EntD) (v : Value) (l : List UInt8) (h : EntAt Any w b x) (ok : EntOk x) (big : EntBig x) (hs : Sl w v (bytes l)) (hl : l.length ≤ 500000000) :
    Calls Try.prog 44 #[v, .pointer (some ⟨b, 0, none⟩)] w (RetSl w (l ++ partB x .wher)) := by
  obtain ⟨q, K, hp⟩ := h
  have c20 : w.cell? ⟨b, 20, none⟩ = some (.int .i64 x.region) := K.cell 20
  have C := wint v l x.region w hs (by omega)
  have CC := Lib.hid C
  clear C K hp ok big hs
  go_enter Try.func44, Try.ntmps44
  go_wp2_with fail
  refine CC.out.mono ?_
  rintro e w1 ⟨v1, rfl, s1, g1⟩
  go_wp2
  go_ret
  exact ⟨_, rfl, s1, g1⟩
theorem put_epoch (w : World) (b : Nat) (x : EntD) (v : Value) (l : List UInt8) (h : EntAt Any w b x) (ok : EntOk x) (big : EntBig x) (hs : Sl w v (bytes l)) (hl : l.length ≤ 500000000) :
    Calls Try.prog 49 #[v, .pointer (some ⟨b, 0, none⟩)] w (RetSl w (l ++ partB x .epoch)) := by
  obtain ⟨q, K, hp⟩ := h
  have c21 : w.cell? ⟨b, 21, none⟩ = some (.int .u64 (x.epoch : Int)) := K.cell 21
  have C := wuint v l x.epoch w hs (by omega) ok.epoch
  have CC := Lib.hid C
  clear C K hp ok big hs
  go_enter Try.func49, Try.ntmps49
  go_wp2_with fail
  refine CC.out.mono ?_
  rintro e w1 ⟨v1, rfl, s1, g1⟩
  go_wp2
  go_ret
  exact ⟨_, rfl, s1, g1⟩
theorem put_stamp (w : World) (b : Nat) (x : EntD) (v : Value) (l : List UInt8) (h : EntAt Any w b x) (ok : EntOk x) (big : EntBig x) (hs : Sl w v (bytes l)) (hl : l.length ≤ 500000000) :
    Calls Try.prog 52 #[v, .pointer (some ⟨b, 0, none⟩)] w (RetSl w (l ++ partB x .stamp)) := by
  obtain ⟨q, K, hp⟩ := h
  have c22 : w.cell? ⟨b, 22, none⟩ = some (q.fv) := K.cell 22
  have C := putStamp_any v q.fv l x.frontier w hs hp.2.2.1 ok.frontier (by have := big.frontier; omega)
  have CC := Lib.hid C
  clear C K hp ok big hs
  go_enter Try.func52, Try.ntmps52
  go_wp2_with fail
  refine CC.out.mono ?_
  rintro e w1 ⟨v1, rfl, s1, g1⟩
  go_wp2
  go_ret
  exact ⟨_, rfl, s1, g1⟩
theorem putPart_any (p : PartK) (w : World) (b : Nat) (x : EntD) (v : Value) (l : List UInt8) (h : EntAt Any w b x) (ok : EntOk x) (big : EntBig x) (hs : Sl w v (bytes l)) (hl : l.length ≤ 500000000) :
    Calls Try.prog (putF p) #[v, .pointer (some ⟨b, 0, none⟩)] w (RetSl w (l ++ partB x p)) := by
  cases p with
  | client => exact put_client w b x v l h ok big hs hl
  | owner => exact put_owner w b x v l h ok big hs hl
  | op => exact put_op w b x v l h ok big hs hl
  | item => exact put_item w b x v l h ok big hs hl
  | site => exact put_site w b x v l h ok big hs hl
  | wher => exact put_wher w b x v l h ok big hs hl
  | epoch => exact put_epoch w b x v l h ok big hs hl
  | stamp => exact put_stamp w b x v l h ok big hs hl
/-! ### What allows them -/
theorem may_owner (w : World) (b : Nat) (x : EntD) (h : EntAt Any w b x) (ok : EntOk x) (big : EntBig x) :
    Calls Try.prog 25 #[.pointer (some ⟨b, 0, none⟩)] w (RetBool w (mayPart x .owner)) := by
  obtain ⟨q, K, hp⟩ := h
  have c3 : w.cell? ⟨b, 3, none⟩ = some (.int .i64 x.osite) := K.cell 3
  have c4 : w.cell? ⟨b, 4, none⟩ = some (.int .u32 (x.on : Int)) := K.cell 4
  have C := maySess_any x.osite x.on w
  have CC := Lib.hid C
  clear C K hp ok big
  go_enter Try.func25, Try.ntmps25
  go_wp2_with fail
  refine CC.out.mono ?_
  rintro e w1 ⟨rfl, g1⟩
  go_wp2
  go_ret
  exact ⟨rfl, g1⟩
theorem may_op (w : World) (b : Nat) (x : EntD) (h : EntAt Any w b x) (ok : EntOk x) (big : EntBig x) :
    Calls Try.prog 31 #[.pointer (some ⟨b, 0, none⟩)] w (RetBool w (mayPart x .op)) := by
  obtain ⟨q, K, hp⟩ := h
  have c5 : w.cell? ⟨b, 5, none⟩ = some (.int .u8 (x.op.h.kind : Int)) := K.cell 5
  have c6 : w.cell? ⟨b, 6, none⟩ = some (.string ⟨x.op.h.path.toArray⟩) := K.cell 6
  have c7 : w.cell? ⟨b, 7, none⟩ = some (q.dv) := K.cell 7
  have c8 : w.cell? ⟨b, 8, none⟩ = some (.int .i64 x.op.h.version) := K.cell 8
  have c9 : w.cell? ⟨b, 9, none⟩ = some (.bool x.op.h.seq) := K.cell 9
  have c10 : w.cell? ⟨b, 10, none⟩ = some (.bool x.op.h.eph) := K.cell 10
  have c11 : w.cell? ⟨b, 11, none⟩ = some (q.pv) := K.cell 11
  have C := mayOp_any w x.op q.dv q.pv hp.1 big.parts
  have CC := Lib.hid C
  clear C K hp ok big
  go_enter Try.func31, Try.ntmps31
  go_wp2_with fail
  refine CC.out.mono ?_
  rintro e w1 ⟨rfl, g1⟩
  go_wp2
  go_ret
  exact ⟨rfl, g1⟩
theorem may_item (w : World) (b : Nat) (x : EntD) (h : EntAt Any w b x) (ok : EntOk x) (big : EntBig x) :
    Calls Try.prog 37 #[.pointer (some ⟨b, 0, none⟩)] w (RetBool w (mayPart x .item)) := by
  obtain ⟨q, K, hp⟩ := h
  have c12 : w.cell? ⟨b, 12, none⟩ = some (.int .i64 x.item.origin) := K.cell 12
  have c13 : w.cell? ⟨b, 13, none⟩ = some (.int .u64 (x.item.seq : Int)) := K.cell 13
  have c14 : w.cell? ⟨b, 14, none⟩ = some (.int .i64 x.item.region) := K.cell 14
  have c15 : w.cell? ⟨b, 15, none⟩ = some (.int .u64 (x.item.epoch : Int)) := K.cell 15
  have c16 : w.cell? ⟨b, 16, none⟩ = some (q.sv) := K.cell 16
  have c17 : w.cell? ⟨b, 17, none⟩ = some (q.ev) := K.cell 17
  have c18 : w.cell? ⟨b, 18, none⟩ = some (.int .u32 (x.item.closed : Int)) := K.cell 18
  have C := mayItem_any w x.item q.sv q.ev hp.2.1 big.effs
  have CC := Lib.hid C
  clear C K hp ok big
  go_enter Try.func37, Try.ntmps37
  go_wp2_with fail
  refine CC.out.mono ?_
  rintro e w1 ⟨rfl, g1⟩
  go_wp2
  go_ret
  exact ⟨rfl, g1⟩
theorem may_site (w : World) (b : Nat) (x : EntD) (h : EntAt Any w b x) (ok : EntOk x) (big : EntBig x) :
    Calls Try.prog 43 #[.pointer (some ⟨b, 0, none⟩)] w (RetBool w (mayPart x .site)) := by
  obtain ⟨q, K, hp⟩ := h
  have c19 : w.cell? ⟨b, 19, none⟩ = some (.int .i64 x.site) := K.cell 19
  have KEY := Lib.hid (fun (c : Bool) (w' : World) (h : c = mayPart x .site) (g : Gr w w') => RetBool.mk h g)
  have MM : mayPart x .site = (decide (0 ≤ x.site) && decide (x.site < 3)) := rfl
  obtain ⟨z, hz⟩ : ∃ z, z = x.site := ⟨_, rfl⟩
  rw [← hz] at c19 MM
  have HM := Lib.hid MM
  clear MM hz K hp ok big
  by_cases h1 : z < 0
  · have b1 : decide ((0 : Int) ≤ z) = false := by simp; omega
    have HV : Hid (false = mayPart x .site) := Lib.hid (by rw [HM.out]; simp; omega)
    go_enter Try.func43, Try.ntmps43
    go_wp2
    go_ret
    exact KEY.out _ _ HV.out (Gr.refl _)
  by_cases h2 : 3 ≤ z
  · have b1 : decide ((0 : Int) ≤ z) = true := by simp; omega
    have b2 : decide (z < (3 : Int)) = false := by simp; omega
    have HV : Hid (false = mayPart x .site) := Lib.hid (by rw [HM.out]; simp; omega)
    go_enter Try.func43, Try.ntmps43
    go_wp2
    go_ret
    exact KEY.out _ _ HV.out (Gr.refl _)
  have b1 : decide ((0 : Int) ≤ z) = true := by simp; omega
  have b2 : decide (z < (3 : Int)) = true := by simp; omega
  have HV : Hid (true = mayPart x .site) := Lib.hid (by rw [HM.out]; simp; omega)
  go_enter Try.func43, Try.ntmps43
  go_wp2
  go_ret
  exact KEY.out _ _ HV.out (Gr.refl _)
theorem may_wher (w : World) (b : Nat) (x : EntD) (h : EntAt Any w b x) (ok : EntOk x) (big : EntBig x) :
    Calls Try.prog 48 #[.pointer (some ⟨b, 0, none⟩)] w (RetBool w (mayPart x .wher)) := by
  obtain ⟨q, K, hp⟩ := h
  have c20 : w.cell? ⟨b, 20, none⟩ = some (.int .i64 x.region) := K.cell 20
  have KEY := Lib.hid (fun (c : Bool) (w' : World) (h : c = mayPart x .wher) (g : Gr w w') => RetBool.mk h g)
  have MM : mayPart x .wher = (decide (0 ≤ x.region) && decide (x.region < 4)) := rfl
  obtain ⟨z, hz⟩ : ∃ z, z = x.region := ⟨_, rfl⟩
  rw [← hz] at c20 MM
  have HM := Lib.hid MM
  clear MM hz K hp ok big
  by_cases h1 : z < 0
  · have b1 : decide ((0 : Int) ≤ z) = false := by simp; omega
    have HV : Hid (false = mayPart x .wher) := Lib.hid (by rw [HM.out]; simp; omega)
    go_enter Try.func48, Try.ntmps48
    go_wp2
    go_ret
    exact KEY.out _ _ HV.out (Gr.refl _)
  by_cases h2 : 4 ≤ z
  · have b1 : decide ((0 : Int) ≤ z) = true := by simp; omega
    have b2 : decide (z < (4 : Int)) = false := by simp; omega
    have HV : Hid (false = mayPart x .wher) := Lib.hid (by rw [HM.out]; simp; omega)
    go_enter Try.func48, Try.ntmps48
    go_wp2
    go_ret
    exact KEY.out _ _ HV.out (Gr.refl _)
  have b1 : decide ((0 : Int) ≤ z) = true := by simp; omega
  have b2 : decide (z < (4 : Int)) = true := by simp; omega
  have HV : Hid (true = mayPart x .wher) := Lib.hid (by rw [HM.out]; simp; omega)
  go_enter Try.func48, Try.ntmps48
  go_wp2
  go_ret
  exact KEY.out _ _ HV.out (Gr.refl _)
theorem may_stamp (w : World) (b : Nat) (x : EntD) (h : EntAt Any w b x) (ok : EntOk x) (big : EntBig x) :
    Calls Try.prog 56 #[.pointer (some ⟨b, 0, none⟩)] w (RetBool w (mayPart x .stamp)) := by
  obtain ⟨q, K, hp⟩ := h
  have c22 : w.cell? ⟨b, 22, none⟩ = some (q.fv) := K.cell 22
  have KEY := Lib.hid (fun (c : Bool) (w' : World) (h : c = mayPart x .stamp) (g : Gr w w') => RetBool.mk h g)
  have MM : mayPart x .stamp = decide (x.frontier.length ≤ 3) := rfl
  have hsl := hp.2.2.1.oneCells
  rw [nums_length] at hsl
  obtain ⟨n, hn⟩ : ∃ n, n = x.frontier.length := ⟨_, rfl⟩
  rw [← hn] at MM hsl
  obtain ⟨a, c, hfv⟩ := hsl
  rw [hfv] at c22
  have HM := Lib.hid MM
  clear MM hn K hp ok big hfv
  by_cases h1 : 3 < n
  · have b1 : decide ((n : Int) ≤ 3) = false := by simp; omega
    have HV : Hid (false = mayPart x .stamp) := Lib.hid (by rw [HM.out]; simp; omega)
    go_enter Try.func56, Try.ntmps56
    go_wp2
    go_ret
    exact KEY.out _ _ HV.out (Gr.refl _)
  · have b1 : decide ((n : Int) ≤ 3) = true := by simp; omega
    have HV : Hid (true = mayPart x .stamp) := Lib.hid (by rw [HM.out]; simp; omega)
    go_enter Try.func56, Try.ntmps56
    go_wp2
    go_ret
    exact KEY.out _ _ HV.out (Gr.refl _)
end Go.Proofs.Ytiemgmbjhllmbaa
