/-
  Package entry: read.
-/
import Derived.Test.YtgilijkmmcpfjaaZEnRow
set_option linter.unusedVariables false
set_option maxRecDepth 100000
namespace Go.Proofs.Ytgilijkmmcpfjaa
open Go.RowKit
theorem opG_look2 {W : World} {ops : Array Oper} {o : Oper} {a : Act} {t : TypeId} {b : Nat} {key c : Value} {V : Value → World → Prop} (hr : (Instr.lookup t (.map (some b)) key true).run Try.prog W = .ok c W) (hg : Region.wanted o (yielded ops a.tmps) = true) (m x : Operand) (hop : o.op = Op.lookup t m x true)
    (hm : a.eval m = .map (some b)) (hx : a.eval x = key) (hV : V c W) : opG Try.prog ops o a W V := by
  unfold opG
  rw [if_pos hg]
  simp [execOp, hop, hm, hx, hr, Result.andThen]
  exact ⟨Gr.refl _, hV⟩
abbrev Mid (w w1 : World) : Nat → Prop := fun k => w.heap.size ≤ k ∧ k < w1.heap.size
def RetReader2 (w : World) (l : List UInt8) (en : Ending) (w' : World) : Prop := ∃ g, en = .returned (.pointer (some ⟨g, 0, none⟩)) ∧ Rs w' (Mid w w') g (l, false) ∧ Below w.heap.size w w'
set_option maxHeartbeats 400000 in
theorem new2_any (v : Value) (l : List UInt8) (w : World) (hs : Sl w v (bytes l)) (hl : l.length ≤ 1000000000) :
    Calls Try.prog 27 #[v] w (RetReader2 w l) := by
  go_enter Try.func27, Try.ntmps27
  go_wp2_with fail
  refine (clone_any _ l _ hs (by omega)).mono ?_
  rintro e w1 ⟨v1, rfl, hown1, hb1⟩
  obtain ⟨a1, c1, rfl⟩ := hown1.shape
  go_wp2
  go_ret
  have hs1 := hown1.sl.below ((Below.refl _ _).alloc (Nat.le_refl _) (.cells #[.slice a1 (bytes l).length c1, .bool false] 98))
  refine ⟨w1.heap.size, rfl, ⟨⟨hb1.size, by simp⟩, _, heap_alloc_new w1 _, hs1, ?_, fun k hk => ⟨hown1.ownBlock_ge k hk, ?_⟩⟩, hb1.alloc hb1.size _⟩
  · intro h
    have := (World.ownsRow.lt hown1 _ h).2
    omega
  · have := (World.ownsRow.lt hown1 _ hk).2
    simp
    omega
def stE (a b : List Value) : Nat → List Value
  | 0 => a
  | _ => b
theorem left_site : Left rSite := fun s => by rw [rSite_2]; exact left_place 3 s
theorem left_via {α β : Type} {f : RS → α × RS} (c : α → β) {r : RS → β × RS} (h : ∀ s, r s = (c (f s).1, (f s).2)) (hf : Left f) : Left r := fun s => by rw [h s]; exact hf s
theorem left_item : Left rItem := left_via tupI rItem_seq (left_seq left_site (left_seq rUint_left (left_seq (left_region (-1)) (left_seq rUint_left (left_seq left_stamp (left_seq (left_list left_eff 16) left_small))))))
theorem left_val : (p : PartK) → Left (rVal p)
  | .client => left_via (f := rSeq rSmall rSmall) (fun x => .client x.1 x.2) (fun _ => rfl) (left_seq left_small left_small)
  | .owner => left_via (f := rSess) (fun x => .owner x.1 x.2) (fun _ => rfl) left_sess
  | .op => left_via (f := rOp) .op (fun _ => rfl) left_op
  | .item => left_via (f := rItem) .item (fun _ => rfl) left_item
  | .site => left_via (f := rPlace 3) (fun n => .site (n : Int)) (fun _ => rfl) (left_place 3)
  | .wher => left_via (f := rRegion 0) .wher (fun _ => rfl) (left_region 0)
  | .epoch => left_via (f := rUint) .epoch (fun _ => rfl) rUint_left
  | .stamp => left_via (f := rStamp) .stamp (fun _ => rfl) left_stamp
/-- What is read behind k parts. -/
def rAt (l : List UInt8) (ps : List PartK) (k : Nat) : EntD × RS := (ps.take k).foldl rPart (rKind l)
theorem rAt_succ (l : List UInt8) (ps : List PartK) (k : Nat) (hk : k < ps.length) : rAt l ps (k + 1) = (putVal (rAt l ps k).1 (rVal ps[k] (rAt l ps k).2).1, (rVal ps[k] (rAt l ps k).2).2) := by
  unfold rAt
  rw [List.take_add_one, List.getElem?_eq_getElem hk, List.foldl_append]
  rfl
theorem rAt_all (l : List UInt8) (ps : List PartK) : rAt l ps ps.length = ps.foldl rPart (rKind l) := by unfold rAt; rw [List.take_of_length_le (Nat.le_refl _)]
theorem rAt_left (l : List UInt8) (ps : List PartK) (k : Nat) : (rAt l ps k).2.1.length ≤ l.length := by
  unfold rAt
  have : ∀ (qs : List PartK) (y : EntD × RS), (qs.foldl rPart y).2.1.length ≤ y.2.1.length := by
    intro qs
    induction qs with
    | nil => intro y; exact Nat.le_refl _
    | cons p qs ih => intro y; rw [List.foldl_cons]; exact Nat.le_trans (ih _) (left_val p y.2)
  exact Nat.le_trans (this _ _) (rByte_left (l, false))
/-- What read hands back. -/
def RetRead (w : World) (l : List UInt8) (e : Ending) (w' : World) : Prop := ∃ q pv, e = .returned (.tuple #[.agg (entCells (rEnt l).1 q).toArray, pv, .bool (entOk l)]) ∧ EntP (From w.heap.size) w' (rEnt l).1 q ∧ Gr w w'
theorem rKind_eq (l : List UInt8) (n : Nat) (h : n = (rByte (l, false)).1) : rKind l = ({ zeroX with kind := n }, (rByte (l, false)).2) := by rw [h]; rfl
theorem rEnt_eq (l : List UInt8) (n : Nat) (h : n = (rByte (l, false)).1) : rEnt l = (kindP n).foldl rPart (rKind l) := by rw [h]; rfl
theorem entOk_eq (l : List UInt8) (n : Nat) (h : n = (rByte (l, false)).1) : entOk l = (kindK n && rDone (rEnt l).2 == 0) := by rw [h]; rfl
theorem retRead_key (w : World) (l : List UInt8) (x : EntD) (hx : x = (rEnt l).1) (q : EntV) (pv : Value) (d : Bool) (w' : World) (h1 : d = entOk l) (h2 : EntP (From w.heap.size) w' x q) (h3 : Gr w w') : RetRead w l (.returned (.tuple #[.agg (entCells x q).toArray, pv, .bool d])) w' := by
  subst hx
  exact ⟨q, pv, by rw [h1], h2, h3⟩
theorem kindP_len (n : Nat) : (kindP n).length ≤ 4 := by unfold kindP; split <;> decide
end Go.Proofs.Ytgilijkmmcpfjaa
