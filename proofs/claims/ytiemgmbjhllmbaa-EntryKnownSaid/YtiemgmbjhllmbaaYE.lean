/-
  Entries, plain: what they are made of, their bytes, and what reads them. No program in sight.
  Entries in memory: what it is that cells read as an operation, an item, an entry; the blocks that they lie in.
-/
import Derived.Test.YtiemgmbjhllmbaaYB
import Derived.Test.YtiemgmbjhllmbaaYA
import Derived.Test.YtiemgmbjhllmbaaYEnNums
import Derived.Test.YtiemgmbjhllmbaaYD
section
set_option linter.unusedVariables false
namespace Go.Proofs.Ytiemgmbjhllmbaa
structure NodeD where
  data : List UInt8
  version : Nat
  kin : Nat
  next : Nat
  site : Int
  n : Nat
  made : Nat
  changed : Nat
  touched : Nat
structure EffD where
  path : List UInt8
  gone : Bool
  node : NodeD
structure ItemD where
  origin : Int
  seq : Nat
  region : Int
  epoch : Nat
  stamp : List Nat
  effs : List EffD
  closed : Nat
/-- An operation without its parts. -/
structure OpH where
  kind : Nat
  path : List UInt8
  data : List UInt8
  version : Int
  seq : Bool
  eph : Bool
inductive OpD where
  | mk (h : OpH) (parts : List OpD) : OpD
structure EntD where
  kind : Nat
  client : Nat
  req : Nat
  osite : Int
  on : Nat
  op : OpD
  item : ItemD
  site : Int
  region : Int
  epoch : Nat
  frontier : List Nat
def OpD.h : OpD → OpH | .mk h _ => h
def OpD.parts : OpD → List OpD | .mk _ ps => ps
def zeroN : NodeD := ⟨[], 0, 0, 0, 0, 0, 0, 0, 0⟩
def zeroE : EffD := ⟨[], false, zeroN⟩
def zeroI : ItemD := ⟨0, 0, 0, 0, [], [], 0⟩
def zeroO : OpD := .mk ⟨0, [], [], 0, false, false⟩ []
def zeroX : EntD := ⟨0, 0, 0, 0, 0, zeroO, zeroI, 0, 0, 0, []⟩
instance : Inhabited NodeD := ⟨zeroN⟩
instance : Inhabited EffD := ⟨zeroE⟩
instance : Inhabited ItemD := ⟨zeroI⟩
instance : Inhabited OpD := ⟨zeroO⟩
instance : Inhabited EntD := ⟨zeroX⟩
/-! ### The numbers' ranges -/
def I64 (z : Int) : Prop := -9223372036854775808 ≤ z ∧ z ≤ 9223372036854775807
structure NodeOk (x : NodeD) : Prop where
  version : x.version < 2 ^ 32
  kin : x.kin < 2 ^ 32
  next : x.next < 2 ^ 32
  site : I64 x.site
  n : x.n < 2 ^ 32
  made : x.made < 2 ^ 64
  changed : x.changed < 2 ^ 64
  touched : x.touched < 2 ^ 64
def EffOk (x : EffD) : Prop := NodeOk x.node
structure ItemOk (x : ItemD) : Prop where
  origin : I64 x.origin
  seq : x.seq < 2 ^ 64
  region : I64 x.region
  epoch : x.epoch < 2 ^ 64
  stamp : ∀ k ∈ x.stamp, k < 2 ^ 64
  effs : ∀ e ∈ x.effs, EffOk e
  closed : x.closed < 2 ^ 32
structure HeadOk (x : OpH) : Prop where
  kind : x.kind < 256
  version : I64 x.version
mutual
def OpOk : OpD → Prop
  | .mk h ps => HeadOk h ∧ OpsOk ps
def OpsOk : List OpD → Prop
  | [] => True
  | o :: l => OpOk o ∧ OpsOk l
end
theorem OpsOk.mem : ∀ {l : List OpD}, OpsOk l → ∀ o ∈ l, OpOk o
  | o :: l, h, x, hx => by
    simp only [OpsOk] at h
    rcases List.mem_cons.1 hx with rfl | hx
    · exact h.1
    · exact OpsOk.mem h.2 x hx
theorem OpsOk.of : ∀ {l : List OpD}, (∀ o ∈ l, OpOk o) → OpsOk l
  | [], _ => by simp only [OpsOk]
  | o :: l, h => by
    simp only [OpsOk]
    exact ⟨h o (by simp), OpsOk.of fun x hx => h x (by simp [hx])⟩
structure EntOk (x : EntD) : Prop where
  kind : x.kind < 256
  client : x.client < 2 ^ 32
  req : x.req < 2 ^ 32
  osite : I64 x.osite
  on : x.on < 2 ^ 32
  op : OpOk x.op
  item : ItemOk x.item
  site : I64 x.site
  region : I64 x.region
  epoch : x.epoch < 2 ^ 64
  frontier : ∀ k ∈ x.frontier, k < 2 ^ 64
/-! ### Bytes -/
def byteOf (z : Int) : Nat := (z % 256).toNat
theorem byteOf_lt (z : Int) : byteOf z < 256 := by unfold byteOf; omega
theorem byteOf_cast (z : Int) : ((byteOf z : Nat) : Int) = z % 256 := by unfold byteOf; omega
def textB (t : List UInt8) : List UInt8 := be 4 t.length ++ t
def flagB (b : Bool) : List UInt8 := be 1 (if b then 1 else 0)
def sessB (site : Int) (n : Nat) : List UInt8 := be 1 (byteOf site) ++ be 8 n
def stampB (v : List Nat) : List UInt8 := be 8 v.length ++ v.flatMap (be 8)
def headB (h : OpH) : List UInt8 := be 1 h.kind ++ textB h.path ++ textB h.data ++ be 8 (u64 h.version) ++ flagB h.seq ++ flagB h.eph
mutual
def opB : OpD → List UInt8
  | .mk h ps => headB h ++ be 8 ps.length ++ opsB ps
def opsB : List OpD → List UInt8
  | [] => []
  | o :: l => opB o ++ opsB l
end
theorem opB_mk (h : OpH) (ps : List OpD) : opB (.mk h ps) = headB h ++ be 8 ps.length ++ opsB ps := by simp only [opB]
theorem opsB_cons (o : OpD) (l : List OpD) : opsB (o :: l) = opB o ++ opsB l := by simp only [opsB]
theorem opsB_nil : opsB [] = [] := by simp only [opsB]
theorem opsB_append (a b : List OpD) : opsB (a ++ b) = opsB a ++ opsB b := by
  induction a with
  | nil => simp [opsB_nil]
  | cons o a ih => rw [List.cons_append, opsB_cons, opsB_cons, ih, List.append_assoc]
def nodeB (x : NodeD) : List UInt8 := textB x.data ++ be 8 x.version ++ be 8 x.kin ++ be 8 x.next ++ sessB x.site x.n ++ be 8 x.made ++ be 8 x.changed ++ be 8 x.touched
def effB (e : EffD) : List UInt8 := textB e.path ++ flagB e.gone ++ (if e.gone then [] else nodeB e.node)
def itemB (x : ItemD) : List UInt8 := be 1 (byteOf x.origin) ++ be 8 x.seq ++ be 8 (u64 x.region) ++ be 8 x.epoch ++ stampB x.stamp ++ be 8 x.effs.length ++ x.effs.flatMap effB ++ be 8 x.closed
inductive PartK where
  | client | owner | op | item | site | wher | epoch | stamp
  deriving DecidableEq
/-- What a part of an entry holds. -/
inductive PartV where
  | client (c r : Nat) | owner (s : Int) (n : Nat) | op (o : OpD) | item (x : ItemD) | site (s : Int) | wher (r : Int) | epoch (e : Nat) | stamp (v : List Nat)
def PartV.k : PartV → PartK
  | .client _ _ => .client
  | .owner _ _ => .owner
  | .op _ => .op
  | .item _ => .item
  | .site _ => .site
  | .wher _ => .wher
  | .epoch _ => .epoch
  | .stamp _ => .stamp
def valOf (x : EntD) : PartK → PartV
  | .client => .client x.client x.req
  | .owner => .owner x.osite x.on
  | .op => .op x.op
  | .item => .item x.item
  | .site => .site x.site
  | .wher => .wher x.region
  | .epoch => .epoch x.epoch
  | .stamp => .stamp x.frontier
def putVal (y : EntD) : PartV → EntD
  | .client c r => { y with client := c, req := r }
  | .owner s n => { y with osite := s, on := n }
  | .op o => { y with op := o }
  | .item x => { y with item := x }
  | .site s => { y with site := s }
  | .wher r => { y with region := r }
  | .epoch e => { y with epoch := e }
  | .stamp v => { y with frontier := v }
def valB : PartV → List UInt8
  | .client c r => be 8 c ++ be 8 r
  | .owner s n => sessB s n
  | .op o => opB o
  | .item x => itemB x
  | .site s => be 1 (byteOf s)
  | .wher r => be 8 (u64 r)
  | .epoch e => be 8 e
  | .stamp v => stampB v
def partB (x : EntD) (p : PartK) : List UInt8 := valB (valOf x p)
def kindP : Nat → List PartK
  | 1 => [.client, .owner, .op]
  | 2 => [.client]
  | 3 => [.client, .owner]
  | 4 => [.item]
  | 5 => [.wher, .epoch, .stamp]
  | 6 => [.wher, .epoch]
  | 7 => [.wher]
  | 8 => [.site, .wher]
  | 9 => [.site, .wher, .epoch, .stamp]
  | _ => []
def kindK (n : Nat) : Bool := decide (1 ≤ n) && decide (n ≤ 9)
def tellB (x : EntD) : List UInt8 := be 1 x.kind ++ (kindP x.kind).flatMap (partB x)
def wholeL (x : EntD) : List Nat := [x.kind, x.client, x.req, u64 x.osite, x.on, u64 x.site, u64 x.region, x.epoch, u64 x.item.origin, u64 x.item.region]
def wholeB (x : EntD) : List UInt8 := (wholeL x).flatMap (be 8) ++ opB x.op ++ stampB x.frontier ++ itemB x.item
theorem flatBe_length (v : List Nat) : (v.flatMap (be 8)).length = v.length * 8 := by
  induction v with
  | nil => rfl
  | cons x l ih => rw [List.flatMap_cons, List.length_append, ih, be_length, List.length_cons]; omega
theorem textB_length (t : List UInt8) : (textB t).length = 4 + t.length := by simp [textB, be_length]
theorem flagB_length (b : Bool) : (flagB b).length = 1 := by simp [flagB, be_length]
theorem sessB_length (s : Int) (n : Nat) : (sessB s n).length = 9 := by simp [sessB, be_length]
theorem stampB_length (v : List Nat) : (stampB v).length = 8 + v.length * 8 := by unfold stampB; rw [List.length_append, be_length, flatBe_length]
theorem headB_length (h : OpH) : (headB h).length = 19 + h.path.length + h.data.length := by simp [headB, be_length, textB_length, flagB_length]; omega
theorem nodeB_length (x : NodeD) : (nodeB x).length = 61 + x.data.length := by simp [nodeB, be_length, textB_length, sessB_length]; omega
theorem effB_length (x : EffD) : (effB x).length = 5 + x.path.length + (if x.gone then 0 else 61 + x.node.data.length) := by
  unfold effB
  cases hg : x.gone <;> simp [textB_length, flagB_length, nodeB_length] <;> omega
/-! ### What may be told -/
def maySess (s : Int) : Bool := decide (0 ≤ s) && decide (s < 3)
def mayHead (h : OpH) : Bool := decide (h.path.length ≤ 64) && decide (h.data.length ≤ 64)
def mayOp0 (o : OpD) : Bool := mayHead o.h && decide (o.parts.length ≤ 0)
def mayOp (o : OpD) : Bool := mayHead o.h && (decide (o.parts.length ≤ 6) && o.parts.all mayOp0)
def zeroNode (x : NodeD) : Bool := decide (x.data.length = 0) && decide (x.version = 0) && decide (x.kin = 0) && decide (x.next = 0) && decide (x.site = 0) && decide (x.n = 0) && decide (x.made = 0) && decide (x.changed = 0) && decide (x.touched = 0)
def mayEff (e : EffD) : Bool := decide (e.path.length ≤ 64) && decide (e.node.data.length ≤ 64) && maySess e.node.site && (!e.gone || zeroNode e.node)
def mayItem (x : ItemD) : Bool := decide (0 ≤ x.origin) && decide (x.origin < 3) && decide (-1 ≤ x.region) && decide (x.region < 4) && decide (x.stamp.length ≤ 3) && (decide (x.effs.length ≤ 16) && x.effs.all mayEff)
def valMay : PartV → Bool
  | .client _ _ => true
  | .owner s _ => maySess s
  | .op o => mayOp o
  | .item x => mayItem x
  | .site s => decide (0 ≤ s) && decide (s < 3)
  | .wher r => decide (0 ≤ r) && decide (r < 4)
  | .epoch _ => true
  | .stamp v => decide (v.length ≤ 3)
def mayPart (x : EntD) (p : PartK) : Bool := valMay (valOf x p)
/-! ### What reads them -/
def rSmall (s : RS) : Nat × RS := if (2 : Nat) ^ 32 ≤ (rUint s).1 then (0, rBad (rUint s).2) else rUint s
def rPlace (n : Nat) (s : RS) : Nat × RS := if n ≤ (rByte s).1 then (0, rBad (rByte s).2) else rByte s
def rRegion (least : Int) (s : RS) : Int × RS := if i64 (rUint s).1 < least ∨ 4 ≤ i64 (rUint s).1 then (0, rBad (rUint s).2) else (i64 (rUint s).1, (rUint s).2)
def rFlag (s : RS) : Bool × RS := ((rPlace 2 s).1 == 1, (rPlace 2 s).2)
def rTextM (most : Nat) (s : RS) : List UInt8 × RS := ((rText s).1, if most < (rText s).1.length then rBad (rText s).2 else (rText s).2)
def rSess (s : RS) : (Int × Nat) × RS := ((((rPlace 3 s).1 : Int), (rSmall (rPlace 3 s).2).1), (rSmall (rPlace 3 s).2).2)
/-- So many parts, one behind the other. -/
def rMany {α : Type} (f : RS → α × RS) : Nat → RS → List α × RS
  | 0, s => ([], s)
  | n + 1, s => ((rMany f n s).1 ++ [(f (rMany f n s).2).1], (f (rMany f n s).2).2)
def rList {α : Type} (most : Nat) (f : RS → α × RS) (s : RS) : List α × RS := rMany f (rCount most s).1 (rCount most s).2
def rStamp (s : RS) : List Nat × RS := rList 3 rUint s
def rHead (s : RS) : OpH × RS :=
  let k := rByte s
  let p := rTextM 64 k.2
  let d := rTextM 64 p.2
  let v := rUint d.2
  let q := rFlag v.2
  let e := rFlag q.2
  (⟨k.1, p.1, d.1, i64 v.1, q.1, e.1⟩, e.2)
def rOp0 (s : RS) : OpD × RS := (.mk (rHead s).1 [], (rCount 0 (rHead s).2).2)
def rOp (s : RS) : OpD × RS := (.mk (rHead s).1 (rList 6 rOp0 (rHead s).2).1, (rList 6 rOp0 (rHead s).2).2)
def rNode (s : RS) : NodeD × RS :=
  let d := rTextM 64 s
  let v := rSmall d.2
  let k := rSmall v.2
  let n := rSmall k.2
  let o := rSess n.2
  let m := rUint o.2
  let c := rUint m.2
  let t := rUint c.2
  (⟨d.1, v.1, k.1, n.1, o.1.1, o.1.2, m.1, c.1, t.1⟩, t.2)
def rEff (s : RS) : EffD × RS :=
  let p := rTextM 64 s
  let g := rFlag p.2
  if g.1 then (⟨p.1, true, zeroN⟩, g.2) else (⟨p.1, false, (rNode g.2).1⟩, (rNode g.2).2)
def rItem (s : RS) : ItemD × RS :=
  let o := rPlace 3 s
  let q := rUint o.2
  let r := rRegion (-1) q.2
  let e := rUint r.2
  let t := rStamp e.2
  let f := rList 16 rEff t.2
  let c := rSmall f.2
  (⟨(o.1 : Int), q.1, r.1, e.1, t.1, f.1, c.1⟩, c.2)
def rVal : PartK → RS → PartV × RS
  | .client, s => (.client (rSmall s).1 (rSmall (rSmall s).2).1, (rSmall (rSmall s).2).2)
  | .owner, s => (.owner (rSess s).1.1 (rSess s).1.2, (rSess s).2)
  | .op, s => (.op (rOp s).1, (rOp s).2)
  | .item, s => (.item (rItem s).1, (rItem s).2)
  | .site, s => (.site ((rPlace 3 s).1 : Int), (rPlace 3 s).2)
  | .wher, s => (.wher (rRegion 0 s).1, (rRegion 0 s).2)
  | .epoch, s => (.epoch (rUint s).1, (rUint s).2)
  | .stamp, s => (.stamp (rStamp s).1, (rStamp s).2)
def rPart (y : EntD × RS) (p : PartK) : EntD × RS := (putVal y.1 (rVal p y.2).1, (rVal p y.2).2)
def rKind (l : List UInt8) : EntD × RS := ({ zeroX with kind := (rByte (l, false)).1 }, (rByte (l, false)).2)
def rEnt (l : List UInt8) : EntD × RS := (kindP (rByte (l, false)).1).foldl rPart (rKind l)
def entOk (l : List UInt8) : Bool := kindK (rByte (l, false)).1 && rDone (rEnt l).2 == 0
/-- What Put answers; what Get answers. -/
def putV (x : EntD) : List UInt8 × Int :=
  if !kindK x.kind || !(kindP x.kind).all (mayPart x) then ([], 1)
  else if !entOk (tellB x) || !decide (wholeB x = wholeB (rEnt (tellB x)).1) then ([], 1)
  else if 4096 < (tellB x).length then ([], 3)
  else (tellB x, 0)
def getV (l : List UInt8) : EntD × Int := if !entOk l || decide (4096 < l.length) then (zeroX, 2) else ((rEnt l).1, 0)
end Go.Proofs.Ytiemgmbjhllmbaa
end
section
set_option linter.unusedVariables false
namespace Go.Proofs.Ytiemgmbjhllmbaa
open Go.RowKit
/-- Blocks of which P holds have not been written. -/
structure Keep (P : Nat → Prop) (w w' : World) : Prop where
  size : w.heap.size ≤ w'.heap.size
  block : ∀ b, P b → b < w.heap.size → w'.heap[b]? = w.heap[b]?
theorem Keep.of_gr {P : Nat → Prop} {w w' : World} (h : Gr w w') : Keep P w w' := ⟨h.size, fun b _ hb => h.block b hb⟩
theorem Keep.of_ch {P ρ : Nat → Prop} {w w' : World} (h : Ch ρ w w') (hn : ∀ b, P b → ¬ ρ b) : Keep P w w' := ⟨h.size, fun b hp hb => h.block b hb (hn b hp)⟩
theorem Keep.of_grown {P : Nat → Prop} {w w' : World} {g : Nat} (h : w.grownBy w' (some g)) (hn : ¬ P g) : Keep P w w' := ⟨h.size, fun b hp hb => h.block b hb (fun e => hn (by injection e with e; rw [← e]; exact hp))⟩
theorem Keep.trans {P : Nat → Prop} {a b c : World} (h : Keep P a b) (k : Keep P b c) : Keep P a c := ⟨Nat.le_trans h.size k.size, fun i hp hi => (k.block i hp (Nat.lt_of_lt_of_le hi h.size)).trans (h.block i hp hi)⟩
abbrev Any : Nat → Prop := fun _ => True
def SlP (P : Nat → Prop) (w : World) (v : Value) (xs : List Value) : Prop := Sl w v xs ∧ (xs = [] ∨ ∀ k, v.ownBlock = some k → P k)
theorem Sl.any {w : World} {v : Value} {xs : List Value} (h : Sl w v xs) : SlP Any w v xs := ⟨h, .inr fun _ _ => trivial⟩
theorem SlP.nil (P : Nat → Prop) (w : World) (a : Option Addr) (c : Nat) : SlP P w (.slice a 0 c) [] := ⟨Sl.nil w a c, .inl rfl⟩
theorem SlP.mono {P Q : Nat → Prop} {w : World} {v : Value} {xs : List Value} (h : SlP P w v xs) (hq : ∀ k, P k → Q k) : SlP Q w v xs := ⟨h.1, h.2.imp id fun h k hk => hq k (h k hk)⟩
theorem SlP.monoLt {P Q : Nat → Prop} {w : World} {v : Value} {xs : List Value} (h : SlP P w v xs) (hq : ∀ k, P k → k < w.heap.size → Q k) : SlP Q w v xs := by
  refine ⟨h.1, ?_⟩
  rcases h.2 with h2 | h2
  · exact .inl h2
  · obtain ⟨a, cap, rfl, _, h1⟩ := h.1
    rcases h1 with h1 | ⟨b, off, rfl, hb, _⟩
    · exact .inl h1
    · exact .inr fun k hk => by
        injection hk with hk
        subst hk
        exact hq b (h2 b rfl) hb
theorem SlP.keep {P : Nat → Prop} {w w' : World} {v : Value} {xs : List Value} (h : SlP P w v xs) (k : Keep P w w') : SlP P w' v xs := by
  refine ⟨?_, h.2⟩
  obtain ⟨a, cap, rfl, hcap, h1⟩ := h.1
  refine ⟨a, cap, rfl, hcap, ?_⟩
  rcases h1 with h1 | ⟨b, off, rfl, hb, hc⟩
  · exact .inl h1
  · rcases h.2 with h2 | h2
    · exact .inl h2
    · exact .inr ⟨b, off, rfl, Nat.lt_of_lt_of_le hb k.size, fun i hi => by rw [World.cell?_of_block (k.block b (h2 b rfl) hb)]; exact hc i hi⟩
theorem SlP.gr {P : Nat → Prop} {w w' : World} {v : Value} {xs : List Value} (h : SlP P w v xs) (k : Gr w w') : SlP P w' v xs := h.keep (Keep.of_gr k)
theorem Own.slP {w : World} {base : Nat} {e : TypeId} {v : Value} {xs : List Value} (h : Own w base e v xs) : SlP (From base) w v xs := ⟨h.sl, .inr fun k hk => h.ownBlock_ge k hk⟩
def RowsP (P : Nat → Prop) (w : World) (v : Value) (len n : Nat) (R : Nat → Nat → Value) : Prop := Rows w v len n R ∧ (len = 0 ∨ ∀ k, v.ownBlock = some k → P k)
theorem RowsP.keep {P : Nat → Prop} {w w' : World} {v : Value} {len n : Nat} {R : Nat → Nat → Value} (h : RowsP P w v len n R) (k : Keep P w w') : RowsP P w' v len n R := by
  refine ⟨?_, h.2⟩
  obtain ⟨a, cap, rfl, hcap, h1⟩ := h.1
  refine ⟨a, cap, rfl, hcap, ?_⟩
  rcases h1 with h1 | ⟨b, off, rfl, hb, hc⟩
  · exact .inl h1
  · rcases h.2 with h2 | h2
    · exact .inl h2
    · exact .inr ⟨b, off, rfl, Nat.lt_of_lt_of_le hb k.size, fun i hi j hj => by rw [World.cell?_of_block (k.block b (h2 b rfl) hb)]; exact hc i hi j hj⟩
theorem RowsP.gr {P : Nat → Prop} {w w' : World} {v : Value} {len n : Nat} {R : Nat → Nat → Value} (h : RowsP P w v len n R) (k : Gr w w') : RowsP P w' v len n R := h.keep (Keep.of_gr k)
theorem RowsP.mono {P Q : Nat → Prop} {w : World} {v : Value} {len n : Nat} {R : Nat → Nat → Value} (h : RowsP P w v len n R) (hq : ∀ k, P k → Q k) : RowsP Q w v len n R := ⟨h.1, h.2.imp id fun h k hk => hq k (h k hk)⟩
theorem RowsP.monoLt {P Q : Nat → Prop} {w : World} {v : Value} {len n : Nat} {R : Nat → Nat → Value} (h : RowsP P w v len n R) (hq : ∀ k, P k → k < w.heap.size → Q k) : RowsP Q w v len n R := by
  refine ⟨h.1, ?_⟩
  rcases h.2 with h2 | h2
  · exact .inl h2
  · obtain ⟨a, cap, rfl, _, h1⟩ := h.1
    rcases h1 with h1 | ⟨b, off, rfl, hb, _⟩
    · exact .inl h1
    · exact .inr fun k hk => by
        injection hk with hk
        subst hk
        exact hq b (h2 b rfl) hb
theorem RowsP.shape {P : Nat → Prop} {w : World} {v : Value} {len n : Nat} {R : Nat → Nat → Value} (h : RowsP P w v len n R) : ∃ a cap, v = .slice a len cap := by
  obtain ⟨⟨a, cap, e, _⟩, _⟩ := h; exact ⟨a, cap, e⟩
theorem RowsP.nil (P : Nat → Prop) (w : World) (a : Option Addr) (c n : Nat) (R : Nat → Nat → Value) : RowsP P w (.slice a 0 c) 0 n R := ⟨⟨a, c, rfl, Nat.zero_le _, .inl rfl⟩, .inl rfl⟩
/-! ### Cells -/
def nodeCells (x : NodeD) (dv : Value) : List Value := [dv, .int .u32 (x.version : Int), .int .u32 (x.kin : Int), .int .u32 (x.next : Int), .int .i64 x.site, .int .u32 (x.n : Int), .int .u64 (x.made : Int), .int .u64 (x.changed : Int), .int .u64 (x.touched : Int)]
def effCells (x : EffD) (dv : Value) : List Value := .string ⟨x.path.toArray⟩ :: .bool x.gone :: nodeCells x.node dv
def opCells (h : OpH) (dv pv : Value) : List Value := [.int .u8 (h.kind : Int), .string ⟨h.path.toArray⟩, dv, .int .i64 h.version, .bool h.seq, .bool h.eph, pv]
def itemCells (x : ItemD) (sv ev : Value) : List Value := [.int .i64 x.origin, .int .u64 (x.seq : Int), .int .i64 x.region, .int .u64 (x.epoch : Int), sv, ev, .int .u32 (x.closed : Int)]
/-- The slices of an entry: its operation's data and parts, its item's stamp and effects, its frontier. -/
structure EntV where
  dv : Value
  pv : Value
  sv : Value
  ev : Value
  fv : Value
def entCells (x : EntD) (q : EntV) : List Value :=
  [.int .u8 (x.kind : Int), .int .u32 (x.client : Int), .int .u32 (x.req : Int), .int .i64 x.osite, .int .u32 (x.on : Int),
    .int .u8 (x.op.h.kind : Int), .string ⟨x.op.h.path.toArray⟩, q.dv, .int .i64 x.op.h.version, .bool x.op.h.seq, .bool x.op.h.eph, q.pv,
    .int .i64 x.item.origin, .int .u64 (x.item.seq : Int), .int .i64 x.item.region, .int .u64 (x.item.epoch : Int), q.sv, q.ev, .int .u32 (x.item.closed : Int),
    .int .i64 x.site, .int .i64 x.region, .int .u64 (x.epoch : Int), q.fv]
def EffsP (P : Nat → Prop) (w : World) (v : Value) (es : List EffD) : Prop :=
  ∃ R, RowsP P w v es.length 11 R ∧ ∀ i (h : i < es.length), ∃ dv, SlP P w dv (bytes es[i].node.data) ∧ ∀ j u, (effCells es[i] dv)[j]? = some u → R i j = u
theorem EffsP.keep {P : Nat → Prop} {w w' : World} {v : Value} {es : List EffD} (h : EffsP P w v es) (k : Keep P w w') : EffsP P w' v es := by
  obtain ⟨R, h1, h2⟩ := h
  exact ⟨R, h1.keep k, fun i hi => by obtain ⟨dv, h3, h4⟩ := h2 i hi; exact ⟨dv, h3.keep k, h4⟩⟩
theorem EffsP.gr {P : Nat → Prop} {w w' : World} {v : Value} {es : List EffD} (h : EffsP P w v es) (k : Gr w w') : EffsP P w' v es := h.keep (Keep.of_gr k)
theorem EffsP.mono {P Q : Nat → Prop} {w : World} {v : Value} {es : List EffD} (h : EffsP P w v es) (hq : ∀ k, P k → Q k) : EffsP Q w v es := by
  obtain ⟨R, h1, h2⟩ := h
  exact ⟨R, h1.mono hq, fun i hi => by obtain ⟨dv, h3, h4⟩ := h2 i hi; exact ⟨dv, h3.mono hq, h4⟩⟩
theorem EffsP.monoLt {P Q : Nat → Prop} {w : World} {v : Value} {es : List EffD} (h : EffsP P w v es) (hq : ∀ k, P k → k < w.heap.size → Q k) : EffsP Q w v es := by
  obtain ⟨R, h1, h2⟩ := h
  exact ⟨R, h1.monoLt hq, fun i hi => by obtain ⟨dv, h3, h4⟩ := h2 i hi; exact ⟨dv, h3.monoLt hq, h4⟩⟩
theorem EffsP.shape {P : Nat → Prop} {w : World} {v : Value} {es : List EffD} (h : EffsP P w v es) : ∃ a cap, v = .slice a es.length cap := by
  obtain ⟨R, h1, _⟩ := h; exact h1.shape
theorem EffsP.nil (P : Nat → Prop) (w : World) (a : Option Addr) (c : Nat) : EffsP P w (.slice a 0 c) [] := ⟨fun _ _ => .bool false, RowsP.nil _ _ _ _ _ _, fun i hi => absurd hi (Nat.not_lt_zero _)⟩
/-- One row of what lies there. -/
theorem EffsP.at {P : Nat → Prop} {w : World} {v : Value} {es : List EffD} (h : EffsP P w v es) (k : Nat) (hk : k < es.length) :
    ∃ B o c dv, v = .slice (some ⟨B, o, none⟩) es.length c ∧ B < w.heap.size ∧ SlP P w dv (bytes es[k].node.data) ∧ ∀ j u, j < 11 → (effCells es[k] dv)[j]? = some u → w.cell? ⟨B, o + k * 11 + j, none⟩ = some u := by
  obtain ⟨R, ⟨⟨a, cap, rfl, hcap, hr⟩, _⟩, h2⟩ := h
  obtain ⟨B, o, rfl, hB, hc⟩ := hr.resolve_left (by omega)
  obtain ⟨dv, h3, h4⟩ := h2 k hk
  exact ⟨B, o, cap, dv, rfl, hB, h3, fun j u hj hu => by rw [hc k hk j hj, h4 j u hu]⟩
inductive OpP (P : Nat → Prop) (w : World) : OpD → Value → Value → Prop
  | mk (h : OpH) (ps : List OpD) (dv pv : Value) (R : Nat → Nat → Value) (D Q : Nat → Value) (h1 : SlP P w dv (bytes h.data)) (h2 : RowsP P w pv ps.length 7 R)
      (h3 : ∀ i (hi : i < ps.length), OpP P w ps[i] (D i) (Q i)) (h4 : ∀ i (hi : i < ps.length) j u, (opCells ps[i].h (D i) (Q i))[j]? = some u → R i j = u) : OpP P w (.mk h ps) dv pv
theorem OpP.keep {P : Nat → Prop} {w w' : World} {o : OpD} {dv pv : Value} (h : OpP P w o dv pv) (k : Keep P w w') : OpP P w' o dv pv := by
  induction h with
  | mk h ps dv pv R D Q h1 h2 h3 h4 ih => exact .mk h ps dv pv R D Q (h1.keep k) (h2.keep k) ih h4
theorem OpP.gr {P : Nat → Prop} {w w' : World} {o : OpD} {dv pv : Value} (h : OpP P w o dv pv) (k : Gr w w') : OpP P w' o dv pv := h.keep (Keep.of_gr k)
theorem OpP.mono {P Q : Nat → Prop} {w : World} {o : OpD} {dv pv : Value} (h : OpP P w o dv pv) (hq : ∀ k, P k → Q k) : OpP Q w o dv pv := by
  induction h with
  | mk h ps dv pv R D Q h1 h2 h3 h4 ih => exact .mk h ps dv pv R D Q (h1.mono hq) (h2.mono hq) ih h4
theorem OpP.monoLt {P Q : Nat → Prop} {w : World} {o : OpD} {dv pv : Value} (h : OpP P w o dv pv) (hq : ∀ k, P k → k < w.heap.size → Q k) : OpP Q w o dv pv := by
  induction h with
  | mk h ps dv pv R D Q h1 h2 h3 h4 ih => exact .mk h ps dv pv R D Q (h1.monoLt hq) (h2.monoLt hq) ih h4
/-- A row of operations. -/
def OpsP (P : Nat → Prop) (w : World) (pv : Value) (ps : List OpD) : Prop :=
  ∃ (R : Nat → Nat → Value) (D Q : Nat → Value), RowsP P w pv ps.length 7 R ∧ (∀ i (hi : i < ps.length), OpP P w ps[i] (D i) (Q i)) ∧ ∀ i (hi : i < ps.length) j u, (opCells ps[i].h (D i) (Q i))[j]? = some u → R i j = u
theorem OpP.parts {P : Nat → Prop} {w : World} {o : OpD} {dv pv : Value} (h : OpP P w o dv pv) : SlP P w dv (bytes o.h.data) ∧ OpsP P w pv o.parts := by
  cases h with
  | mk h ps dv pv R D Q h1 h2 h3 h4 => exact ⟨h1, R, D, Q, h2, h3, h4⟩
theorem OpP.of {P : Nat → Prop} {w : World} {o : OpD} {dv pv : Value} (h1 : SlP P w dv (bytes o.h.data)) (h2 : OpsP P w pv o.parts) : OpP P w o dv pv := by
  obtain ⟨h, ps⟩ := o
  obtain ⟨R, D, Q, h2, h3, h4⟩ := h2
  exact .mk h ps dv pv R D Q h1 h2 h3 h4
theorem OpsP.keep {P : Nat → Prop} {w w' : World} {v : Value} {ps : List OpD} (h : OpsP P w v ps) (k : Keep P w w') : OpsP P w' v ps := by
  obtain ⟨R, D, Q, h2, h3, h4⟩ := h
  exact ⟨R, D, Q, h2.keep k, fun i hi => (h3 i hi).keep k, h4⟩
theorem OpsP.gr {P : Nat → Prop} {w w' : World} {v : Value} {ps : List OpD} (h : OpsP P w v ps) (k : Gr w w') : OpsP P w' v ps := h.keep (Keep.of_gr k)
theorem OpsP.shape {P : Nat → Prop} {w : World} {v : Value} {ps : List OpD} (h : OpsP P w v ps) : ∃ a cap, v = .slice a ps.length cap := by
  obtain ⟨R, D, Q, h2, _⟩ := h; exact h2.shape
theorem OpsP.nil (P : Nat → Prop) (w : World) (a : Option Addr) (c : Nat) : OpsP P w (.slice a 0 c) [] :=
  ⟨fun _ _ => .bool false, fun _ => .bool false, fun _ => .bool false, RowsP.nil _ _ _ _ _ _, fun i hi => absurd hi (Nat.not_lt_zero _), fun i hi => absurd hi (Nat.not_lt_zero _)⟩
theorem OpsP.at {P : Nat → Prop} {w : World} {v : Value} {ps : List OpD} (h : OpsP P w v ps) (k : Nat) (hk : k < ps.length) :
    ∃ B o c dv pv, v = .slice (some ⟨B, o, none⟩) ps.length c ∧ B < w.heap.size ∧ OpP P w ps[k] dv pv ∧ ∀ j u, j < 7 → (opCells ps[k].h dv pv)[j]? = some u → w.cell? ⟨B, o + k * 7 + j, none⟩ = some u := by
  obtain ⟨R, D, Q, ⟨⟨a, cap, rfl, hcap, hr⟩, _⟩, h2, h3⟩ := h
  obtain ⟨B, o, rfl, hB, hc⟩ := hr.resolve_left (by omega)
  exact ⟨B, o, cap, D k, Q k, rfl, hB, h2 k hk, fun j u hj hu => by rw [hc k hk j hj, h3 k hk j u hu]⟩
def ItemP (P : Nat → Prop) (w : World) (x : ItemD) (sv ev : Value) : Prop := SlP P w sv (nums x.stamp) ∧ EffsP P w ev x.effs
theorem ItemP.keep {P : Nat → Prop} {w w' : World} {x : ItemD} {sv ev : Value} (h : ItemP P w x sv ev) (k : Keep P w w') : ItemP P w' x sv ev := ⟨h.1.keep k, h.2.keep k⟩
theorem ItemP.gr {P : Nat → Prop} {w w' : World} {x : ItemD} {sv ev : Value} (h : ItemP P w x sv ev) (k : Gr w w') : ItemP P w' x sv ev := h.keep (Keep.of_gr k)
theorem ItemP.mono {P Q : Nat → Prop} {w : World} {x : ItemD} {sv ev : Value} (h : ItemP P w x sv ev) (hq : ∀ k, P k → Q k) : ItemP Q w x sv ev := ⟨h.1.mono hq, h.2.mono hq⟩
theorem ItemP.monoLt {P Q : Nat → Prop} {w : World} {x : ItemD} {sv ev : Value} (h : ItemP P w x sv ev) (hq : ∀ k, P k → k < w.heap.size → Q k) : ItemP Q w x sv ev := ⟨h.1.monoLt hq, h.2.monoLt hq⟩
theorem ItemP.zero (P : Nat → Prop) (w : World) : ItemP P w zeroI (.slice none 0 0) (.slice none 0 0) := ⟨SlP.nil _ _ _ _, EffsP.nil _ _ _ _⟩
def EntP (P : Nat → Prop) (w : World) (x : EntD) (q : EntV) : Prop := OpP P w x.op q.dv q.pv ∧ ItemP P w x.item q.sv q.ev ∧ SlP P w q.fv (nums x.frontier)
theorem EntP.keep {P : Nat → Prop} {w w' : World} {x : EntD} {q : EntV} (h : EntP P w x q) (k : Keep P w w') : EntP P w' x q := ⟨h.1.keep k, h.2.1.keep k, h.2.2.keep k⟩
theorem EntP.gr {P : Nat → Prop} {w w' : World} {x : EntD} {q : EntV} (h : EntP P w x q) (k : Gr w w') : EntP P w' x q := h.keep (Keep.of_gr k)
theorem EntP.mono {P Q : Nat → Prop} {w : World} {x : EntD} {q : EntV} (h : EntP P w x q) (hq : ∀ k, P k → Q k) : EntP Q w x q := ⟨h.1.mono hq, h.2.1.mono hq, h.2.2.mono hq⟩
theorem EntP.monoLt {P Q : Nat → Prop} {w : World} {x : EntD} {q : EntV} (h : EntP P w x q) (hq : ∀ k, P k → k < w.heap.size → Q k) : EntP Q w x q := ⟨h.1.monoLt hq, h.2.1.monoLt hq, h.2.2.monoLt hq⟩
def zeroQ : EntV := ⟨.slice none 0 0, .slice none 0 0, .slice none 0 0, .slice none 0 0, .slice none 0 0⟩
theorem EntP.zero (P : Nat → Prop) (w : World) (k : Nat) : EntP P w { zeroX with kind := k } zeroQ := ⟨OpP.of (SlP.nil _ _ _ _) (OpsP.nil _ _ _ _), ItemP.zero _ _, SlP.nil _ _ _ _⟩
/-! ### What a call hands back -/
/-- The call hands back a slice that reads as the bytes l; what was there stays. -/
def RetSl (w : World) (l : List UInt8) (en : Ending) (w' : World) : Prop := ∃ v, en = .returned v ∧ Sl w' v (bytes l) ∧ Gr w w'
theorem RetBytes.ret {w : World} {l : List UInt8} {en : Ending} {w' : World} (h : RetBytes w l en w') : RetSl w l en w' := by
  obtain ⟨v, h1, h2, h3⟩ := h
  exact ⟨v, h1, h2.sl, h3⟩
/-- A block whose cells are known. -/
def CellsAt (w : World) (b : Nat) (cs : List Value) (t : TypeId) : Prop := w.heap[b]? = some (.cells cs.toArray t (0, 0))
theorem CellsAt.new (w : World) (cs : List Value) (t : TypeId) : CellsAt (w.alloc (.cells cs.toArray t)) w.heap.size cs t := heap_alloc_new w _
theorem CellsAt.lt {w : World} {b : Nat} {cs : List Value} {t : TypeId} (h : CellsAt w b cs t) : b < w.heap.size := (Array.getElem?_eq_some_iff.1 h).1
theorem CellsAt.gr {w w' : World} {b : Nat} {cs : List Value} {t : TypeId} (h : CellsAt w b cs t) (g : Gr w w') : CellsAt w' b cs t := (g.block _ h.lt).trans h
theorem CellsAt.block {w w' : World} {b : Nat} {cs : List Value} {t : TypeId} (h : CellsAt w b cs t) (g : w'.heap[b]? = w.heap[b]?) : CellsAt w' b cs t := g.trans h
theorem CellsAt.cell {w : World} {b : Nat} {cs : List Value} {t : TypeId} (h : CellsAt w b cs t) (j : Nat) : w.cell? ⟨b, j, none⟩ = cs[j]? := by
  unfold CellsAt at h
  simp [World.cell?, h]
theorem CellsAt.frozen {w : World} {b : Nat} {cs : List Value} {t : TypeId} (h : CellsAt w b cs t) (j : Nat) : w.frozen? ⟨b, j, none⟩ = false := by
  unfold CellsAt at h
  simp [World.frozen?, h]
theorem CellsAt.set {w : World} {b : Nat} {cs : List Value} {t : TypeId} (h : CellsAt w b cs t) (j : Nat) (v : Value) : CellsAt (w.setCell ⟨b, j, none⟩ v) b (cs.set j v) t := by
  unfold CellsAt at h ⊢
  simp [World.setCell, Array.getElem?_modify, h]
end Go.Proofs.Ytiemgmbjhllmbaa
end
