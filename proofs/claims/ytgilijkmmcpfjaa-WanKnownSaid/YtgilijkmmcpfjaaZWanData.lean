/-
  Messages of package wan, plain: what they are made of, their bytes, what reads them. No program in sight.
-/
import Derived.Test.YtgilijkmmcpfjaaZH
set_option linter.unusedVariables false
namespace Go.Proofs.Ytgilijkmmcpfjaa
structure WanD where
  kind : Nat
  site : Int
  vector : List Nat
  items : List ItemD
  region : Int
  epoch : Nat
  frontier : List Nat
def zeroW : WanD := ⟨0, 0, [], [], 0, 0, []⟩
instance : Inhabited WanD := ⟨zeroW⟩
structure WanOk (x : WanD) : Prop where
  kind : x.kind < 256
  site : I64 x.site
  vector : ∀ k ∈ x.vector, k < 2 ^ 64
  items : ∀ y ∈ x.items, ItemOk y
  region : I64 x.region
  epoch : x.epoch < 2 ^ 64
  frontier : ∀ k ∈ x.frontier, k < 2 ^ 64
def hasV (k : Nat) : Bool := k == 1
def hasI (k : Nat) : Bool := k == 2
def hasR (k : Nat) : Bool := k == 3 || k == 4 || k == 5 || k == 6
def hasE (k : Nat) : Bool := k == 3 || k == 4 || k == 6
def hasF (k : Nat) : Bool := k == 3 || k == 6
def kindW (k : Nat) : Bool := decide (1 ≤ k) && decide (k ≤ 6)
def stampW (v : List Nat) (h : Bool) : Bool := decide (v.length = 0) || (h && decide (v.length ≤ 3))
def mayW (x : WanD) : Bool :=
  kindW x.kind && decide (0 ≤ x.site) && decide (x.site < 3) && stampW x.vector (hasV x.kind) && stampW x.frontier (hasF x.kind) && (decide (x.region = 0) || (hasR x.kind && decide (0 < x.region) && decide (x.region < 4))) &&
    (decide (x.epoch = 0) || hasE x.kind) && (decide (x.items.length = 0) || (hasI x.kind && decide (x.items.length ≤ 8))) && x.items.all mayItem
def itemsB (l : List ItemD) : List UInt8 := be 8 l.length ++ l.flatMap itemB
def opt (c : Bool) (l : List UInt8) : List UInt8 := if c then l else []
def bodyB (k : Nat) (x : WanD) : List UInt8 := opt (hasR k) (be 8 (u64 x.region)) ++ (opt (hasE k) (be 8 x.epoch) ++ (opt (hasV k) (stampB x.vector) ++ (opt (hasF k) (stampB x.frontier) ++ opt (hasI k) (itemsB x.items))))
def wanB (x : WanD) : List UInt8 := be 1 (x.kind + 16) ++ (be 1 (byteOf x.site) ++ bodyB x.kind x)
/-- What Put answers. -/
def putW (x : WanD) : List UInt8 × Int := if mayW x then (wanB x, 0) else ([], 1)
/-- What is read where there is such a part. -/
def rOpt {α : Type} (c : Bool) (f : RS → α × RS) (z : α) (s : RS) : α × RS := if c then f s else (z, s)
def k16 (n : Nat) : Nat := (n + 240) % 256
def rWan (s : RS) : WanD × RS :=
  let a := rByte s
  let k := k16 a.1
  let b := rByte a.2
  let r := rOpt (hasR k) (rCount 3) 0 b.2
  let e := rOpt (hasE k) rUint 0 r.2
  let v := rOpt (hasV k) rStamp [] e.2
  let f := rOpt (hasF k) rStamp [] v.2
  let i := rOpt (hasI k) (rList 8 rItem) [] f.2
  (⟨k, (b.1 : Int), v.1, i.1, (r.1 : Int), e.1, f.1⟩, i.2)
def getW (l : List UInt8) : WanD × Int := if rDone (rWan (l, false)).2 = 0 ∧ mayW (rWan (l, false)).1 = true then ((rWan (l, false)).1, 0) else (zeroW, 2)
/-- The document's reading. -/
def dBody (k : Nat) (site : Int) (s : RS) : WanD × RS :=
  let r := rOpt (hasR k) (rCount 3) 0 s
  let v := rOpt (hasV k) dStamp [] r.2
  let i := rOpt (hasI k) (dList 8 dItem) [] v.2
  let e := rOpt (hasE k) rUint 0 i.2
  let f := rOpt (hasF k) dStamp [] e.2
  (⟨k, site, v.1, i.1, (r.1 : Int), e.1, f.1⟩, f.2)
def dWan (s : RS) : WanD × RS := dBody (k16 (rByte s).1) ((rByte (rByte s).2).1 : Int) (rByte (rByte s).2).2
def dGetW (l : List UInt8) : WanD × Int :=
  if (rByte (l, false)).1 < 17 ∨ 22 < (rByte (l, false)).1 then (zeroW, 2)
  else if (putW (dWan (l, false)).1).2 = 0 ∧ rDone (dWan (l, false)).2 = 0 ∧ (putW (dWan (l, false)).1).1 = l then ((dWan (l, false)).1, 0) else (zeroW, 2)
end Go.Proofs.Ytgilijkmmcpfjaa
