/-
  No cell of these rows narrows 'for every input' (looked for: loops, veiled, ifaces, maps, wideKeys, modest, calm, conditions, laid).
  DERIVED. THE GIVEN ROWS OF THIS SEAT. 5 by the template 'for every input the law returns true; each argument reads behind the call as it read before'; 0 by the template 'total and deterministic' (their statements: YtomhiodabnpfoaaTotals.lean).
  GIVEN WITH THE SEED: the statements are not yours to turn. If you find one false, say at which input.
  Laid BY PROGRAM, IN A SANDBOX (cutbox-rows.mjs): the forced cells as the released guide's own fill.sh prints them over the translation 70d2297eb0929960… (all of the seat's roots in one cut). By AI agents, Wed Nov 11 2026. No macro, syntax, notation, axiom, sorry.
-/
import Derived.Test.YtomhiodabnpfoaaChecked
import GoSem.Claim
import GoSem.ClaimJoined
import GoSem.ClaimMapViews
import Derived.JoinedTies
import Derived.KernelRfl
namespace Go.Proofs.Ytomhiodabnpfoaa
/- THE CELL 'sum', in the pinned program and in every row, IS THE sha256 OF THE DUMP (.gsa) THAT YtomhiodabnpfoaaProg.lean LOADS. Nothing in Lean hashes anything: it is a label: what it is worth is what the hold of that sum in a sandbox is worth. -/
noncomputable def Try.pinned : Pinned := { name := "ytomhiodabnpfoaa", sum := "70d2297eb0929960b19e0b7b37328353890a666850c3b6c072f169ca1aa88387", checked := Try.checked }
namespace Rows
def none {H : Type} : Left H := { results := [], args := [] }

/-- 'outriderlaw15.VectorPlays': WHATEVER THE INPUT: true; the input reads as it did. -/
def vectorPlaysSpec : ChangeSpec := { name := "vectorPlays", fn := fun _ => fun
  | [d1, d2, d3] => { results := [.lit (.bool true)], args := [d1, d2, d3] }
  | _ => none }
def vectorPlaysRow : OpenClaim := { program := "ytomhiodabnpfoaa", sum := "70d2297eb0929960b19e0b7b37328353890a666850c3b6c072f169ca1aa88387", func := "outrider/outriderlaw15.VectorPlays", spec := "vectorPlays", unfollowed := true, recurses := true, apart := false }
def VectorPlaysSaid : Prop := vectorPlaysRow.holds Try.pinned (OpenSpec.ofChange vectorPlaysSpec)

/-- ITS FALSE NEIGHBOUR: 'it returns false'. Refute it at one input. -/
def vectorPlaysWrong : ChangeSpec := { name := "vectorPlays", fn := fun _ => fun
  | [d1, d2, d3] => { results := [.lit (.bool false)], args := [d1, d2, d3] }
  | _ => none }
def VectorPlaysWrongFalsely : Prop := vectorPlaysRow.holds Try.pinned (OpenSpec.ofChange vectorPlaysWrong)

/-- 'outriderlaw15.VectorOrder': WHATEVER THE INPUT: true; the input reads as it did. -/
def vectorOrderSpec : ChangeSpec := { name := "vectorOrder", fn := fun _ => fun
  | [d1, d2, d3] => { results := [.lit (.bool true)], args := [d1, d2, d3] }
  | _ => none }
def vectorOrderRow : OpenClaim := { program := "ytomhiodabnpfoaa", sum := "70d2297eb0929960b19e0b7b37328353890a666850c3b6c072f169ca1aa88387", func := "outrider/outriderlaw15.VectorOrder", spec := "vectorOrder", unfollowed := true, recurses := true, apart := false }
def VectorOrderSaid : Prop := vectorOrderRow.holds Try.pinned (OpenSpec.ofChange vectorOrderSpec)

/-- ITS FALSE NEIGHBOUR: 'it returns false'. Refute it at one input. -/
def vectorOrderWrong : ChangeSpec := { name := "vectorOrder", fn := fun _ => fun
  | [d1, d2, d3] => { results := [.lit (.bool false)], args := [d1, d2, d3] }
  | _ => none }
def VectorOrderWrongFalsely : Prop := vectorOrderRow.holds Try.pinned (OpenSpec.ofChange vectorOrderWrong)

/-- 'outriderlaw15.VectorInc': WHATEVER THE INPUT: true; the input reads as it did. -/
def vectorIncSpec : ChangeSpec := { name := "vectorInc", fn := fun _ => fun
  | [d1, d2, d3] => { results := [.lit (.bool true)], args := [d1, d2, d3] }
  | _ => none }
def vectorIncRow : OpenClaim := { program := "ytomhiodabnpfoaa", sum := "70d2297eb0929960b19e0b7b37328353890a666850c3b6c072f169ca1aa88387", func := "outrider/outriderlaw15.VectorInc", spec := "vectorInc", unfollowed := true, recurses := true, apart := false }
def VectorIncSaid : Prop := vectorIncRow.holds Try.pinned (OpenSpec.ofChange vectorIncSpec)

/-- ITS FALSE NEIGHBOUR: 'it returns false'. Refute it at one input. -/
def vectorIncWrong : ChangeSpec := { name := "vectorInc", fn := fun _ => fun
  | [d1, d2, d3] => { results := [.lit (.bool false)], args := [d1, d2, d3] }
  | _ => none }
def VectorIncWrongFalsely : Prop := vectorIncRow.holds Try.pinned (OpenSpec.ofChange vectorIncWrong)

/-- 'outriderlaw15.VectorKnown': WHATEVER THE INPUT: true; the input reads as it did. -/
def vectorKnownSpec : ChangeSpec := { name := "vectorKnown", fn := fun _ => fun
  | [] => { results := [.lit (.bool true)], args := [] }
  | _ => none }
def vectorKnownRow : OpenClaim := { program := "ytomhiodabnpfoaa", sum := "70d2297eb0929960b19e0b7b37328353890a666850c3b6c072f169ca1aa88387", func := "outrider/outriderlaw15.VectorKnown", spec := "vectorKnown", unfollowed := true, recurses := true, apart := false }
def VectorKnownSaid : Prop := vectorKnownRow.holds Try.pinned (OpenSpec.ofChange vectorKnownSpec)

/-- ITS FALSE NEIGHBOUR: 'it returns false'. Refute it at one input. -/
def vectorKnownWrong : ChangeSpec := { name := "vectorKnown", fn := fun _ => fun
  | [] => { results := [.lit (.bool false)], args := [] }
  | _ => none }
def VectorKnownWrongFalsely : Prop := vectorKnownRow.holds Try.pinned (OpenSpec.ofChange vectorKnownWrong)

/-- 'outriderlaw15.VectorThree': WHATEVER THE INPUT: true; the input reads as it did. -/
def vectorThreeSpec : ChangeSpec := { name := "vectorThree", fn := fun _ => fun
  | [d1, d2, d3] => { results := [.lit (.bool true)], args := [d1, d2, d3] }
  | _ => none }
def vectorThreeRow : OpenClaim := { program := "ytomhiodabnpfoaa", sum := "70d2297eb0929960b19e0b7b37328353890a666850c3b6c072f169ca1aa88387", func := "outrider/outriderlaw15.VectorThree", spec := "vectorThree", unfollowed := true, recurses := true, apart := false }
def VectorThreeSaid : Prop := vectorThreeRow.holds Try.pinned (OpenSpec.ofChange vectorThreeSpec)

/-- ITS FALSE NEIGHBOUR: 'it returns false'. Refute it at one input. -/
def vectorThreeWrong : ChangeSpec := { name := "vectorThree", fn := fun _ => fun
  | [d1, d2, d3] => { results := [.lit (.bool false)], args := [d1, d2, d3] }
  | _ => none }
def VectorThreeWrongFalsely : Prop := vectorThreeRow.holds Try.pinned (OpenSpec.ofChange vectorThreeWrong)

/- THE SECOND FORM. 'bulk': how many values and letters a reading holds, each counted each time it is reached (what is shared counts as often as it is met; a slice's spare places count too). A statement '..UptoSaid' is the law's where the arguments, and the package variables that the reading takes, are together of bulk at most 1048576: NARROWER than '..Said'. Prove '..Said' where nothing that the law and all that it calls make is longer than what came in: it says more and counts as full. Else prove '..UptoSaid'. A law counts once. -/
mutual
def uptoBulk {H : Type} : DataW H → Nat
  | .lit (.string bytes) => bytes.length + 1
  | .lit _ => 1
  | .nil => 1
  | .ptr d => uptoBulk d + 1
  | .slice elems spare => uptoBulkAll elems + uptoBulkAll spare + 1
  | .agg parts => uptoBulkAll parts + 1
  | .iface _ d => uptoBulk d + 1
  | .map entries => uptoBulkEntries entries + 1
  | .held _ => 1
def uptoBulkAll {H : Type} : List (DataW H) → Nat
  | [] => 0
  | d :: r => uptoBulk d + uptoBulkAll r
def uptoBulkEntries {H : Type} : List (Lit × DataW H) → Nat
  | [] => 0
  | x :: r => uptoBulkEntry x + uptoBulkEntries r
def uptoBulkEntry {H : Type} : Lit × DataW H → Nat
  | (.string bytes, d) => bytes.length + uptoBulk d + 1
  | (_, d) => uptoBulk d + 1
 end
def uptoSmall : (H : Type) → List (DataW H) → Bool := fun _ ds => decide (uptoBulkAll ds ≤ 1048576)
def OpenSpec.upto (s : _root_.Go.ChangeSpec) : _root_.Go.OpenSpec := { _root_.Go.OpenSpec.ofChange s with cond := some uptoSmall }

/-- 'outriderlaw15.VectorPlays', WHERE WHAT IT READS IS OF BULK AT MOST 1048576: true; the input reads as it did. -/
def vectorPlaysUptoRow : OpenClaim := { program := "ytomhiodabnpfoaa", sum := "70d2297eb0929960b19e0b7b37328353890a666850c3b6c072f169ca1aa88387", func := "outrider/outriderlaw15.VectorPlays", spec := "vectorPlays", unfollowed := true, recurses := true, apart := false, narrowed := true }
def VectorPlaysUptoSaid : Prop := vectorPlaysUptoRow.holds Try.pinned (OpenSpec.upto vectorPlaysSpec)

/-- 'outriderlaw15.VectorOrder', WHERE WHAT IT READS IS OF BULK AT MOST 1048576: true; the input reads as it did. -/
def vectorOrderUptoRow : OpenClaim := { program := "ytomhiodabnpfoaa", sum := "70d2297eb0929960b19e0b7b37328353890a666850c3b6c072f169ca1aa88387", func := "outrider/outriderlaw15.VectorOrder", spec := "vectorOrder", unfollowed := true, recurses := true, apart := false, narrowed := true }
def VectorOrderUptoSaid : Prop := vectorOrderUptoRow.holds Try.pinned (OpenSpec.upto vectorOrderSpec)

/-- 'outriderlaw15.VectorInc', WHERE WHAT IT READS IS OF BULK AT MOST 1048576: true; the input reads as it did. -/
def vectorIncUptoRow : OpenClaim := { program := "ytomhiodabnpfoaa", sum := "70d2297eb0929960b19e0b7b37328353890a666850c3b6c072f169ca1aa88387", func := "outrider/outriderlaw15.VectorInc", spec := "vectorInc", unfollowed := true, recurses := true, apart := false, narrowed := true }
def VectorIncUptoSaid : Prop := vectorIncUptoRow.holds Try.pinned (OpenSpec.upto vectorIncSpec)

/-- 'outriderlaw15.VectorKnown', WHERE WHAT IT READS IS OF BULK AT MOST 1048576: true; the input reads as it did. -/
def vectorKnownUptoRow : OpenClaim := { program := "ytomhiodabnpfoaa", sum := "70d2297eb0929960b19e0b7b37328353890a666850c3b6c072f169ca1aa88387", func := "outrider/outriderlaw15.VectorKnown", spec := "vectorKnown", unfollowed := true, recurses := true, apart := false, narrowed := true }
def VectorKnownUptoSaid : Prop := vectorKnownUptoRow.holds Try.pinned (OpenSpec.upto vectorKnownSpec)

/-- 'outriderlaw15.VectorThree', WHERE WHAT IT READS IS OF BULK AT MOST 1048576: true; the input reads as it did. -/
def vectorThreeUptoRow : OpenClaim := { program := "ytomhiodabnpfoaa", sum := "70d2297eb0929960b19e0b7b37328353890a666850c3b6c072f169ca1aa88387", func := "outrider/outriderlaw15.VectorThree", spec := "vectorThree", unfollowed := true, recurses := true, apart := false, narrowed := true }
def VectorThreeUptoSaid : Prop := vectorThreeUptoRow.holds Try.pinned (OpenSpec.upto vectorThreeSpec)

end Rows
end Go.Proofs.Ytomhiodabnpfoaa
