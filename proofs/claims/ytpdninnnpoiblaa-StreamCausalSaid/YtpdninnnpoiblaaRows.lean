/-
  No cell of these rows narrows 'for every input' (looked for: loops, veiled, ifaces, maps, wideKeys, modest, calm, conditions, laid).
  DERIVED. THE GIVEN ROWS OF THIS SEAT. 5 by the template 'for every input the law returns true; each argument reads behind the call as it read before'; 0 by the template 'total and deterministic' (their statements: YtpdninnnpoiblaaTotals.lean).
  GIVEN WITH THE SEED: the statements are not yours to turn. If you find one false, say at which input.
  Laid BY PROGRAM, IN A SANDBOX (cutbox-rows.mjs): the forced cells as the released guide's own fill.sh prints them over the translation 0d46fed55967fc87… (all of the seat's roots in one cut). By AI agents, Wed Nov 11 2026. No macro, syntax, notation, axiom, sorry.
-/
import Derived.Test.YtpdninnnpoiblaaChecked
import GoSem.Claim
import GoSem.ClaimJoined
import GoSem.ClaimMapViews
import Derived.JoinedTies
import Derived.KernelRfl
namespace Go.Proofs.Ytpdninnnpoiblaa
/- THE CELL 'sum', in the pinned program and in every row, IS THE sha256 OF THE DUMP (.gsa) THAT YtpdninnnpoiblaaProg.lean LOADS. Nothing in Lean hashes anything: it is a label: what it is worth is what the hold of that sum in a sandbox is worth. -/
noncomputable def Try.pinned : Pinned := { name := "ytpdninnnpoiblaa", sum := "0d46fed55967fc87840babaa34d14b3620d52ddb2fae3906fc4ae78930d838f8", checked := Try.checked }
namespace Rows
def none {H : Type} : Left H := { results := [], args := [] }

/-- 'outriderlaw16.StreamPlays': WHATEVER THE INPUT: true; the input reads as it did. -/
def streamPlaysSpec : ChangeSpec := { name := "streamPlays", fn := fun _ => fun
  | [d1, d2, d3, d4, d5] => { results := [.lit (.bool true)], args := [d1, d2, d3, d4, d5] }
  | _ => none }
def streamPlaysRow : OpenClaim := { program := "ytpdninnnpoiblaa", sum := "0d46fed55967fc87840babaa34d14b3620d52ddb2fae3906fc4ae78930d838f8", func := "outrider/outriderlaw16.StreamPlays", spec := "streamPlays", unfollowed := true, recurses := true, apart := false }
def StreamPlaysSaid : Prop := streamPlaysRow.holds Try.pinned (OpenSpec.ofChange streamPlaysSpec)

/-- ITS FALSE NEIGHBOUR: 'it returns false'. Refute it at one input. -/
def streamPlaysWrong : ChangeSpec := { name := "streamPlays", fn := fun _ => fun
  | [d1, d2, d3, d4, d5] => { results := [.lit (.bool false)], args := [d1, d2, d3, d4, d5] }
  | _ => none }
def StreamPlaysWrongFalsely : Prop := streamPlaysRow.holds Try.pinned (OpenSpec.ofChange streamPlaysWrong)

/-- 'outriderlaw16.StreamNext': WHATEVER THE INPUT: true; the input reads as it did. -/
def streamNextSpec : ChangeSpec := { name := "streamNext", fn := fun _ => fun
  | [d1, d2] => { results := [.lit (.bool true)], args := [d1, d2] }
  | _ => none }
def streamNextRow : OpenClaim := { program := "ytpdninnnpoiblaa", sum := "0d46fed55967fc87840babaa34d14b3620d52ddb2fae3906fc4ae78930d838f8", func := "outrider/outriderlaw16.StreamNext", spec := "streamNext", unfollowed := true, recurses := true, apart := false }
def StreamNextSaid : Prop := streamNextRow.holds Try.pinned (OpenSpec.ofChange streamNextSpec)

/-- ITS FALSE NEIGHBOUR: 'it returns false'. Refute it at one input. -/
def streamNextWrong : ChangeSpec := { name := "streamNext", fn := fun _ => fun
  | [d1, d2] => { results := [.lit (.bool false)], args := [d1, d2] }
  | _ => none }
def StreamNextWrongFalsely : Prop := streamNextRow.holds Try.pinned (OpenSpec.ofChange streamNextWrong)

/-- 'outriderlaw16.StreamKnown': WHATEVER THE INPUT: true; the input reads as it did. -/
def streamKnownSpec : ChangeSpec := { name := "streamKnown", fn := fun _ => fun
  | [] => { results := [.lit (.bool true)], args := [] }
  | _ => none }
def streamKnownRow : OpenClaim := { program := "ytpdninnnpoiblaa", sum := "0d46fed55967fc87840babaa34d14b3620d52ddb2fae3906fc4ae78930d838f8", func := "outrider/outriderlaw16.StreamKnown", spec := "streamKnown", unfollowed := true, recurses := true, apart := false }
def StreamKnownSaid : Prop := streamKnownRow.holds Try.pinned (OpenSpec.ofChange streamKnownSpec)

/-- ITS FALSE NEIGHBOUR: 'it returns false'. Refute it at one input. -/
def streamKnownWrong : ChangeSpec := { name := "streamKnown", fn := fun _ => fun
  | [] => { results := [.lit (.bool false)], args := [] }
  | _ => none }
def StreamKnownWrongFalsely : Prop := streamKnownRow.holds Try.pinned (OpenSpec.ofChange streamKnownWrong)

/-- 'outriderlaw16.StreamTaken': WHATEVER THE INPUT: true; the input reads as it did. -/
def streamTakenSpec : ChangeSpec := { name := "streamTaken", fn := fun _ => fun
  | [d1, d2, d3] => { results := [.lit (.bool true)], args := [d1, d2, d3] }
  | _ => none }
def streamTakenRow : OpenClaim := { program := "ytpdninnnpoiblaa", sum := "0d46fed55967fc87840babaa34d14b3620d52ddb2fae3906fc4ae78930d838f8", func := "outrider/outriderlaw16.StreamTaken", spec := "streamTaken", unfollowed := true, recurses := true, apart := false }
def StreamTakenSaid : Prop := streamTakenRow.holds Try.pinned (OpenSpec.ofChange streamTakenSpec)

/-- ITS FALSE NEIGHBOUR: 'it returns false'. Refute it at one input. -/
def streamTakenWrong : ChangeSpec := { name := "streamTaken", fn := fun _ => fun
  | [d1, d2, d3] => { results := [.lit (.bool false)], args := [d1, d2, d3] }
  | _ => none }
def StreamTakenWrongFalsely : Prop := streamTakenRow.holds Try.pinned (OpenSpec.ofChange streamTakenWrong)

/-- 'outriderlaw16.StreamCausal': WHATEVER THE INPUT: true; the input reads as it did. -/
def streamCausalSpec : ChangeSpec := { name := "streamCausal", fn := fun _ => fun
  | [d] => { results := [.lit (.bool true)], args := [d] }
  | _ => none }
def streamCausalRow : OpenClaim := { program := "ytpdninnnpoiblaa", sum := "0d46fed55967fc87840babaa34d14b3620d52ddb2fae3906fc4ae78930d838f8", func := "outrider/outriderlaw16.StreamCausal", spec := "streamCausal", unfollowed := true, recurses := true, apart := false }
def StreamCausalSaid : Prop := streamCausalRow.holds Try.pinned (OpenSpec.ofChange streamCausalSpec)

/-- ITS FALSE NEIGHBOUR: 'it returns false'. Refute it at one input. -/
def streamCausalWrong : ChangeSpec := { name := "streamCausal", fn := fun _ => fun
  | [d] => { results := [.lit (.bool false)], args := [d] }
  | _ => none }
def StreamCausalWrongFalsely : Prop := streamCausalRow.holds Try.pinned (OpenSpec.ofChange streamCausalWrong)

/- THE SECOND FORM. 'bulk': how many values and letters a reading holds, each counted each time it is reached (what is shared counts as often as it is met; a slice's spare places count too). A statement '..UptoSaid' is the law's where the arguments, and the package variables that the reading takes, are together of bulk at most 1048576: NARROWER than '..Said'. Prove '..Said' where nothing that the law and all that it calls make is longer than what came in: it says more and counts as full. Else prove '..UptoSaid'. A law counts once. -/
mutual
def uptoBulk {H : Type} : DataW H → Nat
  | .lit (.string bytes) => bytes.length + 1
  | .lit _ => 1
  | .nil => 1
  | .ptr d => uptoBulk d + 1
  | .slice elems spare => uptoBulkAll elems + uptoBulkAll spare + 1
  | .agg parts => uptoBulkAll parts + 1
  | .iface _ d => uptoBulk d + 1
  | .map entries => uptoBulkEntries entries + 1
  | .held _ => 1
def uptoBulkAll {H : Type} : List (DataW H) → Nat
  | [] => 0
  | d :: r => uptoBulk d + uptoBulkAll r
def uptoBulkEntries {H : Type} : List (Lit × DataW H) → Nat
  | [] => 0
  | x :: r => uptoBulkEntry x + uptoBulkEntries r
def uptoBulkEntry {H : Type} : Lit × DataW H → Nat
  | (.string bytes, d) => bytes.length + uptoBulk d + 1
  | (_, d) => uptoBulk d + 1
 end
def uptoSmall : (H : Type) → List (DataW H) → Bool := fun _ ds => decide (uptoBulkAll ds ≤ 1048576)
def OpenSpec.upto (s : _root_.Go.ChangeSpec) : _root_.Go.OpenSpec := { _root_.Go.OpenSpec.ofChange s with cond := some uptoSmall }

/-- 'outriderlaw16.StreamPlays', WHERE WHAT IT READS IS OF BULK AT MOST 1048576: true; the input reads as it did. -/
def streamPlaysUptoRow : OpenClaim := { program := "ytpdninnnpoiblaa", sum := "0d46fed55967fc87840babaa34d14b3620d52ddb2fae3906fc4ae78930d838f8", func := "outrider/outriderlaw16.StreamPlays", spec := "streamPlays", unfollowed := true, recurses := true, apart := false, narrowed := true }
def StreamPlaysUptoSaid : Prop := streamPlaysUptoRow.holds Try.pinned (OpenSpec.upto streamPlaysSpec)

/-- 'outriderlaw16.StreamNext', WHERE WHAT IT READS IS OF BULK AT MOST 1048576: true; the input reads as it did. -/
def streamNextUptoRow : OpenClaim := { program := "ytpdninnnpoiblaa", sum := "0d46fed55967fc87840babaa34d14b3620d52ddb2fae3906fc4ae78930d838f8", func := "outrider/outriderlaw16.StreamNext", spec := "streamNext", unfollowed := true, recurses := true, apart := false, narrowed := true }
def StreamNextUptoSaid : Prop := streamNextUptoRow.holds Try.pinned (OpenSpec.upto streamNextSpec)

/-- 'outriderlaw16.StreamKnown', WHERE WHAT IT READS IS OF BULK AT MOST 1048576: true; the input reads as it did. -/
def streamKnownUptoRow : OpenClaim := { program := "ytpdninnnpoiblaa", sum := "0d46fed55967fc87840babaa34d14b3620d52ddb2fae3906fc4ae78930d838f8", func := "outrider/outriderlaw16.StreamKnown", spec := "streamKnown", unfollowed := true, recurses := true, apart := false, narrowed := true }
def StreamKnownUptoSaid : Prop := streamKnownUptoRow.holds Try.pinned (OpenSpec.upto streamKnownSpec)

/-- 'outriderlaw16.StreamTaken', WHERE WHAT IT READS IS OF BULK AT MOST 1048576: true; the input reads as it did. -/
def streamTakenUptoRow : OpenClaim := { program := "ytpdninnnpoiblaa", sum := "0d46fed55967fc87840babaa34d14b3620d52ddb2fae3906fc4ae78930d838f8", func := "outrider/outriderlaw16.StreamTaken", spec := "streamTaken", unfollowed := true, recurses := true, apart := false, narrowed := true }
def StreamTakenUptoSaid : Prop := streamTakenUptoRow.holds Try.pinned (OpenSpec.upto streamTakenSpec)

/-- 'outriderlaw16.StreamCausal', WHERE WHAT IT READS IS OF BULK AT MOST 1048576: true; the input reads as it did. -/
def streamCausalUptoRow : OpenClaim := { program := "ytpdninnnpoiblaa", sum := "0d46fed55967fc87840babaa34d14b3620d52ddb2fae3906fc4ae78930d838f8", func := "outrider/outriderlaw16.StreamCausal", spec := "streamCausal", unfollowed := true, recurses := true, apart := false, narrowed := true }
def StreamCausalUptoSaid : Prop := streamCausalUptoRow.holds Try.pinned (OpenSpec.upto streamCausalSpec)

end Rows
end Go.Proofs.Ytpdninnnpoiblaa
