/-
  No cell of these rows narrows 'for every input' (looked for: loops, veiled, ifaces, maps, wideKeys, modest, calm, conditions, laid).
  DERIVED. THE GIVEN ROWS OF THIS SEAT. 5 by the template 'for every input the law returns true; each argument reads behind the call as it read before'; 0 by the template 'total and deterministic' (their statements: YthckedmfjmbopaaTotals.lean).
  GIVEN WITH THE SEED: the statements are not yours to turn. If you find one false, say at which input.
  Laid BY PROGRAM, IN A SANDBOX (cutbox-rows.mjs): the forced cells as the released guide's own fill.sh prints them over the translation 094119fee35a793d… (all of the seat's roots in one cut). By AI agents, Wed Nov 11 2026. No macro, syntax, notation, axiom, sorry.
-/
import Derived.Test.YthckedmfjmbopaaChecked
import GoSem.Claim
import GoSem.ClaimJoined
import GoSem.ClaimMapViews
import Derived.JoinedTies
import Derived.KernelRfl
namespace Go.Proofs.Ythckedmfjmbopaa
/- THE CELL 'sum', in the pinned program and in every row, IS THE sha256 OF THE DUMP (.gsa) THAT YthckedmfjmbopaaProg.lean LOADS. Nothing in Lean hashes anything: it is a label: what it is worth is what the hold of that sum in a sandbox is worth. -/
noncomputable def Try.pinned : Pinned := { name := "ythckedmfjmbopaa", sum := "094119fee35a793d216f72ad788090f1f5f6a2ad95fc3449979f17d0aed21cc8", checked := Try.checked }
namespace Rows
def none {H : Type} : Left H := { results := [], args := [] }

/-- 'outriderlaw18.TokensPlays': WHATEVER THE INPUT: true; the input reads as it did. -/
def tokensPlaysSpec : ChangeSpec := { name := "tokensPlays", fn := fun _ => fun
  | [d1, d2] => { results := [.lit (.bool true)], args := [d1, d2] }
  | _ => none }
def tokensPlaysRow : OpenClaim := { program := "ythckedmfjmbopaa", sum := "094119fee35a793d216f72ad788090f1f5f6a2ad95fc3449979f17d0aed21cc8", func := "outrider/outriderlaw18.TokensPlays", spec := "tokensPlays", unfollowed := true, recurses := true, apart := false }
def TokensPlaysSaid : Prop := tokensPlaysRow.holds Try.pinned (OpenSpec.ofChange tokensPlaysSpec)

/-- ITS FALSE NEIGHBOUR: 'it returns false'. Refute it at one input. -/
def tokensPlaysWrong : ChangeSpec := { name := "tokensPlays", fn := fun _ => fun
  | [d1, d2] => { results := [.lit (.bool false)], args := [d1, d2] }
  | _ => none }
def TokensPlaysWrongFalsely : Prop := tokensPlaysRow.holds Try.pinned (OpenSpec.ofChange tokensPlaysWrong)

/-- 'outriderlaw18.TokensOnce': WHATEVER THE INPUT: true; the input reads as it did. -/
def tokensOnceSpec : ChangeSpec := { name := "tokensOnce", fn := fun _ => fun
  | [d] => { results := [.lit (.bool true)], args := [d] }
  | _ => none }
def tokensOnceRow : OpenClaim := { program := "ythckedmfjmbopaa", sum := "094119fee35a793d216f72ad788090f1f5f6a2ad95fc3449979f17d0aed21cc8", func := "outrider/outriderlaw18.TokensOnce", spec := "tokensOnce", unfollowed := true, recurses := true, apart := false }
def TokensOnceSaid : Prop := tokensOnceRow.holds Try.pinned (OpenSpec.ofChange tokensOnceSpec)

/-- ITS FALSE NEIGHBOUR: 'it returns false'. Refute it at one input. -/
def tokensOnceWrong : ChangeSpec := { name := "tokensOnce", fn := fun _ => fun
  | [d] => { results := [.lit (.bool false)], args := [d] }
  | _ => none }
def TokensOnceWrongFalsely : Prop := tokensOnceRow.holds Try.pinned (OpenSpec.ofChange tokensOnceWrong)

/-- 'outriderlaw18.TokensNil': WHATEVER THE INPUT: true; the input reads as it did. -/
def tokensNilSpec : ChangeSpec := { name := "tokensNil", fn := fun _ => fun
  | [d1, d2, d3] => { results := [.lit (.bool true)], args := [d1, d2, d3] }
  | _ => none }
def tokensNilRow : OpenClaim := { program := "ythckedmfjmbopaa", sum := "094119fee35a793d216f72ad788090f1f5f6a2ad95fc3449979f17d0aed21cc8", func := "outrider/outriderlaw18.TokensNil", spec := "tokensNil", unfollowed := true, recurses := true, apart := false }
def TokensNilSaid : Prop := tokensNilRow.holds Try.pinned (OpenSpec.ofChange tokensNilSpec)

/-- ITS FALSE NEIGHBOUR: 'it returns false'. Refute it at one input. -/
def tokensNilWrong : ChangeSpec := { name := "tokensNil", fn := fun _ => fun
  | [d1, d2, d3] => { results := [.lit (.bool false)], args := [d1, d2, d3] }
  | _ => none }
def TokensNilWrongFalsely : Prop := tokensNilRow.holds Try.pinned (OpenSpec.ofChange tokensNilWrong)

/-- 'outriderlaw18.TokensKnown': WHATEVER THE INPUT: true; the input reads as it did. -/
def tokensKnownSpec : ChangeSpec := { name := "tokensKnown", fn := fun _ => fun
  | [] => { results := [.lit (.bool true)], args := [] }
  | _ => none }
def tokensKnownRow : OpenClaim := { program := "ythckedmfjmbopaa", sum := "094119fee35a793d216f72ad788090f1f5f6a2ad95fc3449979f17d0aed21cc8", func := "outrider/outriderlaw18.TokensKnown", spec := "tokensKnown", unfollowed := true, recurses := true, apart := false }
def TokensKnownSaid : Prop := tokensKnownRow.holds Try.pinned (OpenSpec.ofChange tokensKnownSpec)

/-- ITS FALSE NEIGHBOUR: 'it returns false'. Refute it at one input. -/
def tokensKnownWrong : ChangeSpec := { name := "tokensKnown", fn := fun _ => fun
  | [] => { results := [.lit (.bool false)], args := [] }
  | _ => none }
def TokensKnownWrongFalsely : Prop := tokensKnownRow.holds Try.pinned (OpenSpec.ofChange tokensKnownWrong)

/-- 'outriderlaw18.TokensApart': WHATEVER THE INPUT: true; the input reads as it did. -/
def tokensApartSpec : ChangeSpec := { name := "tokensApart", fn := fun _ => fun
  | [d1, d2] => { results := [.lit (.bool true)], args := [d1, d2] }
  | _ => none }
def tokensApartRow : OpenClaim := { program := "ythckedmfjmbopaa", sum := "094119fee35a793d216f72ad788090f1f5f6a2ad95fc3449979f17d0aed21cc8", func := "outrider/outriderlaw18.TokensApart", spec := "tokensApart", unfollowed := true, recurses := true, apart := false }
def TokensApartSaid : Prop := tokensApartRow.holds Try.pinned (OpenSpec.ofChange tokensApartSpec)

/-- ITS FALSE NEIGHBOUR: 'it returns false'. Refute it at one input. -/
def tokensApartWrong : ChangeSpec := { name := "tokensApart", fn := fun _ => fun
  | [d1, d2] => { results := [.lit (.bool false)], args := [d1, d2] }
  | _ => none }
def TokensApartWrongFalsely : Prop := tokensApartRow.holds Try.pinned (OpenSpec.ofChange tokensApartWrong)

/- THE SECOND FORM. 'bulk': how many values and letters a reading holds, each counted each time it is reached (what is shared counts as often as it is met; a slice's spare places count too). A statement '..UptoSaid' is the law's where the arguments, and the package variables that the reading takes, are together of bulk at most 1048576: NARROWER than '..Said'. Prove '..Said' where nothing that the law and all that it calls make is longer than what came in: it says more and counts as full. Else prove '..UptoSaid'. A law counts once. -/
mutual
def uptoBulk {H : Type} : DataW H → Nat
  | .lit (.string bytes) => bytes.length + 1
  | .lit _ => 1
  | .nil => 1
  | .ptr d => uptoBulk d + 1
  | .slice elems spare => uptoBulkAll elems + uptoBulkAll spare + 1
  | .agg parts => uptoBulkAll parts + 1
  | .iface _ d => uptoBulk d + 1
  | .map entries => uptoBulkEntries entries + 1
  | .held _ => 1
def uptoBulkAll {H : Type} : List (DataW H) → Nat
  | [] => 0
  | d :: r => uptoBulk d + uptoBulkAll r
def uptoBulkEntries {H : Type} : List (Lit × DataW H) → Nat
  | [] => 0
  | x :: r => uptoBulkEntry x + uptoBulkEntries r
def uptoBulkEntry {H : Type} : Lit × DataW H → Nat
  | (.string bytes, d) => bytes.length + uptoBulk d + 1
  | (_, d) => uptoBulk d + 1
 end
def uptoSmall : (H : Type) → List (DataW H) → Bool := fun _ ds => decide (uptoBulkAll ds ≤ 1048576)
def OpenSpec.upto (s : _root_.Go.ChangeSpec) : _root_.Go.OpenSpec := { _root_.Go.OpenSpec.ofChange s with cond := some uptoSmall }

/-- 'outriderlaw18.TokensPlays', WHERE WHAT IT READS IS OF BULK AT MOST 1048576: true; the input reads as it did. -/
def tokensPlaysUptoRow : OpenClaim := { program := "ythckedmfjmbopaa", sum := "094119fee35a793d216f72ad788090f1f5f6a2ad95fc3449979f17d0aed21cc8", func := "outrider/outriderlaw18.TokensPlays", spec := "tokensPlays", unfollowed := true, recurses := true, apart := false, narrowed := true }
def TokensPlaysUptoSaid : Prop := tokensPlaysUptoRow.holds Try.pinned (OpenSpec.upto tokensPlaysSpec)

/-- 'outriderlaw18.TokensOnce', WHERE WHAT IT READS IS OF BULK AT MOST 1048576: true; the input reads as it did. -/
def tokensOnceUptoRow : OpenClaim := { program := "ythckedmfjmbopaa", sum := "094119fee35a793d216f72ad788090f1f5f6a2ad95fc3449979f17d0aed21cc8", func := "outrider/outriderlaw18.TokensOnce", spec := "tokensOnce", unfollowed := true, recurses := true, apart := false, narrowed := true }
def TokensOnceUptoSaid : Prop := tokensOnceUptoRow.holds Try.pinned (OpenSpec.upto tokensOnceSpec)

/-- 'outriderlaw18.TokensNil', WHERE WHAT IT READS IS OF BULK AT MOST 1048576: true; the input reads as it did. -/
def tokensNilUptoRow : OpenClaim := { program := "ythckedmfjmbopaa", sum := "094119fee35a793d216f72ad788090f1f5f6a2ad95fc3449979f17d0aed21cc8", func := "outrider/outriderlaw18.TokensNil", spec := "tokensNil", unfollowed := true, recurses := true, apart := false, narrowed := true }
def TokensNilUptoSaid : Prop := tokensNilUptoRow.holds Try.pinned (OpenSpec.upto tokensNilSpec)

/-- 'outriderlaw18.TokensKnown', WHERE WHAT IT READS IS OF BULK AT MOST 1048576: true; the input reads as it did. -/
def tokensKnownUptoRow : OpenClaim := { program := "ythckedmfjmbopaa", sum := "094119fee35a793d216f72ad788090f1f5f6a2ad95fc3449979f17d0aed21cc8", func := "outrider/outriderlaw18.TokensKnown", spec := "tokensKnown", unfollowed := true, recurses := true, apart := false, narrowed := true }
def TokensKnownUptoSaid : Prop := tokensKnownUptoRow.holds Try.pinned (OpenSpec.upto tokensKnownSpec)

/-- 'outriderlaw18.TokensApart', WHERE WHAT IT READS IS OF BULK AT MOST 1048576: true; the input reads as it did. -/
def tokensApartUptoRow : OpenClaim := { program := "ythckedmfjmbopaa", sum := "094119fee35a793d216f72ad788090f1f5f6a2ad95fc3449979f17d0aed21cc8", func := "outrider/outriderlaw18.TokensApart", spec := "tokensApart", unfollowed := true, recurses := true, apart := false, narrowed := true }
def TokensApartUptoSaid : Prop := tokensApartUptoRow.holds Try.pinned (OpenSpec.upto tokensApartSpec)

end Rows
end Go.Proofs.Ythckedmfjmbopaa
