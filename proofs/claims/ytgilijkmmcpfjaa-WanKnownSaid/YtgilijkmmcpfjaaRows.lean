/-
  No cell of these rows narrows 'for every input' (looked for: loops, veiled, ifaces, maps, wideKeys, modest, calm, conditions, laid).
  DERIVED. THE GIVEN ROWS OF THIS SEAT. 6 by the template 'for every input the law returns true; each argument reads behind the call as it read before'; 0 by the template 'total and deterministic' (their statements: YtgilijkmmcpfjaaTotals.lean).
  GIVEN WITH THE SEED: the statements are not yours to turn. If you find one false, say at which input.
  Laid BY PROGRAM, IN A SANDBOX (cutbox-rows.mjs): the forced cells as the released guide's own fill.sh prints them over the translation 82eb6d51148d1b37… (all of the seat's roots in one cut). By AI agents, Wed Nov 11 2026. No macro, syntax, notation, axiom, sorry.
-/
import Derived.Test.YtgilijkmmcpfjaaChecked
import GoSem.Claim
import GoSem.ClaimJoined
import GoSem.ClaimMapViews
import Derived.JoinedTies
import Derived.KernelRfl
namespace Go.Proofs.Ytgilijkmmcpfjaa
/- THE CELL 'sum', in the pinned program and in every row, IS THE sha256 OF THE DUMP (.gsa) THAT YtgilijkmmcpfjaaProg.lean LOADS. Nothing in Lean hashes anything: it is a label: what it is worth is what the hold of that sum in a sandbox is worth. -/
noncomputable def Try.pinned : Pinned := { name := "ytgilijkmmcpfjaa", sum := "82eb6d51148d1b37a73dd6d12eca78bd4c1ac832afb4de52e1adf614faf9827a", checked := Try.checked }
namespace Rows
def none {H : Type} : Left H := { results := [], args := [] }

/-- 'outriderlaw22.WanPuts': WHATEVER THE INPUT: true; the input reads as it did. -/
def wanPutsSpec : ChangeSpec := { name := "wanPuts", fn := fun _ => fun
  | [d] => { results := [.lit (.bool true)], args := [d] }
  | _ => none }
def wanPutsRow : OpenClaim := { program := "ytgilijkmmcpfjaa", sum := "82eb6d51148d1b37a73dd6d12eca78bd4c1ac832afb4de52e1adf614faf9827a", func := "outrider/outriderlaw22.WanPuts", spec := "wanPuts", unfollowed := true, recurses := true, apart := false }
def WanPutsSaid : Prop := wanPutsRow.holds Try.pinned (OpenSpec.ofChange wanPutsSpec)

/-- ITS FALSE NEIGHBOUR: 'it returns false'. Refute it at one input. -/
def wanPutsWrong : ChangeSpec := { name := "wanPuts", fn := fun _ => fun
  | [d] => { results := [.lit (.bool false)], args := [d] }
  | _ => none }
def WanPutsWrongFalsely : Prop := wanPutsRow.holds Try.pinned (OpenSpec.ofChange wanPutsWrong)

/-- 'outriderlaw22.WanGets': WHATEVER THE INPUT: true; the input reads as it did. -/
def wanGetsSpec : ChangeSpec := { name := "wanGets", fn := fun _ => fun
  | [d] => { results := [.lit (.bool true)], args := [d] }
  | _ => none }
def wanGetsRow : OpenClaim := { program := "ytgilijkmmcpfjaa", sum := "82eb6d51148d1b37a73dd6d12eca78bd4c1ac832afb4de52e1adf614faf9827a", func := "outrider/outriderlaw22.WanGets", spec := "wanGets", unfollowed := true, recurses := true, apart := false }
def WanGetsSaid : Prop := wanGetsRow.holds Try.pinned (OpenSpec.ofChange wanGetsSpec)

/-- ITS FALSE NEIGHBOUR: 'it returns false'. Refute it at one input. -/
def wanGetsWrong : ChangeSpec := { name := "wanGets", fn := fun _ => fun
  | [d] => { results := [.lit (.bool false)], args := [d] }
  | _ => none }
def WanGetsWrongFalsely : Prop := wanGetsRow.holds Try.pinned (OpenSpec.ofChange wanGetsWrong)

/-- 'outriderlaw22.WanSame': WHATEVER THE INPUT: true; the input reads as it did. -/
def wanSameSpec : ChangeSpec := { name := "wanSame", fn := fun _ => fun
  | [d] => { results := [.lit (.bool true)], args := [d] }
  | _ => none }
def wanSameRow : OpenClaim := { program := "ytgilijkmmcpfjaa", sum := "82eb6d51148d1b37a73dd6d12eca78bd4c1ac832afb4de52e1adf614faf9827a", func := "outrider/outriderlaw22.WanSame", spec := "wanSame", unfollowed := true, recurses := true, apart := false }
def WanSameSaid : Prop := wanSameRow.holds Try.pinned (OpenSpec.ofChange wanSameSpec)

/-- ITS FALSE NEIGHBOUR: 'it returns false'. Refute it at one input. -/
def wanSameWrong : ChangeSpec := { name := "wanSame", fn := fun _ => fun
  | [d] => { results := [.lit (.bool false)], args := [d] }
  | _ => none }
def WanSameWrongFalsely : Prop := wanSameRow.holds Try.pinned (OpenSpec.ofChange wanSameWrong)

/-- 'outriderlaw22.WanApart': WHATEVER THE INPUT: true; the input reads as it did. -/
def wanApartSpec : ChangeSpec := { name := "wanApart", fn := fun _ => fun
  | [d1, d2] => { results := [.lit (.bool true)], args := [d1, d2] }
  | _ => none }
def wanApartRow : OpenClaim := { program := "ytgilijkmmcpfjaa", sum := "82eb6d51148d1b37a73dd6d12eca78bd4c1ac832afb4de52e1adf614faf9827a", func := "outrider/outriderlaw22.WanApart", spec := "wanApart", unfollowed := true, recurses := true, apart := false }
def WanApartSaid : Prop := wanApartRow.holds Try.pinned (OpenSpec.ofChange wanApartSpec)

/-- ITS FALSE NEIGHBOUR: 'it returns false'. Refute it at one input. -/
def wanApartWrong : ChangeSpec := { name := "wanApart", fn := fun _ => fun
  | [d1, d2] => { results := [.lit (.bool false)], args := [d1, d2] }
  | _ => none }
def WanApartWrongFalsely : Prop := wanApartRow.holds Try.pinned (OpenSpec.ofChange wanApartWrong)

/-- 'outriderlaw22.WanKnown': WHATEVER THE INPUT: true; the input reads as it did. -/
def wanKnownSpec : ChangeSpec := { name := "wanKnown", fn := fun _ => fun
  | [] => { results := [.lit (.bool true)], args := [] }
  | _ => none }
def wanKnownRow : OpenClaim := { program := "ytgilijkmmcpfjaa", sum := "82eb6d51148d1b37a73dd6d12eca78bd4c1ac832afb4de52e1adf614faf9827a", func := "outrider/outriderlaw22.WanKnown", spec := "wanKnown", unfollowed := true, recurses := true, apart := false }
def WanKnownSaid : Prop := wanKnownRow.holds Try.pinned (OpenSpec.ofChange wanKnownSpec)

/-- ITS FALSE NEIGHBOUR: 'it returns false'. Refute it at one input. -/
def wanKnownWrong : ChangeSpec := { name := "wanKnown", fn := fun _ => fun
  | [] => { results := [.lit (.bool false)], args := [] }
  | _ => none }
def WanKnownWrongFalsely : Prop := wanKnownRow.holds Try.pinned (OpenSpec.ofChange wanKnownWrong)

/-- 'outriderlaw22.WanBack': WHATEVER THE INPUT: true; the input reads as it did. -/
def wanBackSpec : ChangeSpec := { name := "wanBack", fn := fun _ => fun
  | [d] => { results := [.lit (.bool true)], args := [d] }
  | _ => none }
def wanBackRow : OpenClaim := { program := "ytgilijkmmcpfjaa", sum := "82eb6d51148d1b37a73dd6d12eca78bd4c1ac832afb4de52e1adf614faf9827a", func := "outrider/outriderlaw22.WanBack", spec := "wanBack", unfollowed := true, recurses := true, apart := false }
def WanBackSaid : Prop := wanBackRow.holds Try.pinned (OpenSpec.ofChange wanBackSpec)

/-- ITS FALSE NEIGHBOUR: 'it returns false'. Refute it at one input. -/
def wanBackWrong : ChangeSpec := { name := "wanBack", fn := fun _ => fun
  | [d] => { results := [.lit (.bool false)], args := [d] }
  | _ => none }
def WanBackWrongFalsely : Prop := wanBackRow.holds Try.pinned (OpenSpec.ofChange wanBackWrong)

/- THE SECOND FORM. 'bulk': how many values and letters a reading holds, each counted each time it is reached (what is shared counts as often as it is met; a slice's spare places count too). A statement '..UptoSaid' is the law's where the arguments, and the package variables that the reading takes, are together of bulk at most 1048576: NARROWER than '..Said'. Prove '..Said' where nothing that the law and all that it calls make is longer than what came in: it says more and counts as full. Else prove '..UptoSaid'. A law counts once. -/
mutual
def uptoBulk {H : Type} : DataW H → Nat
  | .lit (.string bytes) => bytes.length + 1
  | .lit _ => 1
  | .nil => 1
  | .ptr d => uptoBulk d + 1
  | .slice elems spare => uptoBulkAll elems + uptoBulkAll spare + 1
  | .agg parts => uptoBulkAll parts + 1
  | .iface _ d => uptoBulk d + 1
  | .map entries => uptoBulkEntries entries + 1
  | .held _ => 1
def uptoBulkAll {H : Type} : List (DataW H) → Nat
  | [] => 0
  | d :: r => uptoBulk d + uptoBulkAll r
def uptoBulkEntries {H : Type} : List (Lit × DataW H) → Nat
  | [] => 0
  | x :: r => uptoBulkEntry x + uptoBulkEntries r
def uptoBulkEntry {H : Type} : Lit × DataW H → Nat
  | (.string bytes, d) => bytes.length + uptoBulk d + 1
  | (_, d) => uptoBulk d + 1
 end
def uptoSmall : (H : Type) → List (DataW H) → Bool := fun _ ds => decide (uptoBulkAll ds ≤ 1048576)
def OpenSpec.upto (s : _root_.Go.ChangeSpec) : _root_.Go.OpenSpec := { _root_.Go.OpenSpec.ofChange s with cond := some uptoSmall }

/-- 'outriderlaw22.WanPuts', WHERE WHAT IT READS IS OF BULK AT MOST 1048576: true; the input reads as it did. -/
def wanPutsUptoRow : OpenClaim := { program := "ytgilijkmmcpfjaa", sum := "82eb6d51148d1b37a73dd6d12eca78bd4c1ac832afb4de52e1adf614faf9827a", func := "outrider/outriderlaw22.WanPuts", spec := "wanPuts", unfollowed := true, recurses := true, apart := false, narrowed := true }
def WanPutsUptoSaid : Prop := wanPutsUptoRow.holds Try.pinned (OpenSpec.upto wanPutsSpec)

/-- 'outriderlaw22.WanGets', WHERE WHAT IT READS IS OF BULK AT MOST 1048576: true; the input reads as it did. -/
def wanGetsUptoRow : OpenClaim := { program := "ytgilijkmmcpfjaa", sum := "82eb6d51148d1b37a73dd6d12eca78bd4c1ac832afb4de52e1adf614faf9827a", func := "outrider/outriderlaw22.WanGets", spec := "wanGets", unfollowed := true, recurses := true, apart := false, narrowed := true }
def WanGetsUptoSaid : Prop := wanGetsUptoRow.holds Try.pinned (OpenSpec.upto wanGetsSpec)

/-- 'outriderlaw22.WanSame', WHERE WHAT IT READS IS OF BULK AT MOST 1048576: true; the input reads as it did. -/
def wanSameUptoRow : OpenClaim := { program := "ytgilijkmmcpfjaa", sum := "82eb6d51148d1b37a73dd6d12eca78bd4c1ac832afb4de52e1adf614faf9827a", func := "outrider/outriderlaw22.WanSame", spec := "wanSame", unfollowed := true, recurses := true, apart := false, narrowed := true }
def WanSameUptoSaid : Prop := wanSameUptoRow.holds Try.pinned (OpenSpec.upto wanSameSpec)

/-- 'outriderlaw22.WanApart', WHERE WHAT IT READS IS OF BULK AT MOST 1048576: true; the input reads as it did. -/
def wanApartUptoRow : OpenClaim := { program := "ytgilijkmmcpfjaa", sum := "82eb6d51148d1b37a73dd6d12eca78bd4c1ac832afb4de52e1adf614faf9827a", func := "outrider/outriderlaw22.WanApart", spec := "wanApart", unfollowed := true, recurses := true, apart := false, narrowed := true }
def WanApartUptoSaid : Prop := wanApartUptoRow.holds Try.pinned (OpenSpec.upto wanApartSpec)

/-- 'outriderlaw22.WanKnown', WHERE WHAT IT READS IS OF BULK AT MOST 1048576: true; the input reads as it did. -/
def wanKnownUptoRow : OpenClaim := { program := "ytgilijkmmcpfjaa", sum := "82eb6d51148d1b37a73dd6d12eca78bd4c1ac832afb4de52e1adf614faf9827a", func := "outrider/outriderlaw22.WanKnown", spec := "wanKnown", unfollowed := true, recurses := true, apart := false, narrowed := true }
def WanKnownUptoSaid : Prop := wanKnownUptoRow.holds Try.pinned (OpenSpec.upto wanKnownSpec)

/-- 'outriderlaw22.WanBack', WHERE WHAT IT READS IS OF BULK AT MOST 1048576: true; the input reads as it did. -/
def wanBackUptoRow : OpenClaim := { program := "ytgilijkmmcpfjaa", sum := "82eb6d51148d1b37a73dd6d12eca78bd4c1ac832afb4de52e1adf614faf9827a", func := "outrider/outriderlaw22.WanBack", spec := "wanBack", unfollowed := true, recurses := true, apart := false, narrowed := true }
def WanBackUptoSaid : Prop := wanBackUptoRow.holds Try.pinned (OpenSpec.upto wanBackSpec)

end Rows
end Go.Proofs.Ytgilijkmmcpfjaa
