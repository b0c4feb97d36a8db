/-
  No cell of these rows narrows 'for every input' (looked for: loops, veiled, ifaces, maps, wideKeys, modest, calm, conditions, laid).
  DERIVED. THE GIVEN ROWS OF THIS SEAT. 5 by the template 'for every input the law returns true; each argument reads behind the call as it read before'; 0 by the template 'total and deterministic' (their statements: YtjomimbclcjkcaaTotals.lean).
  GIVEN WITH THE SEED: the statements are not yours to turn. If you find one false, say at which input.
  Laid BY PROGRAM, IN A SANDBOX (cutbox-rows.mjs): the forced cells as the released guide's own fill.sh prints them over the translation 18c6dbbc9886dd90… (all of the seat's roots in one cut). By AI agents, Wed Nov 11 2026. No macro, syntax, notation, axiom, sorry.
-/
import Derived.Test.YtjomimbclcjkcaaChecked
import GoSem.Claim
import GoSem.ClaimJoined
import GoSem.ClaimMapViews
import Derived.JoinedTies
import Derived.KernelRfl
namespace Go.Proofs.Ytjomimbclcjkcaa
/- THE CELL 'sum', in the pinned program and in every row, IS THE sha256 OF THE DUMP (.gsa) THAT YtjomimbclcjkcaaProg.lean LOADS. Nothing in Lean hashes anything: it is a label: what it is worth is what the hold of that sum in a sandbox is worth. -/
noncomputable def Try.pinned : Pinned := { name := "ytjomimbclcjkcaa", sum := "18c6dbbc9886dd90e28ead22d6a37f937aad4c855c094050514c72bab2bb4d1e", checked := Try.checked }
namespace Rows
def none {H : Type} : Left H := { results := [], args := [] }

/-- 'outriderlaw02.CrcAll': WHATEVER THE INPUT: true; the input reads as it did. -/
def crcAllSpec : ChangeSpec := { name := "crcAll", fn := fun _ => fun
  | [d] => { results := [.lit (.bool true)], args := [d] }
  | _ => none }
def crcAllRow : OpenClaim := { program := "ytjomimbclcjkcaa", sum := "18c6dbbc9886dd90e28ead22d6a37f937aad4c855c094050514c72bab2bb4d1e", func := "outrider/outriderlaw02.CrcAll", spec := "crcAll", apart := false }
def CrcAllSaid : Prop := crcAllRow.holds Try.pinned (OpenSpec.ofChange crcAllSpec)

/-- ITS FALSE NEIGHBOUR: 'it returns false'. Refute it at one input. -/
def crcAllWrong : ChangeSpec := { name := "crcAll", fn := fun _ => fun
  | [d] => { results := [.lit (.bool false)], args := [d] }
  | _ => none }
def CrcAllWrongFalsely : Prop := crcAllRow.holds Try.pinned (OpenSpec.ofChange crcAllWrong)

/-- 'outriderlaw02.CrcNumber': WHATEVER THE INPUT: true; the input reads as it did. -/
def crcNumberSpec : ChangeSpec := { name := "crcNumber", fn := fun _ => fun
  | [d1, d2, d3] => { results := [.lit (.bool true)], args := [d1, d2, d3] }
  | _ => none }
def crcNumberRow : OpenClaim := { program := "ytjomimbclcjkcaa", sum := "18c6dbbc9886dd90e28ead22d6a37f937aad4c855c094050514c72bab2bb4d1e", func := "outrider/outriderlaw02.CrcNumber", spec := "crcNumber", apart := false }
def CrcNumberSaid : Prop := crcNumberRow.holds Try.pinned (OpenSpec.ofChange crcNumberSpec)

/-- ITS FALSE NEIGHBOUR: 'it returns false'. Refute it at one input. -/
def crcNumberWrong : ChangeSpec := { name := "crcNumber", fn := fun _ => fun
  | [d1, d2, d3] => { results := [.lit (.bool false)], args := [d1, d2, d3] }
  | _ => none }
def CrcNumberWrongFalsely : Prop := crcNumberRow.holds Try.pinned (OpenSpec.ofChange crcNumberWrong)

/-- 'outriderlaw02.CrcSwap': WHATEVER THE INPUT: true; the input reads as it did. -/
def crcSwapSpec : ChangeSpec := { name := "crcSwap", fn := fun _ => fun
  | [d1, d2, d3] => { results := [.lit (.bool true)], args := [d1, d2, d3] }
  | _ => none }
def crcSwapRow : OpenClaim := { program := "ytjomimbclcjkcaa", sum := "18c6dbbc9886dd90e28ead22d6a37f937aad4c855c094050514c72bab2bb4d1e", func := "outrider/outriderlaw02.CrcSwap", spec := "crcSwap", apart := false }
def CrcSwapSaid : Prop := crcSwapRow.holds Try.pinned (OpenSpec.ofChange crcSwapSpec)

/-- ITS FALSE NEIGHBOUR: 'it returns false'. Refute it at one input. -/
def crcSwapWrong : ChangeSpec := { name := "crcSwap", fn := fun _ => fun
  | [d1, d2, d3] => { results := [.lit (.bool false)], args := [d1, d2, d3] }
  | _ => none }
def CrcSwapWrongFalsely : Prop := crcSwapRow.holds Try.pinned (OpenSpec.ofChange crcSwapWrong)

/-- 'outriderlaw02.CrcShort': WHATEVER THE INPUT: true; the input reads as it did. -/
def crcShortSpec : ChangeSpec := { name := "crcShort", fn := fun _ => fun
  | [d1, d2, d3] => { results := [.lit (.bool true)], args := [d1, d2, d3] }
  | _ => none }
def crcShortRow : OpenClaim := { program := "ytjomimbclcjkcaa", sum := "18c6dbbc9886dd90e28ead22d6a37f937aad4c855c094050514c72bab2bb4d1e", func := "outrider/outriderlaw02.CrcShort", spec := "crcShort", apart := false }
def CrcShortSaid : Prop := crcShortRow.holds Try.pinned (OpenSpec.ofChange crcShortSpec)

/-- ITS FALSE NEIGHBOUR: 'it returns false'. Refute it at one input. -/
def crcShortWrong : ChangeSpec := { name := "crcShort", fn := fun _ => fun
  | [d1, d2, d3] => { results := [.lit (.bool false)], args := [d1, d2, d3] }
  | _ => none }
def CrcShortWrongFalsely : Prop := crcShortRow.holds Try.pinned (OpenSpec.ofChange crcShortWrong)

/-- 'outriderlaw02.CrcKnown': WHATEVER THE INPUT: true; the input reads as it did. -/
def crcKnownSpec : ChangeSpec := { name := "crcKnown", fn := fun _ => fun
  | [] => { results := [.lit (.bool true)], args := [] }
  | _ => none }
def crcKnownRow : OpenClaim := { program := "ytjomimbclcjkcaa", sum := "18c6dbbc9886dd90e28ead22d6a37f937aad4c855c094050514c72bab2bb4d1e", func := "outrider/outriderlaw02.CrcKnown", spec := "crcKnown", apart := false }
def CrcKnownSaid : Prop := crcKnownRow.holds Try.pinned (OpenSpec.ofChange crcKnownSpec)

/-- ITS FALSE NEIGHBOUR: 'it returns false'. Refute it at one input. -/
def crcKnownWrong : ChangeSpec := { name := "crcKnown", fn := fun _ => fun
  | [] => { results := [.lit (.bool false)], args := [] }
  | _ => none }
def CrcKnownWrongFalsely : Prop := crcKnownRow.holds Try.pinned (OpenSpec.ofChange crcKnownWrong)

/- THE SECOND FORM. 'bulk': how many values and letters a reading holds, each counted each time it is reached (what is shared counts as often as it is met; a slice's spare places count too). A statement '..UptoSaid' is the law's where the arguments, and the package variables that the reading takes, are together of bulk at most 1048576: NARROWER than '..Said'. Prove '..Said' where nothing that the law and all that it calls make is longer than what came in: it says more and counts as full. Else prove '..UptoSaid'. A law counts once. -/
mutual
def uptoBulk {H : Type} : DataW H → Nat
  | .lit (.string bytes) => bytes.length + 1
  | .lit _ => 1
  | .nil => 1
  | .ptr d => uptoBulk d + 1
  | .slice elems spare => uptoBulkAll elems + uptoBulkAll spare + 1
  | .agg parts => uptoBulkAll parts + 1
  | .iface _ d => uptoBulk d + 1
  | .map entries => uptoBulkEntries entries + 1
  | .held _ => 1
def uptoBulkAll {H : Type} : List (DataW H) → Nat
  | [] => 0
  | d :: r => uptoBulk d + uptoBulkAll r
def uptoBulkEntries {H : Type} : List (Lit × DataW H) → Nat
  | [] => 0
  | x :: r => uptoBulkEntry x + uptoBulkEntries r
def uptoBulkEntry {H : Type} : Lit × DataW H → Nat
  | (.string bytes, d) => bytes.length + uptoBulk d + 1
  | (_, d) => uptoBulk d + 1
 end
def uptoSmall : (H : Type) → List (DataW H) → Bool := fun _ ds => decide (uptoBulkAll ds ≤ 1048576)
def OpenSpec.upto (s : _root_.Go.ChangeSpec) : _root_.Go.OpenSpec := { _root_.Go.OpenSpec.ofChange s with cond := some uptoSmall }

/-- 'outriderlaw02.CrcAll', WHERE WHAT IT READS IS OF BULK AT MOST 1048576: true; the input reads as it did. -/
def crcAllUptoRow : OpenClaim := { program := "ytjomimbclcjkcaa", sum := "18c6dbbc9886dd90e28ead22d6a37f937aad4c855c094050514c72bab2bb4d1e", func := "outrider/outriderlaw02.CrcAll", spec := "crcAll", apart := false, narrowed := true }
def CrcAllUptoSaid : Prop := crcAllUptoRow.holds Try.pinned (OpenSpec.upto crcAllSpec)

/-- 'outriderlaw02.CrcNumber', WHERE WHAT IT READS IS OF BULK AT MOST 1048576: true; the input reads as it did. -/
def crcNumberUptoRow : OpenClaim := { program := "ytjomimbclcjkcaa", sum := "18c6dbbc9886dd90e28ead22d6a37f937aad4c855c094050514c72bab2bb4d1e", func := "outrider/outriderlaw02.CrcNumber", spec := "crcNumber", apart := false, narrowed := true }
def CrcNumberUptoSaid : Prop := crcNumberUptoRow.holds Try.pinned (OpenSpec.upto crcNumberSpec)

/-- 'outriderlaw02.CrcSwap', WHERE WHAT IT READS IS OF BULK AT MOST 1048576: true; the input reads as it did. -/
def crcSwapUptoRow : OpenClaim := { program := "ytjomimbclcjkcaa", sum := "18c6dbbc9886dd90e28ead22d6a37f937aad4c855c094050514c72bab2bb4d1e", func := "outrider/outriderlaw02.CrcSwap", spec := "crcSwap", apart := false, narrowed := true }
def CrcSwapUptoSaid : Prop := crcSwapUptoRow.holds Try.pinned (OpenSpec.upto crcSwapSpec)

/-- 'outriderlaw02.CrcShort', WHERE WHAT IT READS IS OF BULK AT MOST 1048576: true; the input reads as it did. -/
def crcShortUptoRow : OpenClaim := { program := "ytjomimbclcjkcaa", sum := "18c6dbbc9886dd90e28ead22d6a37f937aad4c855c094050514c72bab2bb4d1e", func := "outrider/outriderlaw02.CrcShort", spec := "crcShort", apart := false, narrowed := true }
def CrcShortUptoSaid : Prop := crcShortUptoRow.holds Try.pinned (OpenSpec.upto crcShortSpec)

/-- 'outriderlaw02.CrcKnown', WHERE WHAT IT READS IS OF BULK AT MOST 1048576: true; the input reads as it did. -/
def crcKnownUptoRow : OpenClaim := { program := "ytjomimbclcjkcaa", sum := "18c6dbbc9886dd90e28ead22d6a37f937aad4c855c094050514c72bab2bb4d1e", func := "outrider/outriderlaw02.CrcKnown", spec := "crcKnown", apart := false, narrowed := true }
def CrcKnownUptoSaid : Prop := crcKnownUptoRow.holds Try.pinned (OpenSpec.upto crcKnownSpec)

end Rows
end Go.Proofs.Ytjomimbclcjkcaa
