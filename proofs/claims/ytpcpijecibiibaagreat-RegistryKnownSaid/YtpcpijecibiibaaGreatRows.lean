/-
  NARROWER THAN 'FOR EVERY INPUT', by the rows' own cells (each row's printed sentence says how): RegistryOnce: loops · RegistryApart: loops · RegistryPlays: loops · RegistryTurn: loops · RegistryBytes: loops.
  DERIVED. THE GIVEN ROWS OF THIS SEAT. 6 by the template 'for every input the law returns true; each argument reads behind the call as it read before'; 0 by the template 'total and deterministic' (their statements: YtpcpijecibiibaaGreatTotals.lean).
  GIVEN WITH THE SEED: the statements are not yours to turn. If you find one false, say at which input.
  Laid BY PROGRAM, IN A SANDBOX (cutbox-rows.mjs): the forced cells as the released guide's own fill.sh prints them over the translation 6b5404ddef489f49… (all of the seat's roots in one cut). By AI agents, Wed Nov 11 2026. No macro, syntax, notation, axiom, sorry.
-/
import Derived.Test.YtpcpijecibiibaaGreatChecked
import GoSem.Claim
import GoSem.ClaimJoined
import GoSem.ClaimMapViews
import Derived.JoinedTies
import Derived.KernelRfl
namespace Go.Proofs.YtpcpijecibiibaaGreat
/- THE CELL 'sum', in the pinned program and in every row, IS THE sha256 OF THE DUMP (.gsa) THAT YtpcpijecibiibaaGreatProg.lean LOADS. Nothing in Lean hashes anything: it is a label: what it is worth is what the hold of that sum in a sandbox is worth. -/
noncomputable def Tryz.pinned : Pinned := { name := "ytpcpijecibiibaagreat", sum := "6b5404ddef489f49d9fb08fbec4a0fda266d726d1de070191fad265bbb3fc054", checked := Tryz.checked }
namespace Rows
def none {H : Type} : Left H := { results := [], args := [] }

/-- 'outriderlaw21.RegistryOnce': WHATEVER THE INPUT: true; the input reads as it did. -/
def registryOnceSpec : ChangeSpec := { name := "registryOnce", fn := fun _ => fun
  | [d] => { results := [.lit (.bool true)], args := [d] }
  | _ => none }
def registryOnceRow : OpenClaim := { program := "ytpcpijecibiibaagreat", sum := "6b5404ddef489f49d9fb08fbec4a0fda266d726d1de070191fad265bbb3fc054", func := "outrider/outriderlaw21.RegistryOnce", spec := "registryOnce", unfollowed := true, recurses := true, loops := true, apart := false }
def RegistryOnceSaid : Prop := registryOnceRow.holds Tryz.pinned (OpenSpec.ofChange registryOnceSpec)

/-- ITS FALSE NEIGHBOUR: 'it returns false'. Refute it at one input. -/
def registryOnceWrong : ChangeSpec := { name := "registryOnce", fn := fun _ => fun
  | [d] => { results := [.lit (.bool false)], args := [d] }
  | _ => none }
def RegistryOnceWrongFalsely : Prop := registryOnceRow.holds Tryz.pinned (OpenSpec.ofChange registryOnceWrong)

/-- 'outriderlaw21.RegistryApart': WHATEVER THE INPUT: true; the input reads as it did. -/
def registryApartSpec : ChangeSpec := { name := "registryApart", fn := fun _ => fun
  | [d1, d2] => { results := [.lit (.bool true)], args := [d1, d2] }
  | _ => none }
def registryApartRow : OpenClaim := { program := "ytpcpijecibiibaagreat", sum := "6b5404ddef489f49d9fb08fbec4a0fda266d726d1de070191fad265bbb3fc054", func := "outrider/outriderlaw21.RegistryApart", spec := "registryApart", unfollowed := true, recurses := true, loops := true, apart := false }
def RegistryApartSaid : Prop := registryApartRow.holds Tryz.pinned (OpenSpec.ofChange registryApartSpec)

/-- ITS FALSE NEIGHBOUR: 'it returns false'. Refute it at one input. -/
def registryApartWrong : ChangeSpec := { name := "registryApart", fn := fun _ => fun
  | [d1, d2] => { results := [.lit (.bool false)], args := [d1, d2] }
  | _ => none }
def RegistryApartWrongFalsely : Prop := registryApartRow.holds Tryz.pinned (OpenSpec.ofChange registryApartWrong)

/-- 'outriderlaw21.RegistryPlays': WHATEVER THE INPUT: true; the input reads as it did. -/
def registryPlaysSpec : ChangeSpec := { name := "registryPlays", fn := fun _ => fun
  | [d1, d2, d3] => { results := [.lit (.bool true)], args := [d1, d2, d3] }
  | _ => none }
def registryPlaysRow : OpenClaim := { program := "ytpcpijecibiibaagreat", sum := "6b5404ddef489f49d9fb08fbec4a0fda266d726d1de070191fad265bbb3fc054", func := "outrider/outriderlaw21.RegistryPlays", spec := "registryPlays", unfollowed := true, recurses := true, loops := true, apart := false }
def RegistryPlaysSaid : Prop := registryPlaysRow.holds Tryz.pinned (OpenSpec.ofChange registryPlaysSpec)

/-- ITS FALSE NEIGHBOUR: 'it returns false'. Refute it at one input. -/
def registryPlaysWrong : ChangeSpec := { name := "registryPlays", fn := fun _ => fun
  | [d1, d2, d3] => { results := [.lit (.bool false)], args := [d1, d2, d3] }
  | _ => none }
def RegistryPlaysWrongFalsely : Prop := registryPlaysRow.holds Tryz.pinned (OpenSpec.ofChange registryPlaysWrong)

/-- 'outriderlaw21.RegistryTurn': WHATEVER THE INPUT: true; the input reads as it did. -/
def registryTurnSpec : ChangeSpec := { name := "registryTurn", fn := fun _ => fun
  | [d1, d2, d3] => { results := [.lit (.bool true)], args := [d1, d2, d3] }
  | _ => none }
def registryTurnRow : OpenClaim := { program := "ytpcpijecibiibaagreat", sum := "6b5404ddef489f49d9fb08fbec4a0fda266d726d1de070191fad265bbb3fc054", func := "outrider/outriderlaw21.RegistryTurn", spec := "registryTurn", unfollowed := true, recurses := true, loops := true, apart := false }
def RegistryTurnSaid : Prop := registryTurnRow.holds Tryz.pinned (OpenSpec.ofChange registryTurnSpec)

/-- ITS FALSE NEIGHBOUR: 'it returns false'. Refute it at one input. -/
def registryTurnWrong : ChangeSpec := { name := "registryTurn", fn := fun _ => fun
  | [d1, d2, d3] => { results := [.lit (.bool false)], args := [d1, d2, d3] }
  | _ => none }
def RegistryTurnWrongFalsely : Prop := registryTurnRow.holds Tryz.pinned (OpenSpec.ofChange registryTurnWrong)

/-- 'outriderlaw21.RegistryBytes': WHATEVER THE INPUT: true; the input reads as it did. -/
def registryBytesSpec : ChangeSpec := { name := "registryBytes", fn := fun _ => fun
  | [d1, d2] => { results := [.lit (.bool true)], args := [d1, d2] }
  | _ => none }
def registryBytesRow : OpenClaim := { program := "ytpcpijecibiibaagreat", sum := "6b5404ddef489f49d9fb08fbec4a0fda266d726d1de070191fad265bbb3fc054", func := "outrider/outriderlaw21.RegistryBytes", spec := "registryBytes", unfollowed := true, recurses := true, loops := true, apart := false }
def RegistryBytesSaid : Prop := registryBytesRow.holds Tryz.pinned (OpenSpec.ofChange registryBytesSpec)

/-- ITS FALSE NEIGHBOUR: 'it returns false'. Refute it at one input. -/
def registryBytesWrong : ChangeSpec := { name := "registryBytes", fn := fun _ => fun
  | [d1, d2] => { results := [.lit (.bool false)], args := [d1, d2] }
  | _ => none }
def RegistryBytesWrongFalsely : Prop := registryBytesRow.holds Tryz.pinned (OpenSpec.ofChange registryBytesWrong)

/-- 'outriderlaw21.RegistryKnown': WHATEVER THE INPUT: true; the input reads as it did. -/
def registryKnownSpec : ChangeSpec := { name := "registryKnown", fn := fun _ => fun
  | [] => { results := [.lit (.bool true)], args := [] }
  | _ => none }
def registryKnownRow : OpenClaim := { program := "ytpcpijecibiibaagreat", sum := "6b5404ddef489f49d9fb08fbec4a0fda266d726d1de070191fad265bbb3fc054", func := "outrider/outriderlaw21.RegistryKnown", spec := "registryKnown", unfollowed := true, recurses := true, apart := false }
def RegistryKnownSaid : Prop := registryKnownRow.holds Tryz.pinned (OpenSpec.ofChange registryKnownSpec)

/-- ITS FALSE NEIGHBOUR: 'it returns false'. Refute it at one input. -/
def registryKnownWrong : ChangeSpec := { name := "registryKnown", fn := fun _ => fun
  | [] => { results := [.lit (.bool false)], args := [] }
  | _ => none }
def RegistryKnownWrongFalsely : Prop := registryKnownRow.holds Tryz.pinned (OpenSpec.ofChange registryKnownWrong)

/- THE SECOND FORM. 'bulk': how many values and letters a reading holds, each counted each time it is reached (what is shared counts as often as it is met; a slice's spare places count too). A statement '..UptoSaid' is the law's where the arguments, and the package variables that the reading takes, are together of bulk at most 1048576: NARROWER than '..Said'. Prove '..Said' where nothing that the law and all that it calls make is longer than what came in: it says more and counts as full. Else prove '..UptoSaid'. A law counts once. -/
mutual
def uptoBulk {H : Type} : DataW H → Nat
  | .lit (.string bytes) => bytes.length + 1
  | .lit _ => 1
  | .nil => 1
  | .ptr d => uptoBulk d + 1
  | .slice elems spare => uptoBulkAll elems + uptoBulkAll spare + 1
  | .agg parts => uptoBulkAll parts + 1
  | .iface _ d => uptoBulk d + 1
  | .map entries => uptoBulkEntries entries + 1
  | .held _ => 1
def uptoBulkAll {H : Type} : List (DataW H) → Nat
  | [] => 0
  | d :: r => uptoBulk d + uptoBulkAll r
def uptoBulkEntries {H : Type} : List (Lit × DataW H) → Nat
  | [] => 0
  | x :: r => uptoBulkEntry x + uptoBulkEntries r
def uptoBulkEntry {H : Type} : Lit × DataW H → Nat
  | (.string bytes, d) => bytes.length + uptoBulk d + 1
  | (_, d) => uptoBulk d + 1
 end
def uptoSmall : (H : Type) → List (DataW H) → Bool := fun _ ds => decide (uptoBulkAll ds ≤ 1048576)
def OpenSpec.upto (s : _root_.Go.ChangeSpec) : _root_.Go.OpenSpec := { _root_.Go.OpenSpec.ofChange s with cond := some uptoSmall }

/-- 'outriderlaw21.RegistryOnce', WHERE WHAT IT READS IS OF BULK AT MOST 1048576: true; the input reads as it did. -/
def registryOnceUptoRow : OpenClaim := { program := "ytpcpijecibiibaagreat", sum := "6b5404ddef489f49d9fb08fbec4a0fda266d726d1de070191fad265bbb3fc054", func := "outrider/outriderlaw21.RegistryOnce", spec := "registryOnce", unfollowed := true, recurses := true, loops := true, apart := false, narrowed := true }
def RegistryOnceUptoSaid : Prop := registryOnceUptoRow.holds Tryz.pinned (OpenSpec.upto registryOnceSpec)

/-- 'outriderlaw21.RegistryApart', WHERE WHAT IT READS IS OF BULK AT MOST 1048576: true; the input reads as it did. -/
def registryApartUptoRow : OpenClaim := { program := "ytpcpijecibiibaagreat", sum := "6b5404ddef489f49d9fb08fbec4a0fda266d726d1de070191fad265bbb3fc054", func := "outrider/outriderlaw21.RegistryApart", spec := "registryApart", unfollowed := true, recurses := true, loops := true, apart := false, narrowed := true }
def RegistryApartUptoSaid : Prop := registryApartUptoRow.holds Tryz.pinned (OpenSpec.upto registryApartSpec)

/-- 'outriderlaw21.RegistryPlays', WHERE WHAT IT READS IS OF BULK AT MOST 1048576: true; the input reads as it did. -/
def registryPlaysUptoRow : OpenClaim := { program := "ytpcpijecibiibaagreat", sum := "6b5404ddef489f49d9fb08fbec4a0fda266d726d1de070191fad265bbb3fc054", func := "outrider/outriderlaw21.RegistryPlays", spec := "registryPlays", unfollowed := true, recurses := true, loops := true, apart := false, narrowed := true }
def RegistryPlaysUptoSaid : Prop := registryPlaysUptoRow.holds Tryz.pinned (OpenSpec.upto registryPlaysSpec)

/-- 'outriderlaw21.RegistryTurn', WHERE WHAT IT READS IS OF BULK AT MOST 1048576: true; the input reads as it did. -/
def registryTurnUptoRow : OpenClaim := { program := "ytpcpijecibiibaagreat", sum := "6b5404ddef489f49d9fb08fbec4a0fda266d726d1de070191fad265bbb3fc054", func := "outrider/outriderlaw21.RegistryTurn", spec := "registryTurn", unfollowed := true, recurses := true, loops := true, apart := false, narrowed := true }
def RegistryTurnUptoSaid : Prop := registryTurnUptoRow.holds Tryz.pinned (OpenSpec.upto registryTurnSpec)

/-- 'outriderlaw21.RegistryBytes', WHERE WHAT IT READS IS OF BULK AT MOST 1048576: true; the input reads as it did. -/
def registryBytesUptoRow : OpenClaim := { program := "ytpcpijecibiibaagreat", sum := "6b5404ddef489f49d9fb08fbec4a0fda266d726d1de070191fad265bbb3fc054", func := "outrider/outriderlaw21.RegistryBytes", spec := "registryBytes", unfollowed := true, recurses := true, loops := true, apart := false, narrowed := true }
def RegistryBytesUptoSaid : Prop := registryBytesUptoRow.holds Tryz.pinned (OpenSpec.upto registryBytesSpec)

/-- 'outriderlaw21.RegistryKnown', WHERE WHAT IT READS IS OF BULK AT MOST 1048576: true; the input reads as it did. -/
def registryKnownUptoRow : OpenClaim := { program := "ytpcpijecibiibaagreat", sum := "6b5404ddef489f49d9fb08fbec4a0fda266d726d1de070191fad265bbb3fc054", func := "outrider/outriderlaw21.RegistryKnown", spec := "registryKnown", unfollowed := true, recurses := true, apart := false, narrowed := true }
def RegistryKnownUptoSaid : Prop := registryKnownUptoRow.holds Tryz.pinned (OpenSpec.upto registryKnownSpec)

end Rows
end Go.Proofs.YtpcpijecibiibaaGreat
