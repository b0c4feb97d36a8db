/-
  NARROWER THAN 'FOR EVERY INPUT', by the rows' own cells (each row's printed sentence says how): EntryPuts: loops · EntryBack: loops · EntryApart: loops.
  DERIVED. THE GIVEN ROWS OF THIS SEAT. 5 by the template 'for every input the law returns true; each argument reads behind the call as it read before'; 0 by the template 'total and deterministic' (their statements: YtiemgmbjhllmbaaGreatTotals.lean).
  GIVEN WITH THE SEED: the statements are not yours to turn. If you find one false, say at which input.
  Laid BY PROGRAM, IN A SANDBOX (cutbox-rows.mjs): the forced cells as the released guide's own fill.sh prints them over the translation f710ca02aff62d81… (all of the seat's roots in one cut). By AI agents, Wed Nov 11 2026. No macro, syntax, notation, axiom, sorry.
-/
import Derived.Test.YtiemgmbjhllmbaaGreatChecked
import GoSem.Claim
import GoSem.ClaimJoined
import GoSem.ClaimMapViews
import Derived.JoinedTies
import Derived.KernelRfl
namespace Go.Proofs.YtiemgmbjhllmbaaGreat
/- THE CELL 'sum', in the pinned program and in every row, IS THE sha256 OF THE DUMP (.gsa) THAT YtiemgmbjhllmbaaGreatProg.lean LOADS. Nothing in Lean hashes anything: it is a label: what it is worth is what the hold of that sum in a sandbox is worth. -/
noncomputable def Tryz.pinned : Pinned := { name := "ytiemgmbjhllmbaagreat", sum := "f710ca02aff62d81a17b3f53f99aea5093621e42307d89d032e9e96d56a2c2b4", checked := Tryz.checked }
namespace Rows
def none {H : Type} : Left H := { results := [], args := [] }

/-- 'outriderlaw19.EntryPuts': WHATEVER THE INPUT: true; the input reads as it did. -/
def entryPutsSpec : ChangeSpec := { name := "entryPuts", fn := fun _ => fun
  | [d] => { results := [.lit (.bool true)], args := [d] }
  | _ => none }
def entryPutsRow : OpenClaim := { program := "ytiemgmbjhllmbaagreat", sum := "f710ca02aff62d81a17b3f53f99aea5093621e42307d89d032e9e96d56a2c2b4", func := "outrider/outriderlaw19.EntryPuts", spec := "entryPuts", unfollowed := true, recurses := true, loops := true, apart := false }
def EntryPutsSaid : Prop := entryPutsRow.holds Tryz.pinned (OpenSpec.ofChange entryPutsSpec)

/-- ITS FALSE NEIGHBOUR: 'it returns false'. Refute it at one input. -/
def entryPutsWrong : ChangeSpec := { name := "entryPuts", fn := fun _ => fun
  | [d] => { results := [.lit (.bool false)], args := [d] }
  | _ => none }
def EntryPutsWrongFalsely : Prop := entryPutsRow.holds Tryz.pinned (OpenSpec.ofChange entryPutsWrong)

/-- 'outriderlaw19.EntryGets': WHATEVER THE INPUT: true; the input reads as it did. -/
def entryGetsSpec : ChangeSpec := { name := "entryGets", fn := fun _ => fun
  | [d] => { results := [.lit (.bool true)], args := [d] }
  | _ => none }
def entryGetsRow : OpenClaim := { program := "ytiemgmbjhllmbaagreat", sum := "f710ca02aff62d81a17b3f53f99aea5093621e42307d89d032e9e96d56a2c2b4", func := "outrider/outriderlaw19.EntryGets", spec := "entryGets", unfollowed := true, recurses := true, apart := false }
def EntryGetsSaid : Prop := entryGetsRow.holds Tryz.pinned (OpenSpec.ofChange entryGetsSpec)

/-- ITS FALSE NEIGHBOUR: 'it returns false'. Refute it at one input. -/
def entryGetsWrong : ChangeSpec := { name := "entryGets", fn := fun _ => fun
  | [d] => { results := [.lit (.bool false)], args := [d] }
  | _ => none }
def EntryGetsWrongFalsely : Prop := entryGetsRow.holds Tryz.pinned (OpenSpec.ofChange entryGetsWrong)

/-- 'outriderlaw19.EntryBack': WHATEVER THE INPUT: true; the input reads as it did. -/
def entryBackSpec : ChangeSpec := { name := "entryBack", fn := fun _ => fun
  | [d] => { results := [.lit (.bool true)], args := [d] }
  | _ => none }
def entryBackRow : OpenClaim := { program := "ytiemgmbjhllmbaagreat", sum := "f710ca02aff62d81a17b3f53f99aea5093621e42307d89d032e9e96d56a2c2b4", func := "outrider/outriderlaw19.EntryBack", spec := "entryBack", unfollowed := true, recurses := true, loops := true, apart := false }
def EntryBackSaid : Prop := entryBackRow.holds Tryz.pinned (OpenSpec.ofChange entryBackSpec)

/-- ITS FALSE NEIGHBOUR: 'it returns false'. Refute it at one input. -/
def entryBackWrong : ChangeSpec := { name := "entryBack", fn := fun _ => fun
  | [d] => { results := [.lit (.bool false)], args := [d] }
  | _ => none }
def EntryBackWrongFalsely : Prop := entryBackRow.holds Tryz.pinned (OpenSpec.ofChange entryBackWrong)

/-- 'outriderlaw19.EntrySame': WHATEVER THE INPUT: true; the input reads as it did. -/
def entrySameSpec : ChangeSpec := { name := "entrySame", fn := fun _ => fun
  | [d] => { results := [.lit (.bool true)], args := [d] }
  | _ => none }
def entrySameRow : OpenClaim := { program := "ytiemgmbjhllmbaagreat", sum := "f710ca02aff62d81a17b3f53f99aea5093621e42307d89d032e9e96d56a2c2b4", func := "outrider/outriderlaw19.EntrySame", spec := "entrySame", unfollowed := true, recurses := true, apart := false }
def EntrySameSaid : Prop := entrySameRow.holds Tryz.pinned (OpenSpec.ofChange entrySameSpec)

/-- ITS FALSE NEIGHBOUR: 'it returns false'. Refute it at one input. -/
def entrySameWrong : ChangeSpec := { name := "entrySame", fn := fun _ => fun
  | [d] => { results := [.lit (.bool false)], args := [d] }
  | _ => none }
def EntrySameWrongFalsely : Prop := entrySameRow.holds Tryz.pinned (OpenSpec.ofChange entrySameWrong)

/-- 'outriderlaw19.EntryApart': WHATEVER THE INPUT: true; the input reads as it did. -/
def entryApartSpec : ChangeSpec := { name := "entryApart", fn := fun _ => fun
  | [d1, d2] => { results := [.lit (.bool true)], args := [d1, d2] }
  | _ => none }
def entryApartRow : OpenClaim := { program := "ytiemgmbjhllmbaagreat", sum := "f710ca02aff62d81a17b3f53f99aea5093621e42307d89d032e9e96d56a2c2b4", func := "outrider/outriderlaw19.EntryApart", spec := "entryApart", unfollowed := true, recurses := true, loops := true, apart := false }
def EntryApartSaid : Prop := entryApartRow.holds Tryz.pinned (OpenSpec.ofChange entryApartSpec)

/-- ITS FALSE NEIGHBOUR: 'it returns false'. Refute it at one input. -/
def entryApartWrong : ChangeSpec := { name := "entryApart", fn := fun _ => fun
  | [d1, d2] => { results := [.lit (.bool false)], args := [d1, d2] }
  | _ => none }
def EntryApartWrongFalsely : Prop := entryApartRow.holds Tryz.pinned (OpenSpec.ofChange entryApartWrong)

/- THE SECOND FORM. 'bulk': how many values and letters a reading holds, each counted each time it is reached (what is shared counts as often as it is met; a slice's spare places count too). A statement '..UptoSaid' is the law's where the arguments, and the package variables that the reading takes, are together of bulk at most 1048576: NARROWER than '..Said'. Prove '..Said' where nothing that the law and all that it calls make is longer than what came in: it says more and counts as full. Else prove '..UptoSaid'. A law counts once. -/
mutual
def uptoBulk {H : Type} : DataW H → Nat
  | .lit (.string bytes) => bytes.length + 1
  | .lit _ => 1
  | .nil => 1
  | .ptr d => uptoBulk d + 1
  | .slice elems spare => uptoBulkAll elems + uptoBulkAll spare + 1
  | .agg parts => uptoBulkAll parts + 1
  | .iface _ d => uptoBulk d + 1
  | .map entries => uptoBulkEntries entries + 1
  | .held _ => 1
def uptoBulkAll {H : Type} : List (DataW H) → Nat
  | [] => 0
  | d :: r => uptoBulk d + uptoBulkAll r
def uptoBulkEntries {H : Type} : List (Lit × DataW H) → Nat
  | [] => 0
  | x :: r => uptoBulkEntry x + uptoBulkEntries r
def uptoBulkEntry {H : Type} : Lit × DataW H → Nat
  | (.string bytes, d) => bytes.length + uptoBulk d + 1
  | (_, d) => uptoBulk d + 1
 end
def uptoSmall : (H : Type) → List (DataW H) → Bool := fun _ ds => decide (uptoBulkAll ds ≤ 1048576)
def OpenSpec.upto (s : _root_.Go.ChangeSpec) : _root_.Go.OpenSpec := { _root_.Go.OpenSpec.ofChange s with cond := some uptoSmall }

/-- 'outriderlaw19.EntryPuts', WHERE WHAT IT READS IS OF BULK AT MOST 1048576: true; the input reads as it did. -/
def entryPutsUptoRow : OpenClaim := { program := "ytiemgmbjhllmbaagreat", sum := "f710ca02aff62d81a17b3f53f99aea5093621e42307d89d032e9e96d56a2c2b4", func := "outrider/outriderlaw19.EntryPuts", spec := "entryPuts", unfollowed := true, recurses := true, loops := true, apart := false, narrowed := true }
def EntryPutsUptoSaid : Prop := entryPutsUptoRow.holds Tryz.pinned (OpenSpec.upto entryPutsSpec)

/-- 'outriderlaw19.EntryGets', WHERE WHAT IT READS IS OF BULK AT MOST 1048576: true; the input reads as it did. -/
def entryGetsUptoRow : OpenClaim := { program := "ytiemgmbjhllmbaagreat", sum := "f710ca02aff62d81a17b3f53f99aea5093621e42307d89d032e9e96d56a2c2b4", func := "outrider/outriderlaw19.EntryGets", spec := "entryGets", unfollowed := true, recurses := true, apart := false, narrowed := true }
def EntryGetsUptoSaid : Prop := entryGetsUptoRow.holds Tryz.pinned (OpenSpec.upto entryGetsSpec)

/-- 'outriderlaw19.EntryBack', WHERE WHAT IT READS IS OF BULK AT MOST 1048576: true; the input reads as it did. -/
def entryBackUptoRow : OpenClaim := { program := "ytiemgmbjhllmbaagreat", sum := "f710ca02aff62d81a17b3f53f99aea5093621e42307d89d032e9e96d56a2c2b4", func := "outrider/outriderlaw19.EntryBack", spec := "entryBack", unfollowed := true, recurses := true, loops := true, apart := false, narrowed := true }
def EntryBackUptoSaid : Prop := entryBackUptoRow.holds Tryz.pinned (OpenSpec.upto entryBackSpec)

/-- 'outriderlaw19.EntrySame', WHERE WHAT IT READS IS OF BULK AT MOST 1048576: true; the input reads as it did. -/
def entrySameUptoRow : OpenClaim := { program := "ytiemgmbjhllmbaagreat", sum := "f710ca02aff62d81a17b3f53f99aea5093621e42307d89d032e9e96d56a2c2b4", func := "outrider/outriderlaw19.EntrySame", spec := "entrySame", unfollowed := true, recurses := true, apart := false, narrowed := true }
def EntrySameUptoSaid : Prop := entrySameUptoRow.holds Tryz.pinned (OpenSpec.upto entrySameSpec)

/-- 'outriderlaw19.EntryApart', WHERE WHAT IT READS IS OF BULK AT MOST 1048576: true; the input reads as it did. -/
def entryApartUptoRow : OpenClaim := { program := "ytiemgmbjhllmbaagreat", sum := "f710ca02aff62d81a17b3f53f99aea5093621e42307d89d032e9e96d56a2c2b4", func := "outrider/outriderlaw19.EntryApart", spec := "entryApart", unfollowed := true, recurses := true, loops := true, apart := false, narrowed := true }
def EntryApartUptoSaid : Prop := entryApartUptoRow.holds Tryz.pinned (OpenSpec.upto entryApartSpec)

end Rows
end Go.Proofs.YtiemgmbjhllmbaaGreat
