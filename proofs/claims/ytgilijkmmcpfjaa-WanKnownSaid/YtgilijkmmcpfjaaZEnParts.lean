/-
  Package entry: the parts of entries: what puts them, what reads them, what allows them.
-/
import Derived.Test.YtgilijkmmcpfjaaZEnGetOp
import Derived.Test.YtgilijkmmcpfjaaZI
set_option linter.unusedVariables false
set_option maxRecDepth 100000
namespace Go.Proofs.Ytgilijkmmcpfjaa
open Go.RowKit
/-- How much there may be of an entry. -/
structure EntBig (x : EntD) : Prop where
  op : (opB x.op).length ≤ 100000000
  item : ItemFit x.item
  frontier : x.frontier.length ≤ 10000000
theorem EntBig.fit {x : EntD} (h : EntBig x) : EntFit x 100000000 := ⟨h.op, h.item.1, by have := h.frontier; omega⟩
theorem EntBig.parts {x : EntD} (h : EntBig x) : x.op.parts.length ≤ maxLen := by
  have h1 := opsB_ge x.op.parts
  have h2 : (opsB x.op.parts).length ≤ (opB x.op).length := by
    obtain ⟨a, ps⟩ := x.op
    rw [opB_mk]; simp only [OpD.parts, List.length_append]; omega
  have := h.op
  unfold maxLen; omega
theorem EntBig.effs {x : EntD} (h : EntBig x) : x.item.effs.length ≤ maxLen := by
  have h1 := (itemB_stamp x.item).2
  have := h.item.1
  unfold maxLen; omega
theorem partB_le {x : EntD} (h : EntBig x) (p : PartK) : (partB x p).length ≤ 100000000 := by
  cases p with
  | client => show (be 8 x.client ++ be 8 x.req).length ≤ _; simp [be_length]
  | owner => show (sessB x.osite x.on).length ≤ _; rw [sessB_length]; omega
  | op => exact h.op
  | item => exact h.item.1
  | site => show (be 1 _).length ≤ _; rw [be_length]; omega
  | wher => show (be 8 _).length ≤ _; rw [be_length]; omega
  | epoch => show (be 8 _).length ≤ _; rw [be_length]; omega
  | stamp => show (stampB x.frontier).length ≤ _; rw [stampB_length]; have := h.frontier; omega
/-! ### What puts them -/
end Go.Proofs.Ytgilijkmmcpfjaa
