/-
  Of the document: what puts operations, items behind bytes.
-/
import Derived.Test.YtgilijkmmcpfjaaZRApp2
import Derived.Test.YtgilijkmmcpfjaaZEnPutI
set_option linter.unusedVariables false
set_option linter.unusedSimpArgs false
set_option maxRecDepth 100000
namespace Go.Proofs.Ytgilijkmmcpfjaa
open Go.RowKit
theorem opB_flat (h : OpH) : opB (.mk h []) = headB h ++ be 8 0 := by rw [opB_mk, opsB_nil, List.append_nil]; rfl
theorem flat_one {o : OpD} (h : o.parts = []) : opB o = headB o.h ++ be 8 0 := by
  obtain ⟨h0, ps⟩ := o
  replace h : ps = [] := h
  subst h
  exact opB_flat h0
theorem headB_ge (h : OpH) : h.path.length + h.data.length ≤ (headB h).length := by rw [headB_length]; omega
theorem opsB_mem {ps : List OpD} (k : Nat) (hk : k < ps.length) : (opsB (ps.take k)).length + (opB ps[k]).length ≤ (opsB ps).length := by
  have h1 := congrArg List.length (opsB_append (ps.take k) (ps.drop k))
  rw [List.take_append_drop, List.drop_eq_getElem_cons hk, opsB_cons, List.length_append, List.length_append] at h1
  omega
theorem opsB_next (ps : List OpD) (k : Nat) (hk : k < ps.length) : opsB (ps.take (k + 1)) = opsB (ps.take k) ++ opB ps[k] := by
  rw [List.take_add_one, List.getElem?_eq_getElem hk, opsB_append]; simp [opsB_cons, opsB_nil]
end Go.Proofs.Ytgilijkmmcpfjaa
