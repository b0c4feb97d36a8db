/-
  Of the document: Get answers as the program's.
-/
import Derived.Test.YtiemgmbjhllmbaaGreatYDGetA
import Derived.Test.YtiemgmbjhllmbaaGreatYDGetB
import Derived.Test.YtiemgmbjhllmbaaGreatYDGetC
import Derived.Test.YtiemgmbjhllmbaaGreatYDGetD
import Derived.Test.YtiemgmbjhllmbaaGreatYDGetE
set_option linter.unusedVariables false
namespace Go.Proofs.YtiemgmbjhllmbaaGreat
open Go.RowKit
theorem dget_any (w : World) (v : Value) (l : List UInt8) (hs : Sl w v (bytes l)) (hl : l.length ≤ 10000) :
    Calls Tryz.prog 13 #[v] w (RetGet w l) := by
  have h : Calls Tryz.prog 13 #[v] w (RetD w l) := by
    have hk : ∃ n, (rByte (l, false)).1 = n := ⟨_, rfl⟩
    obtain ⟨n, hn⟩ := hk
    match n, hn with
    | 0, hn => exact dget_0 w v l hs hl hn
    | 1, hn => exact dget_1 w v l hs hl hn
    | 2, hn => exact dget_2 w v l hs hl hn
    | 3, hn => exact dget_3 w v l hs hl hn
    | 4, hn => exact dget_4 w v l hs hl hn
    | 5, hn => exact dget_5 w v l hs hl hn
    | 6, hn => exact dget_6 w v l hs hl hn
    | 7, hn => exact dget_7 w v l hs hl hn
    | 8, hn => exact dget_8 w v l hs hl hn
    | 9, hn => exact dget_9 w v l hs hl hn
    | n + 10, hn => exact dget_10 (n + 10) (by omega) w v l hs hl hn
  refine h.mono ?_
  rintro e w' ⟨q, rfl, h1, h2⟩
  rw [dGetV_get l hl] at h1 ⊢
  exact ⟨q, rfl, h1, h2⟩
end Go.Proofs.YtiemgmbjhllmbaaGreat
