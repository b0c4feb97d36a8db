/-
  Package entry: what the parts' closures read.
-/
import Derived.Test.YtgilijkmmcpfjaaZEnParts
set_option linter.unusedVariables false
set_option maxRecDepth 100000
namespace Go.Proofs.Ytgilijkmmcpfjaa
open Go.RowKit
end Go.Proofs.Ytgilijkmmcpfjaa
