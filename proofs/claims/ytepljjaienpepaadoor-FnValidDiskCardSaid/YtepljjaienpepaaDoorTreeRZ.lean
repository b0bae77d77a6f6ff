/-
  Walks: trees copied, each with a body of its own. Printed by treeo.py.
-/
import Derived.Test.YtepljjaienpepaaDoorTreeQZ
namespace Go.Proofs.YtepljjaienpepaaDoor
open Go Go.RowKit Imp
set_option linter.unusedVariables false
set_option linter.unusedSimpArgs false
end Go.Proofs.YtepljjaienpepaaDoor
