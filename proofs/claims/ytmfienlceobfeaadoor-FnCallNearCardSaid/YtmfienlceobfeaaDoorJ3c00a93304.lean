/- Policies: toPolicy, szPolicy, eqPolicy. Conditions: each contract's own. -/
import Derived.Test.YtmfienlceobfeaaDoorJec36921183
namespace Go.Proofs.YtmfienlceobfeaaDoor
set_option linter.unusedSimpArgs false
open Go.RowKit
set_option linter.unusedVariables false
set_option linter.unnecessarySimpa false
end Go.Proofs.YtmfienlceobfeaaDoor
