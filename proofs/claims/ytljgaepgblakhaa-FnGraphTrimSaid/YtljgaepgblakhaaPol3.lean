/- Policies: toPolicy, szPolicy, eqPolicy. Conditions: each contract's own. -/
import Derived.Test.YtljgaepgblakhaaPol2
namespace Go.Proofs.Ytljgaepgblakhaa
set_option linter.unusedSimpArgs false
open Go.RowKit
set_option linter.unusedVariables false
set_option linter.unnecessarySimpa false
