/- GraphOk of the reference. Conditions: its own. -/
import Derived.Test.YtljgaepgblakhaaDoorGraph
namespace Go.Proofs.YtljgaepgblakhaaDoor
set_option linter.unusedSimpArgs false
open Go.RowKit
set_option linter.unusedVariables false
