/- TestHolds on both sides, and the functions of its law. Conditions: each contract's own. -/
import Derived.Test.YtljgaepgblakhaaTest
namespace Go.Proofs.Ytljgaepgblakhaa
set_option linter.unusedSimpArgs false
open Go.RowKit
set_option linter.unusedVariables false
