/- The program's PolicyWrite and PolicyOk. Conditions: each contract's own. -/
import Derived.Test.YtljgaepgblakhaaJ85ff15b27d
import Derived.Test.YtljgaepgblakhaaText3
import Derived.Test.YtljgaepgblakhaaGraph
namespace Go.Proofs.Ytljgaepgblakhaa
set_option linter.unusedSimpArgs false
open Go.RowKit
set_option linter.unusedVariables false
set_option linter.unnecessarySimpa false
set_option maxRecDepth 20000
end Go.Proofs.Ytljgaepgblakhaa
