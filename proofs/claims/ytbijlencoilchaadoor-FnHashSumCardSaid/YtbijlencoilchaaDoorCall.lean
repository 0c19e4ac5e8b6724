/- Contracts of the functions on calls: sizes, copies, comparison, CallOk on both sides. Conditions: each contract's own. -/
import Derived.Test.YtbijlencoilchaaDoorRows
import Derived.Test.YtbijlencoilchaaDoorBase
namespace Go.Proofs.YtbijlencoilchaaDoor
open Go.RowKit
set_option linter.unusedVariables false
theorem info_int : (Tryd.prog.info? 3).map (fun i => (i.zero, i.size, i.bytes)) = some (some (.int .i64 0), 1, 8) := by kernel_rfl
