/- Contracts of the functions on calls: sizes, copies, comparison, CallOk on both sides. Conditions: each contract's own. -/
import Derived.Test.YtflhniobbdanjaaDoorRows
import Derived.Test.YtflhniobbdanjaaDoorBase
namespace Go.Proofs.YtflhniobbdanjaaDoor
set_option linter.unusedSimpArgs false
open Go.RowKit
set_option linter.unusedVariables false
theorem info_int : (Tryd.prog.info? 3).map (fun i => (i.zero, i.size, i.bytes)) = some (some (.int .i64 0), 1, 8) := by kernel_rfl
theorem wordOk_c (n : Int) (w : World) : Calls Tryd.prog 71 #[.int .i64 n] w (RetW (.bool (wordB n)) w) := by
  go_enter Tryd.func71, Tryd.ntmps71
  go_wp2
  all_goals go_returns
  all_goals (refine ⟨?_, rfl⟩)
  all_goals go_light
  all_goals simp [wordB]; omega
theorem l1In_word (n : Int) (w : World) : Calls Tryd.prog 38 #[.int .i64 n, .int .i64 0, .int .i64 4294967295] w (RetW (.bool (wordB n)) w) := by
  go_enter Tryd.func38, Tryd.ntmps38
  go_wp2
  all_goals go_returns
  all_goals (refine ⟨?_, rfl⟩)
  all_goals go_light
  all_goals simp [wordB]; omega
theorem l1In_c (n a b : Int) (w : World) : Calls Tryd.prog 38 #[.int .i64 n, .int .i64 a, .int .i64 b] w (RetW (.bool (decide (a ≤ n ∧ n ≤ b))) w) := by
  go_enter Tryd.func38, Tryd.ntmps38
  go_wp2
  all_goals go_returns
  all_goals (refine ⟨?_, rfl⟩)
  all_goals go_light
  all_goals simp; omega
