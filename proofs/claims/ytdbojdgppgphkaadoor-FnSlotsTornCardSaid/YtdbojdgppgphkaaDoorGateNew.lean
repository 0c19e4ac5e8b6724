/- Contracts of GateNew on both sides and of the comparison of gates. Conditions: each contract's own. -/
import Derived.Test.YtdbojdgppgphkaaDoorRows
import Derived.Test.YtdbojdgppgphkaaDoorBase
namespace Go.Proofs.YtdbojdgppgphkaaDoor
set_option linter.unusedSimpArgs false
open Go.RowKit
set_option linter.unusedVariables false
/-- A new gate's cells. -/
def gateNewV (k : ByteArray) : Value := .agg #[.string k, .string ByteArray.empty, .string ByteArray.empty, .bool true, .string ByteArray.empty, .string ByteArray.empty]
theorem eqSlots_c (a b : ByteArray) (w : World) : Calls Tryd.prog 38 #[.agg #[.string a, .string b], .agg #[.string a, .string b]] w (RetB (.bool true) w) := by
  go_enter Tryd.func38, Tryd.ntmps38
  go_wp2
  go_returns
  exact ⟨rfl, by go_grown⟩
