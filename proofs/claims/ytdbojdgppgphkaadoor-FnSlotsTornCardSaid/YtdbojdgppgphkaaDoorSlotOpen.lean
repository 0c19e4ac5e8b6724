/- Slots as a law's argument: counted and copied. Conditions: each contract's own. -/
import Derived.Test.YtdbojdgppgphkaaDoorSlot3
import Derived.Test.YtdbojdgppgphkaaDoorOpen2
namespace Go.Proofs.YtdbojdgppgphkaaDoor
set_option linter.unusedSimpArgs false
open Go.RowKit
set_option linter.unusedVariables false
set_option linter.unnecessarySimpa false
theorem szSlots_c (A B : ByteArray) (hA : A.size ≤ 9223372036854775807) (hB : B.size ≤ 9223372036854775807) (w : World) : Calls Tryd.prog 34 #[.agg #[.string A, .string B], .int .i64 1048576] w (RetB (.int .i64 (if A.size + B.size ≤ 1048576 then 1048576 - (A.size : Int) - (B.size : Int) else -1)) w) := by
  by_cases h1 : A.size ≤ 1048576
  · by_cases h2 : A.size + B.size ≤ 1048576
    · rw [if_pos h2]
      go_enter Tryd.func34, Tryd.ntmps34
      go_wp2
      go_returns
      exact ⟨by go_num, by go_grown⟩
    · rw [if_neg h2]
      have h3 : ¬ (A.size : Int) + (B.size : Int) ≤ 1048576 := by omega
      go_enter Tryd.func34, Tryd.ntmps34
      go_wp2
      go_returns
      exact ⟨rfl, by go_grown⟩
  · have h2 : ¬ A.size + B.size ≤ 1048576 := by omega
    rw [if_neg h2]
    go_enter Tryd.func34, Tryd.ntmps34
    go_wp2
    go_returns
    exact ⟨rfl, by go_grown⟩
theorem toSlots_c (A B : ByteArray) (w : World) : Calls Tryd.prog 36 #[.agg #[.string A, .string B]] w (RetB (.agg #[.string A, .string B]) w) := by
  go_enter Tryd.func36, Tryd.ntmps36
  go_wp2
  refine bodyPost_ret (v := .agg #[.string A, .string B]) (by simp [results, Tryd.results36, go_sem]) rfl ?_
  go_light
  exact ⟨rfl, by go_grown⟩
end Go.Proofs.YtdbojdgppgphkaaDoor
