/- Contracts of GateNew on both sides and of the comparison of gates. Conditions: each contract's own. -/
import Derived.Test.YtbijlencoilchaaRows
import Derived.Test.YtbijlencoilchaaBase
namespace Go.Proofs.Ytbijlencoilchaa
open Go.RowKit
set_option linter.unusedVariables false
/-- A new gate's cells. -/
def gateNewV (k : ByteArray) : Value := .agg #[.string k, .string ByteArray.empty, .string ByteArray.empty, .bool true, .string ByteArray.empty, .string ByteArray.empty]
theorem gateNew_c (k : ByteArray) (w : World) : Calls Try.prog 13 #[.string k] w (RetB (gateNewV k) w) := by
  go_enter Try.func13, Try.ntmps13
  go_wp2
  go_returns
  exact ⟨rfl, by go_grown⟩
theorem specGateNew_c (k : ByteArray) (w : World) : Calls Try.prog 12 #[.string k] w (RetB (gateNewV k) w) := by
  go_enter Try.func12, Try.ntmps12
  go_wp2
  go_returns
  exact ⟨rfl, by go_grown⟩
theorem eqSlots_c (a b : ByteArray) (w : World) : Calls Try.prog 41 #[.agg #[.string a, .string b], .agg #[.string a, .string b]] w (RetB (.bool true) w) := by
  go_enter Try.func41, Try.ntmps41
  go_wp2
  go_returns
  exact ⟨rfl, by go_grown⟩
theorem eqGate_c (a b c d e : ByteArray) (u : Bool) (w : World) : Calls Try.prog 14 #[.agg #[.string a, .string b, .string c, .bool u, .string d, .string e], .agg #[.string a, .string b, .string c, .bool u, .string d, .string e]] w (RetB (.bool true) w) := by
  go_enter Try.func14, Try.ntmps14
  go_wp2_with (go_at_call 41; refine (eqSlots_c _ _ _).mono ?_; rintro e w1 ⟨rfl, b1⟩; obtain ⟨gc1, gf1⟩ := below_get b1; (try simp only [heap_drew, World.size_alloc, World.size_setCell] at gc1 gf1); have s1 := below_via (w := w) (by go_grown) b1; have H1 := s1; have hs1 := b1.size; (try simp at hs1); have z1_0 : w.heap.size < w1.heap.size := (by omega); have z1_1 : w.heap.size + 1 < w1.heap.size := (by omega); clear b1)
  go_returns
  exact ⟨rfl, by go_grown⟩
end Go.Proofs.Ytbijlencoilchaa
