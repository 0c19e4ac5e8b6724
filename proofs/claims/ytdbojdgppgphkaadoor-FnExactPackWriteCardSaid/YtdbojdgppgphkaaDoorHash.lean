/- Contracts of the turning of bits, both sides. Conditions: each contract's own. -/
import Derived.Test.YtdbojdgppgphkaaDoorRows
import Derived.Test.YtdbojdgppgphkaaDoorBase
import Derived.Test.YtdbojdgppgphkaaDoorDraw2
import Derived.Laws.Shifts
import Derived.Deep.RegionHeld3
import Derived.Deep.RegionLaw
import Derived.Deep.AppendLies
import Derived.Deep.LoopGhost
import Derived.Deep.QuietTactic
import Derived.BigQuiet
import Derived.Deep.DeepCutAuto
import Derived.BigRegion
namespace Go.Proofs.YtdbojdgppgphkaaDoor
set_option linter.unusedSimpArgs false
open Go.RowKit
set_option linter.unusedVariables false
set_option linter.unnecessarySimpa false
def isU32 (x : Int) : Prop := 0 ≤ x ∧ x < 4294967296
theorem or_comm_u32 (a b : Int) : bits .or .u32 a b = bits .or .u32 b a := by
  show IntKind.u32.wrap ((BitVec.ofInt 32 a ||| BitVec.ofInt 32 b).toNat : Int) = IntKind.u32.wrap ((BitVec.ofInt 32 b ||| BitVec.ofInt 32 a).toNat : Int)
  rw [BitVec.or_comm]
/-- x with its bits turned n places to the right. -/
def rr (n : Nat) (x : Int) : Int := bits .or .u32 (x * 2 ^ (32 - n) % 4294967296) (x / 2 ^ n)
theorem rot2 (x : Int) (w : World) (hx : isU32 x) : Calls Tryd.prog 171 #[.int .u32 x, .int .i64 (-2)] w (RetW (.int .u32 (rr 2 x)) w) := by
  obtain ⟨h0, h1⟩ := hx
  have hb : bits .and .u64 (IntKind.u64.wrap (-2)) 31 = 30 := by decide
  go_enter Tryd.func171, Tryd.ntmps171
  go_wp2
  go_returns
  exact ⟨retv (by simp [rr]), rfl⟩
theorem rot6 (x : Int) (w : World) (hx : isU32 x) : Calls Tryd.prog 171 #[.int .u32 x, .int .i64 (-6)] w (RetW (.int .u32 (rr 6 x)) w) := by
  obtain ⟨h0, h1⟩ := hx
  have hb : bits .and .u64 (IntKind.u64.wrap (-6)) 31 = 26 := by decide
  go_enter Tryd.func171, Tryd.ntmps171
  go_wp2
  go_returns
  exact ⟨retv (by simp [rr]), rfl⟩
theorem rot7 (x : Int) (w : World) (hx : isU32 x) : Calls Tryd.prog 171 #[.int .u32 x, .int .i64 (-7)] w (RetW (.int .u32 (rr 7 x)) w) := by
  obtain ⟨h0, h1⟩ := hx
  have hb : bits .and .u64 (IntKind.u64.wrap (-7)) 31 = 25 := by decide
  go_enter Tryd.func171, Tryd.ntmps171
  go_wp2
  go_returns
  exact ⟨retv (by simp [rr]), rfl⟩
theorem rot11 (x : Int) (w : World) (hx : isU32 x) : Calls Tryd.prog 171 #[.int .u32 x, .int .i64 (-11)] w (RetW (.int .u32 (rr 11 x)) w) := by
  obtain ⟨h0, h1⟩ := hx
  have hb : bits .and .u64 (IntKind.u64.wrap (-11)) 31 = 21 := by decide
  go_enter Tryd.func171, Tryd.ntmps171
  go_wp2
  go_returns
  exact ⟨retv (by simp [rr]), rfl⟩
theorem rot13 (x : Int) (w : World) (hx : isU32 x) : Calls Tryd.prog 171 #[.int .u32 x, .int .i64 (-13)] w (RetW (.int .u32 (rr 13 x)) w) := by
  obtain ⟨h0, h1⟩ := hx
  have hb : bits .and .u64 (IntKind.u64.wrap (-13)) 31 = 19 := by decide
  go_enter Tryd.func171, Tryd.ntmps171
  go_wp2
  go_returns
  exact ⟨retv (by simp [rr]), rfl⟩
theorem rot17 (x : Int) (w : World) (hx : isU32 x) : Calls Tryd.prog 171 #[.int .u32 x, .int .i64 (-17)] w (RetW (.int .u32 (rr 17 x)) w) := by
  obtain ⟨h0, h1⟩ := hx
  have hb : bits .and .u64 (IntKind.u64.wrap (-17)) 31 = 15 := by decide
  go_enter Tryd.func171, Tryd.ntmps171
  go_wp2
  go_returns
  exact ⟨retv (by simp [rr]), rfl⟩
theorem rot18 (x : Int) (w : World) (hx : isU32 x) : Calls Tryd.prog 171 #[.int .u32 x, .int .i64 (-18)] w (RetW (.int .u32 (rr 18 x)) w) := by
  obtain ⟨h0, h1⟩ := hx
  have hb : bits .and .u64 (IntKind.u64.wrap (-18)) 31 = 14 := by decide
  go_enter Tryd.func171, Tryd.ntmps171
  go_wp2
  go_returns
  exact ⟨retv (by simp [rr]), rfl⟩
theorem rot19 (x : Int) (w : World) (hx : isU32 x) : Calls Tryd.prog 171 #[.int .u32 x, .int .i64 (-19)] w (RetW (.int .u32 (rr 19 x)) w) := by
  obtain ⟨h0, h1⟩ := hx
  have hb : bits .and .u64 (IntKind.u64.wrap (-19)) 31 = 13 := by decide
  go_enter Tryd.func171, Tryd.ntmps171
  go_wp2
  go_returns
  exact ⟨retv (by simp [rr]), rfl⟩
theorem rot22 (x : Int) (w : World) (hx : isU32 x) : Calls Tryd.prog 171 #[.int .u32 x, .int .i64 (-22)] w (RetW (.int .u32 (rr 22 x)) w) := by
  obtain ⟨h0, h1⟩ := hx
  have hb : bits .and .u64 (IntKind.u64.wrap (-22)) 31 = 10 := by decide
  go_enter Tryd.func171, Tryd.ntmps171
  go_wp2
  go_returns
  exact ⟨retv (by simp [rr]), rfl⟩
theorem rot25 (x : Int) (w : World) (hx : isU32 x) : Calls Tryd.prog 171 #[.int .u32 x, .int .i64 (-25)] w (RetW (.int .u32 (rr 25 x)) w) := by
  obtain ⟨h0, h1⟩ := hx
  have hb : bits .and .u64 (IntKind.u64.wrap (-25)) 31 = 7 := by decide
  go_enter Tryd.func171, Tryd.ntmps171
  go_wp2
  go_returns
  exact ⟨retv (by simp [rr]), rfl⟩
theorem turn_c (n : Nat) (x : Int) (w : World) (hx : isU32 x) (hn : 1 ≤ n ∧ n ≤ 31) : Calls Tryd.prog 129 #[.int .u32 x, .int .i64 n] w (RetB (.int .u32 (rr n x)) w) := by
  obtain ⟨h0, h1⟩ := hx
  obtain ⟨h2, h3⟩ := hn
  go_enter Tryd.func129, Tryd.ntmps129
  go_wp2
  go_region
  go_wp2
  go_returns
  refine ⟨retv ?_, by go_grown⟩
  go_light
  show Value.int .u32 _ = Value.int .u32 _
  rw [or_comm_u32]
  rfl
end Go.Proofs.YtdbojdgppgphkaaDoor
