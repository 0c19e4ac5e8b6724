/- More arguments of laws: tests, points, slots. No condition. -/
import Derived.Test.YtbijlencoilchaaOpen
namespace Go.Proofs.Ytbijlencoilchaa
open Go.ChangeShapes Go.WideShapes Go.ChangeAt Go.RowKit Go.Joins Go.Deep
open Go.ChangeMaps (open_string shut_string)
set_option linter.unusedVariables false
set_option maxRecDepth 100000
/-- A law's argument: a test. -/
def IsTest (_ : World) (v : Value) : Prop := ∃ f m op x, v = .agg #[.int .i64 f, .int .i64 m, .int .i64 op, .int .i64 x]
/-- A law's argument: slots. -/
def IsSlots (_ : World) (v : Value) : Prop := ∃ a b, v = .agg #[.string a, .string b] ∧ a.size ≤ maxLen ∧ b.size ≤ maxLen
section
variable {H : Type} {enc : TypeId × Value → H} {W : World} {base : Nat} {v : Value} {d : DataW H} {p : List MemPlace}
theorem cells_lawTest : Try.prog.cellsOf 47 = 4 := by kernel_rfl
theorem open_Test (ho : Value.okWide Try.prog W .any base 47 v) (h : DataW.Trod enc Try.prog W 0 (fun _ => true) true 47 v d p) : IsTest W v := by
  obtain ⟨c0, c1, c2, c3, y0, y1, y2, y3, m, rfl, rfl, rfl, hy0, hy1, hy2, hy3⟩ := open_agg4 Try.underlying47 (by kernel_rfl) cells_lawTest ho h
  obtain ⟨n0, e0, _, _⟩ := DataW.trod_int Try.underlying3 hy0
  obtain ⟨n1, e1, _, _⟩ := DataW.trod_int Try.underlying3 hy1
  obtain ⟨n2, e2, _, _⟩ := DataW.trod_int Try.underlying3 hy2
  obtain ⟨n3, e3, _, _⟩ := DataW.trod_int Try.underlying3 hy3
  injection e0 with e0; injection e1 with e1; injection e2 with e2; injection e3 with e3
  subst e0 e1 e2 e3
  exact ⟨n0, n1, n2, n3, rfl⟩
end
end Go.Proofs.Ytbijlencoilchaa
