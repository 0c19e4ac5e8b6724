/- Policies: toPolicy, szPolicy, eqPolicy. Conditions: each contract's own. -/
import Derived.Test.YtflhniobbdanjaaDoorJac34b14be2
namespace Go.Proofs.YtflhniobbdanjaaDoor
set_option linter.unusedSimpArgs false
open Go.RowKit
set_option linter.unusedVariables false
set_option linter.unnecessarySimpa false
theorem eqPolicy_c (A B : Option Addr) (n c m d : Nat) (rs rs' : List Rl) (e e' : Int) (w : World) (hx : RdR w w.heap.size A n rs) (hy : RdR w w.heap.size B m rs') (hn : n ≤ 9223372036854775807) (hm : m ≤ 9223372036854775807) :
    Calls Tryd.prog 7 #[.agg #[.slice A n c, .int .i64 e], .agg #[.slice B m d, .int .i64 e']] w (RetB (.bool (decide (rs = rs') && e == e')) w) := by
  have HR := Lib.hid hx
  have HQ := Lib.hid hy
  clear hx hy
  go_enter Tryd.func7, Tryd.ntmps7
  go_wp2_with (go_at_call 27; refine (eqRuleS_c A B n c m d rs rs' _ (HR.out.upB (by go_grown) (by go_size)) (HQ.out.upB (by go_grown) (by go_size)) hn hm).mono ?_; rintro e w1 ⟨rfl, b1⟩; obtain ⟨gc1, gf1⟩ := below_get b1; (try simp only [heap_drew, World.size_alloc, World.size_setCell] at gc1 gf1); have s1 := below_via (w := w) (by go_grown) b1; have H1 := s1; have hs1 := b1.size; (try simp at hs1); have z1_0 : w.heap.size < w1.heap.size := (by omega); clear b1)
  all_goals go_returns
  all_goals (refine ⟨retv ?_, by go_grown⟩)
  all_goals go_light
  all_goals simp_all
end Go.Proofs.YtflhniobbdanjaaDoor
