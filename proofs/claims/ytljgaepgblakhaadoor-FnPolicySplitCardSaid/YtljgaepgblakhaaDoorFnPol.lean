/- For the laws on drawn policies. Conditions: each lemma's own. -/
import Derived.Test.YtljgaepgblakhaaDoorDrawPO
import Derived.Test.YtljgaepgblakhaaDoorPolPlain
import Derived.Test.YtljgaepgblakhaaDoorPolFit
import Derived.Test.YtljgaepgblakhaaDoorPolTied
namespace Go.Proofs.YtljgaepgblakhaaDoor
set_option linter.unusedSimpArgs false
open Go.RowKit
set_option linter.unusedVariables false
set_option linter.unnecessarySimpa false
set_option maxRecDepth 20000
theorem wgIn_c (n a b : Int) (w : World) : Calls Tryd.prog 24 #[.int .i64 n, .int .i64 a, .int .i64 b] w (RetW (.bool (decide (a ≤ n ∧ n ≤ b))) w) := by
  go_enter Tryd.func24, Tryd.ntmps24
  go_wp2
  all_goals go_returns
  all_goals (refine ⟨?_, rfl⟩)
  all_goals go_light
  all_goals simp; omega
/-- What both sides say of a policy and a call. -/
theorem of_x (rs : List Rl) (els num : Int) (zs : List Int) (hn : rs.length ≤ 9223372036854775807) (hm : zs.length ≤ 9223372036854775807) : ∃ (ok cb : Bool) (O : Int),
    ok = polOk ⟨rs, els⟩ ∧ cb = callB num zs ∧ O = polOfV ⟨rs, els⟩ num zs ∧
    (∀ A c B d W, RdR W W.heap.size A rs.length rs → Rd W W.heap.size 1 B zs.length (ints zs) → PT W W.heap.size → Calls Tryd.prog 15 #[.agg #[.slice A rs.length c, .int .i64 els], .agg #[.int .i64 num, .slice B zs.length d]] W (RetB (.int .i64 O) W)) ∧
    (∀ A c B d W, RdR W W.heap.size A rs.length rs → Rd W W.heap.size 1 B zs.length (ints zs) → Calls Tryd.prog 16 #[.agg #[.slice A rs.length c, .int .i64 els], .agg #[.int .i64 num, .slice B zs.length d]] W (RetB (.int .i64 O) W)) ∧
    (∀ A c W, RdR W W.heap.size A rs.length rs → PT W W.heap.size → Calls Tryd.prog 17 #[.agg #[.slice A rs.length c, .int .i64 els]] W (RetB (.bool ok) W)) ∧
    (∀ A c W, RdR W W.heap.size A rs.length rs → Calls Tryd.prog 18 #[.agg #[.slice A rs.length c, .int .i64 els]] W (RetB (.bool ok) W)) ∧
    (∀ B d W, Rd W W.heap.size 1 B zs.length (ints zs) → Calls Tryd.prog 67 #[.agg #[.int .i64 num, .slice B zs.length d]] W (RetB (.bool cb) W)) :=
  ⟨_, _, _, rfl, rfl, rfl, fun A c B d W h1 h2 h3 => policyOf_c A _ c rs els num B _ d zs W hn hm h1 h2 h3, fun A c B d W h1 h2 => specPolicyOf_c A _ c rs els num B _ d zs W hn hm h1 h2, fun A c W h1 h3 => policyOk_c A _ c rs els W h1 hn h3, fun A c W h1 => specPolicyOk_c A _ c rs els W h1 hn, fun B d W h => specCallOk_c num B _ d zs W h hm⟩
