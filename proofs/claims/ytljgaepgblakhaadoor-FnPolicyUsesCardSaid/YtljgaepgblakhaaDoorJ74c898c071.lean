/- Parts of laws in one text. Conditions: each lemma's own. -/
import Derived.Test.YtljgaepgblakhaaDoorJ1d4e7f311b
import Derived.Test.YtljgaepgblakhaaDoorJ1c264d9e97
import Derived.Test.YtljgaepgblakhaaDoorJ5b46cc4c57
import Derived.Test.YtljgaepgblakhaaDoorJ860a3c107a
import Derived.Test.YtljgaepgblakhaaDoorJf9dd0ade97
namespace Go.Proofs.YtljgaepgblakhaaDoor
set_option linter.unusedSimpArgs false
open Go.RowKit
set_option linter.unusedVariables false
set_option linter.unnecessarySimpa false
set_option maxRecDepth 20000
theorem wgIn_c (n a b : Int) (w : World) : Calls Tryd.prog 24 #[.int .i64 n, .int .i64 a, .int .i64 b] w (RetW (.bool (decide (a ≤ n ∧ n ≤ b))) w) := by
  go_enter Tryd.func24, Tryd.ntmps24
  go_wp2
  all_goals go_returns
  all_goals (refine ⟨?_, rfl⟩)
  all_goals go_light
  all_goals simp; omega
/-- What both sides say of a policy and a call. -/
theorem of_x (rs : List Rl) (els num : Int) (zs : List Int) (hn : rs.length ≤ 9223372036854775807) (hm : zs.length ≤ 9223372036854775807) : ∃ (ok cb : Bool) (O : Int),
    ok = polOk ⟨rs, els⟩ ∧ cb = callB num zs ∧ O = polOfV ⟨rs, els⟩ num zs ∧
    (∀ A c B d W, RdR W W.heap.size A rs.length rs → Rd W W.heap.size 1 B zs.length (ints zs) → PT W W.heap.size → Calls Tryd.prog 15 #[.agg #[.slice A rs.length c, .int .i64 els], .agg #[.int .i64 num, .slice B zs.length d]] W (RetB (.int .i64 O) W)) ∧
    (∀ A c B d W, RdR W W.heap.size A rs.length rs → Rd W W.heap.size 1 B zs.length (ints zs) → Calls Tryd.prog 16 #[.agg #[.slice A rs.length c, .int .i64 els], .agg #[.int .i64 num, .slice B zs.length d]] W (RetB (.int .i64 O) W)) ∧
    (∀ A c W, RdR W W.heap.size A rs.length rs → PT W W.heap.size → Calls Tryd.prog 17 #[.agg #[.slice A rs.length c, .int .i64 els]] W (RetB (.bool ok) W)) ∧
    (∀ A c W, RdR W W.heap.size A rs.length rs → Calls Tryd.prog 18 #[.agg #[.slice A rs.length c, .int .i64 els]] W (RetB (.bool ok) W)) ∧
    (∀ B d W, Rd W W.heap.size 1 B zs.length (ints zs) → Calls Tryd.prog 67 #[.agg #[.int .i64 num, .slice B zs.length d]] W (RetB (.bool cb) W)) :=
  ⟨_, _, _, rfl, rfl, rfl, fun A c B d W h1 h2 h3 => policyOf_c A _ c rs els num B _ d zs W hn hm h1 h2 h3, fun A c B d W h1 h2 => specPolicyOf_c A _ c rs els num B _ d zs W hn hm h1 h2, fun A c W h1 h3 => policyOk_c A _ c rs els W h1 hn h3, fun A c W h1 => specPolicyOk_c A _ c rs els W h1 hn, fun B d W h => specCallOk_c num B _ d zs W h hm⟩
end Go.Proofs.YtljgaepgblakhaaDoor
namespace Go.Proofs.YtljgaepgblakhaaDoor
set_option linter.unusedSimpArgs false
open Go.ChangeShapes Go.WideShapes Go.ChangeAt Go.RowKit
set_option linter.unusedVariables false
set_option linter.unnecessarySimpa false
theorem PT.up {w w' : World} (h : PT w w.heap.size) (hb : Below w.heap.size w w') : PT w' w'.heap.size := (h.below hb).more hb.size
theorem PT.upB {w w' : World} {B : Nat} (h : PT w B) (hb : Below B w w') (hB : B ≤ w'.heap.size) : PT w' w'.heap.size := (h.below hb).more hB
theorem join_y (rs : List Rl) (e : Int) (rs' : List Rl) (e' : Int) (hn : rs.length ≤ 9223372036854775807) (hm : rs'.length ≤ 9223372036854775807) : ∃ (Rs : List Rl) (Re : Int) (ok : Bool),
    (ok = true → Rs = rs ++ rs' ∧ Re = e' ∧ polOk ⟨rs, e⟩ = true ∧ polOk ⟨rs', e'⟩ = true ∧ polOk ⟨rs ++ rs', e'⟩ = true) ∧ Few Rs ∧
    (∀ A c B d W, RdR W W.heap.size A rs.length rs → RdR W W.heap.size B rs'.length rs' → Calls Tryd.prog 31 #[.agg #[.slice A rs.length c, .int .i64 e], .agg #[.slice B rs'.length d, .int .i64 e']] W (RetPB 35 83 Rs Re ok W)) ∧
    (∀ A c B d W, RdR W W.heap.size A rs.length rs → RdR W W.heap.size B rs'.length rs' → PT W W.heap.size → Calls Tryd.prog 30 #[.agg #[.slice A rs.length c, .int .i64 e], .agg #[.slice B rs'.length d, .int .i64 e']] W (RetPB 35 83 Rs Re ok W)) := by
  refine ⟨(joinP ⟨rs, e⟩ ⟨rs', e'⟩).rs, (joinP ⟨rs, e⟩ ⟨rs', e'⟩).els, joinB ⟨rs, e⟩ ⟨rs', e'⟩, fun h => ?_, few_join _ _,
    fun A c B d W h1 h2 => specPolicyJoin_c A _ c rs e B _ d rs' e' W hn hm h1 h2,
    fun A c B d W h1 h2 h3 => policyJoin_c A _ c rs e B _ d rs' e' W hn hm h1 h2 h3⟩
  simp only [joinB, Bool.and_eq_true] at h
  have : joinP ⟨rs, e⟩ ⟨rs', e'⟩ = ⟨rs ++ rs', e'⟩ := by
    unfold joinP okP
    simp only [h.1.1, h.1.2, Bool.and_self, if_true]
    rw [if_pos h.2]
  rw [this]
  exact ⟨rfl, rfl, h.1.1, h.1.2, h.2⟩
/-- What both sides say of a policy being ok. -/
theorem ok_x (rs : List Rl) (els : Int) (hn : rs.length ≤ 9223372036854775807) : ∃ (ok : Bool), ok = polOk ⟨rs, els⟩ ∧
    (∀ A c W, RdR W W.heap.size A rs.length rs → PT W W.heap.size → Calls Tryd.prog 17 #[.agg #[.slice A rs.length c, .int .i64 els]] W (RetB (.bool ok) W)) ∧
    (∀ A c W, RdR W W.heap.size A rs.length rs → Calls Tryd.prog 18 #[.agg #[.slice A rs.length c, .int .i64 els]] W (RetB (.bool ok) W)) :=
  ⟨_, rfl, fun A c W h1 h3 => policyOk_c A _ c rs els W h1 hn h3, fun A c W h1 => specPolicyOk_c A _ c rs els W h1 hn⟩
end Go.Proofs.YtljgaepgblakhaaDoor
