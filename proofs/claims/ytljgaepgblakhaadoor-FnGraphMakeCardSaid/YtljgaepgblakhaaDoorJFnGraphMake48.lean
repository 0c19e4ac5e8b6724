/- What both sides' graphs of a policy say. Conditions: each lemma's own. -/
import Derived.Test.YtljgaepgblakhaaDoorJFnGraphMake47
import Derived.Test.YtljgaepgblakhaaDoorJFnGraphMake44
import Derived.Test.YtljgaepgblakhaaDoorJFnGraphMake36
import Derived.Test.YtljgaepgblakhaaDoorJFnGraphMake4
import Derived.Test.YtljgaepgblakhaaDoorJFnGraphMake6
namespace Go.Proofs.YtljgaepgblakhaaDoor
set_option linter.unusedSimpArgs false
open Go.RowKit
set_option linter.unusedVariables false
set_option linter.unnecessarySimpa false
theorem makeR_neat {p : Pol} (h : polOk p = true) : Neat (makeR p) ∧ ∀ num xs, callB num xs = true → graphRunV (makeR p) num xs = polOfV p num xs := by
  have hm : makeR p = trimN (makeG p.els p.rs).1.length (makeG p.els p.rs).1 (makeG p.els p.rs).2.toNat := by unfold makeR; rw [if_pos h]
  obtain ⟨g0, g1, g2, g3⟩ := makeG_lt (polOk_els h) (polOk_all h).2.1 (polOk_all h).1
  obtain ⟨q, s⟩ := make_put (polOk_els h) p.rs (polOk_all h).2.1
  obtain ⟨n1, n2, n3⟩ := trimN_neat (f := (makeG p.els p.rs).1.length) q.gp (by omega) (a := (makeG p.els p.rs).2.toNat) (by omega) (by omega)
  rw [hm]
  refine ⟨n1, fun num xs hc => ?_⟩
  unfold graphRunV
  rw [n1.ok, hc, polOfV_yes h hc]
  have := s num xs hc
  unfold says at this
  rw [← this]
  exact n3 num xs
theorem makeR_no {p : Pol} (h : polOk p = false) : makeR p = [] := by
  unfold makeR
  rw [h]
  rfl
theorem graph_y (rs : List Rl) (e : Int) (hn : rs.length ≤ 9223372036854775807) : ∃ (R : List Pt), R.length ≤ 120 ∧ (polOk ⟨rs, e⟩ = false → R = []) ∧
    (polOk ⟨rs, e⟩ = true → graphB R = true ∧ ∀ num zs, callB num zs = true → graphRunV R num zs = polOfV ⟨rs, e⟩ num zs) ∧
    (∀ A c W, RdR W W.heap.size A rs.length rs → Calls Tryd.prog 47 #[.agg #[.slice A rs.length c, .int .i64 e]] W (RetOwn 106 7 R.length (pts R) W)) ∧
    (∀ A c W, RdR W W.heap.size A rs.length rs → PT W W.heap.size → Calls Tryd.prog 48 #[.agg #[.slice A rs.length c, .int .i64 e]] W (RetOwn 106 7 R.length (pts R) W)) := by
  refine ⟨makeR ⟨rs, e⟩, ?_, makeR_no, fun h => ⟨(makeR_neat h).1.ok, (makeR_neat h).2⟩, fun A c W h => specGraphMake_c A c rs e W h hn, fun A c W h k => graphMake_c A c rs e W h hn k⟩
  cases h : polOk ⟨rs, e⟩ with
  | false => rw [makeR_no h]; simp
  | true => exact (makeR_neat h).1.max
end Go.Proofs.YtljgaepgblakhaaDoor
