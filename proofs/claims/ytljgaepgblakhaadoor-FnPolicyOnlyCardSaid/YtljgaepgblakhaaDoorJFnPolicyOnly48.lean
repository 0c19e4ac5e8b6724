/- What both sides make of a policy by PolicyMap and PolicyOnly, and what that says. Conditions: each lemma's own. -/
import Derived.Test.YtljgaepgblakhaaDoorJFnPolicyOnly47
import Derived.Test.YtljgaepgblakhaaDoorJFnPolicyOnly42
import Derived.Test.YtljgaepgblakhaaDoorJFnPolicyOnly39
import Derived.Test.YtljgaepgblakhaaDoorJFnPolicyOnly44
namespace Go.Proofs.YtljgaepgblakhaaDoor
set_option linter.unusedSimpArgs false
open Go.ChangeShapes Go.WideShapes Go.ChangeAt Go.RowKit
set_option linter.unusedVariables false
set_option linter.unnecessarySimpa false
theorem few_onlyY (p : Pol) (low high v : Int) : Few (onlyP p low high v).rs := by
  unfold onlyP
  split
  · exact few_okP _
  · exact few_nil
theorem few_mapY (a b : Int) (p : Pol) : Few (mapP a b p).rs := by
  unfold mapP
  split
  · exact few_okP _
  · exact few_nil
/-- The call returns such a policy in memory of its own. -/
def RetPY (ER ET : Nat) (Rs : List Rl) (Re : Int) (w : World) (e : Ending) (w' : World) : Prop :=
  ∃ A c qs, e = .returned (.agg #[.slice A Rs.length c, .int .i64 Re]) ∧ rls qs = Rs ∧ OP w' w.heap.size w'.heap.size ER ET A Rs.length c qs ∧ Apart qs ∧ Below w.heap.size w w'
theorem onlyB_ok {p : Pol} {low high v : Int} (h : onlyB p low high v = true) : polOk (onlyP p low high v) = true ∧ polOk p = true := by
  simp only [onlyB, Bool.and_eq_true] at h
  have e : onlyP p low high v = onlyQ p low high v := by
    unfold onlyP okP
    rw [if_pos h.1, if_pos h.2]
  rw [e]
  refine ⟨h.2, ?_⟩
  have := h.1
  simp only [onlyA, Bool.and_eq_true] at this
  exact this.1.1.1.1
theorem map_nil {a b : Int} {p : Pol} (h : polOk (mapP a b p) = false) : (mapP a b p).rs = [] := by rw [mapP_no h]
theorem fit_i (rs : List Rl) (els num : Int) (zs : List Int) (hn : rs.length ≤ 9223372036854775807) (hm : zs.length ≤ 9223372036854775807) : ∃ (F : Int), F = polFitV ⟨rs, els⟩ num zs ∧
    (∀ A c B d W, RdR W W.heap.size A rs.length rs → Rd W W.heap.size 1 B zs.length (ints zs) → PT W W.heap.size → Calls Tryd.prog 28 #[.agg #[.slice A rs.length c, .int .i64 els], .agg #[.int .i64 num, .slice B zs.length d]] W (RetB (.int .i64 F) W)) :=
  ⟨_, rfl, fun A c B d W h1 h2 h3 => policyFit_c A _ c rs els num B _ d zs W hn hm h1 h2 h3⟩
theorem only_y (rs : List Rl) (e low high v : Int) (hn : rs.length ≤ 9223372036854775807) : ∃ (Rs : List Rl) (Re : Int) (ok : Bool), Few Rs ∧
    (ok = true → polOk ⟨Rs, Re⟩ = true ∧ polOk ⟨rs, e⟩ = true ∧ ∀ num zs, callB num zs = true → polOfV ⟨Rs, Re⟩ num zs = if low ≤ num ∧ num ≤ high then polOfV ⟨rs, e⟩ num zs else v) ∧
    (∀ A c W, RdR W W.heap.size A rs.length rs → Calls Tryd.prog 21 #[.agg #[.slice A rs.length c, .int .i64 e], .int .i64 low, .int .i64 high, .int .i64 v] W (RetPB 35 83 Rs Re ok W)) ∧
    (∀ A c W, RdR W W.heap.size A rs.length rs → PT W W.heap.size → Calls Tryd.prog 20 #[.agg #[.slice A rs.length c, .int .i64 e], .int .i64 low, .int .i64 high, .int .i64 v] W (RetPB 35 83 Rs Re ok W)) :=
  ⟨(onlyP ⟨rs, e⟩ low high v).rs, (onlyP ⟨rs, e⟩ low high v).els, onlyB ⟨rs, e⟩ low high v, few_onlyY _ _ _ _,
    fun h => ⟨(onlyB_ok h).1, (onlyB_ok h).2, fun num zs hc => only_law hc (onlyB_ok h).1⟩,
    fun A c W h1 => specPolicyOnly_c A _ c rs e low high v W hn h1,
    fun A c W h1 h3 => policyOnly_c A _ c rs e low high v W hn h1 h3⟩
theorem map_y (rs : List Rl) (e a b : Int) (hn : rs.length ≤ 9223372036854775807) : ∃ (Rs : List Rl) (Re : Int), Few Rs ∧ (polOk ⟨Rs, Re⟩ = false → Rs = []) ∧
    (polOk ⟨Rs, Re⟩ = true → polOk ⟨rs, e⟩ = true ∧ ∀ num zs, callB num zs = true → polOfV ⟨Rs, Re⟩ num zs = turnV a b (polOfV ⟨rs, e⟩ num zs) ∧ polFitV ⟨Rs, Re⟩ num zs = polFitV ⟨rs, e⟩ num zs) ∧
    (∀ A c W, RdR W W.heap.size A rs.length rs → Calls Tryd.prog 27 #[.agg #[.slice A rs.length c, .int .i64 e], .int .i64 a, .int .i64 b] W (RetPY 35 83 Rs Re W)) ∧
    (∀ A c W, RdR W W.heap.size A rs.length rs → PT W W.heap.size → Calls Tryd.prog 26 #[.agg #[.slice A rs.length c, .int .i64 e], .int .i64 a, .int .i64 b] W (RetPY 35 83 Rs Re W)) :=
  ⟨(mapP a b ⟨rs, e⟩).rs, (mapP a b ⟨rs, e⟩).els, few_mapY _ _ _, map_nil,
    fun h => ⟨(mapP_ok h).2, fun num zs hc => map_law hc h⟩,
    fun A c W h1 => specPolicyMap_c A _ c rs e a b W hn h1,
    fun A c W h1 h3 => policyMap_c A _ c rs e a b W hn h1 h3⟩
end Go.Proofs.YtljgaepgblakhaaDoor
