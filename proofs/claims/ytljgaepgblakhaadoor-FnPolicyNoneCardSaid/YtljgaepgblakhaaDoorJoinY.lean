/- What both sides' joins of two policies come to. Conditions: the lemma's own. -/
import Derived.Test.YtljgaepgblakhaaDoorFnPol
import Derived.Test.YtljgaepgblakhaaDoorWgPol
import Derived.Test.YtljgaepgblakhaaDoorPolMid
namespace Go.Proofs.YtljgaepgblakhaaDoor
set_option linter.unusedSimpArgs false
open Go.ChangeShapes Go.WideShapes Go.ChangeAt Go.RowKit
set_option linter.unusedVariables false
set_option linter.unnecessarySimpa false
theorem PT.up {w w' : World} (h : PT w w.heap.size) (hb : Below w.heap.size w w') : PT w' w'.heap.size := (h.below hb).more hb.size
theorem PT.upB {w w' : World} {B : Nat} (h : PT w B) (hb : Below B w w') (hB : B ≤ w'.heap.size) : PT w' w'.heap.size := (h.below hb).more hB
theorem join_y (rs : List Rl) (e : Int) (rs' : List Rl) (e' : Int) (hn : rs.length ≤ 9223372036854775807) (hm : rs'.length ≤ 9223372036854775807) : ∃ (Rs : List Rl) (Re : Int) (ok : Bool),
    (ok = true → Rs = rs ++ rs' ∧ Re = e' ∧ polOk ⟨rs, e⟩ = true ∧ polOk ⟨rs', e'⟩ = true ∧ polOk ⟨rs ++ rs', e'⟩ = true) ∧ Few Rs ∧
    (∀ A c B d W, RdR W W.heap.size A rs.length rs → RdR W W.heap.size B rs'.length rs' → Calls Tryd.prog 31 #[.agg #[.slice A rs.length c, .int .i64 e], .agg #[.slice B rs'.length d, .int .i64 e']] W (RetPB 35 83 Rs Re ok W)) ∧
    (∀ A c B d W, RdR W W.heap.size A rs.length rs → RdR W W.heap.size B rs'.length rs' → PT W W.heap.size → Calls Tryd.prog 30 #[.agg #[.slice A rs.length c, .int .i64 e], .agg #[.slice B rs'.length d, .int .i64 e']] W (RetPB 35 83 Rs Re ok W)) := by
  refine ⟨(joinP ⟨rs, e⟩ ⟨rs', e'⟩).rs, (joinP ⟨rs, e⟩ ⟨rs', e'⟩).els, joinB ⟨rs, e⟩ ⟨rs', e'⟩, fun h => ?_, few_join _ _,
    fun A c B d W h1 h2 => specPolicyJoin_c A _ c rs e B _ d rs' e' W hn hm h1 h2,
    fun A c B d W h1 h2 h3 => policyJoin_c A _ c rs e B _ d rs' e' W hn hm h1 h2 h3⟩
  simp only [joinB, Bool.and_eq_true] at h
  have : joinP ⟨rs, e⟩ ⟨rs', e'⟩ = ⟨rs ++ rs', e'⟩ := by
    unfold joinP okP
    simp only [h.1.1, h.1.2, Bool.and_self, if_true]
    rw [if_pos h.2]
  rw [this]
  exact ⟨rfl, rfl, h.1.1, h.1.2, h.2⟩
/-- What both sides say of a policy being ok. -/
theorem ok_x (rs : List Rl) (els : Int) (hn : rs.length ≤ 9223372036854775807) : ∃ (ok : Bool), ok = polOk ⟨rs, els⟩ ∧
    (∀ A c W, RdR W W.heap.size A rs.length rs → PT W W.heap.size → Calls Tryd.prog 17 #[.agg #[.slice A rs.length c, .int .i64 els]] W (RetB (.bool ok) W)) ∧
    (∀ A c W, RdR W W.heap.size A rs.length rs → Calls Tryd.prog 18 #[.agg #[.slice A rs.length c, .int .i64 els]] W (RetB (.bool ok) W)) :=
  ⟨_, rfl, fun A c W h1 h3 => policyOk_c A _ c rs els W h1 hn h3, fun A c W h1 => specPolicyOk_c A _ c rs els W h1 hn⟩
end Go.Proofs.YtljgaepgblakhaaDoor
