/- What is read of a text, and of what was written: the contracts with the plain values as letters. Conditions: each lemma's own. -/
import Derived.Test.YtflhniobbdanjaaDoorJc7d2206178
import Derived.Test.YtflhniobbdanjaaDoorJ023cc49ac7
import Derived.Test.YtflhniobbdanjaaDoorJ50648ba55f
namespace Go.Proofs.YtflhniobbdanjaaDoor
set_option linter.unusedSimpArgs false
open Go.RowKit
set_option linter.unusedVariables false
set_option linter.unnecessarySimpa false
theorem few_readY (l : List UInt8) : Few (readF l).1.rs := by
  by_cases h : (readF l).2 = 0
  · have e : readF l = ((readF l).1, 0) := by rw [← h]
    exact few_ok (readF_sound e).1
  · have : (readF l).1 = ⟨[], 0⟩ := by
      unfold readF at h ⊢
      split
      · rfl
      · rename_i hc
        rw [if_neg hc] at h
        split
        · rfl
        · rename_i rs he
          rw [he] at h
          simp only at h
          split
          · rfl
          · rename_i v hv
            rw [hv] at h
            simp only at h
            split
            · rename_i hz
              rw [if_pos hz] at h
              exact absurd rfl h
            · rfl
    rw [this]
    exact few_nil
/-- The call returns such a policy, in memory of its own, and such a number. -/
def RetRY (ER ET : Nat) (Rs : List Rl) (Re n : Int) (w : World) (e : Ending) (w' : World) : Prop :=
  ∃ A c qs, e = .returned (.tuple #[.agg #[.slice A Rs.length c, .int .i64 Re], .int .i64 n]) ∧ rls qs = Rs ∧ OP w' w.heap.size w'.heap.size ER ET A Rs.length c qs ∧ Apart qs ∧ Below w.heap.size w w'
theorem text_x (l : List UInt8) (hl : l.length ≤ 1048576) : ∃ (Rs : List Rl) (Re n : Int), Rs.length ≤ 100 ∧ 0 ≤ n ∧
    (n = 0 → ∀ A c W, RdR W W.heap.size A Rs.length Rs → PT W W.heap.size → Calls Tryd.prog 12 #[.agg #[.slice A Rs.length c, .int .i64 Re]] W (RetB (.string (str l)) W)) ∧
    (∀ W, Calls Tryd.prog 5 #[.string (str l)] W (RetRY 40 67 Rs Re n W)) ∧
    (∀ W, Calls Tryd.prog 6 #[.string (str l)] W (RetRY 40 67 Rs Re n W)) := by
  refine ⟨(readF l).1.rs, (readF l).1.els, (readF l).2, (few_readY l).1, readF_at l, fun h0 A c W h1 h2 => ?_, fun W => readS_c l hl W, fun W => readI_c l hl W⟩
  have e : readF l = ((readF l).1, 0) := by rw [← h0]
  obtain ⟨hok, ht⟩ := readF_sound e
  have h := policyWrite_c A _ c (readF l).1.rs (readF l).1.els W h1 (by have := (few_readY l).1; omega) h2
  have hs : polS ⟨(readF l).1.rs, (readF l).1.els⟩ = str l := by
    unfold polS
    rw [if_pos hok]
    exact congrArg str ht
  rw [hs] at h
  exact h
theorem back_x (rs : List Rl) (pe : Int) (hn : rs.length ≤ 100) : ∃ (ok : Bool) (S : ByteArray) (Rb : List Rl) (Reb nb : Int), (ok = true → nb = 0 ∧ Rb = rs ∧ Reb = pe) ∧ (ok = false → nb = 1) ∧ Rb.length ≤ 100 ∧
    (∀ A c W, RdR W W.heap.size A rs.length rs → PT W W.heap.size → Calls Tryd.prog 12 #[.agg #[.slice A rs.length c, .int .i64 pe]] W (RetB (.string S) W)) ∧
    (∀ A c W, RdR W W.heap.size A rs.length rs → Calls Tryd.prog 14 #[.agg #[.slice A rs.length c, .int .i64 pe]] W (RetB (.string S) W)) ∧
    (∀ A c W, RdR W W.heap.size A rs.length rs → PT W W.heap.size → Calls Tryd.prog 15 #[.agg #[.slice A rs.length c, .int .i64 pe]] W (RetB (.bool ok) W)) ∧
    (∀ A c W, RdR W W.heap.size A rs.length rs → Calls Tryd.prog 16 #[.agg #[.slice A rs.length c, .int .i64 pe]] W (RetB (.bool ok) W)) ∧
    (∀ W, Calls Tryd.prog 6 #[.string S] W (RetRY 40 67 Rb Reb nb W)) := by
  have h1 : ∀ A c W, RdR W W.heap.size A rs.length rs → PT W W.heap.size → Calls Tryd.prog 12 #[.agg #[.slice A rs.length c, .int .i64 pe]] W (RetB (.string (polS ⟨rs, pe⟩)) W) := fun A c W a b => policyWrite_c A _ c rs pe W a (by omega) b
  have h2 : ∀ A c W, RdR W W.heap.size A rs.length rs → Calls Tryd.prog 14 #[.agg #[.slice A rs.length c, .int .i64 pe]] W (RetB (.string (polS ⟨rs, pe⟩)) W) := fun A c W a => specPolicyWrite_c A _ c rs pe W a (by omega)
  have h3 : ∀ A c W, RdR W W.heap.size A rs.length rs → PT W W.heap.size → Calls Tryd.prog 15 #[.agg #[.slice A rs.length c, .int .i64 pe]] W (RetB (.bool (polOk ⟨rs, pe⟩)) W) := fun A c W a b => policyOk_c A _ c rs pe W a (by omega) b
  have h4 : ∀ A c W, RdR W W.heap.size A rs.length rs → Calls Tryd.prog 16 #[.agg #[.slice A rs.length c, .int .i64 pe]] W (RetB (.bool (polOk ⟨rs, pe⟩)) W) := fun A c W a => specPolicyOk_c A _ c rs pe W a (by omega)
  cases hok : polOk ⟨rs, pe⟩ with
  | true =>
    rw [hok] at h3 h4
    have hs : polS ⟨rs, pe⟩ = str (textT ⟨rs, pe⟩) := by unfold polS; rw [if_pos hok]
    have hlen : (textT ⟨rs, pe⟩).length ≤ 1048576 := by
      unfold polOk at hok
      simp only [Bool.and_eq_true, decide_eq_true_eq] at hok
      have := hok.2
      omega
    have h5 := fun W => readI_c (textT ⟨rs, pe⟩) hlen W
    rw [readF_text hok, ← hs] at h5
    exact ⟨true, _, rs, pe, 0, fun _ => ⟨rfl, rfl, rfl⟩, fun h => (by cases h), hn, h1, h2, h3, h4, h5⟩
  | false =>
    rw [hok] at h3 h4
    have hs : polS ⟨rs, pe⟩ = str [] := by unfold polS; rw [if_neg (by rw [hok]; decide)]; rfl
    have h5 := fun W => readI_c [] (by simp) W
    rw [readF_empty, ← hs] at h5
    exact ⟨false, _, [], 0, 1, fun h => (by cases h), fun _ => rfl, by simp, h1, h2, h3, h4, h5⟩
end Go.Proofs.YtflhniobbdanjaaDoor
