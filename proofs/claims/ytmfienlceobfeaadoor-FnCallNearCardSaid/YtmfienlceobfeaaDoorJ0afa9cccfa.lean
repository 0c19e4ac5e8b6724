/- A policy as a law's argument. No condition. -/
import Derived.Test.YtmfienlceobfeaaDoorJ791c39ad6c
import Derived.Test.YtmfienlceobfeaaDoorJ5c6c11a72b
namespace Go.Proofs.YtmfienlceobfeaaDoor
set_option linter.unusedSimpArgs false
open Go.ChangeShapes Go.WideShapes Go.ChangeAt Go.RowKit Go.Joins Go.Deep
set_option linter.unusedVariables false
set_option linter.unnecessarySimpa false
set_option maxRecDepth 100000
theorem build_list {α : Type} (Q : Nat → α → Prop) (n : Nat) (h : ∀ i, i < n → ∃ a, Q i a) : ∃ l : List α, l.length = n ∧ ∀ i a, l[i]? = some a → Q i a := by
  have key : ∀ k, k ≤ n → ∃ l : List α, l.length = k ∧ ∀ i a, l[i]? = some a → Q i a := by
    intro k
    induction k with
    | zero => intro _; exact ⟨[], rfl, by simp⟩
    | succ k ih =>
      intro hk
      obtain ⟨l, hl, hp⟩ := ih (by omega)
      obtain ⟨a, ha⟩ := h k (by omega)
      refine ⟨l ++ [a], by simp [hl], fun i q hi => ?_⟩
      by_cases hik : i < k
      · rw [List.getElem?_append_left (by omega)] at hi
        exact hp i q hi
      · have hlt := (List.getElem?_eq_some_iff.1 hi).1
        simp [hl] at hlt
        obtain rfl : i = k := by omega
        rw [List.getElem?_append_right (by omega), hl, Nat.sub_self] at hi
        simp at hi
        subst hi
        exact ha
  exact key n (Nat.le_refl _)
/-- A law's argument: a policy. -/
def IsPolicy (w : World) (v : Value) : Prop := ∃ (A : Option Addr) (n c : Nat) (rs : List Rl) (e : Int), v = .agg #[.slice A n c, .int .i64 e] ∧ RdR w w.heap.size A n rs ∧ n ≤ maxLen
section
variable {H : Type} {enc : TypeId × Value → H} {W : World} {base : Nat} {v : Value} {d : DataW H} {p : List MemPlace} {sp : Nat → Bool} {held : Bool}
end
end Go.Proofs.YtmfienlceobfeaaDoor
