/- Plain words on policies turned into others: what the laws say of them. No condition. -/
import Derived.Test.YtljgaepgblakhaaDoorJFnPolicyOnly33
import Derived.Test.YtljgaepgblakhaaDoorJFnPolicyOnly34
import Derived.Test.YtljgaepgblakhaaDoorJFnPolicyOnly41
namespace Go.Proofs.YtljgaepgblakhaaDoor
set_option linter.unusedSimpArgs false
open Go.RowKit
set_option linter.unusedVariables false
set_option linter.unnecessarySimpa false
theorem polOk_nil : polOk ⟨[], 0⟩ = false := by decide
theorem okP_ok {p : Pol} (h : polOk (okP p) = true) : okP p = p ∧ polOk p = true := by
  unfold okP at h ⊢
  split at h
  · rename_i h1; rw [if_pos h1]; exact ⟨rfl, h1⟩
  · rw [polOk_nil] at h; cases h
theorem mapP_ok {a b : Int} {p : Pol} (h : polOk (mapP a b p) = true) : mapP a b p = ⟨p.rs.map (mapR a b), turnV a b p.els⟩ ∧ polOk p = true := by
  unfold mapP at h ⊢
  split at h
  · rename_i h1
    rw [if_pos h1]
    simp only [Bool.and_eq_true] at h1
    exact ⟨(okP_ok h).1, h1.1.1⟩
  · rw [polOk_nil] at h; cases h
theorem mapP_no {a b : Int} {p : Pol} (h : polOk (mapP a b p) = false) : mapP a b p = ⟨[], 0⟩ := by
  unfold mapP okP at h ⊢
  split at h
  · rename_i h1
    rw [if_pos h1]
    split at h
    · rename_i h2; rw [h2] at h; cases h
    · rename_i h2; rw [if_neg h2]
  · rename_i h1; rw [if_neg h1]
/-- P49. -/
theorem map_law {p : Pol} {a b num : Int} {xs : List Int} (hc : callB num xs = true) (hx : polOk (mapP a b p) = true) :
    polOfV (mapP a b p) num xs = turnV a b (polOfV p num xs) ∧ polFitV (mapP a b p) num xs = polFitV p num xs := by
  obtain ⟨e, hp⟩ := mapP_ok hx
  rw [polOfV_yes hx hc, polFitV_yes hx hc, polOfV_yes hp hc, polFitV_yes hp hc, e]
  have hf : (ruleFitsB num xs) ∘ (mapR a b) = ruleFitsB num xs := rfl
  refine ⟨?_, ?_⟩
  · rw [polV_eq, polV_eq]
    show (((p.rs.map (mapR a b)).find? (ruleFitsB num xs)).map Rl.v).getD (turnV a b p.els) = _
    rw [List.find?_map, hf]
    cases p.rs.find? (ruleFitsB num xs) <;> rfl
  · unfold fitV
    show (match (p.rs.map (mapR a b)).findIdx? (ruleFitsB num xs) with | some k => (k : Int) + 1 | none => 0) = _
    rw [List.findIdx?_map, hf]
    rfl
theorem fits_bare (num : Int) (xs : List Int) (v lo hi : Int) : ruleFitsB num xs ⟨v, lo, hi, []⟩ = decide (lo ≤ num ∧ num ≤ hi) := by simp [ruleFitsB]
theorem onlyP_ok {p : Pol} {low high v : Int} (h : polOk (onlyP p low high v) = true) : onlyP p low high v = onlyQ p low high v ∧ onlyA p low high v = true := by
  unfold onlyP at h ⊢
  split at h
  · rename_i h1
    rw [if_pos h1]
    exact ⟨(okP_ok h).1, h1⟩
  · rw [polOk_nil] at h; cases h
/-- P50. -/
theorem only_law {p : Pol} {low high v num : Int} {xs : List Int} (hc : callB num xs = true) (hx : polOk (onlyP p low high v) = true) :
    polOfV (onlyP p low high v) num xs = if low ≤ num ∧ num ≤ high then polOfV p num xs else v := by
  obtain ⟨e, ha⟩ := onlyP_ok hx
  simp only [onlyA, Bool.and_eq_true, decide_eq_true_eq] at ha
  have hp := ha.1.1.1.1
  have hlh := ha.1.2
  have hlo := wordB_in ha.1.1.1.2
  have hhi := wordB_in ha.1.1.2
  have hn : 0 ≤ num ∧ num ≤ 4294967295 := by
    simp only [callB, Bool.and_eq_true] at hc
    exact wordB_in hc.1.1
  rw [polOfV_yes hx hc, polOfV_yes hp hc, e, polV_eq, polV_eq]
  show (((lowR low v ++ highR high v ++ p.rs).find? (ruleFitsB num xs)).map Rl.v).getD p.els = _
  rw [List.find?_append, List.find?_append]
  unfold lowR highR
  by_cases h1 : num < low
  · have e1 : decide (0 ≤ num ∧ num ≤ low - 1) = true := by simp; omega
    rw [if_pos (by omega : 0 < low), List.find?_cons, fits_bare, e1, if_neg (by omega : ¬ (low ≤ num ∧ num ≤ high))]
    rfl
  · have k1 : List.find? (ruleFitsB num xs) (if 0 < low then [⟨v, 0, low - 1, []⟩] else []) = none := by
      split
      · have e1 : decide (0 ≤ num ∧ num ≤ low - 1) = false := by simp; omega
        rw [List.find?_cons, fits_bare, e1]; rfl
      · rfl
    rw [k1]
    by_cases h2 : high < num
    · have e1 : decide (high + 1 ≤ num ∧ num ≤ 4294967295) = true := by simp; omega
      rw [if_pos (by omega : high < 4294967295), List.find?_cons, fits_bare, e1, if_neg (by omega : ¬ (low ≤ num ∧ num ≤ high))]
      rfl
    · have k2 : List.find? (ruleFitsB num xs) (if high < 4294967295 then [⟨v, high + 1, 4294967295, []⟩] else []) = none := by
        split
        · have e1 : decide (high + 1 ≤ num ∧ num ≤ 4294967295) = false := by simp; omega
          rw [List.find?_cons, fits_bare, e1]; rfl
        · rfl
      rw [k2, if_pos (by omega : low ≤ num ∧ num ≤ high)]
      rfl
end Go.Proofs.YtljgaepgblakhaaDoor
