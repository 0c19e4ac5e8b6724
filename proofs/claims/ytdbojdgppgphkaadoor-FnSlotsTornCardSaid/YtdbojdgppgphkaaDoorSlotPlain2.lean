/- Plain laws of torn slots. No condition but each lemma's own. -/
import Derived.Test.YtdbojdgppgphkaaDoorSlotPlain
namespace Go.Proofs.YtdbojdgppgphkaaDoor
set_option linter.unusedSimpArgs false
open Go.RowKit
set_option linter.unusedVariables false
/-- A torn slot is the old one, the whole one, or none. -/
theorem tornB_cases (t old : List UInt8) (n : Int) : tornB t old n = old ∨ tornB t old n = t ∨ slotR (tornB t old n) = ([], 0) := by
  unfold tornB
  split
  · exact .inl rfl
  · split
    · exact .inr (.inl rfl)
    · exact .inr (.inr (slotR_not (by simp)))
theorem lastR_noA {a' a b : List UInt8} (h : slotR a' = ([], 0)) (hx : (lastR a b).2.2 = 0) : lastR a' b = lastR a b := by
  have pa := slotR_pos a
  have pb := slotR_pos b
  unfold lastR at hx ⊢
  rw [h]
  simp only at hx ⊢
  by_cases h1 : (slotR a).2 < (slotR b).2
  · rw [if_pos h1, if_pos (by omega)]
  · rw [if_neg h1] at hx ⊢
    by_cases h2 : 0 < (slotR a).2
    · rw [if_pos h2] at hx; simp at hx
    · rw [if_neg h2, if_neg (by omega), if_neg (by omega)]
theorem lastR_noB {a b b' : List UInt8} (h : slotR b' = ([], 0)) (hx : (lastR a b).2.2 = 1) : lastR a b' = lastR a b := by
  have pa := slotR_pos a
  unfold lastR at hx ⊢
  rw [h]
  simp only at hx ⊢
  by_cases h1 : (slotR a).2 < (slotR b).2
  · rw [if_pos h1] at hx; simp at hx
  · rw [if_neg h1] at hx ⊢
    by_cases h2 : 0 < (slotR a).2
    · rw [if_pos h2, if_neg (by omega)]
    · rw [if_neg h2] at hx; simp at hx
/-- Wherever power is lost: what is read is what was there, or what was written. -/
theorem torn_last (a b t : List UInt8) (n : Int) : lastR (tornR a b t n).1 (tornR a b t n).2 = lastR a b ∨ lastR (tornR a b t n).1 (tornR a b t n).2 = lastR (writeR a b t).1 (writeR a b t).2.1 := by
  obtain ⟨q1, q2, q3⟩ := lastR_pos a b
  by_cases hn : 9999 ≤ (lastR a b).2.1
  · left
    unfold tornR
    rw [if_pos hn]
  · rcases q3 with q | q
    · have e1 : tornR a b t n = (tornB (slotW ((lastR a b).2.1 + 1) t) a n, b) := by unfold tornR; rw [if_neg hn, if_pos q]
      have e2 : writeR a b t = (slotW ((lastR a b).2.1 + 1) t, b, true) := by unfold writeR; rw [if_neg hn, if_pos q]
      rw [e1, e2]
      simp only
      rcases tornB_cases (slotW ((lastR a b).2.1 + 1) t) a n with h | h | h
      · left; rw [h]
      · right; rw [h]
      · left; exact lastR_noA h q
    · have e1 : tornR a b t n = (a, tornB (slotW ((lastR a b).2.1 + 1) t) b n) := by unfold tornR; rw [if_neg hn, if_neg (by omega)]
      have e2 : writeR a b t = (a, slotW ((lastR a b).2.1 + 1) t, true) := by unfold writeR; rw [if_neg hn, if_neg (by omega)]
      rw [e1, e2]
      simp only
      rcases tornB_cases (slotW ((lastR a b).2.1 + 1) t) b n with h | h | h
      · left; rw [h]
      · right; rw [h]
      · left; exact lastR_noB h q
/-- Of all bytes of it: it is written. -/
theorem torn_whole (a b t : List UInt8) (n : Int) (h : (t.length : Int) + 200 < n) : tornR a b t n = ((writeR a b t).1, (writeR a b t).2.1) := by
  obtain ⟨q1, q2, q3⟩ := lastR_pos a b
  have hl := slotW_len (n := (lastR a b).2.1 + 1) (by omega) t
  have e : ∀ old, tornB (slotW ((lastR a b).2.1 + 1) t) old n = slotW ((lastR a b).2.1 + 1) t := fun old => by
    unfold tornB
    rw [if_neg (by omega), if_pos (by omega)]
  unfold tornR writeR
  rw [e, e]
  split
  · rfl
  · split <;> rfl
end Go.Proofs.YtdbojdgppgphkaaDoor
