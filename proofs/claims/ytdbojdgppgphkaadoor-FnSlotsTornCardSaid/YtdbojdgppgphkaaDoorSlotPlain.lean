/- Plain laws of slots. No condition but each lemma's own. -/
import Derived.Test.YtdbojdgppgphkaaDoorSlot7
namespace Go.Proofs.YtdbojdgppgphkaaDoor
set_option linter.unusedSimpArgs false
open Go.RowKit
set_option linter.unusedVariables false
theorem num2V_dec {n : Int} (h1 : 0 ≤ n) (h2 : n ≤ 4294967295) : num2V (dec n) = n := by
  obtain ⟨d1, d2, d3, d4, _⟩ := dec_digs n.toNat
  have hl := dec_len (n := n) h2
  have e : dec n = Lib.decDigits n.toNat := rfl
  rw [← e] at d1 d2 d3 d4
  have hn : ((n.toNat : Nat) : Int) = n := by omega
  rw [hn] at d2
  unfold num2V
  rw [d1, d3, d2]
  simp
  omega
theorem dec_col {n : Int} : ∀ c ∈ dec n, c ≠ 58 := by
  intro c hc e
  obtain ⟨d1, _⟩ := dec_digs n.toNat
  have e1 : dec n = Lib.decDigits n.toNat := rfl
  rw [← e1] at d1
  have := List.all_eq_true.1 d1 c hc
  subst e
  simp [digB] at this
theorem slotR_slotW {n : Int} (h1 : 1 ≤ n) (h2 : n ≤ 9999) (t : List UInt8) : slotR (slotW n t) = (t, n) := by
  have hk : (dec n).length < (dec n ++ 58 :: t).length := by simp
  have hc : (dec n ++ 58 :: t)[(dec n).length]? = some 58 := by simp
  have htk : (dec n ++ 58 :: t).take (dec n).length = dec n := by simp
  have h := slotR_colon hk hc (by rw [htk]; exact dec_col)
  rw [htk, num2V_dec (by omega) (by omega), if_pos ⟨h1, h2⟩] at h
  unfold slotW
  rw [h]
  simp
theorem lastR_zero (a b : List UInt8) : (lastR a b).2.2 = 0 → (slotR b).2 ≤ (lastR a b).2.1 := by
  unfold lastR
  have := slotR_pos a
  split
  · intro _; simp
  · split
    · intro h; simp at h
    · intro _; simp only; omega
theorem lastR_one (a b : List UInt8) : (lastR a b).2.2 = 1 → (slotR a).2 = (lastR a b).2.1 := by
  unfold lastR
  split
  · intro h; simp at h
  · split
    · intro _; rfl
    · intro h; simp at h
/-- What is written is read. -/
theorem write_last (a b t : List UInt8) (h : (lastR a b).2.1 < 9999) : (lastR (writeR a b t).1 (writeR a b t).2.1).1 = t ∧ (lastR (writeR a b t).1 (writeR a b t).2.1).2.1 = (lastR a b).2.1 + 1 ∧ (writeR a b t).2.2 = true := by
  obtain ⟨q1, q2, q3⟩ := lastR_pos a b
  have hw := slotR_slotW (n := (lastR a b).2.1 + 1) (by omega) (by omega) t
  unfold writeR
  rw [if_neg (by omega)]
  rcases q3 with q | q
  · rw [if_pos q]
    have hb := lastR_zero a b q
    simp only
    generalize (lastR a b).2.1 = n at *
    have e : lastR (slotW (n + 1) t) b = (t, n + 1, 1) := by
      unfold lastR
      rw [hw]
      rw [if_neg (by simp only; omega), if_pos (by simp only; omega)]
    rw [e]
    exact ⟨rfl, rfl, trivial⟩
  · rw [if_neg (by omega)]
    have ha := lastR_one a b q
    simp only
    generalize (lastR a b).2.1 = n at *
    have e : lastR a (slotW (n + 1) t) = (t, n + 1, 0) := by
      unfold lastR
      rw [hw]
      rw [if_pos (by simp only; omega)]
    rw [e]
    exact ⟨rfl, rfl, trivial⟩
theorem write_full (a b t : List UInt8) (h : ¬ (lastR a b).2.1 < 9999) : writeR a b t = (a, b, false) := by
  unfold writeR
  rw [if_pos (by omega)]
theorem write_len1 (a b t : List UInt8) : (writeR a b t).1.length ≤ a.length + t.length + 200 := by
  obtain ⟨q1, q2, _⟩ := lastR_pos a b
  have := slotW_len (n := (lastR a b).2.1 + 1) (by omega) t
  unfold writeR
  split
  · simp only; omega
  · split <;> simp only <;> omega
theorem write_len2 (a b t : List UInt8) : (writeR a b t).2.1.length ≤ b.length + t.length + 200 := by
  obtain ⟨q1, q2, _⟩ := lastR_pos a b
  have := slotW_len (n := (lastR a b).2.1 + 1) (by omega) t
  unfold writeR
  split
  · simp only; omega
  · split <;> simp only <;> omega
end Go.Proofs.YtdbojdgppgphkaaDoor
