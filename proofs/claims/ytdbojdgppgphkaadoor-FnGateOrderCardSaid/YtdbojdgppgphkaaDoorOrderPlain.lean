/- Plain words on orders: when two orders differ. No condition but each lemma's own. -/
import Derived.Test.YtdbojdgppgphkaaDoorOrder
namespace Go.Proofs.YtdbojdgppgphkaaDoor
set_option linter.unusedSimpArgs false
open Go.RowKit
set_option linter.unusedVariables false
theorem ba_list (a b : ByteArray) : (a ++ b).data.toList = a.data.toList ++ b.data.toList := by
  rw [ByteArray.data_append, Array.toList_append]
theorem ba_ext {a b : ByteArray} (h : a.data.toList = b.data.toList) : a = b := by
  cases a; cases b
  simp only at h
  congr 1
  exact Array.toList_inj.1 h
theorem str_ne {a b : ByteArray} (h : a ≠ b) : (a.toList == b.toList) = false := by
  rw [beq_eq_false_iff_ne]
  intro e
  rw [ByteArray.toList_eq, ByteArray.toList_eq] at e
  exact h (ba_ext e)
theorem ba_left {a b c d : ByteArray} (h : a ++ b = c ++ d) (hs : b.size = d.size) : a = c ∧ b = d := by
  have h1 : (a ++ b).data.toList = (c ++ d).data.toList := by rw [h]
  rw [ba_list, ba_list] at h1
  have := List.append_inj' h1 hs
  exact ⟨ba_ext this.1, ba_ext this.2⟩
theorem ba_right {a b d : ByteArray} (h : a ++ b = a ++ d) : b = d := by
  have h1 : (a ++ b).data.toList = (a ++ d).data.toList := by rw [h]
  rw [ba_list, ba_list] at h1
  exact ba_ext (List.append_cancel_left h1)
theorem order_eq {k k' t t' : ByteArray} {n n' : Int} (h : orderB k n t = orderB k' n' t') : headB n t = headB n' t' ∧ macB k (headB n t) = macB k' (headB n' t') := by
  unfold orderB at h
  obtain ⟨h1, h2⟩ := ba_left h (by rw [macB_size, macB_size])
  exact ⟨(ba_left h1 rfl).1, h2⟩
theorem head_eq {t t' : ByteArray} {n n' : Int} (h : headB n t = headB n' t') : itoaB n = itoaB n' ∧ sumB t = sumB t' := by
  unfold headB at h
  obtain ⟨h1, h2⟩ := ba_left h (by rw [sumB_size, sumB_size])
  exact ⟨ba_right (ba_left h1 rfl).1, h2⟩
theorem itoa_next {n : Int} (h0 : -1 ≤ n) (h1 : n ≤ 7) : itoaB n ≠ itoaB (n + 1) := by
  have h : n = -1 ∨ n = 0 ∨ n = 1 ∨ n = 2 ∨ n = 3 ∨ n = 4 ∨ n = 5 ∨ n = 6 ∨ n = 7 := by omega
  rcases h with rfl | rfl | rfl | rfl | rfl | rfl | rfl | rfl | rfl <;> decide +kernel
/-- Another number, another order. -/
theorem order_num {k t : ByteArray} {n : Int} (h0 : -1 ≤ n) (h1 : n ≤ 7) : orderB k n t ≠ orderB k (n + 1) t := fun h =>
  itoa_next h0 h1 (head_eq (order_eq h).1).1
/-- Another sum, another order. -/
theorem order_sum {k t t' : ByteArray} {n : Int} (h : sumB t ≠ sumB t') : orderB k n t ≠ orderB k n t' := fun e =>
  h (head_eq (order_eq e).1).2
/-- Another tag, another order. -/
theorem order_tag {k k' t : ByteArray} {n : Int} (h : macB k (headB n t) ≠ macB k' (headB n t)) : orderB k n t ≠ orderB k' n t := fun e =>
  h (order_eq e).2
theorem order_size (k t : ByteArray) (n : Int) : (orderB k n t).size = (headB n t).size + 65 := by
  unfold orderB
  rw [ByteArray.size_append, ByteArray.size_append, macB_size]
  have : (⟨#[32]⟩ : ByteArray).size = 1 := rfl
  omega
theorem head_pos (t : ByteArray) (n : Int) : 70 ≤ (headB n t).size := by
  unfold headB
  rw [ByteArray.size_append, ByteArray.size_append, ByteArray.size_append, sumB_size]
  have : (⟨#[111, 114, 100, 101, 114, 32]⟩ : ByteArray).size = 6 := rfl
  omega
theorem order_cut (k t : ByteArray) (n : Int) : (orderB k n t).extract 0 (headB n t).size = headB n t := by
  apply ba_ext
  unfold orderB
  rw [ByteArray.data_extract, Array.toList_extract, ba_list, ba_list]
  simp only [List.extract_eq_take_drop, List.drop_zero, Nat.sub_zero]
  rw [List.append_assoc, List.take_append_of_le_length (by show _ ≤ (headB n t).size; omega), List.take_of_length_le (by show (headB n t).size ≤ _; omega)]
end Go.Proofs.YtdbojdgppgphkaaDoor
