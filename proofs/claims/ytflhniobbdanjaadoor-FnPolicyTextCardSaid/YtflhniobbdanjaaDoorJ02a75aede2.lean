/- A text cut at each byte of one kind: both sides' ways. Conditions: each lemma's own. -/
import Derived.Test.YtflhniobbdanjaaDoorJ062e46fd56
import Derived.Lib.SplitLaws
namespace Go.Proofs.YtflhniobbdanjaaDoor
set_option linter.unusedSimpArgs false
open Go.RowKit
set_option linter.unusedVariables false
set_option linter.unnecessarySimpa false
/-- A text cut at each byte c. -/
def cuts (c : UInt8) : List UInt8 → List (List UInt8)
  | [] => [[]]
  | x :: t => if x = c then [] :: cuts c t else match cuts c t with
    | h :: r => (x :: h) :: r
    | [] => [[x]]
theorem cuts_ne (c : UInt8) (l : List UInt8) : cuts c l ≠ [] := by
  cases l with
  | nil => simp [cuts]
  | cons x t =>
    rw [cuts]
    split
    · simp
    · split <;> simp
theorem cuts_no {c : UInt8} {l : List UInt8} (h : c ∉ l) : cuts c l = [l] := by
  induction l with
  | nil => rfl
  | cons x t ih =>
    rw [List.mem_cons, not_or] at h
    rw [cuts, if_neg (Ne.symm h.1), ih h.2]
theorem cuts_app {c : UInt8} {a : List UInt8} (h : c ∉ a) (b : List UInt8) : cuts c (a ++ c :: b) = a :: cuts c b := by
  induction a with
  | nil => simp [cuts]
  | cons x t ih =>
    rw [List.mem_cons, not_or] at h
    rw [List.cons_append, cuts, if_neg (Ne.symm h.1), ih h.2]
/-- What is known of the pieces, one byte more. -/
theorem cuts_snoc (c x : UInt8) (l : List UInt8) : ∃ ps last, cuts c l = ps ++ [last] ∧ cuts c (l ++ [x]) = if x = c then ps ++ [last, []] else ps ++ [last ++ [x]] := by
  induction l with
  | nil =>
    refine ⟨[], [], rfl, ?_⟩
    simp only [List.nil_append, cuts]
  | cons y t ih =>
    obtain ⟨ps, last, e1, e2⟩ := ih
    by_cases hy : y = c
    · refine ⟨[] :: ps, last, by rw [cuts, if_pos hy, e1]; rfl, ?_⟩
      rw [List.cons_append, cuts, if_pos hy, e2]
      split <;> rfl
    · cases ps with
      | nil =>
        refine ⟨[], y :: last, by rw [cuts, if_neg hy, e1]; rfl, ?_⟩
        rw [List.cons_append, cuts, if_neg hy, e2]
        by_cases hx : x = c
        · simp only [if_pos hx]; rfl
        · simp only [if_neg hx]; rfl
      | cons p ps =>
        refine ⟨(y :: p) :: ps, last, by rw [cuts, if_neg hy, e1]; rfl, ?_⟩
        rw [List.cons_append, cuts, if_neg hy, e2]
        by_cases hx : x = c
        · simp only [if_pos hx]; rfl
        · simp only [if_neg hx]; rfl
theorem cuts_len (c : UInt8) (l : List UInt8) : (cuts c l).length = l.count c + 1 := by
  induction l with
  | nil => rfl
  | cons x t ih =>
    rw [cuts]
    by_cases hx : x = c
    · rw [if_pos hx, hx, List.count_cons_self, List.length_cons, ih]
    · rw [if_neg hx, List.count_cons_of_ne hx]
      split
      · rename_i h r e
        rw [e] at ih
        simpa using ih
      · rename_i e
        exact absurd e (cuts_ne c t)
/-- The pieces, glued together again. -/
def glue (c : UInt8) : List (List UInt8) → List UInt8
  | [] => []
  | [a] => a
  | a :: b :: r => a ++ c :: glue c (b :: r)
theorem glue_cuts (c : UInt8) (l : List UInt8) : glue c (cuts c l) = l := by
  induction l with
  | nil => rfl
  | cons x t ih =>
    rw [cuts]
    split
    · rename_i hx
      cases e : cuts c t with
      | nil => exact absurd e (cuts_ne c t)
      | cons h r =>
        rw [e] at ih
        rw [glue, ih, hx]; rfl
    · split
      · rename_i h r e
        rw [e] at ih
        cases r with
        | nil => rw [glue] at ih ⊢; rw [ih]
        | cons b r =>
          rw [glue] at ih ⊢
          rw [List.cons_append, ih]
      · rename_i e
        exact absurd e (cuts_ne c t)
theorem cuts_free {c : UInt8} {l p : List UInt8} (h : p ∈ cuts c l) : c ∉ p := by
  induction l generalizing p with
  | nil => simp [cuts] at h; subst h; simp
  | cons x t ih =>
    rw [cuts] at h
    split at h
    · rcases List.mem_cons.1 h with rfl | h
      · simp
      · exact ih h
    · rename_i hx
      split at h
      · rename_i a r e
        rcases List.mem_cons.1 h with rfl | h
        · rw [List.mem_cons, not_or]
          exact ⟨fun e' => hx e'.symm, ih (by rw [e]; exact List.mem_cons_self)⟩
        · exact ih (by rw [e]; exact List.mem_cons_of_mem _ h)
      · rename_i e
        exact absurd e (cuts_ne c t)
/-- strings.Split at one byte. -/
theorem index_one (c : UInt8) (l : List UInt8) : (Lib.index l [c] = -1 ↔ c ∉ l) ∧ ∀ i : Nat, Lib.index l [c] = i → ∃ a b, l = a ++ c :: b ∧ a.length = i ∧ c ∉ a := by
  induction l with
  | nil => exact ⟨by simp [Lib.index], fun i h => by simp [Lib.index] at h⟩
  | cons x t ih =>
    rw [Lib.index]
    have hp : [c].isPrefixOf (x :: t) = true ↔ c = x := by simp [List.isPrefixOf]
    by_cases hx : c = x
    · rw [if_pos (hp.2 hx)]
      refine ⟨⟨fun h => by omega, fun h => absurd (by rw [hx]; exact List.mem_cons_self) h⟩, fun i h => ⟨[], t, by rw [hx]; rfl, by simp; omega, by simp⟩⟩
    · rw [if_neg (fun h => hx (hp.1 h))]
      by_cases hm : Lib.index t [c] = -1
      · rw [if_pos (beq_iff_eq.2 hm)]
        exact ⟨⟨fun _ => by rw [List.mem_cons, not_or]; exact ⟨hx, ih.1.1 hm⟩, fun _ => rfl⟩, fun i h => by omega⟩
      · rw [if_neg (fun h => hm (beq_iff_eq.1 h))]
        have hge := Lib.index_ge t [c]
        refine ⟨⟨fun h => by omega, fun h => by rw [List.mem_cons, not_or] at h; exact absurd (ih.1.2 h.2) hm⟩, fun i h => ?_⟩
        obtain ⟨a, b, e1, e2, e3⟩ := ih.2 (i - 1) (by omega)
        exact ⟨x :: a, b, by rw [e1]; rfl, by simp; omega, by rw [List.mem_cons, not_or]; exact ⟨hx, e3⟩⟩
theorem splitK_cuts (c : UInt8) : ∀ (k : Nat) (l : List UInt8), l.count c = k → Lib.splitK [c] 0 k l = cuts c l := by
  intro k
  induction k with
  | zero =>
    intro l h
    rw [cuts_no (List.count_eq_zero.1 h)]
    rfl
  | succ k ih =>
    intro l h
    have hm : c ∈ l := List.count_pos_iff.1 (by omega)
    have hge := Lib.index_ge l [c]
    have hne : Lib.index l [c] ≠ -1 := fun e => (index_one c l).1.1 e hm
    obtain ⟨a, b, e1, e2, e3⟩ := (index_one c l).2 (Lib.index l [c]).toNat (by omega)
    rw [Lib.splitK, if_neg (fun e => hne (beq_iff_eq.1 e))]
    have hcb : b.count c = k := by
      rw [e1, List.count_append, List.count_cons_self, List.count_eq_zero.2 e3] at h
      omega
    have d1 : l.take ((Lib.index l [c]).toNat + 0) = a := by
      rw [Nat.add_zero, ← e2]
      conv => lhs; rw [e1]
      simp
    have d2 : l.drop ((Lib.index l [c]).toNat + [c].length) = b := by
      rw [← e2]
      conv => lhs; rw [e1]
      simp
    rw [d1, d2, ih b hcb, e1, cuts_app e3]
theorem extract_list (s : ByteArray) (a b : Nat) : (s.extract a b).data.toList = (s.data.toList.take b).drop a := by
  rw [ByteArray.data_extract, List.drop_take]
  simp
theorem cutP_cuts (s : ByteArray) (c : UInt8) : ∀ i, i ≤ s.size → cuts c (s.data.toList.take i) = (cutP s c i).1.map (·.data.toList) ++ [(s.data.toList.take i).drop (cutP s c i).2] := by
  intro i
  induction i with
  | zero => intro _; simp [cutP, cuts]
  | succ i ih =>
    intro hi
    have e := ih (by omega)
    have hl : s.data.toList.length = s.size := by simp
    have hx : s.data.toList[i]? = some (s.data.toList[i]'(by omega)) := List.getElem?_eq_getElem _
    generalize s.data.toList[i]'(by omega) = x at hx
    have ht : s.data.toList.take (i + 1) = s.data.toList.take i ++ [x] := by rw [List.take_add_one, hx]; rfl
    have hfr := cutP_from s c i
    obtain ⟨ps, last, e1, e2⟩ := cuts_snoc c x (s.data.toList.take i)
    rw [e1] at e
    obtain ⟨h1, h2⟩ := List.append_inj' e rfl
    injection h2 with h2 _
    rw [ht, e2, cutP_succ, hx]
    by_cases hc : x = c
    · rw [if_pos hc, if_pos (by rw [hc])]
      simp only [List.map_append, List.map_cons, List.map_nil]
      rw [extract_list, ← h1, ← h2]
      have : (s.data.toList.take i ++ [x]).drop (i + 1) = [] := List.drop_eq_nil_of_le (by simp; omega)
      rw [this]
      simp
    · rw [if_neg hc, if_neg (by simpa using hc), ← h1]
      rw [List.drop_append_of_le_length (by simp; omega), ← h2]
theorem cutL_cuts (s : ByteArray) (c : UInt8) : (cutL s c).map (·.data.toList) = cuts c s.data.toList := by
  have h := cutP_cuts s c s.size (Nat.le_refl _)
  rw [List.take_of_length_le (by simp)] at h
  rw [h]
  unfold cutL
  rw [List.map_append]
  simp only [List.map_cons, List.map_nil]
  rw [extract_list, List.take_of_length_le (by simp)]
end Go.Proofs.YtflhniobbdanjaaDoor
