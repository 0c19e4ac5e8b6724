/- All choices of places in lists, the last list going on first: the next choice, and all of them. No condition but each lemma's own. -/
import Derived.Test.YtmfienlceobfeaaDoorBase
namespace Go.Proofs.YtmfienlceobfeaaDoor
set_option linter.unusedSimpArgs false
open Go.RowKit
set_option linter.unusedVariables false
set_option linter.unnecessarySimpa false
/-- The choice behind one; none behind the last. -/
def nextN : List Nat → List Nat → Option (List Nat)
  | n :: ns, a :: as1 => match nextN ns as1 with
    | some bs => some (a :: bs)
    | none => if a + 1 < n then some ((a + 1) :: ns.map (fun _ => 0)) else none
  | _, _ => none
def allN : List Nat → List (List Nat)
  | [] => [[]]
  | n :: ns => (List.range n).flatMap (fun i => (allN ns).map (i :: ·))
/-- So many choices from one on. -/
def goN (ls : List Nat) : Nat → List Nat → List (List Nat)
  | 0, _ => []
  | k + 1, a => a :: match nextN ls a with | some b => goN ls k b | none => []
theorem flatN_len {α : Type} (Y : List α) (f : Nat → α → α) (n : Nat) : ((List.range n).flatMap (fun i => Y.map (f i))).length = n * Y.length := by
  induction n with
  | zero => simp
  | succ n ih => rw [List.range_succ, List.flatMap_append, List.length_append, ih]; simp [Nat.succ_mul]
theorem flatN_at {α : Type} (Y : List α) (f : Nat → α → α) (n : Nat) {i j : Nat} (hi : i < n) (hj : j < Y.length) : ((List.range n).flatMap (fun i => Y.map (f i)))[i * Y.length + j]? = (Y[j]?).map (f i) := by
  induction n with
  | zero => omega
  | succ n ih =>
    rw [List.range_succ, List.flatMap_append]
    have hl := flatN_len Y f n
    by_cases h : i < n
    · have h1 : i * Y.length + j < n * Y.length := by
        have : (i + 1) * Y.length ≤ n * Y.length := Nat.mul_le_mul_right _ h
        rw [Nat.succ_mul] at this
        omega
      rw [List.getElem?_append_left (by omega), ih h]
    · have hin : i = n := by omega
      subst hin
      rw [List.getElem?_append_right (by omega), hl, Nat.add_sub_cancel_left]
      simp
/-- All choices: the first is the noughts, and each is followed by its next. -/
theorem allN_step : ∀ (ls : List Nat), (∀ n ∈ ls, 0 < n) → (allN ls)[0]? = some (ls.map (fun _ => 0)) ∧ ∀ k a, (allN ls)[k]? = some a → nextN ls a = (allN ls)[k + 1]?
  | [], _ => ⟨rfl, fun k a h => by
      have hk := (List.getElem?_eq_some_iff.1 h).1
      simp [allN] at hk
      subst hk
      simp [allN] at h
      subst h
      rfl⟩
  | n :: ns, hp => by
    obtain ⟨h0, hs⟩ := allN_step ns (fun x hx => hp x (List.mem_cons_of_mem _ hx))
    have hn : 0 < n := hp n List.mem_cons_self
    have hm : 0 < (allN ns).length := (List.getElem?_eq_some_iff.1 h0).1
    have hl := flatN_len (allN ns) (fun (i : Nat) (y : List Nat) => i :: y) n
    refine ⟨?_, fun k a h => ?_⟩
    · have := flatN_at (allN ns) (fun (i : Nat) (y : List Nat) => i :: y) n hn hm
      rw [Nat.zero_mul, Nat.zero_add] at this
      show ((List.range n).flatMap (fun i => (allN ns).map (i :: ·)))[0]? = _
      rw [this, h0]
      rfl
    · have hk : k < n * (allN ns).length := by
        have := (List.getElem?_eq_some_iff.1 h).1
        show k < n * (allN ns).length
        rw [← hl]; exact this
      obtain ⟨i, j, rfl, hi, hj⟩ : ∃ i j, k = i * (allN ns).length + j ∧ i < n ∧ j < (allN ns).length := by
        refine ⟨k / (allN ns).length, k % (allN ns).length, ?_, ?_, Nat.mod_lt _ hm⟩
        · have := Nat.div_add_mod k (allN ns).length
          rw [Nat.mul_comm] at this
          exact this.symm
        · exact Nat.div_lt_of_lt_mul (by rw [Nat.mul_comm]; exact hk)
      have e := flatN_at (allN ns) (fun (i : Nat) (y : List Nat) => i :: y) n hi hj
      have h' : ((List.range n).flatMap (fun i => (allN ns).map (i :: ·)))[i * (allN ns).length + j]? = some a := h
      rw [e] at h'
      obtain ⟨y, hy⟩ := some_at (l := allN ns) rfl hj
      rw [hy] at h'
      injection h' with h'
      subst h'
      have hsy := hs j y hy
      show (match nextN ns y with | some bs => some (i :: bs) | none => if i + 1 < n then some ((i + 1) :: ns.map (fun _ => 0)) else none) = ((List.range n).flatMap (fun i => (allN ns).map (i :: ·)))[i * (allN ns).length + j + 1]?
      by_cases hj1 : j + 1 < (allN ns).length
      · obtain ⟨y', hy'⟩ := some_at (l := allN ns) rfl hj1
        rw [hsy, hy', Nat.add_assoc, flatN_at (allN ns) (fun (i : Nat) (y : List Nat) => i :: y) n hi hj1, hy']
        rfl
      · rw [hsy, List.getElem?_eq_none (show (allN ns).length ≤ j + 1 by omega)]
        have he : i * (allN ns).length + j + 1 = (i + 1) * (allN ns).length + 0 := by rw [Nat.succ_mul]; omega
        rw [he]
        by_cases hi1 : i + 1 < n
        · rw [flatN_at (allN ns) (fun (i : Nat) (y : List Nat) => i :: y) n hi1 hm, h0]
          simp [hi1]
        · have hin : i + 1 = n := by omega
          rw [List.getElem?_eq_none (by rw [hl, hin]; omega)]
          simp [hi1]
theorem goN_drop (ls : List Nat) (hp : ∀ n ∈ ls, 0 < n) : ∀ (N k : Nat) (a : List Nat), (allN ls)[k]? = some a → goN ls N a = ((allN ls).drop k).take N
  | 0, k, a, h => by simp [goN]
  | N + 1, k, a, h => by
    have hk := (List.getElem?_eq_some_iff.1 h).1
    have ha : (allN ls)[k] = a := (List.getElem?_eq_some_iff.1 h).2
    rw [goN, (allN_step ls hp).2 k a h, List.drop_eq_getElem_cons hk, List.take_succ_cons, ha]
    congr 1
    cases hx : (allN ls)[k + 1]? with
    | none =>
      have : (allN ls).length ≤ k + 1 := List.getElem?_eq_none_iff.1 hx
      rw [List.drop_of_length_le this]; simp
    | some b => exact goN_drop ls hp N (k + 1) b hx
theorem goN_all (ls : List Nat) (hp : ∀ n ∈ ls, 0 < n) (N : Nat) : goN ls N (ls.map (fun _ => 0)) = (allN ls).take N := by
  have := goN_drop ls hp N 0 _ (allN_step ls hp).1
  rw [this, List.drop_zero]
/-- A choice is one of places that are there. -/
theorem allN_mem : ∀ (ls a : List Nat), a ∈ allN ls ↔ a.length = ls.length ∧ ∀ (i x n : Nat), a[i]? = some x → ls[i]? = some n → x < n
  | [], a => by
    simp only [allN, List.mem_singleton]
    constructor
    · rintro rfl; exact ⟨rfl, fun i x n h => by simp at h⟩
    · rintro ⟨h, _⟩; exact List.eq_nil_of_length_eq_zero h
  | n :: ns, a => by
    simp only [allN, List.mem_flatMap, List.mem_range, List.mem_map]
    constructor
    · rintro ⟨i, hi, y, hy, rfl⟩
      obtain ⟨h1, h2⟩ := (allN_mem ns y).1 hy
      refine ⟨by simp [h1], fun j x m hx hm => ?_⟩
      cases j with
      | zero => simp at hx hm; omega
      | succ j => exact h2 j x m (by simpa using hx) (by simpa using hm)
    · rintro ⟨h1, h2⟩
      cases a with
      | nil => simp at h1
      | cons x y =>
        exact ⟨x, h2 0 x n rfl rfl, y, (allN_mem ns y).2 ⟨by simpa using h1, fun j z m hz hm => h2 (j + 1) z m (by simpa using hz) (by simpa using hm)⟩, rfl⟩
/-- The next one is another one. -/
theorem nextN_ne : ∀ (ls a b : List Nat), nextN ls a = some b → a ≠ b
  | [], a, b, h => by cases a <;> simp [nextN] at h
  | n :: ns, [], b, h => by simp [nextN] at h
  | n :: ns, x :: y, b, h => by
    rw [nextN] at h
    cases e : nextN ns y with
    | some c =>
      rw [e] at h
      simp only [Option.some.injEq] at h
      subst h
      intro hh
      injection hh with _ hh
      exact nextN_ne ns y c e hh
    | none =>
      rw [e] at h
      simp only at h
      split at h
      · injection h with h
        subst h
        intro hh
        injection hh with hh _
        omega
      · cases h
theorem nextN_len : ∀ (ls a b : List Nat), nextN ls a = some b → a.length = ls.length → b.length = ls.length
  | [], a, b, h, _ => by cases a <;> simp [nextN] at h
  | n :: ns, [], b, h, _ => by simp [nextN] at h
  | n :: ns, x :: y, b, h, hl => by
    rw [nextN] at h
    cases e : nextN ns y with
    | some c =>
      rw [e] at h
      simp only [Option.some.injEq] at h
      subst h
      have := nextN_len ns y c e (by simpa using hl)
      simp [this]
    | none =>
      rw [e] at h
      simp only at h
      split at h
      · injection h with h
        subst h
        simp
      · cases h
/-- How the code comes to the next one: from the last list on, what stands at its end goes to nought. -/
theorem nextN_carry {ls a zs : List Nat} {n x : Nat} {ms : List Nat} (hl : a.length = ls.length) (hz : zs.length = ms.length) (h : nextN ms zs = none) :
    nextN (ls ++ n :: ms) (a ++ x :: zs) = if x + 1 < n then some (a ++ (x + 1) :: ms.map (fun _ => 0)) else nextN (ls ++ n :: ms) (a ++ x :: zs) := by
  split
  · rename_i hx
    induction ls generalizing a with
    | nil =>
      have : a = [] := List.eq_nil_of_length_eq_zero hl
      subst this
      simp [nextN, h, hx]
    | cons m ls ih =>
      cases a with
      | nil => simp at hl
      | cons y a =>
        have := ih (a := a) (by simpa using hl)
        simp only [List.cons_append, nextN]
        rw [this]
  · rfl
theorem nextN_end {n x : Nat} {ms zs : List Nat} (hx : ¬ x + 1 < n) (h : nextN ms zs = none) : nextN (n :: ms) (x :: zs) = none := by
  rw [nextN, h]
  simp [hx]
end Go.Proofs.YtmfienlceobfeaaDoor
