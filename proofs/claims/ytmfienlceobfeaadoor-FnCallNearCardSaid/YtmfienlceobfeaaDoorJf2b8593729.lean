/- Marks on policies: written, and looked for. Conditions: each contract's own. -/
import Derived.Test.YtmfienlceobfeaaDoorJbd5084ec53
namespace Go.Proofs.YtmfienlceobfeaaDoor
set_option linter.unusedSimpArgs false
open Go.RowKit
set_option linter.unusedVariables false
set_option linter.unnecessarySimpa false
/-- Test j when tests are marked from k on. -/
def mtst (k : Int) (j : Nat) : Tst := ⟨k + 4 * (j : Int), k + 4 * (j : Int) + 1, k + 4 * (j : Int) + 1 + 1, k + 4 * (j : Int) + 1 + 1 + 1⟩
def mtsts (k : Int) (n : Nat) : List Tst := (List.range n).map (mtst k)
theorem mtsts_len (k : Int) (n : Nat) : (mtsts k n).length = n := by simp [mtsts]
theorem mtsts_succ (k : Int) (n : Nat) : tsts (mtsts k (n + 1)) = tsts (mtsts k n) ++ (mtst k n).cells := by
  rw [mtsts, List.range_succ, List.map_append]
  simp [tsts, mtsts]
theorem mtsts_at (k : Int) {n j : Nat} (h : j < n) : (mtsts k n)[j]? = some (mtst k j) := by simp [mtsts, h]
/-- Rules marked from k on. -/
def mq : Int → List (Rl × Value) → List (Rl × Value)
  | _, [] => []
  | k, q :: qs => (⟨k, k + 1, k + 1 + 1, mtsts (k + 1 + 1 + 1) q.1.ts.length⟩, q.2) :: mq (k + 3 + 4 * (q.1.ts.length : Int)) qs
/-- How many marks there are. -/
def cnt (qs : List (Rl × Value)) : Nat := (qs.map (fun q => 3 + 4 * q.1.ts.length)).sum
theorem cnt_add (qs : List (Rl × Value)) (q : Rl × Value) : cnt (qs ++ [q]) = cnt qs + (3 + 4 * q.1.ts.length) := by simp [cnt]
theorem cnt_take {qs : List (Rl × Value)} {k : Nat} {q : Rl × Value} (h : qs[k]? = some q) : cnt (qs.take (k + 1)) = cnt (qs.take k) + (3 + 4 * q.1.ts.length) := by
  rw [List.take_add_one, h]
  exact cnt_add _ _
theorem cnt_le {qs : List (Rl × Value)} {k : Nat} : cnt (qs.take k) ≤ cnt qs := by
  have h : cnt qs = cnt (qs.take k) + cnt (qs.drop k) := by
    rw [cnt, ← List.take_append_drop k qs, List.map_append, List.sum_append, List.take_append_drop]; rfl
  omega
theorem cnt_ruleN (qs : List (Rl × Value)) : cnt qs = 3 * qs.length + 4 * ruleN (rls qs) := by
  induction qs with
  | nil => rfl
  | cons q qs ih =>
    simp only [cnt, ruleN, rls, List.map_cons, List.sum_cons, List.length_cons, List.map_map] at ih ⊢
    rw [ih]; omega
theorem mq_len (k : Int) (qs : List (Rl × Value)) : (mq k qs).length = qs.length := by
  induction qs generalizing k with
  | nil => rfl
  | cons q qs ih => simp [mq, ih]
theorem mq_snd (k : Int) (qs : List (Rl × Value)) : (mq k qs).map Prod.snd = qs.map Prod.snd := by
  induction qs generalizing k with
  | nil => rfl
  | cons q qs ih => simp [mq, ih]
theorem mq_tsl (k : Int) (qs : List (Rl × Value)) : (mq k qs).map (fun q => q.1.ts.length) = qs.map (fun q => q.1.ts.length) := by
  induction qs generalizing k with
  | nil => rfl
  | cons q qs ih => simp [mq, ih, mtsts_len]
theorem mq_add (k : Int) (qs : List (Rl × Value)) (q : Rl × Value) : mq k (qs ++ [q]) = mq k qs ++ [(⟨k + (cnt qs : Int), k + (cnt qs : Int) + 1, k + (cnt qs : Int) + 1 + 1, mtsts (k + (cnt qs : Int) + 1 + 1 + 1) q.1.ts.length⟩, q.2)] := by
  induction qs generalizing k with
  | nil => simp [mq, cnt]
  | cons p qs ih =>
    have e : k + 3 + 4 * (p.1.ts.length : Int) + (cnt qs : Int) = k + (cnt (p :: qs) : Int) := by simp [cnt]; omega
    rw [List.cons_append, mq, ih, mq, e, List.cons_append]
theorem mq_at {k : Int} {qs : List (Rl × Value)} {j : Nat} {q : Rl × Value} (h : qs[j]? = some q) : (mq k qs)[j]? = some (⟨k + (cnt (qs.take j) : Int), k + (cnt (qs.take j) : Int) + 1, k + (cnt (qs.take j) : Int) + 1 + 1, mtsts (k + (cnt (qs.take j) : Int) + 1 + 1 + 1) q.1.ts.length⟩, q.2) := by
  induction qs generalizing k j with
  | nil => simp at h
  | cons p qs ih =>
    cases j with
    | zero =>
      simp at h
      subst h
      simp [mq, cnt]
    | succ j =>
      have := ih (k := k + 3 + 4 * (p.1.ts.length : Int)) (by simpa using h)
      have e : k + 3 + 4 * (p.1.ts.length : Int) + (cnt (qs.take j) : Int) = k + (cnt ((p :: qs).take (j + 1)) : Int) := by simp [cnt]; omega
      rw [e] at this
      simpa [mq] using this
theorem Apart.snd {qs qs' : List (Rl × Value)} (h : Apart qs) (e : qs'.map Prod.snd = qs.map Prod.snd) : Apart qs' := by
  intro i j a b hij ha hb
  have key : ∀ (i : Nat) (a : Rl × Value), qs'[i]? = some a → ∃ x, qs[i]? = some x ∧ x.2 = a.2 := fun i a ha => by
    have h1 : (qs'.map Prod.snd)[i]? = some a.2 := by simp [ha]
    rw [e] at h1
    simp only [List.getElem?_map, Option.map_eq_some_iff] at h1
    obtain ⟨x, hx, hx2⟩ := h1
    exact ⟨x, hx, hx2⟩
  obtain ⟨x, hx, ex⟩ := key i a ha
  obtain ⟨y, hy, ey⟩ := key j b hb
  have := h i j x y hij hx hy
  rwa [ex, ey] at this
theorem own_someP {w : World} {base e size n c : Nat} {A : Option Addr} {xs : List Value} (h : w.ownsRow base e size (.slice A n c) n xs) (hn : 0 < n) : ∃ g, A = some ⟨g, 0, none⟩ := by
  rcases h.2 with ⟨_, h0⟩ | ⟨g, cap, cur, hv, _⟩
  · omega
  · exact ⟨g, by injection hv⟩
end Go.Proofs.YtmfienlceobfeaaDoor
