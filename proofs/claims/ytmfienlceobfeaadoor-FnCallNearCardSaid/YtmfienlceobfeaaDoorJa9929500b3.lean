/- Plain words on policies: what the laws say of them. No condition. -/
import Derived.Test.YtmfienlceobfeaaDoorJc91dc9a385
import Derived.Test.YtmfienlceobfeaaDoorJe17d57b08f
namespace Go.Proofs.YtmfienlceobfeaaDoor
set_option linter.unusedSimpArgs false
open Go.RowKit
set_option linter.unusedVariables false
set_option linter.unnecessarySimpa false
theorem polOk_all {rs : List Rl} {e : Int} (h : polOk ⟨rs, e⟩ = true) : rs.length ≤ 8 ∧ rs.all ruleB = true ∧ ruleB.verB' e = true ∧ (textT ⟨rs, e⟩).length ≤ 900 := by
  simp only [polOk, polB, Bool.and_eq_true, decide_eq_true_eq] at h
  exact ⟨h.1.1.1, h.1.2, h.1.1.2, h.2⟩
theorem polOk_mk {rs : List Rl} {e : Int} (h1 : rs.length ≤ 8) (h2 : rs.all ruleB = true) (h3 : ruleB.verB' e = true) (h4 : (textT ⟨rs, e⟩).length ≤ 900) : polOk ⟨rs, e⟩ = true := by
  simp only [polOk, polB, Bool.and_eq_true, decide_eq_true_eq]
  exact ⟨⟨⟨h1, h3⟩, h2⟩, h4⟩
theorem text_len (rs : List Rl) (e : Int) : (textT ⟨rs, e⟩).length = (linesT rs).length + 6 + (wordT e).length := by
  simp [textT]; omega
theorem polOk_few {rs : List Rl} {e : Int} (h1 : rs.length ≤ 4) (h2 : rs.all ruleB = true) (h3 : ruleB.verB' e = true) : polOk ⟨rs, e⟩ = true :=
  polOk_mk (by omega) h2 h3 (by
    have h := lines_len h2
    have h' := word_len e
    rw [text_len]
    omega)
theorem polOk_els {rs : List Rl} {e : Int} (h : polOk ⟨rs, e⟩ = true) : 1 ≤ e ∧ e ≤ 4 := by
  have := (polOk_all h).2.2.1
  simpa [ruleB.verB'] using this
theorem verB'_mk {e : Int} (h0 : 1 ≤ e) (h1 : e ≤ 4) : ruleB.verB' e = true := by simp [ruleB.verB']; omega
theorem polV_eq (p : Pol) (num : Int) (xs : List Int) : polV p num xs = ((p.rs.find? (ruleFitsB num xs)).map Rl.v).getD p.els := by
  unfold polV
  cases p.rs.find? (ruleFitsB num xs) <;> rfl
theorem polOfV_yes {p : Pol} {num : Int} {xs : List Int} (h : polOk p = true) (hc : callB num xs = true) : polOfV p num xs = polV p num xs := by
  unfold polOfV
  rw [h, hc]; rfl
theorem polOfV_no {p : Pol} {num : Int} {xs : List Int} (h : (polOk p && callB num xs) = false) : polOfV p num xs = 4 := by
  unfold polOfV
  rw [h]; rfl
theorem polFitV_yes {p : Pol} {num : Int} {xs : List Int} (h : polOk p = true) (hc : callB num xs = true) : polFitV p num xs = fitV p num xs := by
  unfold polFitV
  rw [h, hc]; rfl
theorem polFitV_no {p : Pol} {num : Int} {xs : List Int} (h : (polOk p && callB num xs) = false) : polFitV p num xs = -1 := by
  unfold polFitV
  rw [h]; rfl
/-- Whether a rule fits, and what it says. -/
theorem fit_cases (p : Pol) (num : Int) (xs : List Int) : (fitV p num xs = 0 ∧ polV p num xs = p.els ∧ p.rs.find? (ruleFitsB num xs) = none) ∨
    ∃ (k : Nat) (r : Rl), fitV p num xs = (k : Int) + 1 ∧ p.rs[k]? = some r ∧ polV p num xs = r.v ∧ p.rs.find? (ruleFitsB num xs) = some r := by
  cases h : p.rs.findIdx? (ruleFitsB num xs) with
  | none =>
    have h2 : p.rs.find? (ruleFitsB num xs) = none := by
      rw [List.findIdx?_eq_none_iff] at h
      exact List.find?_eq_none.2 fun x hx => by rw [h x hx]; exact Bool.false_ne_true
    left
    simp only [fitV, polV, h, h2, and_self]
  | some k =>
    right
    obtain ⟨hk, hp, hb⟩ := List.findIdx?_eq_some_iff_getElem.1 h
    have hk' : p.rs[k]? = some p.rs[k] := List.getElem?_eq_getElem hk
    have := (find_at (p := ruleFitsB num xs) hk' hp (by
      rw [List.all_eq_true]
      intro x hx
      obtain ⟨j, hj, rfl⟩ := List.getElem_of_mem hx
      have hjk : j < k := by rw [List.length_take] at hj; omega
      rw [List.getElem_take]
      have := hb j hjk
      simpa using this)).1
    refine ⟨k, p.rs[k], ?_, hk', ?_, this⟩
    · simp only [fitV, h]
    · simp only [polV, this]
/-- P4. -/
theorem first_law {rs : List Rl} {e num : Int} {xs : List Int} (hok : polOk ⟨rs, e⟩ = true) (hc : callB num xs = true) (h4 : rs.length ≤ 4) (n : Nat) :
    (polOfV ⟨rs.take n, 5 - e⟩ num xs = polOfV ⟨rs, e⟩ num xs ∧ polOfV ⟨rs.take n, e⟩ num xs = polOfV ⟨rs, e⟩ num xs) ∨ (polOfV ⟨rs.take n, 5 - e⟩ num xs = 5 - e ∧ polOfV ⟨rs.take n, e⟩ num xs = e) := by
  have ha := polOk_all hok
  have he := polOk_els hok
  have hl : (rs.take n).length ≤ 4 := by rw [List.length_take]; omega
  have k1 : polOk ⟨rs.take n, 5 - e⟩ = true := polOk_few hl (take_all_of n ha.2.1) (verB'_mk (by omega) (by omega))
  have k2 : polOk ⟨rs.take n, e⟩ = true := polOk_few hl (take_all_of n ha.2.1) ha.2.2.1
  rw [polOfV_yes hok hc, polOfV_yes k1 hc, polOfV_yes k2 hc, polV_eq, polV_eq, polV_eq]
  cases h : (rs.take n).find? (ruleFitsB num xs) with
  | none => right; exact ⟨rfl, rfl⟩
  | some r =>
    left
    have : rs.find? (ruleFitsB num xs) = some r := by
      rw [← List.take_append_drop n rs, List.find?_append, h]; rfl
    simp only [this, Option.map_some, Option.getD_some, and_self]
theorem none_law {e num : Int} {xs : List Int} (he : 1 ≤ e ∧ e ≤ 4) (hc : callB num xs = true) : polOfV ⟨[], e⟩ num xs = e := by
  rw [polOfV_yes (polOk_few (by simp) (by simp) (verB'_mk he.1 he.2)) hc]; rfl
/-- The rules with the i-th as two. -/
def splitR (rs : List Rl) (i : Nat) (r : Rl) (m : Int) : List Rl := rs.take i ++ [⟨r.v, r.lo, m, r.ts⟩, ⟨r.v, m + 1, r.hi, r.ts⟩] ++ rs.drop (i + 1)
/-- P5. -/
theorem split_law {rs : List Rl} {e num : Int} {xs : List Int} {i : Nat} {r : Rl} {m : Int} (hi : rs[i]? = some r) (h1 : r.lo ≤ m) (h2 : m ≤ r.hi) : polV ⟨splitR rs i r m, e⟩ num xs = polV ⟨rs, e⟩ num xs := by
  have hrs : rs = rs.take i ++ r :: rs.drop (i + 1) := by
    obtain ⟨hl, rfl⟩ := List.getElem?_eq_some_iff.1 hi
    rw [List.getElem_cons_drop, List.take_append_drop]
  rw [polV_eq, polV_eq]
  show (((splitR rs i r m).find? (ruleFitsB num xs)).map Rl.v).getD e = ((rs.find? (ruleFitsB num xs)).map Rl.v).getD e
  congr 1
  conv => rhs; rw [hrs]
  unfold splitR
  rw [List.append_assoc, List.cons_append, List.cons_append, List.nil_append, List.find?_append, List.find?_append]
  cases h : (rs.take i).find? (ruleFitsB num xs) with
  | some x => rfl
  | none =>
    simp only [Option.none_or]
    rw [List.find?_cons, List.find?_cons, List.find?_cons]
    by_cases ht : r.ts.all (fitsT num xs) = true
    · simp only [ruleFitsB, ht, Bool.and_true]
      by_cases hm : num ≤ m
      · by_cases hlo : r.lo ≤ num
        · have e1 : decide (r.lo ≤ num ∧ num ≤ m) = true := by simp; omega
          have e2 : decide (r.lo ≤ num ∧ num ≤ r.hi) = true := by simp; omega
          simp only [e1, e2, Option.map_some]
        · have e1 : decide (r.lo ≤ num ∧ num ≤ m) = false := by simp; omega
          have e2 : decide (r.lo ≤ num ∧ num ≤ r.hi) = false := by simp; omega
          have e3 : decide (m + 1 ≤ num ∧ num ≤ r.hi) = false := by simp; omega
          simp only [e1, e2, e3]
      · have e1 : decide (r.lo ≤ num ∧ num ≤ m) = false := by simp; omega
        by_cases hh : num ≤ r.hi
        · have e2 : decide (r.lo ≤ num ∧ num ≤ r.hi) = true := by simp; omega
          have e3 : decide (m + 1 ≤ num ∧ num ≤ r.hi) = true := by simp; omega
          simp only [e1, e2, e3, Option.map_some]
        · have e2 : decide (r.lo ≤ num ∧ num ≤ r.hi) = false := by simp; omega
          have e3 : decide (m + 1 ≤ num ∧ num ≤ r.hi) = false := by simp; omega
          simp only [e1, e2, e3]
    · have ht' : r.ts.all (fitsT num xs) = false := by simpa using ht
      simp only [ruleFitsB, ht', Bool.and_false]
/-- P46. -/
theorem fit_law {p : Pol} {num : Int} {xs : List Int} (hok : polOk p = true) (hc : callB num xs = true) :
    (polFitV p num xs = 0 ∧ polOfV p num xs = p.els) ∨ ∃ (k : Nat) (r : Rl), polFitV p num xs = (k : Int) + 1 ∧ p.rs[k]? = some r ∧ polOfV p num xs = r.v := by
  rw [polFitV_yes hok hc, polOfV_yes hok hc]
  rcases fit_cases p num xs with ⟨h1, h2, _⟩ | ⟨k, r, h1, h2, h3, _⟩
  · exact .inl ⟨h1, h2⟩
  · exact .inr ⟨k, r, h1, h2, h3⟩
/-- P47. -/
theorem join_law {p q : Pol} {num : Int} {xs : List Int} (h1 : polOk p = true) (h2 : polOk q = true) (h3 : polOk ⟨p.rs ++ q.rs, q.els⟩ = true) :
    polOfV ⟨p.rs ++ q.rs, q.els⟩ num xs = if 0 < polFitV p num xs then polOfV p num xs else polOfV q num xs := by
  by_cases hc : callB num xs = true
  · rw [polFitV_yes h1 hc, polOfV_yes h1 hc, polOfV_yes h2 hc, polOfV_yes h3 hc]
    rw [polV_eq]
    show (((p.rs ++ q.rs).find? (ruleFitsB num xs)).map Rl.v).getD q.els = _
    rw [List.find?_append]
    rcases fit_cases p num xs with ⟨a1, a2, a3⟩ | ⟨k, r, a1, a2, a3, a4⟩
    · rw [a3, a1, if_neg (by omega), polV_eq]; rfl
    · rw [a4, a1, if_pos (by omega), a3]; rfl
  · have hc' : callB num xs = false := by simpa using hc
    rw [polFitV_no (by rw [hc', Bool.and_false]), polOfV_no (by rw [hc', Bool.and_false]), polOfV_no (by rw [hc', Bool.and_false]), polOfV_no (by rw [hc', Bool.and_false])]
    simp
/-- P48: nothing ahead, or nothing behind but what is said of all else. -/
theorem behind_law {p : Pol} {e num : Int} {xs : List Int} (h1 : polOk p = true) (h3 : polOk ⟨p.rs, e⟩ = true) :
    polOfV ⟨p.rs, e⟩ num xs = if polFitV p num xs = 0 then e else polOfV p num xs := by
  by_cases hc : callB num xs = true
  · rw [polFitV_yes h1 hc, polOfV_yes h1 hc, polOfV_yes h3 hc]
    rw [polV_eq ⟨p.rs, e⟩]
    show ((p.rs.find? (ruleFitsB num xs)).map Rl.v).getD e = _
    rcases fit_cases p num xs with ⟨a1, a2, a3⟩ | ⟨k, r, a1, a2, a3, a4⟩
    · rw [a3, a1, if_pos rfl]; rfl
    · rw [a4, a1, if_neg (by omega), a3]; rfl
  · have hc' : callB num xs = false := by simpa using hc
    rw [polFitV_no (by rw [hc', Bool.and_false]), polOfV_no (by rw [hc', Bool.and_false]), polOfV_no (by rw [hc', Bool.and_false])]
    simp
end Go.Proofs.YtmfienlceobfeaaDoor
