/- Plain words on policies without the rules that change nothing. No condition but each lemma's own. -/
import Derived.Test.YtljgaepgblakhaaDoorJ72c944463a
namespace Go.Proofs.YtljgaepgblakhaaDoor
set_option linter.unusedSimpArgs false
open Go.RowKit
set_option linter.unusedVariables false
set_option linter.unnecessarySimpa false
/-- A rule that fits whatever another one fits, as far as that is seen. -/
def covB (a r : Rl) : Bool := decide (a.lo ≤ r.lo) && (decide (r.hi ≤ a.hi) && a.ts.all (fun t => decide (t ∈ r.ts)))
def keepS (kept : List Rl) (r : Rl) : List Rl := if kept.any (fun a => covB a r) then kept else kept ++ [r]
def keepR (rs : List Rl) : List Rl := rs.foldl keepS []
/-- How many are left, without the last ones of a verdict. -/
def cutN (rs : List Rl) (e : Int) : Nat → Nat
  | 0 => 0
  | n + 1 => if (rs[n]?.map Rl.v) = some e then cutN rs e n else n + 1
def trimQ (rs : List Rl) (e : Int) : List Rl := (keepR rs).take (cutN (keepR rs) e (keepR rs).length)
def trimP (p : Pol) : Pol := if polOk p = true then ⟨trimQ p.rs p.els, p.els⟩ else ⟨[], 0⟩
theorem cutN_le (rs : List Rl) (e : Int) (n : Nat) : cutN rs e n ≤ n := by
  induction n with
  | zero => simp [cutN]
  | succ n ih =>
    rw [cutN]
    split <;> omega
theorem keep_sub (rs : List Rl) : ∀ (acc pre : List Rl), List.Sublist acc pre → List.Sublist (rs.foldl keepS acc) (pre ++ rs) := by
  induction rs with
  | nil => intro acc pre h; simpa using h
  | cons r rs ih =>
    intro acc pre h
    rw [List.foldl_cons, show pre ++ r :: rs = (pre ++ [r]) ++ rs from by simp]
    apply ih
    unfold keepS
    split
    · exact h.trans (List.sublist_append_left _ _)
    · exact h.append (List.Sublist.refl _)
theorem trim_sub (rs : List Rl) (e : Int) : List.Sublist (trimQ rs e) rs :=
  (List.take_sublist _ _).trans (by have h := keep_sub rs [] [] (List.Sublist.refl _); rw [List.nil_append] at h; exact h)
theorem lines_sub {l1 l2 : List Rl} (h : List.Sublist l1 l2) : (linesT l1).length ≤ (linesT l2).length := by
  induction h with
  | slnil => exact Nat.le_refl _
  | cons a h ih => simp only [linesT, List.map_cons, List.flatten_cons, List.length_append] at ih ⊢; omega
  | cons_cons a h ih => simp only [linesT, List.map_cons, List.flatten_cons, List.length_append] at ih ⊢; omega
theorem polOk_sub {l1 l2 : List Rl} {e : Int} (h : List.Sublist l1 l2) (hk : polOk ⟨l2, e⟩ = true) : polOk ⟨l1, e⟩ = true := by
  obtain ⟨h1, h2, h3, h4⟩ := polOk_all hk
  refine polOk_mk (Nat.le_trans h.length_le h1) ?_ h3 ?_
  · rw [List.all_eq_true] at h2 ⊢
    exact fun x hx => h2 x (h.subset hx)
  · rw [text_len] at h4 ⊢
    have := lines_sub h
    omega
theorem cov_fits {a r : Rl} {num : Int} {xs : List Int} (h : covB a r = true) (hr : ruleFitsB num xs r = true) : ruleFitsB num xs a = true := by
  simp only [covB, Bool.and_eq_true, decide_eq_true_eq, List.all_eq_true] at h
  simp only [ruleFitsB, Bool.and_eq_true, decide_eq_true_eq, List.all_eq_true] at hr ⊢
  exact ⟨⟨by omega, by omega⟩, fun t ht => hr.2 t (h.2.2 t ht)⟩
theorem keep_find {num : Int} {xs : List Int} (rs : List Rl) : ∀ acc : List Rl, (rs.foldl keepS acc).find? (ruleFitsB num xs) = (acc ++ rs).find? (ruleFitsB num xs) := by
  induction rs with
  | nil => intro acc; simp
  | cons r rs ih =>
    intro acc
    rw [List.foldl_cons, ih]
    unfold keepS
    split
    · rename_i hc
      rw [List.any_eq_true] at hc
      obtain ⟨a, ha, hca⟩ := hc
      rw [List.find?_append, List.find?_append, List.find?_cons]
      cases hr : ruleFitsB num xs r with
      | false => rfl
      | true =>
        have hfa := cov_fits hca hr
        cases hf : acc.find? (ruleFitsB num xs) with
        | some x => rfl
        | none =>
          rw [List.find?_eq_none] at hf
          exact absurd hfa (hf a ha)
    · simp
theorem keepR_find (rs : List Rl) (num : Int) (xs : List Int) : (keepR rs).find? (ruleFitsB num xs) = rs.find? (ruleFitsB num xs) := by
  unfold keepR
  rw [keep_find]
  rfl
theorem cut_val (rs : List Rl) (e : Int) (p : Rl → Bool) : ∀ n, n ≤ rs.length → (((rs.take (cutN rs e n)).find? p).map Rl.v).getD e = (((rs.take n).find? p).map Rl.v).getD e := by
  intro n
  induction n with
  | zero => intro _; rfl
  | succ n ih =>
    intro hn
    rw [cutN]
    obtain ⟨r, hr⟩ := some_at rfl (show n < rs.length by omega)
    rw [hr]
    by_cases hv : r.v = e
    · rw [if_pos (by simp [hv]), ih (by omega), List.take_add_one, hr, List.find?_append]
      cases hf : (rs.take n).find? p with
      | some x => rfl
      | none =>
        simp only [Option.toList, List.find?_cons, List.find?_nil, Option.none_or]
        cases p r <;> simp [hv]
    · rw [if_neg (by simp [hv])]
theorem trim_val (rs : List Rl) (e num : Int) (xs : List Int) : polV ⟨trimQ rs e, e⟩ num xs = polV ⟨rs, e⟩ num xs := by
  rw [polV_eq, polV_eq]
  show (((trimQ rs e).find? (ruleFitsB num xs)).map Rl.v).getD e = ((rs.find? (ruleFitsB num xs)).map Rl.v).getD e
  unfold trimQ
  rw [cut_val _ _ _ _ (Nat.le_refl _), List.take_length, keepR_find]
theorem trimP_ok {p : Pol} (h : polOk p = true) : polOk (trimP p) = true := by
  unfold trimP
  rw [if_pos h]
  exact polOk_sub (trim_sub _ _) h
/-- P52. -/
theorem trim_law {p : Pol} (h : polOk p = true) (num : Int) (xs : List Int) : polOfV (trimP p) num xs = polOfV p num xs := by
  have hx := trimP_ok h
  by_cases hc : callB num xs = true
  · rw [polOfV_yes hx hc, polOfV_yes h hc]
    unfold trimP
    rw [if_pos h]
    exact trim_val p.rs p.els num xs
  · have hc' : callB num xs = false := by simpa using hc
    rw [polOfV_no (by rw [hc', Bool.and_false]), polOfV_no (by rw [hc', Bool.and_false])]
theorem trim_len {p : Pol} (h : polOk p = true) : (trimP p).rs.length ≤ p.rs.length := by
  unfold trimP
  rw [if_pos h]
  exact (trim_sub _ _).length_le
def Indep (rs : List Rl) : Prop := List.Pairwise (fun a r => covB a r = false) rs
theorem keep_indep (rs : List Rl) : ∀ acc : List Rl, Indep acc → Indep (rs.foldl keepS acc) := by
  induction rs with
  | nil => intro acc h; exact h
  | cons r rs ih =>
    intro acc h
    rw [List.foldl_cons]
    apply ih
    unfold keepS
    split
    · exact h
    · rename_i hc
      refine List.pairwise_append.2 ⟨h, List.pairwise_singleton _ _, fun a ha b hb => ?_⟩
      rw [List.mem_singleton.1 hb]
      cases hab : covB a r with
      | false => rfl
      | true => exact absurd (List.any_eq_true.2 ⟨a, ha, hab⟩) hc
theorem indep_keep (rs : List Rl) : ∀ acc : List Rl, Indep (acc ++ rs) → rs.foldl keepS acc = acc ++ rs := by
  induction rs with
  | nil => intro acc _; simp
  | cons r rs ih =>
    intro acc h
    rw [List.foldl_cons]
    have hno : (acc.any fun a => covB a r) = false := by
      rw [List.any_eq_false]
      intro a ha
      have := (List.pairwise_append.1 h).2.2 a ha r (by simp)
      simp [this]
    have hs : keepS acc r = acc ++ [r] := by unfold keepS; rw [hno]; rfl
    rw [hs, ih _ (by simpa using h)]
    simp
theorem cut_last (rs : List Rl) (e : Int) : ∀ n, n ≤ rs.length → cutN (rs.take (cutN rs e n)) e (rs.take (cutN rs e n)).length = cutN rs e n := by
  intro n
  induction n with
  | zero => intro _; simp [cutN]
  | succ n ih =>
    intro hn
    rw [cutN]
    split
    · exact ih (by omega)
    · rename_i hv
      have hl : (rs.take (n + 1)).length = n + 1 := by rw [List.length_take]; omega
      rw [hl, cutN, List.getElem?_take_of_lt (by omega), if_neg hv]
/-- Trimmed twice is trimmed once. -/
theorem trim_twice (rs : List Rl) (e : Int) : trimQ (trimQ rs e) e = trimQ rs e := by
  have hI : Indep (keepR rs) := keep_indep rs [] List.Pairwise.nil
  have hT : Indep (trimQ rs e) := List.Pairwise.sublist (List.take_sublist _ _) hI
  have hk : keepR (trimQ rs e) = trimQ rs e := by
    have := indep_keep (trimQ rs e) [] (by simpa using hT)
    simpa [keepR] using this
  rw [trimQ, hk]
  have : cutN (trimQ rs e) e (trimQ rs e).length = (trimQ rs e).length := by
    have h := cut_last (keepR rs) e (keepR rs).length (Nat.le_refl _)
    unfold trimQ
    rw [h, List.length_take]
    have := cutN_le (keepR rs) e (keepR rs).length
    omega
  rw [this, List.take_length]
theorem trimP_twice {p : Pol} (h : polOk p = true) : trimP (trimP p) = trimP p := by
  have hx := trimP_ok h
  unfold trimP at hx ⊢
  rw [if_pos h] at hx ⊢
  rw [if_pos hx]
  show (⟨trimQ (trimQ p.rs p.els) p.els, p.els⟩ : Pol) = _
  rw [trim_twice]
end Go.Proofs.YtljgaepgblakhaaDoor
