/- Plain words on a policy's text: what both sides read out of it, and that what is written is read again. No condition but each lemma's own. -/
import Derived.Test.YtflhniobbdanjaaDoorJ2fb56091f2
import Derived.Test.YtflhniobbdanjaaDoorJ02a75aede2
namespace Go.Proofs.YtflhniobbdanjaaDoor
set_option linter.unusedSimpArgs false
open Go.RowKit
set_option linter.unusedVariables false
set_option linter.unnecessarySimpa false
theorem dec_free {v : Int} {c : UInt8} (hc : digB c = false) : c ∉ dec v := by
  intro h
  have := List.all_eq_true.1 (dec_digs v.toNat).1 c h
  rw [hc] at this
  cases this
theorem num2_dec {v : Int} (h0 : 0 ≤ v) (h1 : v ≤ 4294967295) : num2V (dec v) = v := by
  obtain ⟨a1, a2, a3, a4, _⟩ := dec_digs v.toNat
  have hv : valD 0 (dec v) = v := by unfold dec; rw [a2]; omega
  have h9 := ten_figs (ds := dec v) a1 a3 (by rw [hv]; omega)
  unfold num2V
  rw [if_pos]
  · exact hv
  · have e1 : noNought (dec v) = true := a3
    have e2 : (dec v).all digB = true := a1
    have e3 : 1 ≤ (dec v).length := a4
    simp only [e1, e2, Bool.and_true, Bool.and_eq_true, decide_eq_true_eq]
    exact ⟨⟨e3, h9⟩, by rw [hv]; omega⟩
/-- The letters of a test, without the blank ahead. -/
def tbody (t : Tst) : List UInt8 := 97 :: (dec t.f ++ (maskT t.m ++ (signT t.op ++ dec t.x)))
theorem testT_body (t : Tst) : testT t = 32 :: tbody t := by rw [testT_eq]; rfl
theorem mask_free {m : Int} {c : UInt8} (hc : digB c = false) (h : c ≠ 38) : c ∉ maskT m := by
  unfold maskT
  split
  · simp only [List.cons_append, List.nil_append, List.mem_cons, not_or]
    exact ⟨h, dec_free hc⟩
  · simp
theorem sign_free {op : Int} {c : UInt8} (h1 : c ≠ 61) (h2 : c ≠ 60) (h3 : c ≠ 62) : c ∉ signT op := by
  unfold signT
  split
  · simpa using h1
  · split
    · simpa using h2
    · split
      · simpa using h3
      · simp
theorem body_free (t : Tst) : (32 : UInt8) ∉ tbody t := by
  unfold tbody
  simp only [List.mem_cons, List.mem_append, not_or]
  exact ⟨by decide, dec_free (by decide), mask_free (by decide) (by decide), sign_free (by decide) (by decide) (by decide), dec_free (by decide)⟩
theorem cuts_tests {a : List UInt8} (ha : (32 : UInt8) ∉ a) (ts : List Tst) : cuts 32 (a ++ testsT ts) = a :: ts.map tbody := by
  induction ts generalizing a with
  | nil =>
    have : testsT [] = [] := rfl
    rw [this, List.append_nil, cuts_no ha]; rfl
  | cons t ts ih =>
    rw [testsT_cons, testT_body, List.cons_append, cuts_app ha, ih (body_free t)]
    rfl
theorem word_free (v : Int) : (32 : UInt8) ∉ wordT v := by
  unfold wordT
  split
  · decide
  · split
    · decide
    · split
      · decide
      · split <;> decide
theorem high_free (lo hi : Int) : (32 : UInt8) ∉ dec lo ++ highT lo hi := by
  unfold highT
  simp only [List.mem_append, not_or]
  refine ⟨dec_free (by decide), ?_⟩
  split
  · simp only [List.cons_append, List.nil_append, List.mem_cons, not_or]
    exact ⟨by decide, dec_free (by decide)⟩
  · simp
/-- The reference's reading of a verdict's letters. -/
def spVerdict (l : List UInt8) : Int := if wordT 1 = l then 1 else if wordT 2 = l then 2 else if wordT 3 = l then 3 else if wordT 4 = l then 4 else 0
theorem spVerdict_word {v : Int} (h : 1 ≤ v ∧ v ≤ 4) : spVerdict (wordT v) = v := by
  rcases (show v = 1 ∨ v = 2 ∨ v = 3 ∨ v = 4 by omega) with rfl | rfl | rfl | rfl <;> decide
theorem spVerdict_out {l : List UInt8} {v : Int} (h : spVerdict l = v) (h0 : v ≠ 0) : (1 ≤ v ∧ v ≤ 4) ∧ l = wordT v := by
  unfold spVerdict at h
  split at h
  · rename_i e; subst h; exact ⟨by omega, e.symm⟩
  · split at h
    · rename_i e; subst h; exact ⟨by omega, e.symm⟩
    · split at h
      · rename_i e; subst h; exact ⟨by omega, e.symm⟩
      · split at h
        · rename_i e; subst h; exact ⟨by omega, e.symm⟩
        · exact absurd h.symm h0
/-- A way's sign; 0 if it is none. -/
def sigV (c : UInt8) : Int := if c = 61 then 1 else if c = 60 then 2 else if c = 62 then 3 else 0
/-- The sign that counts, and where it stands, of the first i letters. -/
def spAt (s : List UInt8) : Nat → Int × Nat
  | 0 => (0, 0)
  | i + 1 => if (spAt s i).2 ≠ 0 then spAt s i else match s[i]? with
    | none => spAt s i
    | some c => if sigV c = 0 then spAt s i else (sigV c, i)
/-- The reference's reading of a test. -/
def spTest (s : List UInt8) : Tst :=
  if (spAt s s.length).2 = 0 ∨ s.head? ≠ some 97 then ⟨0, 4294967295, (spAt s s.length).1, -1⟩
  else ⟨num2V ((cuts 38 ((s.take (spAt s s.length).2).drop 1)).headD []), if (cuts 38 ((s.take (spAt s s.length).2).drop 1)).length = 2 then num2V ((cuts 38 ((s.take (spAt s s.length).2).drop 1)).getD 1 []) else 4294967295,
    (spAt s s.length).1, num2V (s.drop ((spAt s s.length).2 + 1))⟩
theorem spAt_none {a b : List UInt8} (h : ∀ c ∈ a, sigV c = 0) : ∀ i, i ≤ a.length → spAt (a ++ b) i = (0, 0) := by
  intro i
  induction i with
  | zero => intro _; rfl
  | succ i ih =>
    intro hi
    rw [spAt, ih (by omega)]
    have hx : (a ++ b)[i]? = some (a[i]'(by omega)) := by rw [List.getElem?_append_left (by omega)]; exact List.getElem?_eq_getElem _
    rw [hx]
    simp only
    rw [if_neg (by simp), if_pos (h _ (List.getElem_mem _))]
theorem spAt_some {a b : List UInt8} {c : UInt8} (h : ∀ c ∈ a, sigV c = 0) (hc : sigV c ≠ 0) (ha : 1 ≤ a.length) : ∀ i, a.length < i → spAt (a ++ c :: b) i = (sigV c, a.length) := by
  intro i hi
  induction i with
  | zero => omega
  | succ i ih =>
    by_cases he : i = a.length
    · subst he
      rw [spAt, spAt_none h a.length (Nat.le_refl _)]
      have hx : (a ++ c :: b)[a.length]? = some c := by simp
      rw [hx]
      simp only
      rw [if_neg (by simp), if_neg hc]
    · rw [spAt, ih (by omega), if_pos (by simp only; omega)]
theorem sig_dig {v : Int} : ∀ c ∈ dec v, sigV c = 0 := by
  intro c hc
  have := List.all_eq_true.1 (dec_digs v.toNat).1 c hc
  unfold digB at this
  simp only [decide_eq_true_eq] at this
  unfold sigV
  have h1 : c ≠ 61 := by rintro rfl; exact absurd this (by decide)
  have h2 : c ≠ 60 := by rintro rfl; exact absurd this (by decide)
  have h3 : c ≠ 62 := by rintro rfl; exact absurd this (by decide)
  rw [if_neg h1, if_neg h2, if_neg h3]
theorem sig_mask {m : Int} : ∀ c ∈ maskT m, sigV c = 0 := by
  intro c hc
  unfold maskT at hc
  split at hc
  · simp only [List.cons_append, List.nil_append, List.mem_cons] at hc
    rcases hc with rfl | hc
    · decide
    · exact sig_dig c hc
  · simp at hc
theorem signT_one {op : Int} (h : 1 ≤ op ∧ op ≤ 3) : ∃ c, signT op = [c] ∧ sigV c = op := by
  rcases (show op = 1 ∨ op = 2 ∨ op = 3 by omega) with rfl | rfl | rfl
  · exact ⟨61, rfl, rfl⟩
  · exact ⟨60, rfl, rfl⟩
  · exact ⟨62, rfl, rfl⟩
theorem spTest_body {t : Tst} (h : tstB t = true) : spTest (tbody t) = t := by
  obtain ⟨f, m, op, x⟩ := t
  obtain ⟨hf, hm, ho, hx⟩ := tstB_out h
  simp only at hf hm ho hx
  obtain ⟨c, e1, e2⟩ := signT_one ho
  have hb : tbody ⟨f, m, op, x⟩ = (97 :: (dec f ++ maskT m)) ++ c :: dec x := by
    unfold tbody
    simp only [e1]
    simp [List.append_assoc]
  have hsig : ∀ q ∈ 97 :: (dec f ++ maskT m), sigV q = 0 := by
    intro q hq
    rcases List.mem_cons.1 hq with rfl | hq
    · decide
    · rcases List.mem_append.1 hq with hq | hq
      · exact sig_dig q hq
      · exact sig_mask q hq
  have hat : spAt (tbody ⟨f, m, op, x⟩) (tbody ⟨f, m, op, x⟩).length = (op, (97 :: (dec f ++ maskT m)).length) := by
    rw [hb, spAt_some hsig (by omega) (by simp) _ (by simp), e2]
  have hcut : cuts 38 (dec f ++ maskT m) = if m ≠ 4294967295 then [dec f, dec m] else [dec f] := by
    unfold maskT
    split
    · have : dec f ++ ([38] ++ dec m) = dec f ++ 38 :: dec m := rfl
      rw [this, cuts_app (dec_free (by decide)), cuts_no (dec_free (by decide))]
    · rw [List.append_nil, cuts_no (dec_free (by decide))]
  have ht : ((tbody ⟨f, m, op, x⟩).take (97 :: (dec f ++ maskT m)).length).drop 1 = dec f ++ maskT m := by
    rw [hb, List.take_left]; rfl
  have hd : (tbody ⟨f, m, op, x⟩).drop ((97 :: (dec f ++ maskT m)).length + 1) = dec x := by
    rw [hb]
    have : (97 :: (dec f ++ maskT m)) ++ c :: dec x = ((97 :: (dec f ++ maskT m)) ++ [c]) ++ dec x := by simp
    rw [this]
    have hl : (97 :: (dec f ++ maskT m)).length + 1 = ((97 :: (dec f ++ maskT m)) ++ [c]).length := by simp <;> omega
    rw [hl, List.drop_left]
  unfold spTest
  rw [hat]
  simp only [ht, hd, hcut]
  rw [if_neg]
  · rw [num2_dec hx.1 hx.2]
    by_cases hmm : m ≠ 4294967295
    · rw [if_pos hmm]
      simp only [List.headD_cons, List.length_cons, List.length_nil, List.getD_cons_succ, List.getD_cons_zero]
      simp only [if_true]
      rw [num2_dec (by omega) (by omega), num2_dec (by omega) hm.2]
    · rw [if_neg hmm]
      simp only [List.headD_cons, List.length_cons, List.length_nil]
      rw [if_neg (by omega), num2_dec (by omega) (by omega)]
      congr 1
      omega
  · rw [hb]
    simp
/-- The reference's reading of a line. -/
def spRule (l : List UInt8) : Rl :=
  if (cuts 32 l).length < 2 then ⟨0, 0, 0, []⟩
  else ⟨spVerdict ((cuts 32 l).headD []), num2V ((cuts 45 ((cuts 32 l).getD 1 [])).headD []), num2V ((cuts 45 ((cuts 32 l).getD 1 [])).getLastD []), ((cuts 32 l).drop 2).map spTest⟩
theorem spRule_line {r : Rl} {l : List UInt8} (hb : ruleB r = true) (hl : lineT r = l ++ [10]) : spRule l = r ∧ 2 ≤ (cuts 32 l).length := by
  obtain ⟨v, lo, hi, ts⟩ := r
  obtain ⟨b1, b2, b3, b4⟩ := ruleB_out hb
  rw [lineT_eq] at hl
  have e := (List.append_cancel_right hl).symm
  simp only at b1 b2 b3 b4 e
  have hc : cuts 32 l = wordT v :: (dec lo ++ highT lo hi) :: ts.map tbody := by
    rw [e]
    have : wordT v ++ ([32] ++ (dec lo ++ (highT lo hi ++ testsT ts))) = wordT v ++ 32 :: ((dec lo ++ highT lo hi) ++ testsT ts) := by simp [List.append_assoc]
    rw [this, cuts_app (word_free v), cuts_tests (high_free lo hi)]
  have hh : cuts 45 (dec lo ++ highT lo hi) = if hi ≠ lo then [dec lo, dec hi] else [dec lo] := by
    unfold highT
    split
    · have : dec lo ++ ([45] ++ dec hi) = dec lo ++ 45 :: dec hi := rfl
      rw [this, cuts_app (dec_free (by decide)), cuts_no (dec_free (by decide))]
    · rw [List.append_nil, cuts_no (dec_free (by decide))]
  refine ⟨?_, by rw [hc]; simp⟩
  unfold spRule
  rw [hc, if_neg (by simp)]
  simp only [List.headD_cons, List.getD_cons_succ, List.getD_cons_zero, hh, List.drop_succ_cons, List.drop_zero]
  have hts : (ts.map tbody).map spTest = ts := by
    rw [List.map_map]
    conv => rhs; rw [← List.map_id ts]
    refine List.map_congr_left (fun t ht => ?_)
    exact spTest_body (List.all_eq_true.1 b4 t ht)
  rw [hts, spVerdict_word b1]
  by_cases hq : hi ≠ lo
  · rw [if_pos hq]
    simp only [List.headD_cons, List.getLastD_cons, List.getLastD_nil]
    rw [num2_dec b2.1 (by omega), num2_dec (by omega) b2.2.2]
  · rw [if_neg hq]
    simp only [List.headD_cons, List.getLastD_cons, List.getLastD_nil]
    rw [num2_dec b2.1 (by omega)]
    congr 1
    omega
/-- Both sides take a line for a rule alike. -/
theorem rule_both (l : List UInt8) : rdRule l = if 2 ≤ (cuts 32 l).length ∧ ruleB (spRule l) = true ∧ lineT (spRule l) = l ++ [10] then some (spRule l) else none := by
  split
  · rename_i h
    exact rule_iff.2 ⟨h.2.2, h.2.1⟩
  · rename_i h
    cases e : rdRule l with
    | none => rfl
    | some r =>
      exfalso
      obtain ⟨h1, h2⟩ := rule_iff.1 e
      obtain ⟨h3, h4⟩ := spRule_line h2 h1
      exact h ⟨h4, by rw [h3]; exact h2, by rw [h3]; exact h1⟩
/-- Rules, line by line: the first line that is none (from 1 on), or the rules. -/
def rdRows : Nat → List (List UInt8) → Except Nat (List Rl)
  | _, [] => .ok []
  | i, l :: ls => if 8 ≤ i then .error (i + 1) else match rdRule l with
    | none => .error (i + 1)
    | some r => match rdRows (i + 1) ls with
      | .error e => .error e
      | .ok rs => .ok (r :: rs)
/-- What both sides read out of a text: a policy, and 0; or the first line that is none. -/
def readF (txt : List UInt8) : Pol × Int :=
  if 900 < txt.length ∨ (cuts 10 txt).length < 2 then (⟨[], 0⟩, 1)
  else match rdRows 0 ((cuts 10 txt).take ((cuts 10 txt).length - 2)) with
    | .error e => (⟨[], 0⟩, e)
    | .ok rs => match rdElse ((cuts 10 txt).getD ((cuts 10 txt).length - 2) []) with
      | none => (⟨[], 0⟩, ((cuts 10 txt).length : Int) - 1)
      | some v => if (cuts 10 txt).getD ((cuts 10 txt).length - 1) [] = [] then (⟨rs, v⟩, 0) else (⟨[], 0⟩, ((cuts 10 txt).length : Int))
theorem rdRows_ok {i : Nat} {ls : List (List UInt8)} {rs : List Rl} (h : rdRows i ls = .ok rs) : rs.length = ls.length ∧ (i ≤ 8 → i + rs.length ≤ 8) ∧ rs.all ruleB = true ∧ linesT rs = (ls.map (· ++ [10])).flatten := by
  induction ls generalizing i rs with
  | nil =>
    rw [rdRows] at h
    injection h with h
    subst h
    exact ⟨rfl, fun h => by simpa using h, rfl, rfl⟩
  | cons l ls ih =>
    rw [rdRows] at h
    split at h
    · cases h
    rename_i hi
    split at h
    · cases h
    rename_i r e1
    split at h
    · cases h
    rename_i rs' e2
    injection h with h
    subst h
    obtain ⟨a1, a2, a3, a4⟩ := ih e2
    obtain ⟨b1, b2⟩ := rule_iff.1 e1
    refine ⟨by simp [a1], fun _ => by have := a2 (by omega); simp; omega, by simp [b2, a3], ?_⟩
    simp only [linesT, List.map_cons, List.flatten_cons] at a4 ⊢
    rw [b1, a4]
theorem rdRows_err {i e : Nat} {ls : List (List UInt8)} (h : rdRows i ls = .error e) : 1 ≤ e ∧ e ≤ i + ls.length := by
  induction ls generalizing i with
  | nil => rw [rdRows] at h; cases h
  | cons l ls ih =>
    rw [rdRows] at h
    split at h
    · injection h with h; subst h; simp
    · split at h
      · injection h with h; subst h; simp
      · split at h
        · rename_i e' e2
          injection h with h
          subst h
          have := ih e2
          simp; omega
        · cases h
theorem rdRows_at {i : Nat} {rs : List Rl} {ls : List (List UInt8)} (h8 : i + rs.length ≤ 8) (h : ls.map rdRule = rs.map some) : rdRows i ls = .ok rs := by
  induction ls generalizing i rs with
  | nil =>
    cases rs with
    | nil => rfl
    | cons r rs => simp at h
  | cons l ls ih =>
    cases rs with
    | nil => simp at h
    | cons r rs =>
      simp only [List.map_cons, List.cons.injEq] at h
      simp at h8
      rw [rdRows, if_neg (by omega), h.1]
      simp only
      rw [ih (by omega) h.2]
theorem glue_app (c : UInt8) (ls : List (List UInt8)) (a : List UInt8) : glue c (ls ++ [a]) = (ls.map (· ++ [c])).flatten ++ a := by
  induction ls with
  | nil => rfl
  | cons l ls ih =>
    cases hq : ls ++ [a] with
    | nil => simp at hq
    | cons b r =>
      rw [List.cons_append, hq, glue, ← hq, ih]
      simp [List.append_assoc]
/-- What is read without a fault is written so. -/
theorem readF_sound {txt : List UInt8} {p : Pol} (h : readF txt = (p, 0)) : polOk p = true ∧ textT p = txt := by
  unfold readF at h
  split at h
  · injection h with _ h; omega
  rename_i hc
  rw [not_or] at hc
  obtain ⟨hc1, hc2⟩ := hc
  split at h
  · rename_i e he
    injection h with _ h
    have := rdRows_err he
    omega
  rename_i rs he
  split at h
  · injection h with _ h; omega
  rename_i v hv
  split at h
  · rename_i hz
    injection h with h _
    subst h
    obtain ⟨a1, a2, a3, a4⟩ := rdRows_ok he
    obtain ⟨b1, b2⟩ := else_iff.1 hv
    have hg := glue_cuts 10 txt
    generalize cuts 10 txt = R at *
    have hR : R = R.take (R.length - 2) ++ [R.getD (R.length - 2) []] ++ [R.getD (R.length - 1) []] := by
      have h1 : R.take (R.length - 2) ++ [R.getD (R.length - 2) []] = R.take (R.length - 1) := by
        have hx : R[R.length - 2]? = some (R[R.length - 2]'(by omega)) := List.getElem?_eq_getElem _
        rw [show R.length - 1 = (R.length - 2) + 1 by omega, List.take_add_one, hx, List.getD_eq_getElem?_getD, hx]; rfl
      have h2 : R.take (R.length - 1) ++ [R.getD (R.length - 1) []] = R := by
        have hx : R[R.length - 1]? = some (R[R.length - 1]'(by omega)) := List.getElem?_eq_getElem _
        have h3 : R.take ((R.length - 1) + 1) = R := List.take_of_length_le (by omega)
        rw [List.take_add_one, hx] at h3
        rw [List.getD_eq_getElem?_getD, hx]
        exact h3
      rw [h1, h2]
    rw [hz, b1] at hR
    have ht : textT ⟨rs, v⟩ = txt := by
      rw [← hg, hR, glue_app, List.map_append, List.flatten_append, ← a4]
      unfold textT
      simp [List.append_assoc]
    refine ⟨?_, ht⟩
    have h8 := a2 (by omega)
    unfold polOk polB ruleB.verB'
    rw [ht]
    simp only [Bool.and_eq_true, decide_eq_true_eq]
    exact ⟨⟨⟨by omega, b2⟩, a3⟩, by omega⟩
  · injection h with _ h; omega
theorem ten_free_word (v : Int) : (10 : UInt8) ∉ wordT v := by
  unfold wordT
  split
  · decide
  · split
    · decide
    · split
      · decide
      · split <;> decide
theorem ten_free_test (t : Tst) : (10 : UInt8) ∉ testT t := by
  rw [testT_body]
  unfold tbody
  simp only [List.mem_cons, List.mem_append, not_or]
  exact ⟨by decide, by decide, dec_free (by decide), mask_free (by decide) (by decide), sign_free (by decide) (by decide) (by decide), dec_free (by decide)⟩
theorem ten_free_tests (ts : List Tst) : (10 : UInt8) ∉ testsT ts := by
  intro h
  obtain ⟨l, hl, hm⟩ := List.mem_flatten.1 h
  obtain ⟨t, _, rfl⟩ := List.mem_map.1 hl
  exact ten_free_test t hm
def lineX (r : Rl) : List UInt8 := wordT r.v ++ ([32] ++ (dec r.lo ++ (highT r.lo r.hi ++ testsT r.ts)))
theorem ten_free_line (r : Rl) : (10 : UInt8) ∉ lineX r := by
  unfold lineX highT
  simp only [List.mem_append, List.mem_singleton, not_or]
  refine ⟨ten_free_word _, by decide, dec_free (by decide), ?_, ten_free_tests _⟩
  split
  · simp only [List.cons_append, List.nil_append, List.mem_cons, not_or]
    exact ⟨by decide, dec_free (by decide)⟩
  · simp
theorem cuts_lines (rs : List Rl) (b : List UInt8) : cuts 10 (linesT rs ++ b) = rs.map lineX ++ cuts 10 b := by
  induction rs with
  | nil => rfl
  | cons r rs ih =>
    have : linesT (r :: rs) ++ b = lineX r ++ 10 :: (linesT rs ++ b) := by
      simp only [linesT, List.map_cons, List.flatten_cons]
      rw [lineT_eq]
      unfold lineX
      simp [List.append_assoc]
    rw [this, cuts_app (ten_free_line r), ih]
    rfl
/-- What is written is read. -/
theorem readF_text {p : Pol} (h : polOk p = true) : readF (textT p) = (p, 0) := by
  obtain ⟨rs, v⟩ := p
  unfold polOk polB ruleB.verB' at h
  simp only [Bool.and_eq_true, decide_eq_true_eq] at h
  obtain ⟨⟨⟨h1, h2⟩, h3⟩, h4⟩ := h
  have hc : cuts 10 (textT ⟨rs, v⟩) = rs.map lineX ++ [[101, 108, 115, 101, 32] ++ wordT v, []] := by
    have : textT ⟨rs, v⟩ = linesT rs ++ (([101, 108, 115, 101, 32] ++ wordT v) ++ 10 :: []) := by
      unfold textT
      simp [List.append_assoc]
    rw [this, cuts_lines, cuts_app]
    · rfl
    · simp only [List.mem_append, not_or]
      exact ⟨by decide, ten_free_word v⟩
  have hl : (cuts 10 (textT ⟨rs, v⟩)).length = rs.length + 2 := by rw [hc]; simp
  unfold readF
  rw [if_neg (by rw [hl]; omega), hl]
  have e1 : (cuts 10 (textT ⟨rs, v⟩)).take (rs.length + 2 - 2) = rs.map lineX := by
    rw [hc, show rs.length + 2 - 2 = (rs.map lineX).length by simp, List.take_left]
  have e2 : (cuts 10 (textT ⟨rs, v⟩)).getD (rs.length + 2 - 2) [] = [101, 108, 115, 101, 32] ++ wordT v := by
    rw [hc, List.getD_eq_getElem?_getD, List.getElem?_append_right (by simp)]
    simp
  have e3 : (cuts 10 (textT ⟨rs, v⟩)).getD (rs.length + 2 - 1) [] = [] := by
    rw [hc, List.getD_eq_getElem?_getD, List.getElem?_append_right (by simp)]
    simp
  have hr : rdRows 0 (rs.map lineX) = .ok rs := by
    refine rdRows_at (by omega) ?_
    rw [List.map_map]
    refine List.map_congr_left (fun r hr => ?_)
    exact rule_iff.2 ⟨by rw [lineT_eq]; rfl, List.all_eq_true.1 h3 r hr⟩
  have hv : rdElse ([101, 108, 115, 101, 32] ++ wordT v) = some v := else_iff.2 ⟨rfl, h2⟩
  rw [e1, hr, e2, e3]
  simp only [hv, if_true]
theorem readF_empty : readF [] = (⟨[], 0⟩, 1) := by decide
theorem readF_at (txt : List UInt8) : 0 ≤ (readF txt).2 := by
  unfold readF
  split
  · decide
  · split
    · rename_i e he
      have := rdRows_err he
      simp only; omega
    · split
      · rename_i hc _ _ _ _
        simp only; omega
      · split <;> simp only <;> omega
/-- The reference's last line. -/
def spElse (l : List UInt8) : Int := if 5 < l.length ∧ l.take 5 = [101, 108, 115, 101, 32] then spVerdict (l.drop 5) else 0
theorem else_both (l : List UInt8) : rdElse l = if spElse l = 0 then none else some (spElse l) := by
  unfold spElse
  by_cases hc : 5 < l.length ∧ l.take 5 = [101, 108, 115, 101, 32]
  · rw [if_pos hc]
    have hl : l = [101, 108, 115, 101, 32] ++ l.drop 5 := by
      conv => lhs; rw [← List.take_append_drop 5 l, hc.2]
    by_cases h0 : spVerdict (l.drop 5) = 0
    · rw [if_pos h0]
      cases e : rdElse l with
      | none => rfl
      | some v =>
        exfalso
        obtain ⟨h1, h2⟩ := else_iff.1 e
        have : l.drop 5 = wordT v := by rw [h1]; rfl
        rw [this, spVerdict_word h2] at h0
        omega
    · rw [if_neg h0]
      obtain ⟨h1, h2⟩ := spVerdict_out rfl h0
      refine else_iff.2 ⟨?_, h1⟩
      rw [← h2]; exact hl
  · rw [if_neg hc, if_pos rfl]
    cases e : rdElse l with
    | none => rfl
    | some v =>
      exfalso
      obtain ⟨h1, h2⟩ := else_iff.1 e
      refine hc ⟨?_, by rw [h1]; rfl⟩
      have hw : 1 ≤ (wordT v).length := by
        rcases (show v = 1 ∨ v = 2 ∨ v = 3 ∨ v = 4 by omega) with rfl | rfl | rfl | rfl <;> decide
      rw [h1]; simp; omega
end Go.Proofs.YtflhniobbdanjaaDoor
