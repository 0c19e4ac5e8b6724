/- Plain words on a policy's text that is read: a line is a rule just when it is written so. No condition but each lemma's own. -/
import Derived.Test.YtflhniobbdanjaaDoorJ1dade191cb
import Derived.Lib.Strings
namespace Go.Proofs.YtflhniobbdanjaaDoor
set_option linter.unusedSimpArgs false
open Go.RowKit
set_option linter.unusedVariables false
set_option linter.unnecessarySimpa false
theorem tstB_out {t : Tst} (h : tstB t = true) : (1 ≤ t.f ∧ t.f ≤ 4) ∧ (1 ≤ t.m ∧ t.m ≤ 4294967295) ∧ (1 ≤ t.op ∧ t.op ≤ 3) ∧ 0 ≤ t.x ∧ t.x ≤ 4294967295 := by
  unfold tstB testB at h
  simp only [Bool.and_eq_true, decide_eq_true_eq] at h
  obtain ⟨h1, h2⟩ := h
  refine ⟨⟨h1.1, h1.2.1⟩, ⟨h1.2.2.1, h1.2.2.2.1⟩, ?_, h1.2.2.2.2⟩
  split at h2
  · omega
  · split at h2
    · omega
    · cases h2
/-- Figures without a nought too many are those of their value. -/
theorem dec_of (n : Nat) : ∀ (ds : List UInt8), ds.length = n → ds.all digB = true → noNought ds = true → 1 ≤ n → Lib.decDigits (valD 0 ds).toNat = ds := by
  induction n using Nat.strongRecOn with
  | _ n ih =>
    intro ds hl hd hn h1
    obtain ⟨ini, c, rfl⟩ : ∃ ini c, ds = ini ++ [c] := ⟨ds.dropLast, ds.getLast (by intro e; subst e; simp at hl; omega), (List.dropLast_concat_getLast _).symm⟩
    rw [List.all_append, Bool.and_eq_true] at hd
    have hc : digB c = true := by simpa using hd.2
    have hf := figI_b hc
    have hcv : ((figI c).toNat : Int) = figI c := Int.toNat_of_nonneg hf.1
    have hcc : UInt8.ofNat (48 + (figI c).toNat) = c := by
      unfold digB at hc
      simp only [decide_eq_true_eq] at hc
      have : 48 + (figI c).toNat = c.toNat := by unfold figI; omega
      rw [this, UInt8.ofNat_toNat]
    rw [valD_app]
    show Lib.decDigits (valD 0 ini * 10 + figI c).toNat = _
    cases hini : ini with
    | nil =>
      subst hini
      have : (valD 0 ([] : List UInt8) * 10 + figI c).toNat = (figI c).toNat := by simp [valD]
      rw [this, Lib.decDigits_one (by omega), hcc]; rfl
    | cons a t =>
      rw [← hini]
      have hl' : ini.length = n - 1 := by simp at hl; omega
      have hl1 : 1 ≤ n - 1 := by rw [← hl', hini]; simp
      have ha : a ≠ 48 := by
        rintro rfl
        rw [hini] at hn
        simp [noNought] at hn
      have hni : noNought ini = true := by
        rw [hini]
        have : ((a :: t).head? == some 48) = false := by simpa using ha
        unfold noNought
        rw [this]; simp
      have e := ih (n - 1) (by omega) ini hl' hd.1 hni hl1
      have hpos : 1 ≤ valD 0 ini := by
        rw [hini] at hd ⊢
        rw [valD_cons]
        have h2 := hd.1
        rw [List.all_cons, Bool.and_eq_true] at h2
        have hfa := figI_b h2.1
        have h3 := valD_ge h2.2 (v := 0 * 10 + figI a) (by omega)
        have h4 : 1 ≤ figI a := by
          have h5 := h2.1
          unfold digB at h5
          simp only [decide_eq_true_eq] at h5
          have h48 : a.toNat ≠ 48 := fun e => ha (UInt8.toNat_inj.1 e)
          unfold figI; omega
        omega
      rw [Lib.decDigits, dif_neg (by omega)]
      have q1 : (valD 0 ini * 10 + figI c).toNat / 10 = (valD 0 ini).toNat := by omega
      have q2 : (valD 0 ini * 10 + figI c).toNat % 10 = (figI c).toNat := by omega
      rw [q1, q2, e, hcc]
/-- The number that a text begins with: a word, without needless noughts. -/
def rdWord (l : List UInt8) : Option (Int × List UInt8) := match numF 4294967295 l 0 0 with | some (v, k) => if 0 < k then some (v, l.drop k) else none | none => none
theorem word_iff {l r : List UInt8} {v : Int} : rdWord l = some (v, r) ↔ l = dec v ++ r ∧ 0 ≤ v ∧ v ≤ 4294967295 ∧ headNo r := by
  constructor
  · intro h
    obtain ⟨ds, rest, rfl, hd, hr⟩ := dig_split l
    unfold rdWord at h
    rw [num_at (by decide) hd hr] at h
    by_cases hK : noNought ds = true ∧ valD 0 ds ≤ 4294967295
    · rw [if_pos hK] at h
      simp only at h
      split at h
      · rename_i h0
        simp only [Option.some.injEq, Prod.mk.injEq, List.drop_left] at h
        obtain ⟨rfl, rfl⟩ := h
        have := dec_of ds.length ds rfl hd hK.1 h0
        unfold dec
        rw [this]
        exact ⟨rfl, valD_ge hd (Int.le_refl _), hK.2, hr⟩
      · cases h
    · rw [if_neg hK] at h; cases h
  · rintro ⟨rfl, h0, h1, hr⟩
    obtain ⟨a1, a2, a3, a4, _⟩ := dec_digs v.toNat
    unfold rdWord dec
    rw [num_at (by decide) a1 hr, if_pos ⟨a3, by rw [a2]; omega⟩]
    simp only
    rw [if_pos (by omega), a2, List.drop_left]
    have : ((v.toNat : Nat) : Int) = v := by omega
    rw [this]
def skP (p l : List UInt8) : Option (List UInt8) := if Lib.hasPrefix l p then some (Lib.trimPrefix l p) else none
theorem skP_iff {p l r : List UInt8} : skP p l = some r ↔ l = p ++ r := by
  unfold skP Lib.trimPrefix Lib.hasPrefix
  constructor
  · intro h
    split at h
    · rename_i hp
      try rw [if_pos hp] at h
      injection h with h
      subst h
      obtain ⟨t, rfl⟩ := List.isPrefixOf_iff_prefix.1 hp
      simp
    · cases h
  · rintro rfl
    have hp : p.isPrefixOf (p ++ r) = true := List.isPrefixOf_iff_prefix.2 ⟨r, rfl⟩
    rw [if_pos hp, if_pos hp]
    simp
theorem skP_none {p l : List UInt8} (h : ∀ r, l ≠ p ++ r) : skP p l = none := by
  cases e : skP p l with
  | none => rfl
  | some r => exact absurd (skP_iff.1 e) (h r)
theorem skP_ne {a b : UInt8} {p l : List UInt8} (h : a ≠ b) : skP (a :: p) (b :: l) = none := skP_none (fun r e => by
  rw [List.cons_append] at e
  injection e with e _
  exact h e.symm)
theorem skP_nil {a : UInt8} {p : List UInt8} : skP (a :: p) [] = none := skP_none (fun r e => by cases e)
theorem headNo_cons {c : UInt8} {l : List UInt8} (h : digB c = false) : headNo (c :: l) := fun a t e => by injection e with e _; rw [← e]; exact h
theorem headNo_nil : headNo [] := fun a t e => by cases e
/-- The first of some ways whose letters are next. -/
def rdOf (T : Int → List UInt8) : List Int → List UInt8 → Option (Int × List UInt8)
  | [], _ => none
  | k :: ks, l => match skP (T k) l with | some r => some (k, r) | none => rdOf T ks l
theorem rdOf_sound {T : Int → List UInt8} {ks : List Int} {l r : List UInt8} {v : Int} (h : rdOf T ks l = some (v, r)) : v ∈ ks ∧ l = T v ++ r := by
  induction ks with
  | nil => cases h
  | cons k ks ih =>
    rw [rdOf] at h
    split at h
    · rename_i r' e
      injection h with h
      injection h with h1 h2
      subst h1 h2
      exact ⟨List.mem_cons_self, skP_iff.1 e⟩
    · exact ⟨List.mem_cons_of_mem _ (ih h).1, (ih h).2⟩
def rdSign (l : List UInt8) : Option (Int × List UInt8) := rdOf signT [1, 2, 3] l
def rdVerdict (l : List UInt8) : Option (Int × List UInt8) := rdOf wordT [1, 2, 3, 4] l
theorem sign_iff {l r : List UInt8} {op : Int} : rdSign l = some (op, r) ↔ (1 ≤ op ∧ op ≤ 3) ∧ l = signT op ++ r := by
  constructor
  · intro h
    obtain ⟨h1, h2⟩ := rdOf_sound h
    simp at h1
    exact ⟨by omega, h2⟩
  · rintro ⟨h, rfl⟩
    have key : ∀ q, skP q (q ++ r) = some r := fun q => skP_iff.2 rfl
    rcases (show op = 1 ∨ op = 2 ∨ op = 3 by omega) with rfl | rfl | rfl
    · simp only [rdSign, rdOf, key]
    · have e1 : skP (signT 1) (signT 2 ++ r) = none := skP_ne (by decide)
      simp only [rdSign, rdOf, key, e1]
    · have e1 : skP (signT 1) (signT 3 ++ r) = none := skP_ne (by decide)
      have e2 : skP (signT 2) (signT 3 ++ r) = none := skP_ne (by decide)
      simp only [rdSign, rdOf, key, e1, e2]
theorem verdict_iff {l r : List UInt8} {v : Int} : rdVerdict l = some (v, r) ↔ (1 ≤ v ∧ v ≤ 4) ∧ l = wordT v ++ r := by
  constructor
  · intro h
    obtain ⟨h1, h2⟩ := rdOf_sound h
    simp at h1
    exact ⟨by omega, h2⟩
  · rintro ⟨h, rfl⟩
    have key : ∀ q, skP q (q ++ r) = some r := fun q => skP_iff.2 rfl
    rcases (show v = 1 ∨ v = 2 ∨ v = 3 ∨ v = 4 by omega) with rfl | rfl | rfl | rfl
    · simp only [rdVerdict, rdOf, key]
    · have e1 : skP (wordT 1) (wordT 2 ++ r) = none := skP_ne (by decide)
      simp only [rdVerdict, rdOf, key, e1]
    · have e1 : skP (wordT 1) (wordT 3 ++ r) = none := skP_ne (by decide)
      have e2 : skP (wordT 2) (wordT 3 ++ r) = none := skP_ne (by decide)
      simp only [rdVerdict, rdOf, key, e1, e2]
    · have e1 : skP (wordT 1) (wordT 4 ++ r) = none := skP_ne (by decide)
      have e2 : skP (wordT 2) (wordT 4 ++ r) = none := skP_ne (by decide)
      have e3 : skP (wordT 3) (wordT 4 ++ r) = none := skP_ne (by decide)
      simp only [rdVerdict, rdOf, key, e1, e2, e3]
/-- What stands behind an '&', if there is one: a word, and not the greatest. -/
def rdMask (l : List UInt8) : Option (Int × List UInt8) := match skP [38] l with
  | none => some (4294967295, l)
  | some l' => match rdWord l' with
    | none => none
    | some (m, r) => if m ≠ 4294967295 then some (m, r) else none
def maskT (m : Int) : List UInt8 := if m ≠ 4294967295 then [38] ++ dec m else []
def noAmp (r : List UInt8) : Prop := ∀ c t, r = c :: t → c ≠ 38
theorem mask_sound {l r : List UInt8} {m : Int} (h : rdMask l = some (m, r)) : l = maskT m ++ r ∧ 0 ≤ m ∧ m ≤ 4294967295 := by
  unfold rdMask at h
  split at h
  · injection h with h
    injection h with h1 h2
    subst h1 h2
    exact ⟨by simp [maskT], by decide, by decide⟩
  · rename_i l' e
    rw [skP_iff.1 e]
    split at h
    · cases h
    · rename_i m' r' e2
      split at h
      · rename_i hm
        injection h with h
        injection h with h1 h2
        subst h1 h2
        obtain ⟨w1, w2, w3, _⟩ := word_iff.1 e2
        refine ⟨?_, w2, w3⟩
        unfold maskT
        rw [if_pos hm, w1]; simp
      · cases h
theorem mask_at {r : List UInt8} {m : Int} (h0 : 0 ≤ m) (h1 : m ≤ 4294967295) (hr : headNo r) (ha : noAmp r) : rdMask (maskT m ++ r) = some (m, r) := by
  unfold rdMask maskT
  by_cases hm : m ≠ 4294967295
  · rw [if_pos hm]
    have e : skP [38] ([38] ++ dec m ++ r) = some (dec m ++ r) := skP_iff.2 (by simp)
    have e2 : rdWord (dec m ++ r) = some (m, r) := word_iff.2 ⟨rfl, h0, h1, hr⟩
    simp only [e, e2]
    rw [if_pos hm]
  · rw [if_neg hm]
    have hm' : m = 4294967295 := by omega
    have e : skP [38] ([] ++ r) = none := skP_none (fun t e => by
      rw [List.nil_append] at e
      exact ha 38 t (by rw [e]; rfl) rfl)
    rw [List.nil_append] at e ⊢
    simp only [e, hm']
/-- A test, read from its letter on. -/
def rdTest (l : List UInt8) : Option (Tst × List UInt8) := match skP [32, 97] l with
  | none => none
  | some l1 => match rdWord l1 with
    | none => none
    | some (f, l2) => match rdMask l2 with
      | none => none
      | some (m, l3) => match rdSign l3 with
        | none => none
        | some (op, l4) => match rdWord l4 with
          | none => none
          | some (x, l5) => if tstB ⟨f, m, op, x⟩ = true then some (⟨f, m, op, x⟩, l5) else none
theorem sign_head {op : Int} (h : 1 ≤ op ∧ op ≤ 3) (l : List UInt8) : headNo (signT op ++ l) ∧ noAmp (signT op ++ l) := by
  rcases (show op = 1 ∨ op = 2 ∨ op = 3 by omega) with rfl | rfl | rfl
  all_goals
    refine ⟨headNo_cons (by decide), fun c t e => ?_⟩
    injection e with e _
    rw [← e]; decide
theorem mask_head {m : Int} {l : List UInt8} (h : headNo l) : headNo (maskT m ++ l) := by
  unfold maskT
  split
  · exact headNo_cons (by decide)
  · exact h
theorem testT_eq (t : Tst) : testT t = [32, 97] ++ (dec t.f ++ (maskT t.m ++ (signT t.op ++ dec t.x))) := by
  unfold testT maskT
  simp [List.append_assoc]
theorem test_iff {l r : List UInt8} {t : Tst} : rdTest l = some (t, r) ↔ l = testT t ++ r ∧ tstB t = true ∧ headNo r := by
  constructor
  · intro h
    unfold rdTest at h
    split at h
    · cases h
    rename_i l1 e1
    split at h
    · cases h
    rename_i f l2 e2
    split at h
    · cases h
    rename_i m l3 e3
    split at h
    · cases h
    rename_i op l4 e4
    split at h
    · cases h
    rename_i x l5 e5
    split at h
    · rename_i hb
      injection h with h
      injection h with h1 h2
      subst h1 h2
      obtain ⟨w5, _, _, hn⟩ := word_iff.1 e5
      obtain ⟨_, w4⟩ := sign_iff.1 e4
      obtain ⟨w3, _⟩ := mask_sound e3
      obtain ⟨w2, _⟩ := word_iff.1 e2
      have w1 := skP_iff.1 e1
      refine ⟨?_, hb, hn⟩
      rw [testT_eq, w1, w2, w3, w4, w5]
      simp [List.append_assoc]
    · cases h
  · rintro ⟨rfl, hb, hn⟩
    obtain ⟨f, m, op, x⟩ := t
    obtain ⟨hf, hm, ho, hx⟩ := tstB_out hb
    simp only at hf hm ho hx
    rw [testT_eq]
    simp only [List.append_assoc]
    have e1 : skP [32, 97] ([32, 97] ++ (dec f ++ (maskT m ++ (signT op ++ (dec x ++ r))))) = some (dec f ++ (maskT m ++ (signT op ++ (dec x ++ r)))) := skP_iff.2 rfl
    obtain ⟨s1, s2⟩ := sign_head ho (dec x ++ r)
    have e2 : rdWord (dec f ++ (maskT m ++ (signT op ++ (dec x ++ r)))) = some (f, maskT m ++ (signT op ++ (dec x ++ r))) := word_iff.2 ⟨rfl, by omega, by omega, mask_head s1⟩
    have e3 : rdMask (maskT m ++ (signT op ++ (dec x ++ r))) = some (m, signT op ++ (dec x ++ r)) := mask_at (by omega) hm.2 s1 s2
    have e4 : rdSign (signT op ++ (dec x ++ r)) = some (op, dec x ++ r) := sign_iff.2 ⟨ho, rfl⟩
    have e5 : rdWord (dec x ++ r) = some (x, r) := word_iff.2 ⟨rfl, hx.1, hx.2, hn⟩
    unfold rdTest
    simp only [e1, e2, e3, e4, e5]
    rw [if_pos hb]
/-- At most k tests, one behind the other, to the end. -/
def rdTests : Nat → List UInt8 → Option (List Tst)
  | 0, l => if l = [] then some [] else none
  | k + 1, l => if l = [] then some [] else match rdTest l with
    | none => none
    | some (t, r) => match rdTests k r with
      | none => none
      | some ts => some (t :: ts)
theorem testT_ne (t : Tst) (l : List UInt8) : testT t ++ l ≠ [] := by rw [testT_eq]; simp
theorem tests_head (ts : List Tst) : headNo (testsT ts) := by
  cases ts with
  | nil => exact headNo_nil
  | cons t ts =>
    show headNo ((List.map testT (t :: ts)).flatten)
    rw [List.map_cons, List.flatten_cons, testT_eq]
    exact headNo_cons (by decide)
theorem testsT_cons (t : Tst) (ts : List Tst) : testsT (t :: ts) = testT t ++ testsT ts := by simp [testsT]
theorem tests_iff {k : Nat} {l : List UInt8} {ts : List Tst} : rdTests k l = some ts ↔ l = testsT ts ∧ ts.length ≤ k ∧ ts.all tstB = true := by
  induction k generalizing l ts with
  | zero =>
    rw [rdTests]
    constructor
    · intro h
      split at h
      · rename_i e; injection h with h; subst h; exact ⟨e, Nat.le_refl _, rfl⟩
      · cases h
    · rintro ⟨rfl, h, _⟩
      have : ts = [] := List.eq_nil_of_length_eq_zero (by omega)
      subst this
      rfl
  | succ k ih =>
    rw [rdTests]
    constructor
    · intro h
      split at h
      · rename_i e; injection h with h; subst h; exact ⟨e, by simp, rfl⟩
      · split at h
        · cases h
        rename_i t r e1
        split at h
        · cases h
        rename_i ts' e2
        injection h with h
        subst h
        obtain ⟨w1, w2, w3⟩ := ih.1 e2
        obtain ⟨v1, v2, _⟩ := test_iff.1 e1
        exact ⟨by rw [v1, w1, testsT_cons], by simp; omega, by simp [v2, w3]⟩
    · rintro ⟨rfl, h, hb⟩
      cases ts with
      | nil => rfl
      | cons t ts =>
        rw [List.all_cons, Bool.and_eq_true] at hb
        have e1 : rdTest (testsT (t :: ts)) = some (t, testsT ts) := test_iff.2 ⟨testsT_cons t ts, hb.1, tests_head ts⟩
        have e2 : rdTests k (testsT ts) = some ts := ih.2 ⟨rfl, by simp at h; omega, hb.2⟩
        rw [if_neg (by rw [testsT_cons]; exact testT_ne t _), e1]
        simp only [e2]
/-- The greater end, if there is one. -/
def rdHigh (lo : Int) (l : List UInt8) : Option (Int × List UInt8) := match skP [45] l with
  | none => some (lo, l)
  | some l' => match rdWord l' with
    | none => none
    | some (hi, r) => if lo < hi then some (hi, r) else none
def highT (lo hi : Int) : List UInt8 := if hi ≠ lo then [45] ++ dec hi else []
theorem high_sound {l r : List UInt8} {lo hi : Int} (h : rdHigh lo l = some (hi, r)) : l = highT lo hi ++ r ∧ (hi = lo ∨ lo < hi ∧ hi ≤ 4294967295) := by
  unfold rdHigh at h
  split at h
  · injection h with h
    injection h with h1 h2
    subst h1 h2
    exact ⟨by simp [highT], .inl rfl⟩
  · rename_i l' e
    rw [skP_iff.1 e]
    split at h
    · cases h
    · rename_i m' r' e2
      split at h
      · rename_i hm
        injection h with h
        injection h with h1 h2
        subst h1 h2
        obtain ⟨w1, w2, w3, _⟩ := word_iff.1 e2
        refine ⟨?_, .inr ⟨hm, w3⟩⟩
        unfold highT
        rw [if_pos (by omega), w1]; simp
      · cases h
theorem high_at {lo hi : Int} (h0 : 0 ≤ lo) (h1 : lo ≤ hi) (h2 : hi ≤ 4294967295) (ts : List Tst) : rdHigh lo (highT lo hi ++ testsT ts) = some (hi, testsT ts) := by
  unfold rdHigh highT
  by_cases hm : hi ≠ lo
  · rw [if_pos hm]
    have e : skP [45] ([45] ++ dec hi ++ testsT ts) = some (dec hi ++ testsT ts) := skP_iff.2 (by simp)
    have e2 : rdWord (dec hi ++ testsT ts) = some (hi, testsT ts) := word_iff.2 ⟨rfl, by omega, h2, tests_head ts⟩
    simp only [e, e2]
    rw [if_pos (by omega)]
  · rw [if_neg hm]
    have hm' : hi = lo := by omega
    have e : skP [45] ([] ++ testsT ts) = none := skP_none (fun t e => by
      rw [List.nil_append] at e
      cases ts with
      | nil => cases e
      | cons a as1 =>
        rw [testsT_cons, testT_eq] at e
        injection e with e _
        exact absurd e (by decide))
    rw [List.nil_append] at e ⊢
    simp only [e, hm']
/-- A rule, a whole line without its end. -/
def rdRule (l : List UInt8) : Option Rl := match rdVerdict l with
  | none => none
  | some (v, l1) => match skP [32] l1 with
    | none => none
    | some l2 => match rdWord l2 with
      | none => none
      | some (lo, l3) => match rdHigh lo l3 with
        | none => none
        | some (hi, l4) => match rdTests 4 l4 with
          | none => none
          | some ts => some ⟨v, lo, hi, ts⟩
theorem lineT_eq (r : Rl) : lineT r = (wordT r.v ++ ([32] ++ (dec r.lo ++ (highT r.lo r.hi ++ testsT r.ts)))) ++ [10] := by
  unfold lineT headT highT
  simp [List.append_assoc]
theorem ruleB_out {r : Rl} (h : ruleB r = true) : (1 ≤ r.v ∧ r.v ≤ 4) ∧ (0 ≤ r.lo ∧ r.lo ≤ r.hi ∧ r.hi ≤ 4294967295) ∧ r.ts.length ≤ 4 ∧ r.ts.all tstB = true := by
  unfold ruleB ruleB.verB' wordB at h
  simp only [Bool.and_eq_true, decide_eq_true_eq] at h
  exact ⟨h.1.1.1.1.1, ⟨h.1.1.1.1.2.1, h.1.1.2, h.1.1.1.2.2⟩, h.1.2, h.2⟩
theorem ruleB_in {r : Rl} (h : (1 ≤ r.v ∧ r.v ≤ 4) ∧ (0 ≤ r.lo ∧ r.lo ≤ r.hi ∧ r.hi ≤ 4294967295) ∧ r.ts.length ≤ 4 ∧ r.ts.all tstB = true) : ruleB r = true := by
  unfold ruleB ruleB.verB' wordB
  simp only [Bool.and_eq_true, decide_eq_true_eq]
  exact ⟨⟨⟨⟨⟨h.1, by omega⟩, by omega⟩, by omega⟩, h.2.2.1⟩, h.2.2.2⟩
theorem high_head (lo hi : Int) (ts : List Tst) : headNo (highT lo hi ++ testsT ts) := by
  unfold highT
  split
  · exact headNo_cons (by decide)
  · exact tests_head ts
theorem rule_iff {l : List UInt8} {r : Rl} : rdRule l = some r ↔ lineT r = l ++ [10] ∧ ruleB r = true := by
  constructor
  · intro h
    unfold rdRule at h
    split at h
    · cases h
    rename_i v l1 e1
    split at h
    · cases h
    rename_i l2 e2
    split at h
    · cases h
    rename_i lo l3 e3
    split at h
    · cases h
    rename_i hi l4 e4
    split at h
    · cases h
    rename_i ts e5
    injection h with h
    subst h
    obtain ⟨w5, v5, u5⟩ := tests_iff.1 e5
    obtain ⟨w4, v4⟩ := high_sound e4
    obtain ⟨w3, v3, u3, _⟩ := word_iff.1 e3
    have w2 := skP_iff.1 e2
    obtain ⟨v1, w1⟩ := verdict_iff.1 e1
    refine ⟨?_, ruleB_in ⟨v1, ⟨v3, ?_, ?_⟩, v5, u5⟩⟩
    · rw [lineT_eq, w1, w2, w3, w4, w5]
    · simp only; omega
    · simp only; omega
  · rintro ⟨e, hb⟩
    obtain ⟨v, lo, hi, ts⟩ := r
    obtain ⟨b1, b2, b3, b4⟩ := ruleB_out hb
    rw [lineT_eq] at e
    have e := (List.append_cancel_right e).symm
    simp only at b1 b2 b3 b4 e
    subst e
    have e1 : rdVerdict (wordT v ++ ([32] ++ (dec lo ++ (highT lo hi ++ testsT ts)))) = some (v, [32] ++ (dec lo ++ (highT lo hi ++ testsT ts))) := verdict_iff.2 ⟨b1, rfl⟩
    have e2 : skP [32] ([32] ++ (dec lo ++ (highT lo hi ++ testsT ts))) = some (dec lo ++ (highT lo hi ++ testsT ts)) := skP_iff.2 rfl
    have e3 : rdWord (dec lo ++ (highT lo hi ++ testsT ts)) = some (lo, highT lo hi ++ testsT ts) := word_iff.2 ⟨rfl, b2.1, by omega, high_head lo hi ts⟩
    have e4 := high_at b2.1 b2.2.1 b2.2.2 ts
    have e5 : rdTests 4 (testsT ts) = some ts := tests_iff.2 ⟨rfl, b3, b4⟩
    unfold rdRule
    simp only [e1, e2, e3, e4, e5]
/-- The last line: what is said of all else. -/
def rdElse (l : List UInt8) : Option Int := match skP [101, 108, 115, 101, 32] l with
  | none => none
  | some l1 => match rdVerdict l1 with
    | none => none
    | some (v, l2) => if l2 = [] then some v else none
theorem else_iff {l : List UInt8} {v : Int} : rdElse l = some v ↔ l = [101, 108, 115, 101, 32] ++ wordT v ∧ 1 ≤ v ∧ v ≤ 4 := by
  constructor
  · intro h
    unfold rdElse at h
    split at h
    · cases h
    rename_i l1 e1
    split at h
    · cases h
    rename_i v' l2 e2
    split at h
    · rename_i e3
      injection h with h
      subst h e3
      obtain ⟨b, w2⟩ := verdict_iff.1 e2
      rw [skP_iff.1 e1, w2]
      exact ⟨by simp, b⟩
    · cases h
  · rintro ⟨rfl, b⟩
    have e1 : skP [101, 108, 115, 101, 32] ([101, 108, 115, 101, 32] ++ wordT v) = some (wordT v) := skP_iff.2 rfl
    have e2 : rdVerdict (wordT v) = some (v, []) := verdict_iff.2 ⟨b, by simp⟩
    unfold rdElse
    simp only [e1, e2]
    rfl
end Go.Proofs.YtflhniobbdanjaaDoor
