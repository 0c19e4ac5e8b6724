/- Plain words on the graph of a policy: what it says of a call. No condition but each lemma's own. -/
import Derived.Test.YtljgaepgblakhaaTrim
import Derived.Test.YtljgaepgblakhaaGraphRun
import Derived.Test.YtljgaepgblakhaaJ904f6d1b51
namespace Go.Proofs.Ytljgaepgblakhaa
set_option linter.unusedSimpArgs false
open Go.RowKit
set_option linter.unusedVariables false
set_option linter.unnecessarySimpa false
/-- Each point is one at its place. -/
def GP (ps : List Pt) : Prop := ∀ (i : Nat) (p : Pt), ps[i]? = some p → ptB p i = true
section
variable {ps qs : List Pt} {num : Int} {xs : List Int}
theorem GP.of_graph (h : graphB ps = true) : GP ps := fun _ _ hp => graphB_at h hp
theorem GP.graph (h : GP ps) (h1 : 1 ≤ ps.length) (h2 : ps.length ≤ 120) : graphB ps = true := by
  unfold graphB
  simp only [Bool.and_eq_true, decide_eq_true_eq, List.all_eq_true]
  refine ⟨⟨h1, h2⟩, fun q hq => ?_⟩
  obtain ⟨p, i⟩ := q
  exact h i p (by simpa [List.mem_zipIdx_iff_getElem?] using hq)
theorem GP.nil_ : GP [] := fun i p h => by simp at h
theorem GP.pre (h : GP (ps ++ qs)) : GP ps := fun i p hp => h i p (by rw [List.getElem?_append_left (List.getElem?_eq_some_iff.1 hp).1]; exact hp)
theorem GP.snoc {x : Pt} (h : GP ps) (hx : ptB x ps.length = true) : GP (ps ++ [x]) := fun i p hp => by
  rw [List.getElem?_append] at hp
  split at hp
  · exact h i p hp
  · rename_i hi
    have hl := (List.getElem?_eq_some_iff.1 hp).1
    obtain rfl : i = ps.length := by simp at hl; omega
    simp at hp
    subst hp
    exact hx
theorem gpF_more (h : GP ps) (num : Int) (xs : List Int) (i : Nat) : ∀ k, i < k → runF ps num xs k i = runAt ps num xs i := by
  induction i using Nat.strongRecOn with
  | ind i ih =>
    intro k hk
    obtain ⟨k, rfl⟩ : ∃ k', k = k' + 1 := ⟨k - 1, by omega⟩
    unfold runAt
    rw [runF, runF]
    cases hp : ps[i]? with
    | none => rfl
    | some p =>
      by_cases h0 : p.op = 0
      · simp [h0]
      · obtain ⟨_, _, _, _, _, _, _, h1, h2, h3, h4⟩ := ptB_look (h i p hp) h0
        simp only [if_neg h0]
        rw [ih p.y.toNat (by omega) k (by omega), ih p.y.toNat (by omega) i (by omega), ih p.n.toNat (by omega) k (by omega), ih p.n.toNat (by omega) i (by omega)]
theorem gp_look (h : GP ps) {i : Nat} {p : Pt} (hp : ps[i]? = some p) (h0 : p.op ≠ 0) :
    runAt ps num xs i = if lookB p num xs then runAt ps num xs p.y.toNat else runAt ps num xs p.n.toNat := by
  obtain ⟨_, _, _, _, _, _, _, h1, h2, h3, h4⟩ := ptB_look (h i p hp) h0
  rw [runAt, runF, hp]
  simp only [if_neg h0]
  rw [gpF_more h num xs p.y.toNat i (by omega), gpF_more h num xs p.n.toNat i (by omega)]
theorem gp_ext (h : GP (ps ++ qs)) (i : Nat) : i < ps.length → runAt (ps ++ qs) num xs i = runAt ps num xs i := by
  induction i using Nat.strongRecOn with
  | ind i ih =>
    intro hi
    obtain ⟨p, hp⟩ := some_at (rfl : ps.length = ps.length) hi
    have hp2 : (ps ++ qs)[i]? = some p := by rw [List.getElem?_append_left hi]; exact hp
    by_cases h0 : p.op = 0
    · rw [runAt_leaf hp h0, runAt_leaf hp2 h0]
    · obtain ⟨_, _, _, _, _, _, _, h1, h2, h3, h4⟩ := ptB_look (h i p hp2) h0
      rw [gp_look h hp2 h0, gp_look h.pre hp h0, ih p.y.toNat (by omega) (by omega), ih p.n.toNat (by omega) (by omega)]
end
/-- Points that go on from others. -/
def Ext (ps qs : List Pt) : Prop := ∃ t, qs = ps ++ t
theorem Ext.refl (ps : List Pt) : Ext ps ps := ⟨[], by simp⟩
theorem Ext.trans {ps qs rs : List Pt} (h : Ext ps qs) (k : Ext qs rs) : Ext ps rs := by
  obtain ⟨a, rfl⟩ := h
  obtain ⟨b, rfl⟩ := k
  exact ⟨a ++ b, by simp⟩
theorem Ext.len {ps qs : List Pt} (h : Ext ps qs) : ps.length ≤ qs.length := by
  obtain ⟨a, rfl⟩ := h
  simp
theorem Ext.run {ps qs : List Pt} {num : Int} {xs : List Int} (h : Ext ps qs) (g : GP qs) {i : Nat} (hi : i < ps.length) : runAt qs num xs i = runAt ps num xs i := by
  obtain ⟨a, rfl⟩ := h
  exact gp_ext g i hi
/-- A list of points with a place in it, that goes on from ps by at most d points. -/
structure Put (ps : List Pt) (d : Nat) (r : List Pt × Int) : Prop where
  gp : GP r.1
  nd : r.1.Nodup
  ext : Ext ps r.1
  lo : 0 ≤ r.2
  hi : r.2 < r.1.length
  len : r.1.length ≤ ps.length + d
/-- What a place says of a call. -/
def says (r : List Pt × Int) (num : Int) (xs : List Int) : Int := runAt r.1 num xs r.2.toNat
theorem ins_put {ps : List Pt} (h : GP ps) (hn : ps.Nodup) {x : Pt} (hx : ptB x ps.length = true) : Put ps 1 (ins ps x, ((ps.idxOf x : Nat) : Int)) ∧ (ins ps x)[ps.idxOf x]? = some x := by
  have hl := ins_len ps x
  unfold ins at *
  split
  · rename_i hm
    rw [if_pos hm] at hl
    have hk := List.idxOf_lt_length_iff.2 hm
    refine ⟨⟨h, hn, Ext.refl _, by simp, by simp; omega, by simp⟩, ?_⟩
    rw [List.getElem?_eq_getElem hk, List.getElem_idxOf hk]
  · rename_i hm
    rw [if_neg hm] at hl
    have hk := List.idxOf_eq_length hm
    refine ⟨⟨h.snoc hx, ?_, ⟨[x], rfl⟩, by simp, by simp; omega, by simp⟩, ?_⟩
    · rw [List.nodup_append]
      refine ⟨hn, by simp, ?_⟩
      intro a ha b hb
      simp at hb
      subst hb
      rintro rfl
      exact hm ha
    · rw [hk]; simp
theorem look_put {ps : List Pt} (h : GP ps) (hn : ps.Nodup) {x : Pt} (h0 : x.op ≠ 0) (hx : ptB x ps.length = true) : Put ps 1 (look ps x) ∧
    ∀ num xs, says (look ps x) num xs = if lookB x num xs then runAt ps num xs x.y.toNat else runAt ps num xs x.n.toNat := by
  obtain ⟨_, _, _, _, _, _, _, h1, h2, h3, h4⟩ := ptB_look hx h0
  unfold look
  split
  · rename_i he
    refine ⟨⟨h, hn, Ext.refl _, h1, by simp; omega, by simp⟩, fun num xs => ?_⟩
    unfold says
    simp only
    rw [he]
    simp
  · obtain ⟨p, g⟩ := ins_put h hn hx
    refine ⟨p, fun num xs => ?_⟩
    unfold says
    simp only [Int.toNat_natCast]
    rw [gp_look p.gp g h0, p.ext.run p.gp (by omega), p.ext.run p.gp (by omega)]
def leafP (v : Int) : Pt := ⟨v, 0, 0, 0, 0, 0, 0⟩
theorem leaf_put {ps : List Pt} (h : GP ps) (hn : ps.Nodup) {v : Int} (hv : 1 ≤ v ∧ v ≤ 4) : Put ps 1 (ins ps (leafP v), ((ps.idxOf (leafP v) : Nat) : Int)) ∧ ∀ num xs, says (ins ps (leafP v), ((ps.idxOf (leafP v) : Nat) : Int)) num xs = v := by
  obtain ⟨p, g⟩ := ins_put h hn (x := leafP v) (by unfold ptB leafP verB leafB; simp; exact hv)
  refine ⟨p, fun num xs => ?_⟩
  unfold says
  simp only [Int.toNat_natCast]
  rw [runAt_leaf g rfl]
  rfl
/-- A look for a test. -/
def testG (ps : List Pt) (t : Tst) (on no : Int) : List Pt × Int :=
  if t.op = 2 then (if t.x = 0 then (ps, no) else look ps ⟨0, t.f, t.m, 3, t.x - 1, no, on⟩) else look ps ⟨0, t.f, t.m, t.op, t.x, on, no⟩
/-- Looks for tests, the last one first. -/
def testsG (ps : List Pt) (on no : Int) : List Tst → List Pt × Int
  | [] => (ps, on)
  | t :: ts => testG (testsG ps on no ts).1 t (testsG ps on no ts).2 no
def numG (op x y n : Int) : Pt := ⟨0, 0, 4294967295, op, x, y, n⟩
def ruleG (ps : List Pt) (r : Rl) (no : Int) : List Pt × Int :=
  let a := testsG (ins ps (leafP r.v)) ((ps.idxOf (leafP r.v) : Nat) : Int) no r.ts
  if r.lo = r.hi then look a.1 (numG 1 r.lo a.2 no) else
    let b := if r.hi < 4294967295 then look a.1 (numG 3 r.hi no a.2) else a
    if 0 < r.lo then look b.1 (numG 3 (r.lo - 1) b.2 no) else b
/-- The points of rules, the last one first, and where they begin. -/
def makeG (els : Int) : List Rl → List Pt × Int
  | [] => ([leafP els], 0)
  | r :: rs => ruleG (makeG els rs).1 r (makeG els rs).2
section
variable {num : Int} {xs : List Int}
theorem and_nonneg {a b : Int} (h0 : 0 ≤ a) (h1 : a ≤ 4294967295) (h2 : 0 ≤ b) (h3 : b ≤ 4294967295) : 0 ≤ bits .and .i64 a b := by
  obtain ⟨a, rfl⟩ := Int.eq_ofNat_of_zero_le h0
  obtain ⟨b, rfl⟩ := Int.eq_ofNat_of_zero_le h2
  rw [i64_and_nat a b (by omega) (by omega)]
  omega
theorem and_full {a : Int} (h0 : 0 ≤ a) (h1 : a ≤ 4294967295) : bits .and .i64 a 4294967295 = a := by
  obtain ⟨a, rfl⟩ := Int.eq_ofNat_of_zero_le h0
  have := i64_and_nat a 4294967295 (by omega) (by omega)
  have e : a &&& 4294967295 = a := by
    have := Nat.and_two_pow_sub_one_of_lt_two_pow (n := 32) (x := a) (by omega)
    simpa using this
  rw [e] at this
  exact this
theorem field_word (hc : callB num xs = true) (f : Int) : 0 ≤ fieldV num xs f ∧ fieldV num xs f ≤ 4294967295 := by
  simp only [callB, Bool.and_eq_true, List.all_eq_true] at hc
  obtain ⟨⟨h1, h2⟩, h3⟩ := hc
  have hw : ∀ y, wordB y = true → 0 ≤ y ∧ y ≤ 4294967295 := fun y hy => by simpa [wordB] using hy
  unfold fieldV
  split
  · exact hw _ h1
  · rw [List.getD_eq_getElem?_getD]
    cases he : xs[(f - 1).toNat]? with
    | none => simp
    | some y => exact hw y (h3 y (List.mem_of_getElem? he))
/-- What a place at or below the end leads on to is kept. -/
theorem test_put {ps : List Pt} (h : GP ps) (hn : ps.Nodup) {t : Tst} (ht : tstB t = true) {on no : Int} (h0 : 0 ≤ on) (h1 : on < ps.length) (h2 : 0 ≤ no) (h3 : no < ps.length) :
    Put ps 1 (testG ps t on no) ∧ ∀ num xs, callB num xs = true → says (testG ps t on no) num xs = if fitsT num xs t then runAt ps num xs on.toNat else runAt ps num xs no.toNat := by
  obtain ⟨a1, a2, a3, a4, a5, a6, a7⟩ := tst_and ht
  have hp : ∀ (op x y n : Int), (op = 1 ∨ op = 3) → 0 ≤ x → x ≤ 4294967295 → 0 ≤ y → y < ps.length → 0 ≤ n → n < ps.length → ptB ⟨0, t.f, t.m, op, x, y, n⟩ ps.length = true := fun op x y n b1 b2 b3 b4 b5 b6 b7 => by
    unfold ptB
    rw [if_neg (by simp; omega)]
    simp [wordB]
    omega
  unfold testG
  by_cases hop : t.op = 2
  · rw [if_pos hop]
    by_cases hx : t.x = 0
    · rw [if_pos hx]
      refine ⟨⟨h, hn, Ext.refl _, h2, h3, by simp⟩, fun num xs hc => ?_⟩
      have hf := field_word hc t.f
      have hb := and_nonneg (b := t.m) hf.1 hf.2 (by omega) (by omega)
      have e : fitsT num xs t = false := by
        unfold fitsT fitsB holdsB
        rw [hop, hx]
        simp
        omega
      rw [e]
      rfl
    · rw [if_neg hx]
      obtain ⟨p, s⟩ := look_put h hn (x := ⟨0, t.f, t.m, 3, t.x - 1, no, on⟩) (by simp) (hp 3 (t.x - 1) no on (.inr rfl) (by omega) (by omega) h2 h3 h0 h1)
      refine ⟨p, fun num xs hc => ?_⟩
      rw [s num xs]
      have e : lookB ⟨0, t.f, t.m, 3, t.x - 1, no, on⟩ num xs = !fitsT num xs t := by
        unfold lookB fitsT fitsB holdsB
        rw [hop]
        simp only [show (3 : Int) ≠ 1 by decide, show (3 : Int) ≠ 2 by decide, show (2 : Int) ≠ 1 by decide, if_true, if_false]
        rw [Bool.eq_iff_iff]
        simp
        omega
      rw [e]
      cases fitsT num xs t <;> rfl
  · rw [if_neg hop]
    obtain ⟨p, s⟩ := look_put h hn (x := ⟨0, t.f, t.m, t.op, t.x, on, no⟩) (by simp; omega) (hp t.op t.x on no (by omega) a5 a6 h0 h1 h2 h3)
    refine ⟨p, fun num xs hc => ?_⟩
    rw [s num xs]
    rfl
theorem tests_put {ps : List Pt} (h : GP ps) (hn : ps.Nodup) {on no : Int} (h0 : 0 ≤ on) (h1 : on < ps.length) (h2 : 0 ≤ no) (h3 : no < ps.length) (ts : List Tst) : ts.all tstB = true →
    Put ps ts.length (testsG ps on no ts) ∧ ∀ num xs, callB num xs = true → says (testsG ps on no ts) num xs = if ts.all (fitsT num xs) then runAt ps num xs on.toNat else runAt ps num xs no.toNat := by
  induction ts with
  | nil => intro _; exact ⟨⟨h, hn, Ext.refl _, h0, h1, by simp [testsG]⟩, fun num xs hc => by simp [testsG, says]⟩
  | cons t ts ih =>
    intro ht
    rw [List.all_cons, Bool.and_eq_true] at ht
    obtain ⟨p, s⟩ := ih ht.2
    rw [testsG]
    generalize testsG ps on no ts = a at *
    have hl := p.ext.len
    obtain ⟨q, u⟩ := test_put p.gp p.nd ht.1 p.lo p.hi h2 (no := no) (by omega)
    have hq := q.len
    have hp := p.len
    refine ⟨⟨q.gp, q.nd, p.ext.trans q.ext, q.lo, q.hi, by rw [List.length_cons]; omega⟩, fun num xs hc => ?_⟩
    rw [u num xs hc]
    have e := s num xs hc
    unfold says at e
    rw [e, p.ext.run p.gp (by omega), List.all_cons]
    cases fitsT num xs t <;> cases ts.all (fitsT num xs) <;> rfl
theorem num_put {ps : List Pt} (h : GP ps) (hn : ps.Nodup) {op x y n : Int} (hop : op = 1 ∨ op = 3) (h0 : 0 ≤ x) (h1 : x ≤ 4294967295) (h2 : 0 ≤ y) (h3 : y < ps.length) (h4 : 0 ≤ n) (h5 : n < ps.length) :
    Put ps 1 (look ps (numG op x y n)) ∧ ∀ num xs, callB num xs = true → says (look ps (numG op x y n)) num xs = if holdsB op num x then runAt ps num xs y.toNat else runAt ps num xs n.toNat := by
  obtain ⟨p, s⟩ := look_put h hn (x := numG op x y n) (by unfold numG; simp; omega) (by
    unfold ptB numG
    rw [if_neg (by simp; omega)]
    simp [wordB]
    omega)
  refine ⟨p, fun num xs hc => ?_⟩
  rw [s num xs]
  have hf := field_word hc 0
  unfold lookB numG
  simp only
  rw [and_full hf.1 hf.2]
  rfl
theorem rule_put {ps : List Pt} (h : GP ps) (hn : ps.Nodup) {r : Rl} (hr : ruleB r = true) {no : Int} (h2 : 0 ≤ no) (h3 : no < ps.length) :
    Put ps 7 (ruleG ps r no) ∧ ∀ num xs, callB num xs = true → says (ruleG ps r no) num xs = if ruleFitsB num xs r then r.v else runAt ps num xs no.toNat := by
  obtain ⟨b1, b2, b3, b4, b5, b6⟩ := rule_and hr
  have hv : 1 ≤ r.v ∧ r.v ≤ 4 := by simpa [ruleB.verB'] using b1
  obtain ⟨p0, s0⟩ := leaf_put h hn hv
  have l0 := p0.ext.len
  have hi0 := p0.hi
  obtain ⟨p1, s1⟩ := tests_put p0.gp p0.nd p0.lo p0.hi h2 (no := no) (by omega) r.ts b6
  (try simp only at p1 s1); (try simp only at l0); (try simp only at hi0)
  have e0 := fun num xs => s0 num xs
  have x0 := p0.ext
  have n0 := p0.len
  (try simp only [says] at e0)
  (try simp only at x0); (try simp only at n0)
  unfold ruleG
  simp only
  generalize testsG (ins ps (leafP r.v)) ((ps.idxOf (leafP r.v) : Nat) : Int) no r.ts = a at *
  have l1 := p1.ext.len
  have n1 := p1.len
  (try simp only at l1); (try simp only at n1)
  have s1' : ∀ num xs, callB num xs = true → runAt a.1 num xs a.2.toNat = if r.ts.all (fitsT num xs) then r.v else runAt ps num xs no.toNat := fun num xs hc => by
    have := s1 num xs hc
    unfold says at this
    rw [this, e0 num xs, Ext.run x0 p0.gp (by omega)]
  have x1 : Ext ps a.1 := x0.trans p1.ext
  have no1 : ∀ num xs, runAt a.1 num xs no.toNat = runAt ps num xs no.toNat := fun num xs => x1.run p1.gp (by omega)
  by_cases he : r.lo = r.hi
  · rw [if_pos he]
    obtain ⟨p2, s2⟩ := num_put p1.gp p1.nd (op := 1) (x := r.lo) (y := a.2) (n := no) (.inl rfl) b2 (by omega) p1.lo p1.hi h2 (by omega)
    have n2 := p2.len
    refine ⟨⟨p2.gp, p2.nd, x1.trans p2.ext, p2.lo, p2.hi, by omega⟩, fun num xs hc => ?_⟩
    rw [s2 num xs hc, s1' num xs hc, no1]
    have e : holdsB 1 num r.lo = decide (r.lo ≤ num ∧ num ≤ r.hi) := by
      unfold holdsB
      rw [if_pos rfl, Bool.eq_iff_iff]
      simp
      omega
    rw [e]
    unfold ruleFitsB
    cases decide (r.lo ≤ num ∧ num ≤ r.hi) <;> simp
  · rw [if_neg he]
    have key : ∃ d, Put ps (d + 6) (if r.hi < 4294967295 then look a.1 (numG 3 r.hi no a.2) else a) ∧ d = 0 ∧ Ext a.1 (if r.hi < 4294967295 then look a.1 (numG 3 r.hi no a.2) else a).1 ∧ ∀ num xs, callB num xs = true → says (if r.hi < 4294967295 then look a.1 (numG 3 r.hi no a.2) else a) num xs = if decide (num ≤ r.hi) && r.ts.all (fitsT num xs) then r.v else runAt ps num xs no.toNat := by
      refine ⟨0, ?_⟩
      by_cases hh : r.hi < 4294967295
      · rw [if_pos hh]
        obtain ⟨p2, s2⟩ := num_put p1.gp p1.nd (op := 3) (x := r.hi) (y := no) (n := a.2) (.inr rfl) (by omega) (by omega) h2 (by omega) p1.lo p1.hi
        have n2 := p2.len
        refine ⟨⟨p2.gp, p2.nd, x1.trans p2.ext, p2.lo, p2.hi, by omega⟩, rfl, p2.ext, fun num xs hc => ?_⟩
        rw [s2 num xs hc, s1' num xs hc, no1]
        have e : holdsB 3 num r.hi = !decide (num ≤ r.hi) := by
          unfold holdsB
          rw [if_neg (by decide), if_neg (by decide), if_pos rfl, Bool.eq_iff_iff]
          simp
        rw [e]
        cases decide (num ≤ r.hi) <;> simp
      · rw [if_neg hh]
        refine ⟨⟨p1.gp, p1.nd, x1, p1.lo, p1.hi, by omega⟩, rfl, Ext.refl _, fun num xs hc => ?_⟩
        have hf := field_word hc 0
        have e : decide (num ≤ r.hi) = true := by
          have : fieldV num xs 0 = num := rfl
          simp
          omega
        rw [e, Bool.true_and]
        exact s1' num xs hc
    obtain ⟨d, p2, rfl, x2, s2⟩ := key
    generalize (if r.hi < 4294967295 then look a.1 (numG 3 r.hi no a.2) else a) = b at *
    have l2 := x2.len
    have n2 := p2.len
    by_cases hl : 0 < r.lo
    · rw [if_pos hl]
      obtain ⟨p3, s3⟩ := num_put p2.gp p2.nd (op := 3) (x := r.lo - 1) (y := b.2) (n := no) (.inr rfl) (by omega) (by omega) p2.lo p2.hi h2 (by omega)
      have n3 := p3.len
      refine ⟨⟨p3.gp, p3.nd, p2.ext.trans p3.ext, p3.lo, p3.hi, by omega⟩, fun num xs hc => ?_⟩
      have e3 := s2 num xs hc
      unfold says at e3
      rw [s3 num xs hc, e3, p2.ext.run p2.gp (by omega)]
      have e : holdsB 3 num (r.lo - 1) = decide (r.lo ≤ num) := by
        unfold holdsB
        rw [if_neg (by decide), if_neg (by decide), if_pos rfl, Bool.eq_iff_iff]
        simp
        omega
      have e' : ruleFitsB num xs r = (decide (r.lo ≤ num) && (decide (num ≤ r.hi) && r.ts.all (fitsT num xs))) := by
        unfold ruleFitsB
        rw [Bool.decide_and, Bool.and_assoc]
      rw [e, e']
      cases decide (r.lo ≤ num) <;> simp
    · rw [if_neg hl]
      refine ⟨⟨p2.gp, p2.nd, p2.ext, p2.lo, p2.hi, by omega⟩, fun num xs hc => ?_⟩
      have hf := field_word hc 0
      have e' : ruleFitsB num xs r = (decide (num ≤ r.hi) && r.ts.all (fitsT num xs)) := by
        unfold ruleFitsB
        have : decide (r.lo ≤ num ∧ num ≤ r.hi) = decide (num ≤ r.hi) := by
          have : fieldV num xs 0 = num := rfl
          rw [Bool.eq_iff_iff]
          simp
          omega
        rw [this]
      rw [e']
      exact s2 num xs hc
/-- What the points of rules say is what the rules say. -/
theorem make_put {els : Int} (he : 1 ≤ els ∧ els ≤ 4) (rs : List Rl) : rs.all ruleB = true →
    Put [] (1 + 7 * rs.length) (makeG els rs) ∧ ∀ num xs, callB num xs = true → says (makeG els rs) num xs = polV ⟨rs, els⟩ num xs := by
  induction rs with
  | nil =>
    intro _
    obtain ⟨p, s⟩ := leaf_put GP.nil_ (by simp) he
    exact ⟨p, fun num xs _ => s num xs⟩
  | cons r rs ih =>
    intro hr
    rw [List.all_cons, Bool.and_eq_true] at hr
    obtain ⟨p, s⟩ := ih hr.2
    rw [makeG]
    generalize makeG els rs = a at *
    obtain ⟨q, u⟩ := rule_put p.gp p.nd hr.1 p.lo p.hi
    have n1 := p.len
    have n2 := q.len
    refine ⟨⟨q.gp, q.nd, ⟨_, rfl⟩, q.lo, q.hi, by simp at *; omega⟩, fun num xs hc => ?_⟩
    have e := s num xs hc
    unfold says at e
    rw [u num xs hc, e, polV_eq, polV_eq]
    rw [List.find?_cons]
    cases ruleFitsB num xs r <;> rfl
end
end Go.Proofs.Ytljgaepgblakhaa
