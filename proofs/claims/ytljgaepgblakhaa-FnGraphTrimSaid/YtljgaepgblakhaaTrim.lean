/- Plain words on trimming a graph: what both sides reckon. No condition. -/
import Derived.Test.YtljgaepgblakhaaGraph
namespace Go.Proofs.Ytljgaepgblakhaa
set_option linter.unusedSimpArgs false
open Go.RowKit
set_option linter.unusedVariables false
set_option linter.unnecessarySimpa false
/-- Points with one more, if it is not there. -/
def ins (ps : List Pt) (x : Pt) : List Pt := if x ∈ ps then ps else ps ++ [x]
theorem ins_len (ps : List Pt) (x : Pt) : ps.length ≤ (ins ps x).length ∧ (ins ps x).length ≤ ps.length + 1 ∧ ps.idxOf x < (ins ps x).length := by
  unfold ins
  split
  · rename_i h; exact ⟨Nat.le_refl _, Nat.le_succ _, List.idxOf_lt_length_iff.2 h⟩
  · rename_i h
    rw [List.idxOf_eq_length h, List.length_append]
    simp
theorem idx_le {ps : List Pt} {x : Pt} {k : Nat} (h : ps[k]? = some x) : ps.idxOf x ≤ k := by
  induction ps generalizing k with
  | nil => simp at h
  | cons a l ih =>
    rw [List.idxOf_cons]
    by_cases hax : a = x
    · simp [hax]
    · have : (a == x) = false := by simp [hax]
      rw [this]
      cases k with
      | zero => simp at h; exact absurd h hax
      | succ k =>
        have := ih (k := k) (by simpa using h)
        simp; omega
theorem idx_first {ps : List Pt} {x : Pt} {k : Nat} (hn : ∀ j, j < k → ps[j]? ≠ some x) (hk : ps[k]? = some x) : ps.idxOf x = k ∧ x ∈ ps := by
  have hm : x ∈ ps := List.mem_of_getElem? hk
  refine ⟨?_, hm⟩
  have hl := List.idxOf_lt_length_iff.2 hm
  have hg : ps[ps.idxOf x]? = some x := by rw [List.getElem?_eq_getElem hl, List.getElem_idxOf hl]
  rcases Nat.lt_trichotomy (ps.idxOf x) k with h | h | h
  · exact absurd hg (hn _ h)
  · exact h
  · have := idx_le hk; omega
theorem idx_none {ps : List Pt} {x : Pt} (hn : ∀ j, j < ps.length → ps[j]? ≠ some x) : x ∉ ps ∧ ps.idxOf x = ps.length := by
  have hm : x ∉ ps := fun hm => by
    obtain ⟨i, hi, e⟩ := List.getElem_of_mem hm
    exact hn i hi (by rw [List.getElem?_eq_getElem hi, e])
  exact ⟨hm, List.idxOf_eq_length hm⟩
def smallI (x : Int) : Prop := 0 ≤ x ∧ x ≤ 4294967295
def smallP (p : Pt) : Prop := smallI p.v ∧ smallI p.f ∧ smallI p.m ∧ smallI p.op ∧ smallI p.x ∧ smallI p.y ∧ smallI p.n
/-- A graph: all ways lead to points ahead. -/
def GOk (ps : List Pt) : Prop := ps.length ≤ 120 ∧ ∀ (i : Nat) (p : Pt), ps[i]? = some p → smallP p ∧ (p.op = 0 ∨ (0 < p.op ∧ p.v = 0 ∧ p.y < i ∧ p.n < i))
theorem graph_ok {ps : List Pt} (h : graphB ps = true) : GOk ps ∧ 1 ≤ ps.length := by
  unfold graphB at h
  simp only [Bool.and_eq_true, decide_eq_true_eq, List.all_eq_true] at h
  obtain ⟨⟨h1, h2⟩, h3⟩ := h
  refine ⟨⟨h2, fun i p hp => ?_⟩, h1⟩
  have hm : (p, i) ∈ ps.zipIdx := by
    rw [List.mem_zipIdx_iff_getElem?]; exact hp
  have := h3 _ hm
  unfold ptB at this
  simp only at this
  split at this
  · rename_i h0
    simp only [verB, leafB, Bool.and_eq_true, decide_eq_true_eq, beq_iff_eq] at this
    refine ⟨?_, .inl h0⟩
    unfold smallP smallI
    omega
  · rename_i h0
    simp only [wordB, Bool.and_eq_true, Bool.or_eq_true, decide_eq_true_eq, beq_iff_eq] at this
    have hi : i < ps.length := (List.getElem?_eq_some_iff.1 hp).1
    refine ⟨?_, .inr ?_⟩
    · unfold smallP smallI
      omega
    · omega
/-- What point i leads to is marked, if i is. -/
def markAt (g : List Pt) (i : Nat) (U : List Bool) : List Bool :=
  match g[i]? with
  | some p => if U.getD i false = true ∧ p.op ≠ 0 then (U.set p.y.toNat true).set p.n.toNat true else U
  | none => U
def markAll (g : List Pt) : Nat → List Bool → List Bool
  | 0, U => U
  | k + 1, U => markAll g k (markAt g k U)
def usedF (g : List Pt) (at_ : Nat) : List Bool := markAll g (at_ + 1) ((List.replicate g.length false).set at_ true)
theorem markAt_len (g : List Pt) (i : Nat) (U : List Bool) : (markAt g i U).length = U.length := by
  unfold markAt; split
  · split <;> simp
  · rfl
theorem markAll_len (g : List Pt) (k : Nat) (U : List Bool) : (markAll g k U).length = U.length := by
  induction k generalizing U with
  | zero => rfl
  | succ k ih => rw [markAll, ih, markAt_len]
theorem usedF_len (g : List Pt) (a : Nat) : (usedF g a).length = g.length := by rw [usedF, markAll_len]; simp
theorem set_getD (U : List Bool) (i j : Nat) (b : Bool) : (U.set i b).getD j false = if j = i ∧ i < U.length then b else U.getD j false := by
  simp only [List.getD, List.getElem?_set]
  by_cases h : i = j
  · subst h
    by_cases hl : i < U.length
    · simp [hl]
    · simp [hl]
  · have : ¬ j = i := fun e => h e.symm
    simp [h, this]
theorem markAt_mono {g : List Pt} {i j : Nat} {U : List Bool} (h : U.getD j false = true) : (markAt g i U).getD j false = true := by
  unfold markAt; split
  · split
    · rw [set_getD, set_getD]; split
      · rfl
      · split
        · rfl
        · exact h
    · exact h
  · exact h
theorem markAll_mono {g : List Pt} {k j : Nat} {U : List Bool} (h : U.getD j false = true) : (markAll g k U).getD j false = true := by
  induction k generalizing U with
  | zero => exact h
  | succ k ih => exact ih (markAt_mono h)
theorem markAt_high {g : List Pt} (hg : GOk g) {i j : Nat} {U : List Bool} (hj : i ≤ j) : (markAt g i U).getD j false = U.getD j false := by
  unfold markAt; split
  · rename_i p hp
    have := hg.2 i p hp
    unfold smallP smallI at this
    split
    · rename_i hc
      rw [set_getD, set_getD, if_neg (by omega), if_neg (by omega)]
    · rfl
  · rfl
theorem markAll_high {g : List Pt} (hg : GOk g) {k j : Nat} {U : List Bool} (hj : k ≤ j + 1) : (markAll g k U).getD j false = U.getD j false := by
  induction k generalizing U with
  | zero => rfl
  | succ k ih => rw [markAll, ih (by omega), markAt_high hg (by omega)]
/-- What a marked look leads to is marked. -/
theorem markAll_closed {g : List Pt} (hg : GOk g) {k i : Nat} {p : Pt} {U : List Bool} (hl : U.length = g.length) (hi : i < k) (hp : g[i]? = some p) (h0 : p.op ≠ 0) (h : (markAll g k U).getD i false = true) :
    (markAll g k U).getD p.y.toNat false = true ∧ (markAll g k U).getD p.n.toNat false = true := by
  induction k generalizing U with
  | zero => omega
  | succ k ih =>
    rw [markAll] at h ⊢
    by_cases hik : i = k
    · subst hik
      rw [markAll_high hg (by omega), markAt_high hg (Nat.le_refl _)] at h
      have hb := hg.2 i p hp
      unfold smallP smallI at hb
      have hlt : i < g.length := (List.getElem?_eq_some_iff.1 hp).1
      have e : markAt g i U = (U.set p.y.toNat true).set p.n.toNat true := by
        unfold markAt; rw [hp]; exact if_pos ⟨h, h0⟩
      refine ⟨markAll_mono ?_, markAll_mono ?_⟩
      · rw [e, set_getD, set_getD]
        split
        · rfl
        · rw [if_pos ⟨rfl, by omega⟩]
      · rw [e, set_getD, if_pos ⟨rfl, by rw [List.length_set]; omega⟩]
    · exact ih (by rw [markAt_len]; exact hl) (by omega) h
theorem usedF_self {g : List Pt} {a : Nat} (h : a < g.length) : (usedF g a).getD a false = true := by
  unfold usedF
  apply markAll_mono
  rw [set_getD, if_pos ⟨rfl, by simpa using h⟩]
theorem usedF_high {g : List Pt} (hg : GOk g) {a j : Nat} (h : a < j) : (usedF g a).getD j false = false := by
  unfold usedF
  rw [markAll_high hg (by omega), set_getD, if_neg (by omega)]
  simp [List.getD]
  by_cases hj : j < g.length
  · simp [hj]
  · simp [hj]
theorem usedF_closed {g : List Pt} (hg : GOk g) {a i : Nat} {p : Pt} (hp : g[i]? = some p) (h0 : p.op ≠ 0) (h : (usedF g a).getD i false = true) :
    (usedF g a).getD p.y.toNat false = true ∧ (usedF g a).getD p.n.toNat false = true := by
  by_cases hi : i ≤ a
  · exact markAll_closed hg (by simp) (by omega) hp h0 h
  · rw [usedF_high hg (by omega)] at h; cases h
/-- A look with its ways as they are now. -/
def led (x : Pt) (T : List Int) : Pt := { x with y := T.getD x.y.toNat 0, n := T.getD x.n.toNat 0 }
def look (ps : List Pt) (x : Pt) : List Pt × Int := if x.y = x.n then (ps, x.y) else (ins ps x, ((ps.idxOf x : Nat) : Int))
def stepT (g : List Pt) (U : List Bool) (st : List Pt × List Int) (i : Nat) : List Pt × List Int :=
  match g[i]? with
  | some x => if U.getD i false = true then
      if x.op = 0 then (ins st.1 x, st.2.set i ((st.1.idxOf x : Nat) : Int)) else ((look st.1 (led x st.2)).1, st.2.set i (look st.1 (led x st.2)).2)
    else st
  | none => st
def passT (g : List Pt) (U : List Bool) : Nat → List Pt × List Int
  | 0 => ([], List.replicate g.length 0)
  | k + 1 => stepT g U (passT g U k) k
/-- What a pass keeps. -/
structure PassOk (g : List Pt) (U : List Bool) (k : Nat) (st : List Pt × List Int) : Prop where
  ok : GOk st.1
  len : st.1.length ≤ k
  tlen : st.2.length = g.length
  low : ∀ j, 0 ≤ st.2.getD j 0
  high : ∀ j, st.2.getD j 0 ≤ 120
  lt : ∀ j, j < k → j < g.length → U.getD j false = true → st.2.getD j 0 < st.1.length
theorem iset_getD (U : List Int) (i j : Nat) (b : Int) : (U.set i b).getD j 0 = if j = i ∧ i < U.length then b else U.getD j 0 := by
  simp only [List.getD, List.getElem?_set]
  by_cases h : i = j
  · subst h
    by_cases hl : i < U.length
    · simp [hl]
    · simp [hl]
  · have : ¬ j = i := fun e => h e.symm
    simp [h, this]
theorem ins_ok {ps : List Pt} {x : Pt} (h : GOk ps) (hl : ps.length < 120) (hx : smallP x ∧ (x.op = 0 ∨ (0 < x.op ∧ x.v = 0 ∧ x.y < ps.length ∧ x.n < ps.length))) : GOk (ins ps x) := by
  unfold ins
  split
  · exact h
  · refine ⟨by simp; omega, fun i p hp => ?_⟩
    rw [List.getElem?_append] at hp
    split at hp
    · exact h.2 i p hp
    · rename_i hi
      have : i = ps.length := by
        have := (List.getElem?_eq_some_iff.1 hp).1
        simp at this; omega
      subst this
      simp at hp
      subst hp
      exact hx
theorem pass_ok {g : List Pt} (hg : GOk g) {a k : Nat} (hk : k ≤ g.length) : PassOk g (usedF g a) k (passT g (usedF g a) k) := by
  induction k with
  | zero =>
    refine ⟨⟨by simp [passT], by simp [passT]⟩, by simp [passT], by simp [passT], fun j => ?_, fun j => ?_, fun j hj => by omega⟩
    · simp only [passT, List.getD, List.getElem?_replicate]; split <;> simp
    · simp only [passT, List.getD, List.getElem?_replicate]; split <;> simp
  | succ k ih =>
    have I := ih (by omega)
    rw [passT]
    generalize passT g (usedF g a) k = st at *
    obtain ⟨x, hx⟩ := some_at (rfl : g.length = g.length) (show k < g.length by omega)
    have hg120 := hg.1
    have hxo := hg.2 k x hx
    have hIl := I.len
    unfold stepT
    rw [hx]
    simp only
    by_cases hU : (usedF g a).getD k false = true
    · rw [if_pos hU]
      by_cases h0 : x.op = 0
      · rw [if_pos h0]
        have hi := ins_len st.1 x
        refine ⟨ins_ok I.ok (by omega) ⟨hxo.1, .inl h0⟩, by simp; omega, by simp [I.tlen], fun j => ?_, fun j => ?_, fun j hj hjg hjU => ?_⟩
        · simp only; rw [iset_getD]; split
          · omega
          · exact I.low j
        · simp only; rw [iset_getD]; split
          · have := I.ok.1; omega
          · exact I.high j
        · simp only; rw [iset_getD]; split
          · omega
          · rename_i hne
            have := I.lt j (by have := I.tlen; omega) hjg hjU
            omega
      · rw [if_neg h0]
        obtain ⟨hUy, hUn⟩ := usedF_closed hg hx h0 hU
        have hsx := hxo.1
        unfold smallP smallI at hsx
        have hy : x.y < k ∧ x.n < k ∧ 0 < x.op ∧ x.v = 0 := by omega
        have ly := I.lt x.y.toNat (by omega) (by omega) hUy
        have ln := I.lt x.n.toNat (by omega) (by omega) hUn
        have ly0 := I.low x.y.toNat
        have ln0 := I.low x.n.toNat
        have lyh := I.high x.y.toNat
        have lnh := I.high x.n.toNat
        unfold look
        split
        · refine ⟨I.ok, by simp; omega, by simp [I.tlen], fun j => ?_, fun j => ?_, fun j hj hjg hjU => ?_⟩
          · simp only; rw [iset_getD]; split
            · simpa [led] using ly0
            · exact I.low j
          · simp only; rw [iset_getD]; split
            · simpa [led] using lyh
            · exact I.high j
          · simp only; rw [iset_getD]; split
            · simpa [led] using ly
            · exact I.lt j (by have := I.tlen; omega) hjg hjU
        · have hi := ins_len st.1 (led x st.2)
          refine ⟨ins_ok I.ok (by omega) ⟨?_, .inr ?_⟩, by simp; omega, by simp [I.tlen], fun j => ?_, fun j => ?_, fun j hj hjg hjU => ?_⟩
          · unfold smallP smallI led; simp only; omega
          · unfold led; simp only; omega
          · simp only; rw [iset_getD]; split
            · omega
            · exact I.low j
          · simp only; rw [iset_getD]; split
            · have := I.ok.1; omega
            · exact I.high j
          · simp only; rw [iset_getD]; split
            · omega
            · have := I.lt j (by have := I.tlen; omega) hjg hjU
              omega
    · rw [if_neg hU]
      refine ⟨I.ok, by omega, I.tlen, I.low, I.high, fun j hj hjg hjU => ?_⟩
      by_cases hjk : j = k
      · subst hjk; exact absurd hjU hU
      · exact I.lt j (by omega) hjg hjU
/-- A graph from a place on, trimmed until its place is the last. -/
def trimN : Nat → List Pt → Nat → List Pt
  | 0, g, _ => g
  | f + 1, g, a =>
    if (passT g (usedF g a) (a + 1)).2.getD a 0 = ((passT g (usedF g a) (a + 1)).1.length : Int) - 1 then (passT g (usedF g a) (a + 1)).1
    else trimN f (passT g (usedF g a) (a + 1)).1 ((passT g (usedF g a) (a + 1)).2.getD a 0).toNat
/-- What a pass leaves to the next. -/
theorem pass_next {g : List Pt} (hg : GOk g) {a : Nat} (ha : a < g.length) :
    GOk (passT g (usedF g a) (a + 1)).1 ∧ 0 ≤ (passT g (usedF g a) (a + 1)).2.getD a 0 ∧ (passT g (usedF g a) (a + 1)).2.getD a 0 < (passT g (usedF g a) (a + 1)).1.length ∧ (passT g (usedF g a) (a + 1)).1.length ≤ a + 1 := by
  have I := pass_ok hg (a := a) (k := a + 1) (by omega)
  exact ⟨I.ok, I.low a, I.lt a (by omega) ha (usedF_self ha), I.len⟩
end Go.Proofs.Ytljgaepgblakhaa
