/- The words near what a policy looks at: in order, each once; both sides' ways. No condition but each lemma's own. -/
import Derived.Test.YtmfienlceobfeaaDoorNearP
import Derived.Test.YtmfienlceobfeaaDoorJ5c6c11a72b
namespace Go.Proofs.YtmfienlceobfeaaDoor
set_option linter.unusedSimpArgs false
open Go.RowKit
set_option linter.unusedVariables false
set_option linter.unnecessarySimpa false
/-- What a rule adds to the words of a field. -/
def rawT (f : Int) (t : Tst) : List Int := if t.f = f then [t.x - 1, t.x, t.x + 1] else []
def rawR (f : Int) (r : Rl) : List Int := if f = 0 then [r.lo - 1, r.lo, r.hi, r.hi + 1] else r.ts.flatMap (rawT f)
def rawW (f : Int) (rs : List Rl) : List Int := rs.flatMap (rawR f)
/-- Words with one more, in order, once. -/
def putI (l : List Int) (n : Int) : List Int := if wordB n = true then (if (l.dropWhile (fun x => decide (x < n))).head? = some n then l else l.takeWhile (fun x => decide (x < n)) ++ n :: l.dropWhile (fun x => decide (x < n))) else l
theorem drop_ge {l : List Int} (h : List.Pairwise (· < ·) l) {n y : Int} (hy : y ∈ l.dropWhile (fun x => decide (x < n))) : n ≤ y := by
  induction l with
  | nil => simp at hy
  | cons a l ih =>
    rw [List.pairwise_cons] at h
    rw [List.dropWhile_cons] at hy
    split at hy
    · exact ih h.2 hy
    · rename_i ha
      have ha' : n ≤ a := by simpa using ha
      rcases List.mem_cons.1 hy with rfl | hy
      · exact ha'
      · have := h.1 y hy; omega
theorem take_lt {l : List Int} {n y : Int} (hy : y ∈ l.takeWhile (fun x => decide (x < n))) : y < n := by
  induction l with
  | nil => simp at hy
  | cons a l ih =>
    rw [List.takeWhile_cons] at hy
    split at hy
    · rename_i ha
      rcases List.mem_cons.1 hy with rfl | hy
      · simpa using ha
      · exact ih hy
    · simp at hy
theorem putI_spec {l : List Int} (h : List.Pairwise (· < ·) l) (n : Int) : List.Pairwise (· < ·) (putI l n) ∧ ∀ x, x ∈ putI l n ↔ x ∈ l ∨ (x = n ∧ wordB n = true) := by
  unfold putI
  by_cases hw : wordB n = true
  · rw [if_pos hw]
    have hsplit : l.takeWhile (fun x => decide (x < n)) ++ l.dropWhile (fun x => decide (x < n)) = l := List.takeWhile_append_dropWhile
    split
    · rename_i hh
      refine ⟨h, fun x => ⟨fun hx => .inl hx, ?_⟩⟩
      rintro (hx | ⟨rfl, _⟩)
      · exact hx
      · rw [← hsplit, List.mem_append]
        exact .inr (List.mem_of_mem_head? hh)
    · rename_i hh
      have hp := h
      rw [← hsplit, List.pairwise_append] at hp
      obtain ⟨p1, p2, p3⟩ := hp
      refine ⟨List.pairwise_append.2 ⟨p1, List.pairwise_cons.2 ⟨fun y hy => ?_, p2⟩, fun a ha b hb => ?_⟩, fun x => ?_⟩
      · have h1 := drop_ge h hy
        have h2 : y ≠ n := by
          rintro rfl
          cases e : l.dropWhile (fun x => decide (x < y)) with
          | nil => rw [e] at hy; simp at hy
          | cons c r =>
            rw [e] at hy hh
            have hc : y ≤ c := drop_ge h (by rw [e]; exact List.mem_cons_self)
            rcases List.mem_cons.1 hy with h3 | h3
            · exact hh (by rw [← h3]; rfl)
            · rw [e, List.pairwise_cons] at p2
              have := p2.1 y h3
              omega
        omega
      · have h1 := take_lt ha
        rcases List.mem_cons.1 hb with rfl | hb
        · exact h1
        · exact p3 a ha b hb
      · rw [List.mem_append, List.mem_cons]
        constructor
        · rintro (hx | rfl | hx)
          · left; rw [← hsplit, List.mem_append]; exact .inl hx
          · exact .inr ⟨rfl, hw⟩
          · left; rw [← hsplit, List.mem_append]; exact .inr hx
        · rintro (hx | ⟨rfl, _⟩)
          · rw [← hsplit, List.mem_append] at hx
            rcases hx with hx | hx
            · exact .inl hx
            · exact .inr (.inr hx)
          · exact .inr (.inl rfl)
  · rw [if_neg hw]
    exact ⟨h, fun x => ⟨fun hx => .inl hx, fun hx => by
      rcases hx with hx | ⟨_, hx⟩
      · exact hx
      · exact absurd hx hw⟩⟩
theorem puts_spec : ∀ (xs l : List Int), List.Pairwise (· < ·) l → List.Pairwise (· < ·) (xs.foldl putI l) ∧ ∀ x, x ∈ xs.foldl putI l ↔ x ∈ l ∨ (x ∈ xs ∧ wordB x = true)
  | [], l, h => ⟨h, fun x => by simp⟩
  | n :: xs, l, h => by
    obtain ⟨h1, h2⟩ := putI_spec h n
    obtain ⟨h3, h4⟩ := puts_spec xs (putI l n) h1
    refine ⟨h3, fun x => ?_⟩
    rw [List.foldl_cons, h4, h2, List.mem_cons]
    constructor
    · rintro ((hx | ⟨rfl, hw⟩) | ⟨hx, hw⟩)
      · exact .inl hx
      · exact .inr ⟨.inl rfl, hw⟩
      · exact .inr ⟨.inr hx, hw⟩
    · rintro (hx | ⟨rfl | hx, hw⟩)
      · exact .inl (.inl hx)
      · exact .inl (.inr ⟨rfl, hw⟩)
      · exact .inr ⟨hx, hw⟩
/-- The words near what a policy looks at in a field. -/
def nearW (rs : List Rl) (f : Int) : List Int := (rawW f rs).foldl putI [0]
theorem nearW_asc (rs : List Rl) (f : Int) : List.Pairwise (· < ·) (nearW rs f) := (puts_spec (rawW f rs) [0] (by simp)).1
theorem nearW_mem (rs : List Rl) (f x : Int) : x ∈ nearW rs f ↔ x = 0 ∨ (x ∈ rawW f rs ∧ wordB x = true) := by
  have := (puts_spec (rawW f rs) [0] (by simp)).2 x
  rw [List.mem_singleton] at this
  exact this
theorem nearW_word (rs : List Rl) (f x : Int) (h : x ∈ nearW rs f) : wordB x = true := by
  rcases (nearW_mem rs f x).1 h with rfl | h
  · decide
  · exact h.2
theorem nearW_pos (rs : List Rl) (f : Int) : 0 < (nearW rs f).length := List.length_pos_of_mem ((nearW_mem rs f 0).2 (.inl rfl))
theorem putI_len (l : List Int) (n : Int) : (putI l n).length ≤ l.length + 1 := by
  unfold putI
  split
  · split
    · omega
    · have : (l.takeWhile (fun x => decide (x < n)) ++ l.dropWhile (fun x => decide (x < n))).length = l.length := by rw [List.takeWhile_append_dropWhile]
      rw [List.length_append] at this
      simp; omega
  · omega
theorem puts_len : ∀ (xs l : List Int), (xs.foldl putI l).length ≤ l.length + xs.length
  | [], l => by simp
  | n :: xs, l => by
    have h1 := puts_len xs (putI l n)
    have h2 := putI_len l n
    simp at h1 ⊢; omega
theorem low_near {rs : List Rl} {r : Rl} (h : r ∈ rs) (hw : wordB r.lo = true) : r.lo ∈ nearW rs 0 := by
  refine (nearW_mem rs 0 r.lo).2 (.inr ⟨List.mem_flatMap.2 ⟨r, h, ?_⟩, hw⟩)
  unfold rawR
  rw [if_pos rfl]
  simp
/-- The five lists of words; the call at some places in them. -/
def nearL (rs : List Rl) : List (List Int) := [nearW rs 0, nearW rs 1, nearW rs 2, nearW rs 3, nearW rs 4]
def wordsAt (ws : List (List Int)) (a : List Nat) : List Int := (ws.zip a).map (fun q => q.1.getD q.2 0)
def lensN (ws : List (List Int)) : List Nat := ws.map List.length
/-- Calls as their words, the number first: so many at most. -/
def nearC (rs : List Rl) (most : Nat) : List (List Int) := (goN (lensN (nearL rs)) most [0, 0, 0, 0, 0]).map (wordsAt (nearL rs))
theorem lens_pos (rs : List Rl) : ∀ n ∈ lensN (nearL rs), 0 < n := by
  intro n hn
  simp only [lensN, nearL, List.map_cons, List.map_nil, List.mem_cons, List.not_mem_nil, or_false] at hn
  rcases hn with rfl | rfl | rfl | rfl | rfl <;> exact nearW_pos _ _
theorem nearC_all (rs : List Rl) (most : Nat) : nearC rs most = ((allN (lensN (nearL rs))).take most).map (wordsAt (nearL rs)) := by
  unfold nearC
  have := goN_all (lensN (nearL rs)) (lens_pos rs) most
  rw [← this]
  rfl
theorem nearC_len (rs : List Rl) (most : Nat) : (nearC rs most).length ≤ most := by
  rw [nearC_all, List.length_map, List.length_take]
  exact Nat.min_le_left _ _
theorem len5 {a : List Nat} (h : a.length = 5) : ∃ a0 a1 a2 a3 a4, a = [a0, a1, a2, a3, a4] := by
  match a, h with
  | [a0, a1, a2, a3, a4], _ => exact ⟨a0, a1, a2, a3, a4, rfl⟩
/-- What the choices of five lists are. -/
theorem all5 {rs : List Rl} {a : List Nat} (h : a ∈ allN (lensN (nearL rs))) : ∃ a0 a1 a2 a3 a4, a = [a0, a1, a2, a3, a4] ∧ a0 < (nearW rs 0).length ∧ a1 < (nearW rs 1).length ∧ a2 < (nearW rs 2).length ∧ a3 < (nearW rs 3).length ∧ a4 < (nearW rs 4).length := by
  obtain ⟨h1, h2⟩ := (allN_mem _ _).1 h
  obtain ⟨a0, a1, a2, a3, a4, rfl⟩ := len5 (by rw [h1]; rfl)
  exact ⟨a0, a1, a2, a3, a4, rfl, h2 0 _ _ rfl rfl, h2 1 _ _ rfl rfl, h2 2 _ _ rfl rfl, h2 3 _ _ rfl rfl, h2 4 _ _ rfl rfl⟩
theorem getD_mem {l : List Int} {k : Nat} (h : k < l.length) : l.getD k 0 ∈ l := by
  rw [List.getD_eq_getElem?_getD, List.getElem?_eq_getElem h]
  exact List.getElem_mem h
/-- Each near call is one: five words. -/
theorem nearC_ok {rs : List Rl} {most : Nat} {c : List Int} (h : c ∈ nearC rs most) : ∃ x x1 x2 x3 x4, c = [x, x1, x2, x3, x4] ∧ wordB x = true ∧ wordB x1 = true ∧ wordB x2 = true ∧ wordB x3 = true ∧ wordB x4 = true := by
  rw [nearC_all] at h
  obtain ⟨a, ha, rfl⟩ := List.mem_map.1 h
  obtain ⟨a0, a1, a2, a3, a4, rfl, h0, h1, h2, h3, h4⟩ := all5 (List.mem_of_mem_take ha)
  exact ⟨_, _, _, _, _, rfl, nearW_word _ _ _ (getD_mem h0), nearW_word _ _ _ (getD_mem h1), nearW_word _ _ _ (getD_mem h2), nearW_word _ _ _ (getD_mem h3), nearW_word _ _ _ (getD_mem h4)⟩
theorem asc_inj {l : List Int} (h : List.Pairwise (· < ·) l) {i j : Nat} (hi : i < l.length) (hj : j < l.length) (e : l.getD i 0 = l.getD j 0) : i = j := by
  rw [List.getD_eq_getElem?_getD, List.getElem?_eq_getElem hi, List.getD_eq_getElem?_getD, List.getElem?_eq_getElem hj] at e
  simp only [Option.getD_some] at e
  rcases Nat.lt_trichotomy i j with h1 | h1 | h1
  · have := List.pairwise_iff_getElem.1 h i j hi hj h1; omega
  · exact h1
  · have := List.pairwise_iff_getElem.1 h j i hj hi h1; omega
/-- Two choices that lead to one call are one. -/
theorem words_inj {rs : List Rl} {a b : List Nat} (ha : a ∈ allN (lensN (nearL rs))) (hb : b ∈ allN (lensN (nearL rs))) (e : wordsAt (nearL rs) a = wordsAt (nearL rs) b) : a = b := by
  obtain ⟨a0, a1, a2, a3, a4, rfl, g0, g1, g2, g3, g4⟩ := all5 ha
  obtain ⟨b0, b1, b2, b3, b4, rfl, k0, k1, k2, k3, k4⟩ := all5 hb
  simp only [wordsAt, nearL, List.zip_cons_cons, List.zip_nil_left, List.map_cons, List.map_nil, List.cons.injEq, and_true] at e
  obtain ⟨e0, e1, e2, e3, e4⟩ := e
  rw [asc_inj (nearW_asc rs 0) g0 k0 e0, asc_inj (nearW_asc rs 1) g1 k1 e1, asc_inj (nearW_asc rs 2) g2 k2 e2, asc_inj (nearW_asc rs 3) g3 k3 e3, asc_inj (nearW_asc rs 4) g4 k4 e4]
/-- One behind the other, two near calls are unlike. -/
theorem nearC_ne {rs : List Rl} {most k : Nat} {c d : List Int} (hc : (nearC rs most)[k]? = some c) (hd : (nearC rs most)[k + 1]? = some d) : c ≠ d := by
  rw [nearC_all, List.getElem?_map, Option.map_eq_some_iff] at hc hd
  obtain ⟨a, ha, rfl⟩ := hc
  obtain ⟨b, hb, rfl⟩ := hd
  rw [List.getElem?_take] at ha hb
  split at ha
  · split at hb
    · have hn := (allN_step _ (lens_pos rs)).2 k a ha
      rw [hb] at hn
      have hne := nextN_ne _ _ _ hn
      exact fun e => hne (words_inj (List.mem_of_getElem? ha) (List.mem_of_getElem? hb) e)
    · cases hb
  · cases ha
/-- Each first word of a rule stands in one, if they are not too many. -/
theorem nearC_low {rs : List Rl} {most : Nat} {r : Rl} (h : r ∈ rs) (hw : wordB r.lo = true) (hl : (nearC rs most).length < most) : ∃ (k : Nat) (c : List Int), (nearC rs most)[k]? = some c ∧ c.head? = some r.lo := by
  have hm := low_near h hw
  obtain ⟨i, hi, e⟩ := List.getElem_of_mem hm
  have hall : [i, 0, 0, 0, 0] ∈ allN (lensN (nearL rs)) := by
    refine (allN_mem _ _).2 ⟨rfl, fun j x n hx hn => ?_⟩
    match j, hx, hn with
    | 0, hx, hn => simp [lensN, nearL] at hx hn; omega
    | 1, hx, hn => simp [lensN, nearL] at hx hn; have := nearW_pos rs 1; omega
    | 2, hx, hn => simp [lensN, nearL] at hx hn; have := nearW_pos rs 2; omega
    | 3, hx, hn => simp [lensN, nearL] at hx hn; have := nearW_pos rs 3; omega
    | 4, hx, hn => simp [lensN, nearL] at hx hn; have := nearW_pos rs 4; omega
    | j + 5, hx, hn => simp at hx
  have htk : (allN (lensN (nearL rs))).take most = allN (lensN (nearL rs)) := by
    refine List.take_of_length_le ?_
    rw [nearC_all, List.length_map, List.length_take] at hl
    omega
  have hin : wordsAt (nearL rs) [i, 0, 0, 0, 0] ∈ nearC rs most := by
    rw [nearC_all, htk]
    exact List.mem_map_of_mem hall
  obtain ⟨k, hk⟩ := List.mem_iff_getElem?.1 hin
  refine ⟨k, _, hk, ?_⟩
  simp only [wordsAt, nearL, List.zip_cons_cons, List.zip_nil_left, List.map_cons, List.map_nil, List.head?_cons]
  rw [List.getD_eq_getElem?_getD, List.getElem?_eq_getElem hi, e]
  rfl
end Go.Proofs.YtmfienlceobfeaaDoor
