/- More arguments of laws: tests, points, slots. No condition. -/
import Derived.Test.YtmfienlceobfeaaDoorOpen
import Derived.Test.YtmfienlceobfeaaDoorJ6de6721e6c
namespace Go.Proofs.YtmfienlceobfeaaDoor
set_option linter.unusedSimpArgs false
open Go.ChangeShapes Go.WideShapes Go.ChangeAt Go.RowKit Go.Joins Go.Deep
open Go.ChangeMaps (open_string shut_string)
set_option linter.unusedVariables false
set_option maxRecDepth 100000
section
variable {H : Type} {enc : TypeId × Value → H} {P : Program} {w : World} {held : Bool} {sp : Nat → Bool}
/-- The cells of a struct whose fields are all ints. -/
theorem struct_ints {t : TypeId} {fs : Array Field} {fuel b : Nat} {cs : List Value} {x : DataW H × List MemPlace} (hs : P.underlying t = some (.struct fs)) (hone : oneCellFields P fs = true) (hC : P.cellsOf t = fs.size)
    (hint : ∀ (i : Nat) (f : Field), fs[i]? = some f → P.underlying f.type = some (.int .i64)) (h : DataW.trod enc P w b sp held fuel t cs = some x) : ∃ zs : List Int, cs = zs.map (Value.int .i64) ∧ zs.length = fs.size := by
  obtain ⟨ys, n, _, _, hlen, hyl, hf⟩ := DataW.trod_struct hs h
  rw [hC] at hlen
  have key : ∀ k, k ≤ fs.size → ∃ zs : List Int, cs.take k = zs.map (Value.int .i64) ∧ zs.length = k := by
    intro k
    induction k with
    | zero => intro _; exact ⟨[], by simp, rfl⟩
    | succ k ih =>
      intro hk
      obtain ⟨zs, hz, hzl⟩ := ih (by omega)
      obtain ⟨f, hfk⟩ : ∃ f, fs[k]? = some f := ⟨fs[k]'(by omega), by simp⟩
      obtain ⟨ho, hc1⟩ := hone_of hone k f hfk
      have h1 := hf k f hfk
      rw [ho, hc1] at h1
      obtain ⟨y, hy⟩ := some_at hyl (show k < fs.size by omega)
      rw [hy] at h1
      obtain ⟨m, hm, _, _⟩ := DataW.trod_int (hint k f hfk) h1
      refine ⟨zs ++ [m], ?_, by simp [hzl]⟩
      have h2 : cs.take (k + 1) = cs.take k ++ (cs.drop k).take 1 := by
        rw [← List.take_add]
      rw [h2, hz, hm]
      simp
  obtain ⟨zs, hz, hzl⟩ := key fs.size (Nat.le_refl _)
  rw [List.take_of_length_le (by omega)] at hz
  exact ⟨zs, hz, hzl⟩

theorem flat_inv {α : Type} (c : α → List Value) (s : Nat) (hc : ∀ a, (c a).length = s) (l : List α) (j : Nat) (u : Value) (h : (l.flatMap c)[j]? = some u) : ∃ k a, l[k]? = some a ∧ j = k * s + (j - k * s) ∧ j - k * s < s ∧ (c a)[j - k * s]? = some u := by
  induction l generalizing j with
  | nil => simp at h
  | cons b l ih =>
    rw [List.flatMap_cons] at h
    by_cases hj : j < s
    · rw [List.getElem?_append_left (by rw [hc]; exact hj)] at h
      exact ⟨0, b, rfl, by omega, by omega, by simpa using h⟩
    · rw [List.getElem?_append_right (by rw [hc]; omega), hc] at h
      obtain ⟨k, a, h1, h2, h3, h4⟩ := ih (j - s) h
      refine ⟨k + 1, a, by simpa using h1, ?_, ?_, ?_⟩ <;> rw [Nat.succ_mul]
      · omega
      · omega
      · rw [show j - (k * s + s) = j - s - k * s from by omega]; exact h4

/-- Elements of s cells each, one behind the other. -/
theorem rd_elems {α : Type} (c : α → List Value) (s : Nat) (hs : 0 < s) (hc : ∀ a, (c a).length = s) {a : Addr} {n : Nat} (h : ∀ i, i < n → ∃ p, ∀ j u, j < s → (c p)[j]? = some u → w.cell? (a.add (i * s + j)) = some u) :
    ∃ ps : List α, ps.length = n ∧ Rd w w.heap.size s (some a) n (ps.flatMap c) := by
  have key : ∀ k, k ≤ n → ∃ ps : List α, ps.length = k ∧ ∀ i p, ps[i]? = some p → ∀ j u, j < s → (c p)[j]? = some u → w.cell? (a.add (i * s + j)) = some u := by
    intro k
    induction k with
    | zero => intro _; exact ⟨[], rfl, by simp⟩
    | succ k ih =>
      intro hk
      obtain ⟨ps, hl, hp⟩ := ih (by omega)
      obtain ⟨p, hq⟩ := h k (by omega)
      refine ⟨ps ++ [p], by simp [hl], fun i q hi => ?_⟩
      by_cases hik : i < k
      · rw [List.getElem?_append_left (by omega)] at hi
        exact hp i q hi
      · rw [List.getElem?_append_right (by omega)] at hi
        have : i = k := by
          by_cases e : i - ps.length = 0
          · omega
          · obtain ⟨m, hm⟩ := Nat.exists_eq_succ_of_ne_zero e
            rw [hm] at hi; simp at hi
        subst this
        simp [hl] at hi
        subst hi
        exact hq
  obtain ⟨ps, hl, hp⟩ := key n (Nat.le_refl _)
  refine ⟨ps, hl, rd_of_add ?_ ?_ (fun _ => hs)⟩
  · rw [← hl]
    clear hl hp key h
    induction ps with
    | nil => simp
    | cons p ps ih => rw [List.flatMap_cons, List.length_append, ih, hc, List.length_cons, Nat.succ_mul]; omega
  · intro j u hu
    obtain ⟨k, p, h1, h2, h3, h4⟩ := flat_inv c s hc ps j u hu
    have := hp k p h1 (j - k * s) u h3 h4
    rwa [← h2] at this
end
/-- A law's argument: points. -/
def IsPointS (w : World) (v : Value) : Prop := ∃ (A : Option Addr) (n c : Nat) (ps : List Pt), v = .slice A n c ∧ Rd w w.heap.size 7 A n (pts ps) ∧ n ≤ maxLen
/-- A law's argument: a test. -/
def IsTest (_ : World) (v : Value) : Prop := ∃ f m op x, v = .agg #[.int .i64 f, .int .i64 m, .int .i64 op, .int .i64 x]
/-- A law's argument: slots. -/
def IsSlots (_ : World) (v : Value) : Prop := ∃ a b, v = .agg #[.string a, .string b] ∧ a.size ≤ maxLen ∧ b.size ≤ maxLen
section
variable {H : Type} {enc : TypeId × Value → H} {W : World} {base : Nat} {v : Value} {d : DataW H} {p : List MemPlace}
end
end Go.Proofs.YtmfienlceobfeaaDoor
