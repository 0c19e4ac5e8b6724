/- Parts of laws in one text. Conditions: each lemma's own. -/
import Derived.Test.YtmfienlceobfeaaDoorJ9015c1cad7
import Derived.Test.YtmfienlceobfeaaDoorDraw
import Derived.Deep.RegionHeld3
namespace Go.Proofs.YtmfienlceobfeaaDoor
set_option linter.unusedSimpArgs false
open Go.RowKit
set_option linter.unusedVariables false
set_option linter.unnecessarySimpa false
/-- The figures of k ahead of s. -/
def mdig (k : Nat) (s : ByteArray) : ByteArray := if h : k = 0 then s else mdig (k / 10) (strOfNums [48 + (k : Int) % 10] ++ s)
termination_by k
decreasing_by omega
theorem mdig_zero (s : ByteArray) : mdig 0 s = s := by rw [mdig]; simp
theorem mdig_pos (k : Nat) (s : ByteArray) (h : 0 < k) : mdig k s = mdig (k / 10) (strOfNums [48 + (k : Int) % 10] ++ s) := by
  conv => lhs; rw [mdig]
  rw [dif_neg (by omega)]
/-- The letter m and the figures of k. -/
def mtext (k : Nat) : ByteArray := ⟨#[109]⟩ ++ mdig k ByteArray.empty
end Go.Proofs.YtmfienlceobfeaaDoor
namespace Go.Proofs.YtmfienlceobfeaaDoor
set_option linter.unusedSimpArgs false
open Go.RowKit
set_option linter.unusedVariables false
set_option linter.unnecessarySimpa false
/-- The cells of n gates that bear f's value each. -/
def gcells (f : Nat → List Value) : Nat → List Value
  | 0 => []
  | n + 1 => gcells f n ++ f n
theorem gcells_len {f : Nat → List Value} (h : ∀ i, (f i).length = 6) (n : Nat) : (gcells f n).length = n * 6 := by
  induction n with
  | zero => rfl
  | succ n ih => rw [gcells, List.length_append, ih, h]; omega
theorem gcells_at {f : Nat → List Value} (h : ∀ i, (f i).length = 6) {n i j : Nat} (hi : i < n) (hj : j < 6) : (gcells f n)[i * 6 + j]? = (f i)[j]? := by
  induction n with
  | zero => omega
  | succ n ih =>
    rw [gcells]
    by_cases hn : i = n
    · subst hn
      rw [List.getElem?_append_right (by rw [gcells_len h]; omega), gcells_len h]
      congr 1; omega
    · rw [List.getElem?_append_left (by rw [gcells_len h]; omega)]
      exact ih (by omega)
/-- Gate i's cells when marked from k on. -/
def mgate (k i : Nat) : List Value := [.string (mtext (k + 6 * i)), .string (mtext (k + 6 * i + 1)), .string (mtext (k + 6 * i + 2)), .bool (((k : Int) + 6 * (i : Int) + 1 + 1 + 1) % 3 == 0), .string (mtext (k + 6 * i + 4)), .string (mtext (k + 6 * i + 5))]
theorem mgate_len (k i : Nat) : (mgate k i).length = 6 := rfl
def kgate (s : ByteArray) (_ : Nat) : List Value := [.string s, .string ByteArray.empty, .string ByteArray.empty, .bool true, .string ByteArray.empty, .string ByteArray.empty]
theorem kgate_len (s : ByteArray) (i : Nat) : (kgate s i).length = 6 := rfl
theorem own6 {w : World} {base e g n cap : Nat} {ys : List Value} (h : w.ownsRow base e 6 (.slice (some ⟨g, 0, none⟩) n cap) n ys) {k : Nat} (hk : k < n) (j : Nat) (hj : j < 6) : ∃ y, w.cell? ⟨g, k * 6 + j, none⟩ = some y := by
  obtain ⟨y, hy⟩ := some_at h.1 (k := k * 6 + j) (by omega)
  exact ⟨y, (h.cellAt (k * 6 + j) (by omega)).trans hy⟩
theorem gr_of_below {w w' : World} (h : Below w.heap.size w w') (g : Nat) : w.grownBy w' (some g) := ⟨h.os, h.tape, h.output, h.size, fun i hi _ => h.block i hi⟩
theorem own6x {w : World} {base e g n cap : Nat} {ys : List Value} (h : w.ownsRow base e 6 (.slice (some ⟨g, 0, none⟩) n cap) n ys) {k : Nat} (hk : k < n) :
    (∃ y0 y1 y2 y3 y4 y5, w.cell? ⟨g, k * 6, none⟩ = some y0 ∧ w.cell? ⟨g, k * 6 + 1, none⟩ = some y1 ∧ w.cell? ⟨g, k * 6 + 2, none⟩ = some y2 ∧ w.cell? ⟨g, k * 6 + 3, none⟩ = some y3 ∧ w.cell? ⟨g, k * 6 + 4, none⟩ = some y4 ∧ w.cell? ⟨g, k * 6 + 5, none⟩ = some y5) ∧ ∀ j, w.frozen? ⟨g, j, none⟩ = false := by
  obtain ⟨y0, h0⟩ := own6 h hk 0 (by omega)
  obtain ⟨y1, h1⟩ := own6 h hk 1 (by omega)
  obtain ⟨y2, h2⟩ := own6 h hk 2 (by omega)
  obtain ⟨y3, h3⟩ := own6 h hk 3 (by omega)
  obtain ⟨y4, h4⟩ := own6 h hk 4 (by omega)
  obtain ⟨y5, h5⟩ := own6 h hk 5 (by omega)
  exact ⟨⟨y0, y1, y2, y3, y4, y5, h0, h1, h2, h3, h4, h5⟩, fun j => h.frozenAt j⟩
end Go.Proofs.YtmfienlceobfeaaDoor
