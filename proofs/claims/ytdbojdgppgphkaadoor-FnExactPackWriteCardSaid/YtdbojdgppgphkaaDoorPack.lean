/- PackWrite: both sides. Conditions: each contract's own. -/
import Derived.Test.YtdbojdgppgphkaaDoorCut
namespace Go.Proofs.YtdbojdgppgphkaaDoor
set_option linter.unusedSimpArgs false
open Go.RowKit
set_option linter.unusedVariables false
set_option linter.unnecessarySimpa false
set_option maxRecDepth 20000
/-- How many lines a text has. -/
def linesN (s : ByteArray) : Nat := Lib.countByte s.data.toList 10
theorem linesN_le (s : ByteArray) : linesN s ≤ s.size := by
  unfold linesN Lib.countByte
  have := List.count_le_length (a := (10 : UInt8)) (l := s.data.toList)
  simpa using this
/-- The last byte ends a line. -/
def endsB (s : ByteArray) : Bool := Lib.hasSuffix s.data.toList [10]
def wholeB (n : Int) (r d : ByteArray) : Bool := decide (1 ≤ n ∧ n ≤ 99) && (decide (r.size ≤ 900) && endsB r) && (decide (d.size ≤ 2600) && endsB d)
def packHead (n : Int) (r d : ByteArray) : ByteArray := (((((⟨#[112, 97, 99, 107, 32]⟩ ++ itoaB n) ++ ⟨#[32]⟩) ++ itoaB (linesN r)) ++ ⟨#[32]⟩) ++ itoaB (linesN d)) ++ ⟨#[10]⟩
def packBody (n : Int) (r d : ByteArray) : ByteArray := (packHead n r d ++ r) ++ d
def packB (key : ByteArray) (n : Int) (r d : ByteArray) : ByteArray := if wholeB n r d then ((packBody n r d ++ ⟨#[116, 97, 103, 32]⟩) ++ macB key (packBody n r d)) ++ ⟨#[10]⟩ else ⟨#[]⟩
theorem ends_last (s : ByteArray) : endsB s = if h : 0 < s.size then (s[s.size - 1]'(by omega)).toNat == 10 else false := by
  unfold endsB Lib.hasSuffix
  have hl : s.data.toList.length = s.size := by simp
  split
  · rename_i h
    have hne : s.data.toList ≠ [] := by
      intro e
      rw [e] at hl
      simp at hl
      omega
    obtain ⟨l, x, e⟩ : ∃ l x, s.data.toList = l ++ [x] := ⟨_, _, (List.dropLast_concat_getLast hne).symm⟩
    have hx : s[s.size - 1]'(by omega) = x := by
      have h1 : s.data.toList[s.size - 1]? = some (s[s.size - 1]'(by omega)) := by
        rw [List.getElem?_eq_getElem (by rw [hl]; omega)]
        simp [ByteArray.getElem_eq_getElem_data]
      have h2 : l.length = s.size - 1 := by
        have := congrArg List.length e
        rw [hl, List.length_append, List.length_singleton] at this
        omega
      have h3 : (l ++ [x])[s.size - 1]? = some x := by
        rw [← h2, List.getElem?_append_right (Nat.le_refl _), Nat.sub_self]
        rfl
      rw [e, h3] at h1
      injection h1 with h1
      exact h1.symm
    rw [e, hx, Bool.eq_iff_iff, List.isSuffixOf_iff_suffix, beq_iff_eq]
    constructor
    · rintro ⟨t, ht⟩
      have := List.append_inj_right' ht rfl
      injection this with this
      rw [← this]
      rfl
    · intro h10
      have : x = 10 := UInt8.toNat_inj.1 h10
      exact ⟨l, by rw [this]⟩
  · rename_i h
    have : s.data.toList = [] := List.eq_nil_of_length_eq_zero (by omega)
    rw [this]
    rfl
theorem count10_c (s : ByteArray) (w : World) : Calls Tryd.prog 58 #[.string s, .string ⟨#[10]⟩] w (RetW (.int .i64 (linesN s)) w) :=
  (Tryd.strings_Count_one s 10 w).mono fun e w' h => ⟨h.1, h.2.symm⟩
theorem suffix10_c (s : ByteArray) (hs : s.size ≤ 9223372036854775807) (w : World) : Calls Tryd.prog 96 #[.string s, .string ⟨#[10]⟩] w (RetW (.bool (endsB s)) w) :=
  (Tryd.strings_HasSuffix s ⟨#[10]⟩ w hs).mono fun e w' h => ⟨h.1, h.2.symm⟩
theorem packLines_c (s : ByteArray) (m : Int) (hs : s.size ≤ 1099511627776) (hm : 0 ≤ m) (hm2 : m ≤ 1099511627776) (w : World) : Calls Tryd.prog 57 #[.string s, .int .i64 m] w (RetW (.bool (decide ((s.size : Int) ≤ m) && endsB s)) w) := by
  have HS := Lib.hid (suffix10_c s (by omega))
  by_cases h : (s.size : Int) ≤ m
  · have e : decide ((s.size : Int) ≤ m) = true := by simpa using h
    rw [e, Bool.true_and]
    go_enter Tryd.func57, Tryd.ntmps57
    (go_wp2_with fail); (go_at_call 96; refine (HS.out _).mono ?_; rintro e w1 ⟨rfl, rfl⟩)
    go_wp2
    go_returns
    exact ⟨rfl, rfl⟩
  · have e : decide ((s.size : Int) ≤ m) = false := by simpa using h
    rw [e, Bool.false_and]
    go_enter Tryd.func57, Tryd.ntmps57
    go_wp2
    go_returns
    exact ⟨rfl, rfl⟩
theorem l7Lines_c (s : ByteArray) (hs : s.size ≤ 1099511627776) (w : World) : Calls Tryd.prog 95 #[.string s] w (RetB (.int .i64 (linesN s)) w) := by
  have HC := Lib.hid (l2Cut_c s 10 hs)
  have hl := cutL_len s 10
  have hn := linesN_le s
  have e : (cutL s 10).length = linesN s + 1 := hl
  generalize strsC (cutL s 10) = zs at *
  rw [e] at HC
  clear hl e
  go_enter Tryd.func95, Tryd.ntmps95
  (go_wp2_with fail); (go_at_call 68; refine (HC.out _).mono ?_; rintro e w1 ⟨A, c, rfl, o1, b1⟩; obtain ⟨gc1, gf1⟩ := below_get b1; (try simp only [heap_drew, World.size_alloc, World.size_setCell] at gc1 gf1); have s1 := below_via (w := w) (by go_grown) b1; have H1 := s1; have hs1 := b1.size; (try simp at hs1); clear b1)
  go_wp2
  go_returns
  exact ⟨by go_num, by go_grown⟩
end Go.Proofs.YtdbojdgppgphkaaDoor
