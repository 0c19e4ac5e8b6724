/- Contracts of the functions on tests, both sides, and TestHolds. Conditions: each contract's own. -/
import Derived.Test.YtdbojdgppgphkaaDoorCall2
namespace Go.Proofs.YtdbojdgppgphkaaDoor
set_option linter.unusedSimpArgs false
open Go.RowKit
set_option linter.unusedVariables false
def testB (f m op v : Int) : Bool :=
  decide (1 ≤ f ∧ f ≤ 4 ∧ 1 ≤ m ∧ m ≤ 4294967295 ∧ 0 ≤ v ∧ v ≤ 4294967295) && (if op = 1 then bits .and .i64 v m == v else if op = 2 ∨ op = 3 then m == 4294967295 else false)
def fieldV (num : Int) (xs : List Int) (f : Int) : Int := if f = 0 then num else xs.getD (f - 1).toNat 0
def holdsB (op a b : Int) : Bool := if op = 1 then a == b else if op = 2 then decide (a < b) else if op = 3 then decide (b < a) else false
def fitsB (f m op v num : Int) (xs : List Int) : Bool := holdsB op (bits .and .i64 (fieldV num xs f) m) v
def testHoldsB (f m op v num : Int) (xs : List Int) : Bool := testB f m op v && callB num xs && fitsB f m op v num xs
def testV (f m op v : Int) : Value := .agg #[.int .i64 f, .int .i64 m, .int .i64 op, .int .i64 v]

theorem ofInt_i64 (a : Nat) (ha : a < 9223372036854775808) : (BitVec.ofInt 64 (a : Int)).toNat = a := by
  rw [BitVec.ofInt_natCast, BitVec.toNat_ofNat]; exact Nat.mod_eq_of_lt (by omega)
theorem i64_and_nat (a b : Nat) (ha : a < 9223372036854775808) (hb : b < 9223372036854775808) : bits .and .i64 (a : Int) (b : Int) = ((a &&& b : Nat) : Int) := by
  have hx : a &&& b < 2 ^ 63 := Nat.and_lt_two_pow _ (by omega)
  show IntKind.i64.wrap ((BitVec.ofInt 64 (a : Int) &&& BitVec.ofInt 64 (b : Int)).toNat : Int) = _
  rw [BitVec.toNat_and, ofInt_i64 a ha, ofInt_i64 b hb, IntKind.wrap_i64]
  omega
theorem andNot_zero_nat (a b : Nat) (ha : a < 4294967296) (hb : b < 4294967296) : (bits .andNot .i64 (a : Int) (b : Int) == 0) = (bits .and .i64 (a : Int) (b : Int) == (a : Int)) := by
  rw [i64_and_nat a b (by omega) (by omega)]
  have e : bits .andNot .i64 (a : Int) (b : Int) = ((a ^^^ (a &&& b) : Nat) : Int) := by
    show IntKind.i64.wrap ((BitVec.ofInt 64 (a : Int) &&& ~~~ BitVec.ofInt 64 (b : Int)).toNat : Int) = _
    have h2 : BitVec.ofInt 64 (a : Int) &&& ~~~ BitVec.ofInt 64 (b : Int) = BitVec.ofInt 64 (a : Int) ^^^ (BitVec.ofInt 64 (a : Int) &&& BitVec.ofInt 64 (b : Int)) := by
      ext i hi
      simp
      generalize (BitVec.ofNat 64 a)[i] = p
      generalize (BitVec.ofNat 64 b)[i] = q
      cases p <;> cases q <;> rfl
    rw [h2, BitVec.toNat_xor, BitVec.toNat_and, ofInt_i64 a (by omega), ofInt_i64 b (by omega), IntKind.wrap_i64]
    have hx : a ^^^ (a &&& b) < 2 ^ 32 := Nat.xor_lt_two_pow (by omega) (Nat.and_lt_two_pow _ (by omega))
    omega
  rw [e]
  have key : a ^^^ (a &&& b) = 0 ↔ a &&& b = a := by
    constructor
    · intro h
      have h3 := congrArg (fun x => (a &&& b) ^^^ x) h
      simp at h3
      have h4 : (a &&& b) ^^^ (a ^^^ (a &&& b)) = a := by
        rw [Nat.xor_comm a, ← Nat.xor_assoc, Nat.xor_self, Nat.zero_xor]
      omega
    · intro h; rw [h, Nat.xor_self]
  rw [Bool.eq_iff_iff, beq_iff_eq, beq_iff_eq]
  constructor
  · intro h; have : a ^^^ (a &&& b) = 0 := by omega
    have := key.1 this; omega
  · intro h; have : a &&& b = a := by omega
    have := key.2 this; omega
theorem andNot_zero (a b : Int) (h0 : 0 ≤ a) (ha : a ≤ 4294967295) (h1 : 0 ≤ b) (hb : b ≤ 4294967295) : (bits .andNot .i64 a b == 0) = (bits .and .i64 a b == a) := by
  obtain ⟨a, rfl⟩ := Int.eq_ofNat_of_zero_le h0
  obtain ⟨b, rfl⟩ := Int.eq_ofNat_of_zero_le h1
  exact andNot_zero_nat a b (by omega) (by omega)
theorem testB_and {f m op v : Int} (h : testB f m op v = true) : 1 ≤ f ∧ f ≤ 4 ∧ 1 ≤ m ∧ m ≤ 4294967295 ∧ 0 ≤ v ∧ v ≤ 4294967295 ∧ (op = 1 ∨ op = 2 ∨ op = 3) := by
  unfold testB at h
  rw [Bool.and_eq_true] at h
  obtain ⟨h1, h2⟩ := h
  have h1 := of_decide_eq_true h1
  refine ⟨h1.1, h1.2.1, h1.2.2.1, h1.2.2.2.1, h1.2.2.2.2.1, h1.2.2.2.2.2, ?_⟩
  by_cases a : op = 1
  · exact .inl a
  · rw [if_neg a] at h2
    by_cases b : op = 2 ∨ op = 3
    · exact .inr b
    · rw [if_neg b] at h2; cases h2
theorem callB_len {num : Int} {xs : List Int} (h : callB num xs = true) : xs.length = 4 := by
  simp [callB] at h; exact h.1.2
theorem testOk_c (f m op v : Int) (w : World) : Calls Tryd.prog 137 #[testV f m op v] w (RetB (.bool (testB f m op v)) w) := by
  unfold testV
  by_cases hr : 1 ≤ f ∧ f ≤ 4 ∧ 1 ≤ m ∧ m ≤ 4294967295 ∧ 0 ≤ v ∧ v ≤ 4294967295
  · obtain ⟨h1, h2, h3, h4, h5, h6⟩ := hr
    have hw : wordB v = true := by simp [wordB]; omega
    have e := andNot_zero v m (by omega) (by omega) (by omega) (by omega)
    have HE := Lib.hid e
    clear e
    go_enter Tryd.func137, Tryd.ntmps137
    go_wp2_with (go_at_call 138; refine (wordOk_c _ _).mono ?_; rintro e w' ⟨rfl, rfl⟩)
    all_goals go_returns
    all_goals (refine ⟨retv ?_, by go_grown⟩)
    all_goals go_light
    all_goals (have e := HE.out; clear HE; show Value.bool _ = Value.bool _; refine congrArg Value.bool ?_; simp_all [testB]; try omega)
  · have HB : Hid (testB f m op v = false) := by
      show _ = _
      simp [testB]; omega
    have HR := Lib.hid hr
    clear hr
    go_enter Tryd.func137, Tryd.ntmps137
    go_wp2_with (go_at_call 138; refine (wordOk_c _ _).mono ?_; rintro e w' ⟨rfl, rfl⟩)
    all_goals go_returns
    all_goals (refine ⟨retv ?_, by go_grown⟩)
    all_goals go_light
    all_goals (have e := HB.out; have hr := HR.out; simp [wordB] at *; try simp [e]; try omega)
theorem specTestOk_c (f m op v : Int) (w : World) : Calls Tryd.prog 75 #[testV f m op v] w (RetB (.bool (testB f m op v)) w) := by
  unfold testV
  go_enter Tryd.func75, Tryd.ntmps75
  go_wp2_with (go_at_call 74; refine (l1In_c _ _ _ _).mono ?_; rintro e w' ⟨rfl, rfl⟩)
  all_goals go_returns
  all_goals (refine ⟨retv ?_, by go_grown⟩)
  all_goals go_light
  all_goals (show Value.bool _ = Value.bool _; refine congrArg Value.bool ?_; simp_all [testB]; try (first | omega | (split <;> omega)))
