/- Contracts of the functions on tests, both sides, and TestHolds. Conditions: each contract's own. -/
import Derived.Test.YtljgaepgblakhaaDoorCall2
namespace Go.Proofs.YtljgaepgblakhaaDoor
set_option linter.unusedSimpArgs false
open Go.RowKit
set_option linter.unusedVariables false
def testB (f m op v : Int) : Bool :=
  decide (1 ≤ f ∧ f ≤ 4 ∧ 1 ≤ m ∧ m ≤ 4294967295 ∧ 0 ≤ v ∧ v ≤ 4294967295) && (if op = 1 then bits .and .i64 v m == v else if op = 2 ∨ op = 3 then m == 4294967295 else false)
def fieldV (num : Int) (xs : List Int) (f : Int) : Int := if f = 0 then num else xs.getD (f - 1).toNat 0
def holdsB (op a b : Int) : Bool := if op = 1 then a == b else if op = 2 then decide (a < b) else if op = 3 then decide (b < a) else false
def fitsB (f m op v num : Int) (xs : List Int) : Bool := holdsB op (bits .and .i64 (fieldV num xs f) m) v
def testHoldsB (f m op v num : Int) (xs : List Int) : Bool := testB f m op v && callB num xs && fitsB f m op v num xs
def testV (f m op v : Int) : Value := .agg #[.int .i64 f, .int .i64 m, .int .i64 op, .int .i64 v]

theorem ofInt_i64 (a : Nat) (ha : a < 9223372036854775808) : (BitVec.ofInt 64 (a : Int)).toNat = a := by
  rw [BitVec.ofInt_natCast, BitVec.toNat_ofNat]; exact Nat.mod_eq_of_lt (by omega)
theorem i64_and_nat (a b : Nat) (ha : a < 9223372036854775808) (hb : b < 9223372036854775808) : bits .and .i64 (a : Int) (b : Int) = ((a &&& b : Nat) : Int) := by
  have hx : a &&& b < 2 ^ 63 := Nat.and_lt_two_pow _ (by omega)
  show IntKind.i64.wrap ((BitVec.ofInt 64 (a : Int) &&& BitVec.ofInt 64 (b : Int)).toNat : Int) = _
  rw [BitVec.toNat_and, ofInt_i64 a ha, ofInt_i64 b hb, IntKind.wrap_i64]
  omega
theorem andNot_zero_nat (a b : Nat) (ha : a < 4294967296) (hb : b < 4294967296) : (bits .andNot .i64 (a : Int) (b : Int) == 0) = (bits .and .i64 (a : Int) (b : Int) == (a : Int)) := by
  rw [i64_and_nat a b (by omega) (by omega)]
  have e : bits .andNot .i64 (a : Int) (b : Int) = ((a ^^^ (a &&& b) : Nat) : Int) := by
    show IntKind.i64.wrap ((BitVec.ofInt 64 (a : Int) &&& ~~~ BitVec.ofInt 64 (b : Int)).toNat : Int) = _
    have h2 : BitVec.ofInt 64 (a : Int) &&& ~~~ BitVec.ofInt 64 (b : Int) = BitVec.ofInt 64 (a : Int) ^^^ (BitVec.ofInt 64 (a : Int) &&& BitVec.ofInt 64 (b : Int)) := by
      ext i hi
      simp
      generalize (BitVec.ofNat 64 a)[i] = p
      generalize (BitVec.ofNat 64 b)[i] = q
      cases p <;> cases q <;> rfl
    rw [h2, BitVec.toNat_xor, BitVec.toNat_and, ofInt_i64 a (by omega), ofInt_i64 b (by omega), IntKind.wrap_i64]
    have hx : a ^^^ (a &&& b) < 2 ^ 32 := Nat.xor_lt_two_pow (by omega) (Nat.and_lt_two_pow _ (by omega))
    omega
  rw [e]
  have key : a ^^^ (a &&& b) = 0 ↔ a &&& b = a := by
    constructor
    · intro h
      have h3 := congrArg (fun x => (a &&& b) ^^^ x) h
      simp at h3
      have h4 : (a &&& b) ^^^ (a ^^^ (a &&& b)) = a := by
        rw [Nat.xor_comm a, ← Nat.xor_assoc, Nat.xor_self, Nat.zero_xor]
      omega
    · intro h; rw [h, Nat.xor_self]
  rw [Bool.eq_iff_iff, beq_iff_eq, beq_iff_eq]
  constructor
  · intro h; have : a ^^^ (a &&& b) = 0 := by omega
    have := key.1 this; omega
  · intro h; have : a &&& b = a := by omega
    have := key.2 this; omega
theorem andNot_zero (a b : Int) (h0 : 0 ≤ a) (ha : a ≤ 4294967295) (h1 : 0 ≤ b) (hb : b ≤ 4294967295) : (bits .andNot .i64 a b == 0) = (bits .and .i64 a b == a) := by
  obtain ⟨a, rfl⟩ := Int.eq_ofNat_of_zero_le h0
  obtain ⟨b, rfl⟩ := Int.eq_ofNat_of_zero_le h1
  exact andNot_zero_nat a b (by omega) (by omega)
theorem testB_and {f m op v : Int} (h : testB f m op v = true) : 1 ≤ f ∧ f ≤ 4 ∧ 1 ≤ m ∧ m ≤ 4294967295 ∧ 0 ≤ v ∧ v ≤ 4294967295 ∧ (op = 1 ∨ op = 2 ∨ op = 3) := by
  unfold testB at h
  rw [Bool.and_eq_true] at h
  obtain ⟨h1, h2⟩ := h
  have h1 := of_decide_eq_true h1
  refine ⟨h1.1, h1.2.1, h1.2.2.1, h1.2.2.2.1, h1.2.2.2.2.1, h1.2.2.2.2.2, ?_⟩
  by_cases a : op = 1
  · exact .inl a
  · rw [if_neg a] at h2
    by_cases b : op = 2 ∨ op = 3
    · exact .inr b
    · rw [if_neg b] at h2; cases h2
theorem callB_len {num : Int} {xs : List Int} (h : callB num xs = true) : xs.length = 4 := by
  simp [callB] at h; exact h.1.2
theorem testOk_c (f m op v : Int) (w : World) : Calls Tryd.prog 166 #[testV f m op v] w (RetB (.bool (testB f m op v)) w) := by
  unfold testV
  by_cases hr : 1 ≤ f ∧ f ≤ 4 ∧ 1 ≤ m ∧ m ≤ 4294967295 ∧ 0 ≤ v ∧ v ≤ 4294967295
  · obtain ⟨h1, h2, h3, h4, h5, h6⟩ := hr
    have hw : wordB v = true := by simp [wordB]; omega
    have e := andNot_zero v m (by omega) (by omega) (by omega) (by omega)
    have HE := Lib.hid e
    clear e
    go_enter Tryd.func166, Tryd.ntmps166
    go_wp2_with (go_at_call 73; refine (wordOk_c _ _).mono ?_; rintro e w' ⟨rfl, rfl⟩)
    all_goals go_returns
    all_goals (refine ⟨retv ?_, by go_grown⟩)
    all_goals go_light
    all_goals (have e := HE.out; clear HE; show Value.bool _ = Value.bool _; refine congrArg Value.bool ?_; simp_all [testB]; try omega)
  · have HB : Hid (testB f m op v = false) := by
      show _ = _
      simp [testB]; omega
    have HR := Lib.hid hr
    clear hr
    go_enter Tryd.func166, Tryd.ntmps166
    go_wp2_with (go_at_call 73; refine (wordOk_c _ _).mono ?_; rintro e w' ⟨rfl, rfl⟩)
    all_goals go_returns
    all_goals (refine ⟨retv ?_, by go_grown⟩)
    all_goals go_light
    all_goals (have e := HB.out; have hr := HR.out; simp [wordB] at *; try simp [e]; try omega)
theorem specTestOk_c (f m op v : Int) (w : World) : Calls Tryd.prog 71 #[testV f m op v] w (RetB (.bool (testB f m op v)) w) := by
  unfold testV
  go_enter Tryd.func71, Tryd.ntmps71
  go_wp2_with (go_at_call 70; refine (l1In_c _ _ _ _).mono ?_; rintro e w' ⟨rfl, rfl⟩)
  all_goals go_returns
  all_goals (refine ⟨retv ?_, by go_grown⟩)
  all_goals go_light
  all_goals (show Value.bool _ = Value.bool _; refine congrArg Value.bool ?_; simp_all [testB]; try (first | omega | (split <;> omega)))
theorem holds_c (op a b : Int) (w : World) : Calls Tryd.prog 103 #[.int .i64 op, .int .i64 a, .int .i64 b] w (RetW (.bool (holdsB op a b)) w) := by
  go_enter Tryd.func103, Tryd.ntmps103
  go_wp2
  all_goals go_returns
  all_goals (refine ⟨retv ?_, rfl⟩)
  all_goals go_light
  all_goals (show Value.bool _ = Value.bool _; refine congrArg Value.bool ?_; simp_all [holdsB])
theorem callField_c (num f : Int) (A : Option Addr) (n c : Nat) (xs : List Int) (w : World) (hr : Rd w w.heap.size 1 A n (ints xs)) (hn : n = 4) (h0 : 0 ≤ f) (h4 : f ≤ 4) :
    Calls Tryd.prog 104 #[.agg #[.int .i64 num, .slice A n c], .int .i64 f] w (RetB (.int .i64 (fieldV num xs f)) w) := by
  subst hn
  obtain ⟨b, off, rfl, hb, hc⟩ := hr.2 (by omega)
  have hl := hr.len1
  have HL := Lib.hid hl
  clear hr hl
  by_cases hz : f = 0
  · subst hz
    clear hc
    go_enter Tryd.func104, Tryd.ntmps104
    go_wp2
    go_returns
    exact ⟨by simp [fieldV], by go_grown⟩
  · obtain ⟨j, rfl⟩ : ∃ j : Nat, f = j + 1 := ⟨(f - 1).toNat, by omega⟩
    obtain ⟨x, hx⟩ := some_at (show xs.length = 4 by simpa [ints] using HL.out) (show j < 4 by omega)
    have hcell := hc j _ (ints_at hx)
    have HX := Lib.hid hx
    clear hc hx
    have hne : ((j : Int) + 1 == 0) = false := by rw [beq_eq_false_iff_ne]; omega
    go_enter Tryd.func104, Tryd.ntmps104
    go_wp2
    go_returns
    refine ⟨retv ?_, by go_grown⟩
    go_light
    have hx := HX.out
    simp [fieldV, hz, hx]
theorem specField_c (num f : Int) (A : Option Addr) (n c : Nat) (xs : List Int) (w : World) (hr : Rd w w.heap.size 1 A n (ints xs)) (hn : n = 4) (h0 : 0 ≤ f) (h4 : f ≤ 4) :
    Calls Tryd.prog 139 #[.agg #[.int .i64 num, .slice A n c], .int .i64 f] w (RetB (.int .i64 (fieldV num xs f)) w) := by
  subst hn
  obtain ⟨b, off, rfl, hb, hc⟩ := hr.2 (by omega)
  have hl := hr.len1
  have HL := Lib.hid hl
  clear hr hl
  by_cases hz : f = 0
  · subst hz
    clear hc
    go_enter Tryd.func139, Tryd.ntmps139
    go_wp2
    go_returns
    exact ⟨by simp [fieldV], by go_grown⟩
  · obtain ⟨j, rfl⟩ : ∃ j : Nat, f = j + 1 := ⟨(f - 1).toNat, by omega⟩
    obtain ⟨x, hx⟩ := some_at (show xs.length = 4 by simpa [ints] using HL.out) (show j < 4 by omega)
    have hcell := hc j _ (ints_at hx)
    have HX := Lib.hid hx
    clear hc hx
    have hne : ((j : Int) + 1 == 0) = false := by rw [beq_eq_false_iff_ne]; omega
    go_enter Tryd.func139, Tryd.ntmps139
    go_wp2
    go_returns
    refine ⟨retv ?_, by go_grown⟩
    go_light
    have hx := HX.out
    simp [fieldV, hz, hx]
theorem testFits_c (f m op v num : Int) (A : Option Addr) (n c : Nat) (xs : List Int) (w : World) (hr : Rd w w.heap.size 1 A n (ints xs)) (hn : n = 4) (h0 : 0 ≤ f) (h4 : f ≤ 4) :
    Calls Tryd.prog 115 #[testV f m op v, .agg #[.int .i64 num, .slice A n c]] w (RetB (.bool (fitsB f m op v num xs)) w) := by
  unfold testV
  have HR := Lib.hid hr
  clear hr
  have HN := Lib.hid hn
  clear hn
  go_enter Tryd.func115, Tryd.ntmps115
  go_wp2
  go_region_held3 (fun w' => w'.cell? ⟨w.heap.size, 0, none⟩ = some (.int .i64 f) ∧ w'.cell? ⟨w.heap.size, 1, none⟩ = some (.int .i64 m) ∧ w'.cell? ⟨w.heap.size, 2, none⟩ = some (.int .i64 op) ∧ w'.cell? ⟨w.heap.size, 3, none⟩ = some (.int .i64 v) ∧ w'.cell? ⟨w.heap.size + 1, 0, none⟩ = some (.int .i64 num) ∧ w'.cell? ⟨w.heap.size + 1, 1, none⟩ = some (.slice A n c)) (simp [go_sem, *])
    (first
     | (go_at_call 104; refine (callField_c num f A n c xs _ (HR.out.upB (by go_grown) (by go_size)) HN.out h0 h4).mono ?_; rintro e w1 ⟨rfl, b1⟩; obtain ⟨gc1, gf1⟩ := below_get b1; (try simp only [heap_drew, World.size_alloc, World.size_setCell] at gc1 gf1); have s1 := below_via (w := w) (by go_grown) b1; have H1 := s1; have hs1 := b1.size; (try simp at hs1); have z1_0 : w.heap.size < w1.heap.size := (by omega); have z1_1 : w.heap.size + 1 < w1.heap.size := (by omega); clear b1)
     | (go_at_call 103; refine (holds_c _ _ _ _).mono ?_; rintro e w2 ⟨rfl, rfl⟩))
  go_wp2
  go_returns
  refine ⟨rfl, by go_grown⟩
