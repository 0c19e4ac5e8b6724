/- Parts of laws in one text. Conditions: each lemma's own. -/
import Derived.Test.YtmfienlceobfeaaDoorJ9015c1cad7
import Derived.Deep.RegionHeld3
namespace Go.Proofs.YtmfienlceobfeaaDoor
set_option linter.unusedSimpArgs false
open Go.RowKit
set_option linter.unusedVariables false
/-- The call returns a call of its own: the number, and new memory that reads as xs. -/
def RetCall (E : Nat) (num : Int) (n : Nat) (xs : List Int) (w : World) (e : Ending) (w' : World) : Prop :=
  ∃ A c, e = .returned (.agg #[.int .i64 num, .slice A n c]) ∧ w'.ownsRow w.heap.size E 1 (.slice A n c) n (ints xs) ∧ Below w.heap.size w w'
end Go.Proofs.YtmfienlceobfeaaDoor
namespace Go.Proofs.YtmfienlceobfeaaDoor
set_option linter.unusedSimpArgs false
open Go.RowKit
set_option linter.unusedVariables false
def testB (f m op v : Int) : Bool :=
  decide (1 ≤ f ∧ f ≤ 4 ∧ 1 ≤ m ∧ m ≤ 4294967295 ∧ 0 ≤ v ∧ v ≤ 4294967295) && (if op = 1 then bits .and .i64 v m == v else if op = 2 ∨ op = 3 then m == 4294967295 else false)
def fieldV (num : Int) (xs : List Int) (f : Int) : Int := if f = 0 then num else xs.getD (f - 1).toNat 0
def holdsB (op a b : Int) : Bool := if op = 1 then a == b else if op = 2 then decide (a < b) else if op = 3 then decide (b < a) else false
def fitsB (f m op v num : Int) (xs : List Int) : Bool := holdsB op (bits .and .i64 (fieldV num xs f) m) v
def testHoldsB (f m op v num : Int) (xs : List Int) : Bool := testB f m op v && callB num xs && fitsB f m op v num xs
def testV (f m op v : Int) : Value := .agg #[.int .i64 f, .int .i64 m, .int .i64 op, .int .i64 v]

theorem ofInt_i64 (a : Nat) (ha : a < 9223372036854775808) : (BitVec.ofInt 64 (a : Int)).toNat = a := by
  rw [BitVec.ofInt_natCast, BitVec.toNat_ofNat]; exact Nat.mod_eq_of_lt (by omega)
theorem i64_and_nat (a b : Nat) (ha : a < 9223372036854775808) (hb : b < 9223372036854775808) : bits .and .i64 (a : Int) (b : Int) = ((a &&& b : Nat) : Int) := by
  have hx : a &&& b < 2 ^ 63 := Nat.and_lt_two_pow _ (by omega)
  show IntKind.i64.wrap ((BitVec.ofInt 64 (a : Int) &&& BitVec.ofInt 64 (b : Int)).toNat : Int) = _
  rw [BitVec.toNat_and, ofInt_i64 a ha, ofInt_i64 b hb, IntKind.wrap_i64]
  omega
theorem andNot_zero_nat (a b : Nat) (ha : a < 4294967296) (hb : b < 4294967296) : (bits .andNot .i64 (a : Int) (b : Int) == 0) = (bits .and .i64 (a : Int) (b : Int) == (a : Int)) := by
  rw [i64_and_nat a b (by omega) (by omega)]
  have e : bits .andNot .i64 (a : Int) (b : Int) = ((a ^^^ (a &&& b) : Nat) : Int) := by
    show IntKind.i64.wrap ((BitVec.ofInt 64 (a : Int) &&& ~~~ BitVec.ofInt 64 (b : Int)).toNat : Int) = _
    have h2 : BitVec.ofInt 64 (a : Int) &&& ~~~ BitVec.ofInt 64 (b : Int) = BitVec.ofInt 64 (a : Int) ^^^ (BitVec.ofInt 64 (a : Int) &&& BitVec.ofInt 64 (b : Int)) := by
      ext i hi
      simp
      generalize (BitVec.ofNat 64 a)[i] = p
      generalize (BitVec.ofNat 64 b)[i] = q
      cases p <;> cases q <;> rfl
    rw [h2, BitVec.toNat_xor, BitVec.toNat_and, ofInt_i64 a (by omega), ofInt_i64 b (by omega), IntKind.wrap_i64]
    have hx : a ^^^ (a &&& b) < 2 ^ 32 := Nat.xor_lt_two_pow (by omega) (Nat.and_lt_two_pow _ (by omega))
    omega
  rw [e]
  have key : a ^^^ (a &&& b) = 0 ↔ a &&& b = a := by
    constructor
    · intro h
      have h3 := congrArg (fun x => (a &&& b) ^^^ x) h
      simp at h3
      have h4 : (a &&& b) ^^^ (a ^^^ (a &&& b)) = a := by
        rw [Nat.xor_comm a, ← Nat.xor_assoc, Nat.xor_self, Nat.zero_xor]
      omega
    · intro h; rw [h, Nat.xor_self]
  rw [Bool.eq_iff_iff, beq_iff_eq, beq_iff_eq]
  constructor
  · intro h; have : a ^^^ (a &&& b) = 0 := by omega
    have := key.1 this; omega
  · intro h; have : a &&& b = a := by omega
    have := key.2 this; omega
theorem andNot_zero (a b : Int) (h0 : 0 ≤ a) (ha : a ≤ 4294967295) (h1 : 0 ≤ b) (hb : b ≤ 4294967295) : (bits .andNot .i64 a b == 0) = (bits .and .i64 a b == a) := by
  obtain ⟨a, rfl⟩ := Int.eq_ofNat_of_zero_le h0
  obtain ⟨b, rfl⟩ := Int.eq_ofNat_of_zero_le h1
  exact andNot_zero_nat a b (by omega) (by omega)
theorem testB_and {f m op v : Int} (h : testB f m op v = true) : 1 ≤ f ∧ f ≤ 4 ∧ 1 ≤ m ∧ m ≤ 4294967295 ∧ 0 ≤ v ∧ v ≤ 4294967295 ∧ (op = 1 ∨ op = 2 ∨ op = 3) := by
  unfold testB at h
  rw [Bool.and_eq_true] at h
  obtain ⟨h1, h2⟩ := h
  have h1 := of_decide_eq_true h1
  refine ⟨h1.1, h1.2.1, h1.2.2.1, h1.2.2.2.1, h1.2.2.2.2.1, h1.2.2.2.2.2, ?_⟩
  by_cases a : op = 1
  · exact .inl a
  · rw [if_neg a] at h2
    by_cases b : op = 2 ∨ op = 3
    · exact .inr b
    · rw [if_neg b] at h2; cases h2
theorem callB_len {num : Int} {xs : List Int} (h : callB num xs = true) : xs.length = 4 := by
  simp [callB] at h; exact h.1.2
theorem testOk_c (f m op v : Int) (w : World) : Calls Tryd.prog 48 #[testV f m op v] w (RetB (.bool (testB f m op v)) w) := by
  unfold testV
  by_cases hr : 1 ≤ f ∧ f ≤ 4 ∧ 1 ≤ m ∧ m ≤ 4294967295 ∧ 0 ≤ v ∧ v ≤ 4294967295
  · obtain ⟨h1, h2, h3, h4, h5, h6⟩ := hr
    have hw : wordB v = true := by simp [wordB]; omega
    have e := andNot_zero v m (by omega) (by omega) (by omega) (by omega)
    have HE := Lib.hid e
    clear e
    go_enter Tryd.func48, Tryd.ntmps48
    go_wp2_with (go_at_call 22; refine (wordOk_c _ _).mono ?_; rintro e w' ⟨rfl, rfl⟩)
    all_goals go_returns
    all_goals (refine ⟨retv ?_, by go_grown⟩)
    all_goals go_light
    all_goals (have e := HE.out; clear HE; show Value.bool _ = Value.bool _; refine congrArg Value.bool ?_; simp_all [testB]; try omega)
  · have HB : Hid (testB f m op v = false) := by
      show _ = _
      simp [testB]; omega
    have HR := Lib.hid hr
    clear hr
    go_enter Tryd.func48, Tryd.ntmps48
    go_wp2_with (go_at_call 22; refine (wordOk_c _ _).mono ?_; rintro e w' ⟨rfl, rfl⟩)
    all_goals go_returns
    all_goals (refine ⟨retv ?_, by go_grown⟩)
    all_goals go_light
    all_goals (have e := HB.out; have hr := HR.out; simp [wordB] at *; try simp [e]; try omega)
theorem specTestOk_c (f m op v : Int) (w : World) : Calls Tryd.prog 19 #[testV f m op v] w (RetB (.bool (testB f m op v)) w) := by
  unfold testV
  go_enter Tryd.func19, Tryd.ntmps19
  go_wp2_with (go_at_call 18; refine (l1In_c _ _ _ _).mono ?_; rintro e w' ⟨rfl, rfl⟩)
  all_goals go_returns
  all_goals (refine ⟨retv ?_, by go_grown⟩)
  all_goals go_light
  all_goals (show Value.bool _ = Value.bool _; refine congrArg Value.bool ?_; simp_all [testB]; try (first | omega | (split <;> omega)))
end Go.Proofs.YtmfienlceobfeaaDoor
namespace Go.Proofs.YtmfienlceobfeaaDoor
set_option linter.unusedSimpArgs false
open Go.RowKit
set_option linter.unusedVariables false
end Go.Proofs.YtmfienlceobfeaaDoor
namespace Go.Proofs.YtmfienlceobfeaaDoor
set_option linter.unusedSimpArgs false
open Go.RowKit
set_option linter.unusedVariables false
structure Pt where
  v : Int
  f : Int
  m : Int
  op : Int
  x : Int
  y : Int
  n : Int
deriving DecidableEq
def Pt.cells (p : Pt) : List Value := [.int .i64 p.v, .int .i64 p.f, .int .i64 p.m, .int .i64 p.op, .int .i64 p.x, .int .i64 p.y, .int .i64 p.n]
def ptV (p : Pt) : Value := .agg #[.int .i64 p.v, .int .i64 p.f, .int .i64 p.m, .int .i64 p.op, .int .i64 p.x, .int .i64 p.y, .int .i64 p.n]
def pts (ps : List Pt) : List Value := ps.flatMap Pt.cells
def verB (v : Int) : Bool := decide (1 ≤ v ∧ v ≤ 4)
def leafB (p : Pt) : Bool := p.f == 0 && p.m == 0 && p.x == 0 && p.y == 0 && p.n == 0
def ptB (p : Pt) (i : Int) : Bool :=
  if p.op = 0 then verB p.v && leafB p else
  p.v == 0 && (p.op == 1 || p.op == 3) && decide (0 ≤ p.f) && decide (p.f ≤ 4) && decide (1 ≤ p.m) && decide (p.m ≤ 4294967295) && wordB p.x && decide (0 ≤ p.y) && decide (p.y < i) && decide (0 ≤ p.n) && decide (p.n < i)
def graphB (ps : List Pt) : Bool := decide (1 ≤ ps.length ∧ ps.length ≤ 120) && ps.zipIdx.all fun q => ptB q.1 q.2
theorem pts_len (ps : List Pt) : (pts ps).length = ps.length * 7 := by
  unfold pts
  induction ps with
  | nil => rfl
  | cons p ps ih => rw [List.flatMap_cons, List.length_append, ih, List.length_cons]; simp [Pt.cells]; omega
theorem flat_at {α : Type} (c : α → List Value) (s : Nat) (hc : ∀ a, (c a).length = s) {l : List α} {k : Nat} {a : α} (h : l[k]? = some a) {j : Nat} (hj : j < s) : (l.flatMap c)[k * s + j]? = (c a)[j]? := by
  induction l generalizing k with
  | nil => simp at h
  | cons b l ih =>
    rw [List.flatMap_cons]
    cases k with
    | zero =>
      simp at h
      subst h
      rw [List.getElem?_append_left (by rw [hc]; omega)]
      simp
    | succ k =>
      rw [List.getElem?_append_right (by rw [hc, Nat.succ_mul]; omega), hc]
      rw [show (k + 1) * s + j - s = k * s + j from by rw [Nat.succ_mul]; omega]
      exact ih (by simpa using h)
theorem take_flat {α : Type} (c : α → List Value) (s : Nat) (hc : ∀ a, (c a).length = s) {l : List α} {k : Nat} {a : α} (h : l[k]? = some a) : (l.flatMap c).take (k * s + s) = (l.flatMap c).take (k * s) ++ c a := by
  induction l generalizing k with
  | nil => simp at h
  | cons b l ih =>
    rw [List.flatMap_cons]
    cases k with
    | zero =>
      simp at h
      subst h
      rw [Nat.zero_mul, Nat.zero_add, List.take_zero, List.take_append_of_le_length (by rw [hc]; exact Nat.le_refl _), List.take_of_length_le (by rw [hc]; exact Nat.le_refl _)]
      rfl
    | succ k =>
      rw [Nat.succ_mul, show k * s + s + s = (c b).length + (k * s + s) from by rw [hc]; omega, show k * s + s = (c b).length + k * s from by rw [hc]; omega, List.take_length_add_append, List.take_length_add_append]
      rw [show (c b).length + k * s = k * s + s from by rw [hc]; omega, ih (by simpa using h), List.append_assoc]
theorem pts_at {ps : List Pt} {k : Nat} {p : Pt} (h : ps[k]? = some p) {j : Nat} (hj : j < 7) : (pts ps)[k * 7 + j]? = p.cells[j]? := flat_at Pt.cells 7 (fun _ => rfl) h hj
/-- The seven cells of the k-th point. -/
theorem Rd.pt {w : World} {B n : Nat} {A : Option Addr} {ps : List Pt} (h : Rd w B 7 A n (pts ps)) {k : Nat} (hk : k < n) :
    ∃ b off p, A = some ⟨b, off, none⟩ ∧ b < B ∧ ps[k]? = some p ∧ ps.length = n ∧ w.cell? ⟨b, off + k * 7, none⟩ = some (.int .i64 p.v) ∧ w.cell? ⟨b, off + k * 7 + 1, none⟩ = some (.int .i64 p.f) ∧ w.cell? ⟨b, off + k * 7 + 2, none⟩ = some (.int .i64 p.m) ∧
      w.cell? ⟨b, off + k * 7 + 3, none⟩ = some (.int .i64 p.op) ∧ w.cell? ⟨b, off + k * 7 + 4, none⟩ = some (.int .i64 p.x) ∧ w.cell? ⟨b, off + k * 7 + 5, none⟩ = some (.int .i64 p.y) ∧ w.cell? ⟨b, off + k * 7 + 6, none⟩ = some (.int .i64 p.n) := by
  obtain ⟨b, off, rfl, hb, hc⟩ := h.2 (by omega)
  have hl : ps.length = n := by have := h.1; rw [pts_len] at this; omega
  obtain ⟨p, hp⟩ := some_at hl hk
  have g : ∀ j u, j < 7 → p.cells[j]? = some u → w.cell? ⟨b, off + k * 7 + j, none⟩ = some u := fun j u hj hu => by
    have := hc (k * 7 + j) u (by rw [pts_at hp hj]; exact hu)
    rw [show off + k * 7 + j = off + (k * 7 + j) from by omega]
    exact this
  exact ⟨b, off, p, rfl, hb, hp, hl, g 0 _ (by omega) rfl, g 1 _ (by omega) rfl, g 2 _ (by omega) rfl, g 3 _ (by omega) rfl, g 4 _ (by omega) rfl, g 5 _ (by omega) rfl, g 6 _ (by omega) rfl⟩
theorem verdictOk_c (n : Int) (w : World) : Calls Tryd.prog 38 #[.int .i64 n] w (RetW (.bool (verB n)) w) := by
  go_enter Tryd.func38, Tryd.ntmps38
  go_wp2
  all_goals go_returns
  all_goals (refine ⟨?_, rfl⟩)
  all_goals go_light
  all_goals simp [verB]; omega
end Go.Proofs.YtmfienlceobfeaaDoor
