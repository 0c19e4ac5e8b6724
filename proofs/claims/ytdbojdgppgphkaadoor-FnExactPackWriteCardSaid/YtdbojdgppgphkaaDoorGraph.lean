/- Contracts of the functions on points and graphs: GraphOk on both sides. Conditions: each contract's own. -/
import Derived.Test.YtdbojdgppgphkaaDoorCall
import Derived.Deep.RegionHeld3
namespace Go.Proofs.YtdbojdgppgphkaaDoor
set_option linter.unusedSimpArgs false
open Go.RowKit
set_option linter.unusedVariables false
structure Pt where
  v : Int
  f : Int
  m : Int
  op : Int
  x : Int
  y : Int
  n : Int
deriving DecidableEq
def Pt.cells (p : Pt) : List Value := [.int .i64 p.v, .int .i64 p.f, .int .i64 p.m, .int .i64 p.op, .int .i64 p.x, .int .i64 p.y, .int .i64 p.n]
def ptV (p : Pt) : Value := .agg #[.int .i64 p.v, .int .i64 p.f, .int .i64 p.m, .int .i64 p.op, .int .i64 p.x, .int .i64 p.y, .int .i64 p.n]
def pts (ps : List Pt) : List Value := ps.flatMap Pt.cells
def verB (v : Int) : Bool := decide (1 ≤ v ∧ v ≤ 4)
def leafB (p : Pt) : Bool := p.f == 0 && p.m == 0 && p.x == 0 && p.y == 0 && p.n == 0
def ptB (p : Pt) (i : Int) : Bool :=
  if p.op = 0 then verB p.v && leafB p else
  p.v == 0 && (p.op == 1 || p.op == 3) && decide (0 ≤ p.f) && decide (p.f ≤ 4) && decide (1 ≤ p.m) && decide (p.m ≤ 4294967295) && wordB p.x && decide (0 ≤ p.y) && decide (p.y < i) && decide (0 ≤ p.n) && decide (p.n < i)
def graphB (ps : List Pt) : Bool := decide (1 ≤ ps.length ∧ ps.length ≤ 120) && ps.zipIdx.all fun q => ptB q.1 q.2
theorem pts_len (ps : List Pt) : (pts ps).length = ps.length * 7 := by
  unfold pts
  induction ps with
  | nil => rfl
  | cons p ps ih => rw [List.flatMap_cons, List.length_append, ih, List.length_cons]; simp [Pt.cells]; omega
theorem flat_at {α : Type} (c : α → List Value) (s : Nat) (hc : ∀ a, (c a).length = s) {l : List α} {k : Nat} {a : α} (h : l[k]? = some a) {j : Nat} (hj : j < s) : (l.flatMap c)[k * s + j]? = (c a)[j]? := by
  induction l generalizing k with
  | nil => simp at h
  | cons b l ih =>
    rw [List.flatMap_cons]
    cases k with
    | zero =>
      simp at h
      subst h
      rw [List.getElem?_append_left (by rw [hc]; omega)]
      simp
    | succ k =>
      rw [List.getElem?_append_right (by rw [hc, Nat.succ_mul]; omega), hc]
      rw [show (k + 1) * s + j - s = k * s + j from by rw [Nat.succ_mul]; omega]
      exact ih (by simpa using h)
theorem take_flat {α : Type} (c : α → List Value) (s : Nat) (hc : ∀ a, (c a).length = s) {l : List α} {k : Nat} {a : α} (h : l[k]? = some a) : (l.flatMap c).take (k * s + s) = (l.flatMap c).take (k * s) ++ c a := by
  induction l generalizing k with
  | nil => simp at h
  | cons b l ih =>
    rw [List.flatMap_cons]
    cases k with
    | zero =>
      simp at h
      subst h
      rw [Nat.zero_mul, Nat.zero_add, List.take_zero, List.take_append_of_le_length (by rw [hc]; exact Nat.le_refl _), List.take_of_length_le (by rw [hc]; exact Nat.le_refl _)]
      rfl
    | succ k =>
      rw [Nat.succ_mul, show k * s + s + s = (c b).length + (k * s + s) from by rw [hc]; omega, show k * s + s = (c b).length + k * s from by rw [hc]; omega, List.take_length_add_append, List.take_length_add_append]
      rw [show (c b).length + k * s = k * s + s from by rw [hc]; omega, ih (by simpa using h), List.append_assoc]
theorem pts_at {ps : List Pt} {k : Nat} {p : Pt} (h : ps[k]? = some p) {j : Nat} (hj : j < 7) : (pts ps)[k * 7 + j]? = p.cells[j]? := flat_at Pt.cells 7 (fun _ => rfl) h hj
/-- The seven cells of the k-th point. -/
theorem Rd.pt {w : World} {B n : Nat} {A : Option Addr} {ps : List Pt} (h : Rd w B 7 A n (pts ps)) {k : Nat} (hk : k < n) :
    ∃ b off p, A = some ⟨b, off, none⟩ ∧ b < B ∧ ps[k]? = some p ∧ ps.length = n ∧ w.cell? ⟨b, off + k * 7, none⟩ = some (.int .i64 p.v) ∧ w.cell? ⟨b, off + k * 7 + 1, none⟩ = some (.int .i64 p.f) ∧ w.cell? ⟨b, off + k * 7 + 2, none⟩ = some (.int .i64 p.m) ∧
      w.cell? ⟨b, off + k * 7 + 3, none⟩ = some (.int .i64 p.op) ∧ w.cell? ⟨b, off + k * 7 + 4, none⟩ = some (.int .i64 p.x) ∧ w.cell? ⟨b, off + k * 7 + 5, none⟩ = some (.int .i64 p.y) ∧ w.cell? ⟨b, off + k * 7 + 6, none⟩ = some (.int .i64 p.n) := by
  obtain ⟨b, off, rfl, hb, hc⟩ := h.2 (by omega)
  have hl : ps.length = n := by have := h.1; rw [pts_len] at this; omega
  obtain ⟨p, hp⟩ := some_at hl hk
  have g : ∀ j u, j < 7 → p.cells[j]? = some u → w.cell? ⟨b, off + k * 7 + j, none⟩ = some u := fun j u hj hu => by
    have := hc (k * 7 + j) u (by rw [pts_at hp hj]; exact hu)
    rw [show off + k * 7 + j = off + (k * 7 + j) from by omega]
    exact this
  exact ⟨b, off, p, rfl, hb, hp, hl, g 0 _ (by omega) rfl, g 1 _ (by omega) rfl, g 2 _ (by omega) rfl, g 3 _ (by omega) rfl, g 4 _ (by omega) rfl, g 5 _ (by omega) rfl, g 6 _ (by omega) rfl⟩
theorem verdictOk_c (n : Int) (w : World) : Calls Tryd.prog 110 #[.int .i64 n] w (RetW (.bool (verB n)) w) := by
  go_enter Tryd.func110, Tryd.ntmps110
  go_wp2
  all_goals go_returns
  all_goals (refine ⟨?_, rfl⟩)
  all_goals go_light
  all_goals simp [verB]; omega
