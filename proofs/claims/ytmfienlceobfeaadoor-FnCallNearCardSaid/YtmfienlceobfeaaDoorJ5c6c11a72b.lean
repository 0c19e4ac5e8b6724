/- Policies as they lie in memory; the functions that copy, compare and count them. Conditions: each contract's own. -/
import Derived.Test.YtmfienlceobfeaaDoorJ6de6721e6c
import Derived.Deep.RegionHeld3
import Derived.Deep.RegionLaw
import Derived.Deep.AppendLies
import Derived.Deep.LoopGhost
import Derived.Deep.QuietTactic
import Derived.BigQuiet
import Derived.Deep.DeepCutAuto
import Derived.Deep.DrawnRows
namespace Go.Proofs.YtmfienlceobfeaaDoor
set_option linter.unusedSimpArgs false
open Go.RowKit
set_option linter.unusedVariables false
set_option linter.unnecessarySimpa false
structure Tst where
  f : Int
  m : Int
  op : Int
  x : Int
deriving DecidableEq
def Tst.cells (t : Tst) : List Value := [.int .i64 t.f, .int .i64 t.m, .int .i64 t.op, .int .i64 t.x]
def tstV (t : Tst) : Value := .agg #[.int .i64 t.f, .int .i64 t.m, .int .i64 t.op, .int .i64 t.x]
def tsts (ts : List Tst) : List Value := ts.flatMap Tst.cells
structure Rl where
  v : Int
  lo : Int
  hi : Int
  ts : List Tst
deriving DecidableEq
structure Pol where
  rs : List Rl
  els : Int
deriving DecidableEq
theorem tsts_len (ts : List Tst) : (tsts ts).length = ts.length * 4 := by
  unfold tsts
  induction ts with
  | nil => rfl
  | cons p ps ih => rw [List.flatMap_cons, List.length_append, ih, List.length_cons]; simp [Tst.cells]; omega
theorem flat4_at {l : List Tst} {k : Nat} {a : Tst} (h : l[k]? = some a) {j : Nat} (hj : j < 4) : (tsts l)[k * 4 + j]? = a.cells[j]? := by
  unfold tsts
  induction l generalizing k with
  | nil => simp at h
  | cons b l ih =>
    rw [List.flatMap_cons]
    cases k with
    | zero =>
      simp at h
      subst h
      rw [List.getElem?_append_left (by simp [Tst.cells]; omega)]
      simp
    | succ k =>
      rw [List.getElem?_append_right (by simp [Tst.cells]; omega)]
      have e : (k + 1) * 4 + j - (Tst.cells b).length = k * 4 + j := by simp [Tst.cells]; omega
      rw [e]
      exact ih (by simpa using h)
theorem tsts_take {l : List Tst} {k : Nat} {a : Tst} (h : l[k]? = some a) : (tsts l).take (k * 4 + 4) = (tsts l).take (k * 4) ++ a.cells := by
  unfold tsts
  induction l generalizing k with
  | nil => simp at h
  | cons b l ih =>
    rw [List.flatMap_cons]
    cases k with
    | zero =>
      simp at h
      subst h
      simp [Tst.cells]
    | succ k =>
      have e1 : (k + 1) * 4 + 4 = (Tst.cells b).length + (k * 4 + 4) := by simp [Tst.cells]; omega
      have e2 : (k + 1) * 4 = (Tst.cells b).length + k * 4 := by simp [Tst.cells]; omega
      rw [e1, e2, List.take_length_add_append, List.take_length_add_append, ih (by simpa using h), List.append_assoc]
/-- The four cells of the k-th test. -/
theorem Rd.tst {w : World} {B n : Nat} {A : Option Addr} {ts : List Tst} (h : Rd w B 4 A n (tsts ts)) {k : Nat} (hk : k < n) :
    ∃ b off t, A = some ⟨b, off, none⟩ ∧ b < B ∧ ts[k]? = some t ∧ w.cell? ⟨b, off + k * 4, none⟩ = some (.int .i64 t.f) ∧ w.cell? ⟨b, off + k * 4 + 1, none⟩ = some (.int .i64 t.m) ∧ w.cell? ⟨b, off + k * 4 + 2, none⟩ = some (.int .i64 t.op) ∧ w.cell? ⟨b, off + k * 4 + 3, none⟩ = some (.int .i64 t.x) := by
  obtain ⟨b, off, rfl, hb, hc⟩ := h.2 (by omega)
  have hl : ts.length = n := by have := h.1; rw [tsts_len] at this; omega
  obtain ⟨t, ht⟩ := some_at hl hk
  have g : ∀ j u, j < 4 → t.cells[j]? = some u → w.cell? ⟨b, off + k * 4 + j, none⟩ = some u := fun j u hj hu => by
    have := hc (k * 4 + j) u (by rw [flat4_at ht hj]; exact hu)
    rw [show off + k * 4 + j = off + (k * 4 + j) from by omega]
    exact this
  exact ⟨b, off, t, rfl, hb, ht, g 0 _ (by omega) rfl, g 1 _ (by omega) rfl, g 2 _ (by omega) rfl, g 3 _ (by omega) rfl⟩
/-- The four cells of a rule, and its tests. -/
def RlAt (w : World) (B b o : Nat) (r : Rl) : Prop := ∃ (TA : Option Addr) (tc : Nat), w.cell? ⟨b, o, none⟩ = some (.int .i64 r.v) ∧ w.cell? ⟨b, o + 1, none⟩ = some (.int .i64 r.lo) ∧ w.cell? ⟨b, o + 2, none⟩ = some (.int .i64 r.hi) ∧ w.cell? ⟨b, o + 3, none⟩ = some (.slice TA r.ts.length tc) ∧
  Rd w B 4 TA r.ts.length (tsts r.ts) ∧ r.ts.length ≤ 9223372036854775807
/-- A slice of rules that reads as rs, below block B. -/
def RdR (w : World) (B : Nat) (A : Option Addr) (n : Nat) (rs : List Rl) : Prop := rs.length = n ∧ (0 < n → ∃ b off, A = some ⟨b, off, none⟩ ∧ b < B ∧ ∀ j r, rs[j]? = some r → RlAt w B b (off + j * 4) r)
section
variable {w w' : World} {B B' n : Nat} {A : Option Addr} {rs : List Rl}
theorem RlAt.below {b o : Nat} {r : Rl} (h : RlAt w B b o r) (hb : Below B w w') (hlt : b < B) : RlAt w' B b o r := by
  obtain ⟨TA, tc, h0, h1, h2, h3, h4, h5⟩ := h
  exact ⟨TA, tc, (hb.cell (p := ⟨b, o, none⟩) hlt).trans h0, (hb.cell (p := ⟨b, o + 1, none⟩) hlt).trans h1, (hb.cell (p := ⟨b, o + 2, none⟩) hlt).trans h2, (hb.cell (p := ⟨b, o + 3, none⟩) hlt).trans h3, h4.below hb, h5⟩
theorem RlAt.more {b o : Nat} {r : Rl} (h : RlAt w B b o r) (hB : B ≤ B') : RlAt w B' b o r := by
  obtain ⟨TA, tc, h0, h1, h2, h3, h4, h5⟩ := h
  exact ⟨TA, tc, h0, h1, h2, h3, h4.more hB, h5⟩
theorem RdR.below (h : RdR w B A n rs) (hb : Below B w w') : RdR w' B A n rs :=
  ⟨h.1, fun hn => by
    obtain ⟨b, off, e, hlt, hc⟩ := h.2 hn
    exact ⟨b, off, e, hlt, fun j r hr => (hc j r hr).below hb hlt⟩⟩
theorem RdR.more (h : RdR w B A n rs) (hB : B ≤ B') : RdR w B' A n rs :=
  ⟨h.1, fun hn => by
    obtain ⟨b, off, e, hlt, hc⟩ := h.2 hn
    exact ⟨b, off, e, by omega, fun j r hr => (hc j r hr).more hB⟩⟩
theorem RdR.up (h : RdR w w.heap.size A n rs) (hb : Below w.heap.size w w') : RdR w' w'.heap.size A n rs := (h.below hb).more hb.size
theorem RdR.upB (h : RdR w B A n rs) (hb : Below B w w') (hB : B ≤ w'.heap.size) : RdR w' w'.heap.size A n rs := (h.below hb).more hB
theorem RdR.nil_ : RdR w B A 0 [] := ⟨rfl, fun h => absurd h (by omega)⟩
/-- The k-th rule. -/
theorem RdR.rl (h : RdR w B A n rs) {k : Nat} (hk : k < n) : ∃ b off r, A = some ⟨b, off, none⟩ ∧ b < B ∧ rs[k]? = some r ∧ RlAt w B b (off + k * 4) r := by
  obtain ⟨b, off, e, hlt, hc⟩ := h.2 (by omega)
  obtain ⟨r, hr⟩ := some_at h.1 hk
  exact ⟨b, off, r, e, hlt, hr, hc k r hr⟩
end
theorem tst_ext {p q : Tst} (h : p.f = q.f ∧ p.m = q.m ∧ p.op = q.op ∧ p.x = q.x) : p = q := by
  obtain ⟨a, b, c, d⟩ := p
  obtain ⟨a', b', c', d'⟩ := q
  simp_all
def tstEq (p q : Tst) : Bool := p.f == q.f && p.m == q.m && p.op == q.op && p.x == q.x
theorem tstEq_iff {p q : Tst} : tstEq p q = true ↔ p = q := by
  constructor
  · intro h; simp [tstEq] at h; exact tst_ext ⟨h.1.1.1, h.1.1.2, h.1.2, h.2⟩
  · rintro rfl; simp [tstEq]
theorem own4 {w : World} {base e g n cap : Nat} {ys : List Value} (h : w.ownsRow base e 4 (.slice (some ⟨g, 0, none⟩) n cap) n ys) {k : Nat} (hk : k < n) :
    (∃ y0 y1 y2 y3, w.cell? ⟨g, k * 4, none⟩ = some y0 ∧ w.cell? ⟨g, k * 4 + 1, none⟩ = some y1 ∧ w.cell? ⟨g, k * 4 + 2, none⟩ = some y2 ∧ w.cell? ⟨g, k * 4 + 3, none⟩ = some y3) ∧ ∀ j, w.frozen? ⟨g, j, none⟩ = false := by
  have key : ∀ j, j < 4 → ∃ y, w.cell? ⟨g, k * 4 + j, none⟩ = some y := fun j hj => by
    obtain ⟨y, hy⟩ := some_at h.1 (k := k * 4 + j) (by omega)
    exact ⟨y, (h.cellAt (k * 4 + j) (by omega)).trans hy⟩
  obtain ⟨y0, h0⟩ := key 0 (by omega)
  obtain ⟨y1, h1⟩ := key 1 (by omega)
  obtain ⟨y2, h2⟩ := key 2 (by omega)
  obtain ⟨y3, h3⟩ := key 3 (by omega)
  exact ⟨⟨y0, y1, y2, y3, h0, h1, h2, h3⟩, fun j => h.frozenAt j⟩
theorem cset_b4 {w : World} {g o b j : Nat} (u : Value) (h : b ≠ g ∨ j ≠ o) : (w.setCell ⟨g, o, none⟩ u).cell? ⟨b, j, none⟩ = w.cell? ⟨b, j, none⟩ := World.cell?_setCell_other _ _ _ _ (by intro e; injection e with e1 e2; rcases h with h | h <;> omega)
theorem Rd.set_far {w : World} {B size n g o : Nat} {A : Option Addr} {xs : List Value} (h : Rd w B size A n xs) (hA : ∀ b off, A = some ⟨b, off, none⟩ → b ≠ g) (u : Value) : Rd (w.setCell ⟨g, o, none⟩ u) B size A n xs :=
  ⟨h.1, fun hn => by
    obtain ⟨b, off, e, hlt, hc⟩ := h.2 hn
    exact ⟨b, off, e, hlt, fun j v hv => (cset_b4 u (.inl (hA b off e))).trans (hc j v hv)⟩⟩
theorem info_test4 : (Tryd.prog.info? 52).map (fun i => (i.zero, i.size, i.bytes)) = some (some (.agg #[.int .i64 0, .int .i64 0, .int .i64 0, .int .i64 0]), 4, 32) := by kernel_rfl
theorem info_rule : (Tryd.prog.info? 37).map (fun i => (i.zero, i.size, i.bytes)) = some (some (.agg #[.int .i64 0, .int .i64 0, .int .i64 0, .slice none 0 0]), 4, 48) := by kernel_rfl
end Go.Proofs.YtmfienlceobfeaaDoor
