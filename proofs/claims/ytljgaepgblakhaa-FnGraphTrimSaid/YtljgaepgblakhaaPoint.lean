/- Contracts of the functions that copy, compare and count points. Conditions: each contract's own. -/
import Derived.Test.YtljgaepgblakhaaGraph
namespace Go.Proofs.Ytljgaepgblakhaa
set_option linter.unusedSimpArgs false
open Go.RowKit
set_option linter.unusedVariables false
theorem pt_ext {p q : Pt} (h : p.v = q.v ∧ p.f = q.f ∧ p.m = q.m ∧ p.op = q.op ∧ p.x = q.x ∧ p.y = q.y ∧ p.n = q.n) : p = q := by
  obtain ⟨a, b, c, d, e, f, g⟩ := p
  obtain ⟨a', b', c', d', e', f', g'⟩ := q
  simp_all
def ptEq (p q : Pt) : Bool := p.v == q.v && p.f == q.f && p.m == q.m && p.op == q.op && p.x == q.x && p.y == q.y && p.n == q.n
theorem ptEq_iff {p q : Pt} : ptEq p q = true ↔ p = q := by
  constructor
  · intro h; simp [ptEq] at h; exact pt_ext ⟨h.1.1.1.1.1.1, h.1.1.1.1.1.2, h.1.1.1.1.2, h.1.1.1.2, h.1.1.2, h.1.2, h.2⟩
  · rintro rfl; simp [ptEq]
theorem info_point : (Try.prog.info? 29).map (fun i => (i.zero, i.size, i.bytes)) = some (some (.agg #[.int .i64 0, .int .i64 0, .int .i64 0, .int .i64 0, .int .i64 0, .int .i64 0, .int .i64 0]), 7, 56) := by kernel_rfl
theorem own_cell {w : World} {base e size g n cap : Nat} {ys : List Value} (h : w.ownsRow base e size (.slice (some ⟨g, 0, none⟩) n cap) n ys) (j : Nat) (hj : j < n * size) : ∃ y, w.cell? ⟨g, j, none⟩ = some y := by
  obtain ⟨y, hy⟩ := some_at h.1 hj
  exact ⟨y, (h.cellAt j hj).trans hy⟩
theorem own7 {w : World} {base e g n cap : Nat} {ys : List Value} (h : w.ownsRow base e 7 (.slice (some ⟨g, 0, none⟩) n cap) n ys) {k : Nat} (hk : k < n) :
    (∃ y0 y1 y2 y3 y4 y5 y6, w.cell? ⟨g, k * 7, none⟩ = some y0 ∧ w.cell? ⟨g, k * 7 + 1, none⟩ = some y1 ∧ w.cell? ⟨g, k * 7 + 2, none⟩ = some y2 ∧ w.cell? ⟨g, k * 7 + 3, none⟩ = some y3 ∧ w.cell? ⟨g, k * 7 + 4, none⟩ = some y4 ∧ w.cell? ⟨g, k * 7 + 5, none⟩ = some y5 ∧ w.cell? ⟨g, k * 7 + 6, none⟩ = some y6) ∧
    (∀ j, w.frozen? ⟨g, j, none⟩ = false) := by
  obtain ⟨y0, h0⟩ := own_cell h (k * 7) (by omega)
  obtain ⟨y1, h1⟩ := own_cell h (k * 7 + 1) (by omega)
  obtain ⟨y2, h2⟩ := own_cell h (k * 7 + 2) (by omega)
  obtain ⟨y3, h3⟩ := own_cell h (k * 7 + 3) (by omega)
  obtain ⟨y4, h4⟩ := own_cell h (k * 7 + 4) (by omega)
  obtain ⟨y5, h5⟩ := own_cell h (k * 7 + 5) (by omega)
  obtain ⟨y6, h6⟩ := own_cell h (k * 7 + 6) (by omega)
  exact ⟨⟨y0, y1, y2, y3, y4, y5, y6, h0, h1, h2, h3, h4, h5, h6⟩, fun j => h.frozenAt j⟩
