/- Contracts of the functions that copy, compare and count points. Conditions: each contract's own. -/
import Derived.Test.YtljgaepgblakhaaDoorGraph
namespace Go.Proofs.YtljgaepgblakhaaDoor
set_option linter.unusedSimpArgs false
open Go.RowKit
set_option linter.unusedVariables false
theorem pt_ext {p q : Pt} (h : p.v = q.v ∧ p.f = q.f ∧ p.m = q.m ∧ p.op = q.op ∧ p.x = q.x ∧ p.y = q.y ∧ p.n = q.n) : p = q := by
  obtain ⟨a, b, c, d, e, f, g⟩ := p
  obtain ⟨a', b', c', d', e', f', g'⟩ := q
  simp_all
def ptEq (p q : Pt) : Bool := p.v == q.v && p.f == q.f && p.m == q.m && p.op == q.op && p.x == q.x && p.y == q.y && p.n == q.n
theorem ptEq_iff {p q : Pt} : ptEq p q = true ↔ p = q := by
  constructor
  · intro h; simp [ptEq] at h; exact pt_ext ⟨h.1.1.1.1.1.1, h.1.1.1.1.1.2, h.1.1.1.1.2, h.1.1.1.2, h.1.1.2, h.1.2, h.2⟩
  · rintro rfl; simp [ptEq]
theorem info_point : (Tryd.prog.info? 106).map (fun i => (i.zero, i.size, i.bytes)) = some (some (.agg #[.int .i64 0, .int .i64 0, .int .i64 0, .int .i64 0, .int .i64 0, .int .i64 0, .int .i64 0]), 7, 56) := by kernel_rfl
theorem eqPoint_c (p q : Pt) (w : World) : Calls Tryd.prog 100 #[ptV p, ptV q] w (RetB (.bool (ptEq p q)) w) := by
  obtain ⟨v, f, m, op, x, y, z⟩ := p
  obtain ⟨v', f', m', op', x', y', z'⟩ := q
  unfold ptV
  go_enter Tryd.func100, Tryd.ntmps100
  go_wp2
  all_goals go_returns
  all_goals (refine ⟨retv ?_, by go_grown⟩)
  all_goals go_light
  all_goals simp_all [ptEq]
theorem eqPointS_c (A B : Option Addr) (n c m d : Nat) (xs ys : List Pt) (w : World) (hx : Rd w w.heap.size 7 A n (pts xs)) (hy : Rd w w.heap.size 7 B m (pts ys)) (hn : n ≤ 9223372036854775807) (hm : m ≤ 9223372036854775807) :
    Calls Tryd.prog 49 #[.slice A n c, .slice B m d] w (RetB (.bool (decide (xs = ys))) w) := by
  have hlx : xs.length = n := by have := hx.1; rw [pts_len] at this; omega
  have hly : ys.length = m := by have := hy.1; rw [pts_len] at this; omega
  have HX := Lib.hid hx
  have HY := Lib.hid hy
  clear hx hy
  by_cases hnm : n = m
  · subst hnm
    have HLX := Lib.hid hlx
    have HLY := Lib.hid hly
    clear hlx hly
    go_enter Tryd.func49, Tryd.ntmps49
    go_wp2
    go_loopw [5] (fun i wr => ∃ k : Nat, k ≤ n ∧ i = .int .i64 k ∧ Hid (xs.take k = ys.take k) ∧ Below w.heap.size w wr) (fun i _ => n - (intOf i).toNat)
    case atStart => exact ⟨0, by omega, rfl, by simp [Hid], Below.refl _ _⟩
    case round =>
      obtain ⟨k, hk, rfl, hall, hbel⟩ := hrel
      have hbs := hbel.size
      by_cases hlt : k < n
      · have hX := (HX.out.below hbel).pt hlt
        have hY := (HY.out.below hbel).pt hlt
        obtain ⟨b, off, p, rfl, hb, hp, hpl, c0, c1, c2, c3, c4, c5, c6⟩ := hX
        obtain ⟨b', off', q, rfl, hb', hq, hql, d0, d1, d2, d3, d4, d5, d6⟩ := hY
        have GX := Lib.hid hp
        have GY := Lib.hid hq
        clear hp hq hpl hql
        go_wp2
        go_region_held3 (fun w' => w'.cell? ⟨b, off + k * 7, none⟩ = some (.int .i64 p.v) ∧ w'.cell? ⟨b, off + k * 7 + 1, none⟩ = some (.int .i64 p.f) ∧ w'.cell? ⟨b, off + k * 7 + 2, none⟩ = some (.int .i64 p.m) ∧ w'.cell? ⟨b, off + k * 7 + 3, none⟩ = some (.int .i64 p.op) ∧ w'.cell? ⟨b, off + k * 7 + 4, none⟩ = some (.int .i64 p.x) ∧ w'.cell? ⟨b, off + k * 7 + 5, none⟩ = some (.int .i64 p.y) ∧ w'.cell? ⟨b, off + k * 7 + 6, none⟩ = some (.int .i64 p.n) ∧
            w'.cell? ⟨b', off' + k * 7, none⟩ = some (.int .i64 q.v) ∧ w'.cell? ⟨b', off' + k * 7 + 1, none⟩ = some (.int .i64 q.f) ∧ w'.cell? ⟨b', off' + k * 7 + 2, none⟩ = some (.int .i64 q.m) ∧ w'.cell? ⟨b', off' + k * 7 + 3, none⟩ = some (.int .i64 q.op) ∧ w'.cell? ⟨b', off' + k * 7 + 4, none⟩ = some (.int .i64 q.x) ∧ w'.cell? ⟨b', off' + k * 7 + 5, none⟩ = some (.int .i64 q.y) ∧ w'.cell? ⟨b', off' + k * 7 + 6, none⟩ = some (.int .i64 q.n)) (simp [go_sem, *])
          (first | (go_at_call 100; refine (eqPoint_c p q _).mono ?_; rintro e w1 ⟨rfl, b1⟩; obtain ⟨gc1, gf1⟩ := below_get b1; (try simp only [heap_drew, World.size_alloc, World.size_setCell] at gc1 gf1); have hb1 := below_on hbel (by go_grown) b1; have hb2 : b < wr.heap.size := (by omega); have hb2' : b' < wr.heap.size := (by omega)))
        go_wp2
        · go_returns
          go_light
          rename (_ = true) => h
          refine ⟨retv ?_, hb1⟩
          have hne := ne_of_at GX.out GY.out (fun e => by rw [ptEq_iff.2 e] at h; simp at h)
          simp [hne]
        · go_roundw
          case rel =>
            go_light
            rename (_ = false) => h
            have e : p = q := ptEq_iff.1 (by simpa using h)
            subst e
            exact ⟨k + 1, by omega, by go_num, take_ext hall.out GX.out GY.out, hb1⟩
          case measure => simp [intOf]; omega
      · go_wp2
        go_returns
        go_light
        obtain rfl : k = n := by omega
        have e := take_full HLX.out HLY.out hall.out
        exact ⟨by simp [e], hbel⟩
  · have hne : decide (xs = ys) = false := by
      simp; rintro rfl; omega
    have HN := Lib.hid hne
    clear hne
    go_enter Tryd.func49, Tryd.ntmps49
    go_wp2
    all_goals (go_returns; refine ⟨retv ?_, by go_grown⟩; rw [HN.out]; rfl)
theorem own_cell {w : World} {base e size g n cap : Nat} {ys : List Value} (h : w.ownsRow base e size (.slice (some ⟨g, 0, none⟩) n cap) n ys) (j : Nat) (hj : j < n * size) : ∃ y, w.cell? ⟨g, j, none⟩ = some y := by
  obtain ⟨y, hy⟩ := some_at h.1 hj
  exact ⟨y, (h.cellAt j hj).trans hy⟩
theorem own7 {w : World} {base e g n cap : Nat} {ys : List Value} (h : w.ownsRow base e 7 (.slice (some ⟨g, 0, none⟩) n cap) n ys) {k : Nat} (hk : k < n) :
    (∃ y0 y1 y2 y3 y4 y5 y6, w.cell? ⟨g, k * 7, none⟩ = some y0 ∧ w.cell? ⟨g, k * 7 + 1, none⟩ = some y1 ∧ w.cell? ⟨g, k * 7 + 2, none⟩ = some y2 ∧ w.cell? ⟨g, k * 7 + 3, none⟩ = some y3 ∧ w.cell? ⟨g, k * 7 + 4, none⟩ = some y4 ∧ w.cell? ⟨g, k * 7 + 5, none⟩ = some y5 ∧ w.cell? ⟨g, k * 7 + 6, none⟩ = some y6) ∧
    (∀ j, w.frozen? ⟨g, j, none⟩ = false) := by
  obtain ⟨y0, h0⟩ := own_cell h (k * 7) (by omega)
  obtain ⟨y1, h1⟩ := own_cell h (k * 7 + 1) (by omega)
  obtain ⟨y2, h2⟩ := own_cell h (k * 7 + 2) (by omega)
  obtain ⟨y3, h3⟩ := own_cell h (k * 7 + 3) (by omega)
  obtain ⟨y4, h4⟩ := own_cell h (k * 7 + 4) (by omega)
  obtain ⟨y5, h5⟩ := own_cell h (k * 7 + 5) (by omega)
  obtain ⟨y6, h6⟩ := own_cell h (k * 7 + 6) (by omega)
  exact ⟨⟨y0, y1, y2, y3, y4, y5, y6, h0, h1, h2, h3, h4, h5, h6⟩, fun j => h.frozenAt j⟩
