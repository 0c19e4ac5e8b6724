/- Policies: the functions that copy, compare and count whole policies. Conditions: each contract's own. -/
import Derived.Test.YtmfienlceobfeaaDoorJ5c6c11a72b
namespace Go.Proofs.YtmfienlceobfeaaDoor
set_option linter.unusedSimpArgs false
open Go.RowKit
set_option linter.unusedVariables false
set_option linter.unnecessarySimpa false
def Rl.eq (p q : Rl) : Bool := p.v == q.v && p.lo == q.lo && p.hi == q.hi && decide (p.ts = q.ts)
theorem rl_ext {p q : Rl} (h : p.v = q.v ∧ p.lo = q.lo ∧ p.hi = q.hi ∧ p.ts = q.ts) : p = q := by
  obtain ⟨a, b, c, d⟩ := p
  obtain ⟨a', b', c', d'⟩ := q
  simp_all
theorem rlEq_iff {p q : Rl} : Rl.eq p q = true ↔ p = q := by
  constructor
  · intro h; simp [Rl.eq] at h; exact rl_ext ⟨h.1.1.1, h.1.1.2, h.1.2, h.2⟩
  · rintro rfl; simp [Rl.eq]
/-- How many tests there are. -/
def ruleN (rs : List Rl) : Nat := (rs.map (fun r => r.ts.length)).sum
theorem ruleN_succ {rs : List Rl} {k : Nat} {r : Rl} (h : rs[k]? = some r) : ruleN (rs.take (k + 1)) = ruleN (rs.take k) + r.ts.length := by
  unfold ruleN
  rw [List.take_add_one, h]; simp
theorem ruleN_le {rs : List Rl} {k : Nat} : ruleN (rs.take k) ≤ ruleN rs := by
  unfold ruleN
  have h : (rs.map (fun r => r.ts.length)).sum = ((rs.take k ++ rs.drop k).map (fun r => r.ts.length)).sum := by rw [List.take_append_drop]
  rw [h, List.map_append, List.sum_append]
  exact Nat.le_add_right _ _
/-- A rule of its own memory: the tests lie from block 'base' on. -/
def RlO (w : World) (base E b o : Nat) (r : Rl) : Prop := ∃ (TA : Option Addr) (tc : Nat), w.cell? ⟨b, o, none⟩ = some (.int .i64 r.v) ∧ w.cell? ⟨b, o + 1, none⟩ = some (.int .i64 r.lo) ∧ w.cell? ⟨b, o + 2, none⟩ = some (.int .i64 r.hi) ∧ w.cell? ⟨b, o + 3, none⟩ = some (.slice TA r.ts.length tc) ∧
  w.ownsRow base E 4 (.slice TA r.ts.length tc) r.ts.length (tsts r.ts) ∧ r.ts.length ≤ 9223372036854775807
section
variable {w w' : World} {base E b o : Nat} {r : Rl}
theorem RlO.at_ (h : RlO w base E b o r) : RlAt w w.heap.size b o r := by
  obtain ⟨TA, tc, h0, h1, h2, h3, h4, h5⟩ := h
  exact ⟨TA, tc, h0, h1, h2, h3, Rd.of_own h4, h5⟩
theorem RlO.up (h : RlO w base E b o r) (hb : Below w.heap.size w w') (hlt : b < w.heap.size) : RlO w' base E b o r := by
  obtain ⟨TA, tc, h0, h1, h2, h3, h4, h5⟩ := h
  exact ⟨TA, tc, (hb.cell (p := ⟨b, o, none⟩) hlt).trans h0, (hb.cell (p := ⟨b, o + 1, none⟩) hlt).trans h1, (hb.cell (p := ⟨b, o + 2, none⟩) hlt).trans h2, (hb.cell (p := ⟨b, o + 3, none⟩) hlt).trans h3, own_up h4 hb, h5⟩
theorem RlO.set (h : RlO w base E b o r) {j : Nat} (hj : o + 4 ≤ j) (hb : b < base) (u : Value) : RlO (w.setCell ⟨b, j, none⟩ u) base E b o r := by
  obtain ⟨TA, tc, h0, h1, h2, h3, h4, h5⟩ := h
  exact ⟨TA, tc, (cset_b4 u (.inr (by omega))).trans h0, (cset_b4 u (.inr (by omega))).trans h1, (cset_b4 u (.inr (by omega))).trans h2, (cset_b4 u (.inr (by omega))).trans h3, ownsRow_setCell_below h4 (by simpa using hb) u, h5⟩
theorem RlO.setCells (h : RlO w base E b o r) {j : Nat} (hj : o + 4 ≤ j) (hb : b < base) (cs : List Value) : RlO (setCells w b j cs) base E b o r := by
  induction cs generalizing w j with
  | nil => exact h
  | cons c cs ih => exact ih (h.set hj hb c) (by omega)
end
/-- Rules of their own memory, from block 'base' on. -/
def OwnR (w : World) (base E : Nat) (A : Option Addr) (n : Nat) (rs : List Rl) : Prop := rs.length = n ∧ ∃ g, A = some ⟨g, 0, none⟩ ∧ base ≤ g ∧ g < w.heap.size ∧ ∀ j r, rs[j]? = some r → RlO w (g + 1) E g (j * 4) r
section
variable {w w' : World} {base base' E n : Nat} {A : Option Addr} {rs : List Rl}
theorem OwnR.rd (h : OwnR w base E A n rs) : RdR w w.heap.size A n rs := by
  obtain ⟨hl, g, rfl, hb, hg, hr⟩ := h
  exact ⟨hl, fun _ => ⟨g, 0, rfl, hg, fun j r hj => by rw [Nat.zero_add]; exact (hr j r hj).at_⟩⟩
theorem RlO.far {b o : Nat} {r : Rl} (h : RlO w base E b o r) {a : Addr} (hb : a.block < b) (hb2 : a.block < base) (u : Value) : RlO (w.setCell a u) base E b o r := by
  obtain ⟨TA, tc, h0, h1, h2, h3, h4, h5⟩ := h
  have key : ∀ i, (w.setCell a u).cell? ⟨b, i, none⟩ = w.cell? ⟨b, i, none⟩ := fun i => World.cell?_setCell_other _ _ _ _ (by rintro rfl; simp at hb)
  exact ⟨TA, tc, (key _).trans h0, (key _).trans h1, (key _).trans h2, (key _).trans h3, ownsRow_setCell_below h4 hb2 u, h5⟩
theorem OwnR.far (h : OwnR w base E A n rs) {a : Addr} (hb : a.block < base) (u : Value) : OwnR (w.setCell a u) base E A n rs := by
  obtain ⟨hl, g, rfl, hbg, hg, hr⟩ := h
  exact ⟨hl, g, rfl, hbg, by simpa using hg, fun j r hj => (hr j r hj).far (by omega) (by omega) u⟩
theorem OwnR.up (h : OwnR w base E A n rs) (hb : Below w.heap.size w w') : OwnR w' base E A n rs := by
  obtain ⟨hl, g, rfl, hbg, hg, hr⟩ := h
  exact ⟨hl, g, rfl, hbg, by have := hb.size; omega, fun j r hj => (hr j r hj).up hb hg⟩
theorem OwnR.lower (h : OwnR w base E A n rs) (hb : base' ≤ base) : OwnR w base' E A n rs := by
  obtain ⟨hl, g, rfl, hbg, hg, hr⟩ := h
  exact ⟨hl, g, rfl, by omega, hg, hr⟩
end
theorem own_setCells_below {w : World} {base e size b : Nat} {v : Value} {n : Nat} {ys : List Value} (h : w.ownsRow base e size v n ys) (hb : b < base) (o : Nat) (cs : List Value) : (setCells w b o cs).ownsRow base e size v n ys := by
  induction cs generalizing w o with
  | nil => exact h
  | cons c cs ih => exact ih (ownsRow_setCell_below h (a := ⟨b, o, none⟩) (by simpa using hb) c) (o + 1)
theorem rules_put {w1 : World} {g E E' n k : Nat} {ys : List Value} {rs : List Rl} {r : Rl} {A1 : Option Addr} {c1 : Nat} (HO : w1.ownsRow g E 4 (.slice (some ⟨g, 0, none⟩) n n) n ys) (HY : ∀ j r', j < k → rs[j]? = some r' → RlO w1 (g + 1) E' g (j * 4) r')
    (HN : w1.ownsRow (g + 1) E' 4 (.slice A1 r.ts.length c1) r.ts.length (tsts r.ts)) (HP : rs[k]? = some r) (hlt : k < n) (hrl : r.ts.length ≤ 9223372036854775807) :
    (setCells w1 g (k * 4) [.int .i64 r.v, .int .i64 r.lo, .int .i64 r.hi, .slice A1 r.ts.length c1]).ownsRow g E 4 (.slice (some ⟨g, 0, none⟩) n n) n (setL ys (k * 4) [.int .i64 r.v, .int .i64 r.lo, .int .i64 r.hi, .slice A1 r.ts.length c1]) ∧
    (∀ j r', j < k + 1 → rs[j]? = some r' → RlO (setCells w1 g (k * 4) [.int .i64 r.v, .int .i64 r.lo, .int .i64 r.hi, .slice A1 r.ts.length c1]) (g + 1) E' g (j * 4) r') := by
  have hs := own_setL HO (k * 4) [.int .i64 r.v, .int .i64 r.lo, .int .i64 r.hi, .slice A1 r.ts.length c1]
  refine ⟨hs, fun j r' hj hr' => ?_⟩
  by_cases hjk : j < k
  · exact (HY j r' hjk hr').setCells (by omega) (by omega) _
  · obtain rfl : j = k := by omega
    obtain rfl : r' = r := by rw [hr'] at HP; injection HP
    have hl' : j * 4 + 3 < ys.length := by rw [HO.1]; omega
    have hat : ∀ i u, i < 4 → (setL ys (j * 4) [.int .i64 r'.v, .int .i64 r'.lo, .int .i64 r'.hi, .slice A1 r'.ts.length c1])[j * 4 + i]? = some u → (setCells w1 g (j * 4) [.int .i64 r'.v, .int .i64 r'.lo, .int .i64 r'.hi, .slice A1 r'.ts.length c1]).cell? ⟨g, j * 4 + i, none⟩ = some u := fun i u hi hu => (hs.cellAt (j * 4 + i) (by omega)).trans hu
    have hk0 := hat 0 (.int .i64 r'.v) (by omega) (by simp only [setL, Nat.add_zero]; rw [List.getElem?_set_ne (by omega), List.getElem?_set_ne (by omega), List.getElem?_set_ne (by omega), List.getElem?_set_self (by (try simp); omega)])
    have hk1 := hat 1 (.int .i64 r'.lo) (by omega) (by simp only [setL, Nat.add_zero]; rw [List.getElem?_set_ne (by omega), List.getElem?_set_ne (by omega), List.getElem?_set_self (by (try simp); omega)])
    have hk2 := hat 2 (.int .i64 r'.hi) (by omega) (by simp only [setL, Nat.add_zero]; rw [List.getElem?_set_ne (by omega), List.getElem?_set_self (by (try simp); omega)])
    have hk3 := hat 3 (.slice A1 r'.ts.length c1) (by omega) (by simp only [setL, Nat.add_zero]; rw [List.getElem?_set_self (by (try simp); omega)])
    exact ⟨A1, c1, hk0, hk1, hk2, hk3, own_setCells_below HN (by omega) _ _, hrl⟩
end Go.Proofs.YtmfienlceobfeaaDoor
