/- Policies: the functions that copy, compare and count whole policies. Conditions: each contract's own. -/
import Derived.Test.YtdbojdgppgphkaaDoorPol
namespace Go.Proofs.YtdbojdgppgphkaaDoor
set_option linter.unusedSimpArgs false
open Go.RowKit
set_option linter.unusedVariables false
set_option linter.unnecessarySimpa false
def Rl.eq (p q : Rl) : Bool := p.v == q.v && p.lo == q.lo && p.hi == q.hi && decide (p.ts = q.ts)
theorem rl_ext {p q : Rl} (h : p.v = q.v ∧ p.lo = q.lo ∧ p.hi = q.hi ∧ p.ts = q.ts) : p = q := by
  obtain ⟨a, b, c, d⟩ := p
  obtain ⟨a', b', c', d'⟩ := q
  simp_all
theorem rlEq_iff {p q : Rl} : Rl.eq p q = true ↔ p = q := by
  constructor
  · intro h; simp [Rl.eq] at h; exact rl_ext ⟨h.1.1.1, h.1.1.2, h.1.2, h.2⟩
  · rintro rfl; simp [Rl.eq]
/-- How many tests there are. -/
def ruleN (rs : List Rl) : Nat := (rs.map (fun r => r.ts.length)).sum
theorem ruleN_succ {rs : List Rl} {k : Nat} {r : Rl} (h : rs[k]? = some r) : ruleN (rs.take (k + 1)) = ruleN (rs.take k) + r.ts.length := by
  unfold ruleN
  rw [List.take_add_one, h]; simp
theorem ruleN_le {rs : List Rl} {k : Nat} : ruleN (rs.take k) ≤ ruleN rs := by
  unfold ruleN
  have h : (rs.map (fun r => r.ts.length)).sum = ((rs.take k ++ rs.drop k).map (fun r => r.ts.length)).sum := by rw [List.take_append_drop]
  rw [h, List.map_append, List.sum_append]
  exact Nat.le_add_right _ _
/-- A rule of its own memory: the tests lie from block 'base' on. -/
def RlO (w : World) (base E b o : Nat) (r : Rl) : Prop := ∃ (TA : Option Addr) (tc : Nat), w.cell? ⟨b, o, none⟩ = some (.int .i64 r.v) ∧ w.cell? ⟨b, o + 1, none⟩ = some (.int .i64 r.lo) ∧ w.cell? ⟨b, o + 2, none⟩ = some (.int .i64 r.hi) ∧ w.cell? ⟨b, o + 3, none⟩ = some (.slice TA r.ts.length tc) ∧
  w.ownsRow base E 4 (.slice TA r.ts.length tc) r.ts.length (tsts r.ts) ∧ r.ts.length ≤ 9223372036854775807
section
variable {w w' : World} {base E b o : Nat} {r : Rl}
theorem RlO.at_ (h : RlO w base E b o r) : RlAt w w.heap.size b o r := by
  obtain ⟨TA, tc, h0, h1, h2, h3, h4, h5⟩ := h
  exact ⟨TA, tc, h0, h1, h2, h3, Rd.of_own h4, h5⟩
theorem RlO.up (h : RlO w base E b o r) (hb : Below w.heap.size w w') (hlt : b < w.heap.size) : RlO w' base E b o r := by
  obtain ⟨TA, tc, h0, h1, h2, h3, h4, h5⟩ := h
  exact ⟨TA, tc, (hb.cell (p := ⟨b, o, none⟩) hlt).trans h0, (hb.cell (p := ⟨b, o + 1, none⟩) hlt).trans h1, (hb.cell (p := ⟨b, o + 2, none⟩) hlt).trans h2, (hb.cell (p := ⟨b, o + 3, none⟩) hlt).trans h3, own_up h4 hb, h5⟩
theorem RlO.set (h : RlO w base E b o r) {j : Nat} (hj : o + 4 ≤ j) (hb : b < base) (u : Value) : RlO (w.setCell ⟨b, j, none⟩ u) base E b o r := by
  obtain ⟨TA, tc, h0, h1, h2, h3, h4, h5⟩ := h
  exact ⟨TA, tc, (cset_b4 u (.inr (by omega))).trans h0, (cset_b4 u (.inr (by omega))).trans h1, (cset_b4 u (.inr (by omega))).trans h2, (cset_b4 u (.inr (by omega))).trans h3, ownsRow_setCell_below h4 (by simpa using hb) u, h5⟩
theorem RlO.setCells (h : RlO w base E b o r) {j : Nat} (hj : o + 4 ≤ j) (hb : b < base) (cs : List Value) : RlO (setCells w b j cs) base E b o r := by
  induction cs generalizing w j with
  | nil => exact h
  | cons c cs ih => exact ih (h.set hj hb c) (by omega)
end
/-- Rules of their own memory, from block 'base' on. -/
def OwnR (w : World) (base E : Nat) (A : Option Addr) (n : Nat) (rs : List Rl) : Prop := rs.length = n ∧ ∃ g, A = some ⟨g, 0, none⟩ ∧ base ≤ g ∧ g < w.heap.size ∧ ∀ j r, rs[j]? = some r → RlO w (g + 1) E g (j * 4) r
section
variable {w w' : World} {base base' E n : Nat} {A : Option Addr} {rs : List Rl}
theorem OwnR.rd (h : OwnR w base E A n rs) : RdR w w.heap.size A n rs := by
  obtain ⟨hl, g, rfl, hb, hg, hr⟩ := h
  exact ⟨hl, fun _ => ⟨g, 0, rfl, hg, fun j r hj => by rw [Nat.zero_add]; exact (hr j r hj).at_⟩⟩
theorem RlO.far {b o : Nat} {r : Rl} (h : RlO w base E b o r) {a : Addr} (hb : a.block < b) (hb2 : a.block < base) (u : Value) : RlO (w.setCell a u) base E b o r := by
  obtain ⟨TA, tc, h0, h1, h2, h3, h4, h5⟩ := h
  have key : ∀ i, (w.setCell a u).cell? ⟨b, i, none⟩ = w.cell? ⟨b, i, none⟩ := fun i => World.cell?_setCell_other _ _ _ _ (by rintro rfl; simp at hb)
  exact ⟨TA, tc, (key _).trans h0, (key _).trans h1, (key _).trans h2, (key _).trans h3, ownsRow_setCell_below h4 hb2 u, h5⟩
theorem OwnR.far (h : OwnR w base E A n rs) {a : Addr} (hb : a.block < base) (u : Value) : OwnR (w.setCell a u) base E A n rs := by
  obtain ⟨hl, g, rfl, hbg, hg, hr⟩ := h
  exact ⟨hl, g, rfl, hbg, by simpa using hg, fun j r hj => (hr j r hj).far (by omega) (by omega) u⟩
theorem OwnR.up (h : OwnR w base E A n rs) (hb : Below w.heap.size w w') : OwnR w' base E A n rs := by
  obtain ⟨hl, g, rfl, hbg, hg, hr⟩ := h
  exact ⟨hl, g, rfl, hbg, by have := hb.size; omega, fun j r hj => (hr j r hj).up hb hg⟩
theorem OwnR.lower (h : OwnR w base E A n rs) (hb : base' ≤ base) : OwnR w base' E A n rs := by
  obtain ⟨hl, g, rfl, hbg, hg, hr⟩ := h
  exact ⟨hl, g, rfl, by omega, hg, hr⟩
end
theorem own_setCells_below {w : World} {base e size b : Nat} {v : Value} {n : Nat} {ys : List Value} (h : w.ownsRow base e size v n ys) (hb : b < base) (o : Nat) (cs : List Value) : (setCells w b o cs).ownsRow base e size v n ys := by
  induction cs generalizing w o with
  | nil => exact h
  | cons c cs ih => exact ih (ownsRow_setCell_below h (a := ⟨b, o, none⟩) (by simpa using hb) c) (o + 1)
theorem rules_put {w1 : World} {g E E' n k : Nat} {ys : List Value} {rs : List Rl} {r : Rl} {A1 : Option Addr} {c1 : Nat} (HO : w1.ownsRow g E 4 (.slice (some ⟨g, 0, none⟩) n n) n ys) (HY : ∀ j r', j < k → rs[j]? = some r' → RlO w1 (g + 1) E' g (j * 4) r')
    (HN : w1.ownsRow (g + 1) E' 4 (.slice A1 r.ts.length c1) r.ts.length (tsts r.ts)) (HP : rs[k]? = some r) (hlt : k < n) (hrl : r.ts.length ≤ 9223372036854775807) :
    (setCells w1 g (k * 4) [.int .i64 r.v, .int .i64 r.lo, .int .i64 r.hi, .slice A1 r.ts.length c1]).ownsRow g E 4 (.slice (some ⟨g, 0, none⟩) n n) n (setL ys (k * 4) [.int .i64 r.v, .int .i64 r.lo, .int .i64 r.hi, .slice A1 r.ts.length c1]) ∧
    (∀ j r', j < k + 1 → rs[j]? = some r' → RlO (setCells w1 g (k * 4) [.int .i64 r.v, .int .i64 r.lo, .int .i64 r.hi, .slice A1 r.ts.length c1]) (g + 1) E' g (j * 4) r') := by
  have hs := own_setL HO (k * 4) [.int .i64 r.v, .int .i64 r.lo, .int .i64 r.hi, .slice A1 r.ts.length c1]
  refine ⟨hs, fun j r' hj hr' => ?_⟩
  by_cases hjk : j < k
  · exact (HY j r' hjk hr').setCells (by omega) (by omega) _
  · obtain rfl : j = k := by omega
    obtain rfl : r' = r := by rw [hr'] at HP; injection HP
    have hl' : j * 4 + 3 < ys.length := by rw [HO.1]; omega
    have hat : ∀ i u, i < 4 → (setL ys (j * 4) [.int .i64 r'.v, .int .i64 r'.lo, .int .i64 r'.hi, .slice A1 r'.ts.length c1])[j * 4 + i]? = some u → (setCells w1 g (j * 4) [.int .i64 r'.v, .int .i64 r'.lo, .int .i64 r'.hi, .slice A1 r'.ts.length c1]).cell? ⟨g, j * 4 + i, none⟩ = some u := fun i u hi hu => (hs.cellAt (j * 4 + i) (by omega)).trans hu
    have hk0 := hat 0 (.int .i64 r'.v) (by omega) (by simp only [setL, Nat.add_zero]; rw [List.getElem?_set_ne (by omega), List.getElem?_set_ne (by omega), List.getElem?_set_ne (by omega), List.getElem?_set_self (by (try simp); omega)])
    have hk1 := hat 1 (.int .i64 r'.lo) (by omega) (by simp only [setL, Nat.add_zero]; rw [List.getElem?_set_ne (by omega), List.getElem?_set_ne (by omega), List.getElem?_set_self (by (try simp); omega)])
    have hk2 := hat 2 (.int .i64 r'.hi) (by omega) (by simp only [setL, Nat.add_zero]; rw [List.getElem?_set_ne (by omega), List.getElem?_set_self (by (try simp); omega)])
    have hk3 := hat 3 (.slice A1 r'.ts.length c1) (by omega) (by simp only [setL, Nat.add_zero]; rw [List.getElem?_set_self (by (try simp); omega)])
    exact ⟨A1, c1, hk0, hk1, hk2, hk3, own_setCells_below HN (by omega) _ _, hrl⟩
theorem eqRule_c (p q : Rl) (A B : Option Addr) (n c m d : Nat) (w : World) (hx : Rd w w.heap.size 4 A n (tsts p.ts)) (hy : Rd w w.heap.size 4 B m (tsts q.ts)) (hn : n ≤ 9223372036854775807) (hm : m ≤ 9223372036854775807) :
    Calls Tryd.prog 117 #[.agg #[.int .i64 p.v, .int .i64 p.lo, .int .i64 p.hi, .slice A n c], .agg #[.int .i64 q.v, .int .i64 q.lo, .int .i64 q.hi, .slice B m d]] w (RetB (.bool (Rl.eq p q)) w) := by
  have HR := Lib.hid hx
  have HQ := Lib.hid hy
  clear hx hy
  go_enter Tryd.func117, Tryd.ntmps117
  go_wp2_with (go_at_call 142; refine (eqTestS_c A B n c m d p.ts q.ts _ (HR.out.upB (by go_grown) (by go_size)) (HQ.out.upB (by go_grown) (by go_size)) hn hm).mono ?_; rintro e w1 ⟨rfl, b1⟩; obtain ⟨gc1, gf1⟩ := below_get b1; (try simp only [heap_drew, World.size_alloc, World.size_setCell] at gc1 gf1); have s1 := below_via (w := w) (by go_grown) b1; have H1 := s1; have hs1 := b1.size; (try simp at hs1); have z1_0 : w.heap.size < w1.heap.size := (by omega); clear b1)
  all_goals go_returns
  all_goals (refine ⟨retv ?_, by go_grown⟩)
  all_goals go_light
  all_goals simp_all [Rl.eq]
theorem eqRuleS_c (A B : Option Addr) (n c m d : Nat) (xs ys : List Rl) (w : World) (hx : RdR w w.heap.size A n xs) (hy : RdR w w.heap.size B m ys) (hn : n ≤ 9223372036854775807) (hm : m ≤ 9223372036854775807) :
    Calls Tryd.prog 76 #[.slice A n c, .slice B m d] w (RetB (.bool (decide (xs = ys))) w) := by
  have hlx := hx.1
  have hly := hy.1
  have HX := Lib.hid hx
  have HY := Lib.hid hy
  clear hx hy
  by_cases hnm : n = m
  · subst hnm
    have HLX := Lib.hid hlx
    have HLY := Lib.hid hly
    clear hlx hly
    go_enter Tryd.func76, Tryd.ntmps76
    go_wp2
    go_loopw [5] (fun i wr => ∃ k : Nat, k ≤ n ∧ i = .int .i64 k ∧ Hid (xs.take k = ys.take k) ∧ Below w.heap.size w wr) (fun i _ => n - (intOf i).toNat)
    case atStart => exact ⟨0, by omega, rfl, by simp [Hid], Below.refl _ _⟩
    case round =>
      obtain ⟨k, hk, rfl, hall, hbel⟩ := hrel
      have hbs := hbel.size
      by_cases hlt : k < n
      · obtain ⟨b, off, p, rfl, hb, hp, TA, tc, c0, c1, c2, c3, hrt, hrl⟩ := (HX.out.below hbel).rl hlt
        obtain ⟨b', off', q, rfl, hb', hq, TA', tc', d0, d1, d2, d3, hqt, hql⟩ := (HY.out.below hbel).rl hlt
        have GX := Lib.hid hp
        have GY := Lib.hid hq
        have GT := Lib.hid (hrt.more hbs)
        have GU := Lib.hid (hqt.more hbs)
        clear hp hq hrt hqt
        go_wp2
        go_region_held3 (fun w' => w'.cell? ⟨b, off + k * 4, none⟩ = some (.int .i64 p.v) ∧ w'.cell? ⟨b, off + k * 4 + 1, none⟩ = some (.int .i64 p.lo) ∧ w'.cell? ⟨b, off + k * 4 + 2, none⟩ = some (.int .i64 p.hi) ∧ w'.cell? ⟨b, off + k * 4 + 3, none⟩ = some (.slice TA p.ts.length tc) ∧
            w'.cell? ⟨b', off' + k * 4, none⟩ = some (.int .i64 q.v) ∧ w'.cell? ⟨b', off' + k * 4 + 1, none⟩ = some (.int .i64 q.lo) ∧ w'.cell? ⟨b', off' + k * 4 + 2, none⟩ = some (.int .i64 q.hi) ∧ w'.cell? ⟨b', off' + k * 4 + 3, none⟩ = some (.slice TA' q.ts.length tc')) (simp [go_sem, *])
          (first | (go_at_call 117; refine (eqRule_c p q TA TA' p.ts.length tc q.ts.length tc' _ (GT.out.upB (by go_grown) (by go_size)) (GU.out.upB (by go_grown) (by go_size)) hrl hql).mono ?_; rintro e w1 ⟨rfl, b1⟩; obtain ⟨gc1, gf1⟩ := below_get b1; (try simp only [heap_drew, World.size_alloc, World.size_setCell] at gc1 gf1); have hb1 := below_on hbel (by go_grown) b1; have hb2 : b < wr.heap.size := (by omega); have hb2' : b' < wr.heap.size := (by omega)))
        go_wp2
        · go_returns
          go_light
          rename (_ = true) => h
          refine ⟨retv ?_, hb1⟩
          have hne := ne_of_at GX.out GY.out (fun e => by rw [rlEq_iff.2 e] at h; simp at h)
          simp [hne]
        · go_roundw
          case rel =>
            go_light
            rename (_ = false) => h
            have e : p = q := rlEq_iff.1 (by simpa using h)
            exact ⟨k + 1, by omega, by go_num, take_ext hall.out GX.out (by rw [e]; exact GY.out), hb1⟩
          case measure => simp [intOf]; omega
      · go_wp2
        go_returns
        go_light
        obtain rfl : k = n := by omega
        have e := take_full HLX.out HLY.out hall.out
        exact ⟨by simp [e], hbel⟩
  · have hne : decide (xs = ys) = false := by
      simp; rintro rfl; omega
    have HN := Lib.hid hne
    clear hne
    go_enter Tryd.func76, Tryd.ntmps76
    go_wp2
    all_goals (go_returns; refine ⟨retv ?_, by go_grown⟩; rw [HN.out]; rfl)
