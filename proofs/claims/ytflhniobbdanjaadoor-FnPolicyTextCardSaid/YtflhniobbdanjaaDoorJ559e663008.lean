/- Parts of laws in one text. Conditions: each lemma's own. -/
import Derived.Test.YtflhniobbdanjaaDoorJ693f2044f2
import Derived.Deep.RegionHeld3
import Derived.Deep.RegionLaw
import Derived.Deep.AppendLies
import Derived.Deep.LoopGhost
import Derived.Deep.QuietTactic
import Derived.BigQuiet
import Derived.Deep.DeepCutAuto
import Derived.Deep.DrawnRows
namespace Go.Proofs.YtflhniobbdanjaaDoor
set_option linter.unusedSimpArgs false
open Go.RowKit
set_option linter.unusedVariables false
set_option linter.unnecessarySimpa false
structure Tst where
  f : Int
  m : Int
  op : Int
  x : Int
deriving DecidableEq
def Tst.cells (t : Tst) : List Value := [.int .i64 t.f, .int .i64 t.m, .int .i64 t.op, .int .i64 t.x]
def tstV (t : Tst) : Value := .agg #[.int .i64 t.f, .int .i64 t.m, .int .i64 t.op, .int .i64 t.x]
def tsts (ts : List Tst) : List Value := ts.flatMap Tst.cells
structure Rl where
  v : Int
  lo : Int
  hi : Int
  ts : List Tst
deriving DecidableEq
structure Pol where
  rs : List Rl
  els : Int
deriving DecidableEq
theorem tsts_len (ts : List Tst) : (tsts ts).length = ts.length * 4 := by
  unfold tsts
  induction ts with
  | nil => rfl
  | cons p ps ih => rw [List.flatMap_cons, List.length_append, ih, List.length_cons]; simp [Tst.cells]; omega
theorem flat4_at {l : List Tst} {k : Nat} {a : Tst} (h : l[k]? = some a) {j : Nat} (hj : j < 4) : (tsts l)[k * 4 + j]? = a.cells[j]? := by
  unfold tsts
  induction l generalizing k with
  | nil => simp at h
  | cons b l ih =>
    rw [List.flatMap_cons]
    cases k with
    | zero =>
      simp at h
      subst h
      rw [List.getElem?_append_left (by simp [Tst.cells]; omega)]
      simp
    | succ k =>
      rw [List.getElem?_append_right (by simp [Tst.cells]; omega)]
      have e : (k + 1) * 4 + j - (Tst.cells b).length = k * 4 + j := by simp [Tst.cells]; omega
      rw [e]
      exact ih (by simpa using h)
theorem tsts_take {l : List Tst} {k : Nat} {a : Tst} (h : l[k]? = some a) : (tsts l).take (k * 4 + 4) = (tsts l).take (k * 4) ++ a.cells := by
  unfold tsts
  induction l generalizing k with
  | nil => simp at h
  | cons b l ih =>
    rw [List.flatMap_cons]
    cases k with
    | zero =>
      simp at h
      subst h
      simp [Tst.cells]
    | succ k =>
      have e1 : (k + 1) * 4 + 4 = (Tst.cells b).length + (k * 4 + 4) := by simp [Tst.cells]; omega
      have e2 : (k + 1) * 4 = (Tst.cells b).length + k * 4 := by simp [Tst.cells]; omega
      rw [e1, e2, List.take_length_add_append, List.take_length_add_append, ih (by simpa using h), List.append_assoc]
/-- The four cells of the k-th test. -/
theorem Rd.tst {w : World} {B n : Nat} {A : Option Addr} {ts : List Tst} (h : Rd w B 4 A n (tsts ts)) {k : Nat} (hk : k < n) :
    ∃ b off t, A = some ⟨b, off, none⟩ ∧ b < B ∧ ts[k]? = some t ∧ w.cell? ⟨b, off + k * 4, none⟩ = some (.int .i64 t.f) ∧ w.cell? ⟨b, off + k * 4 + 1, none⟩ = some (.int .i64 t.m) ∧ w.cell? ⟨b, off + k * 4 + 2, none⟩ = some (.int .i64 t.op) ∧ w.cell? ⟨b, off + k * 4 + 3, none⟩ = some (.int .i64 t.x) := by
  obtain ⟨b, off, rfl, hb, hc⟩ := h.2 (by omega)
  have hl : ts.length = n := by have := h.1; rw [tsts_len] at this; omega
  obtain ⟨t, ht⟩ := some_at hl hk
  have g : ∀ j u, j < 4 → t.cells[j]? = some u → w.cell? ⟨b, off + k * 4 + j, none⟩ = some u := fun j u hj hu => by
    have := hc (k * 4 + j) u (by rw [flat4_at ht hj]; exact hu)
    rw [show off + k * 4 + j = off + (k * 4 + j) from by omega]
    exact this
  exact ⟨b, off, t, rfl, hb, ht, g 0 _ (by omega) rfl, g 1 _ (by omega) rfl, g 2 _ (by omega) rfl, g 3 _ (by omega) rfl⟩
/-- The four cells of a rule, and its tests. -/
def RlAt (w : World) (B b o : Nat) (r : Rl) : Prop := ∃ (TA : Option Addr) (tc : Nat), w.cell? ⟨b, o, none⟩ = some (.int .i64 r.v) ∧ w.cell? ⟨b, o + 1, none⟩ = some (.int .i64 r.lo) ∧ w.cell? ⟨b, o + 2, none⟩ = some (.int .i64 r.hi) ∧ w.cell? ⟨b, o + 3, none⟩ = some (.slice TA r.ts.length tc) ∧
  Rd w B 4 TA r.ts.length (tsts r.ts) ∧ r.ts.length ≤ 9223372036854775807
/-- A slice of rules that reads as rs, below block B. -/
def RdR (w : World) (B : Nat) (A : Option Addr) (n : Nat) (rs : List Rl) : Prop := rs.length = n ∧ (0 < n → ∃ b off, A = some ⟨b, off, none⟩ ∧ b < B ∧ ∀ j r, rs[j]? = some r → RlAt w B b (off + j * 4) r)
section
variable {w w' : World} {B B' n : Nat} {A : Option Addr} {rs : List Rl}
theorem RlAt.below {b o : Nat} {r : Rl} (h : RlAt w B b o r) (hb : Below B w w') (hlt : b < B) : RlAt w' B b o r := by
  obtain ⟨TA, tc, h0, h1, h2, h3, h4, h5⟩ := h
  exact ⟨TA, tc, (hb.cell (p := ⟨b, o, none⟩) hlt).trans h0, (hb.cell (p := ⟨b, o + 1, none⟩) hlt).trans h1, (hb.cell (p := ⟨b, o + 2, none⟩) hlt).trans h2, (hb.cell (p := ⟨b, o + 3, none⟩) hlt).trans h3, h4.below hb, h5⟩
theorem RlAt.more {b o : Nat} {r : Rl} (h : RlAt w B b o r) (hB : B ≤ B') : RlAt w B' b o r := by
  obtain ⟨TA, tc, h0, h1, h2, h3, h4, h5⟩ := h
  exact ⟨TA, tc, h0, h1, h2, h3, h4.more hB, h5⟩
theorem RdR.below (h : RdR w B A n rs) (hb : Below B w w') : RdR w' B A n rs :=
  ⟨h.1, fun hn => by
    obtain ⟨b, off, e, hlt, hc⟩ := h.2 hn
    exact ⟨b, off, e, hlt, fun j r hr => (hc j r hr).below hb hlt⟩⟩
theorem RdR.more (h : RdR w B A n rs) (hB : B ≤ B') : RdR w B' A n rs :=
  ⟨h.1, fun hn => by
    obtain ⟨b, off, e, hlt, hc⟩ := h.2 hn
    exact ⟨b, off, e, by omega, fun j r hr => (hc j r hr).more hB⟩⟩
theorem RdR.up (h : RdR w w.heap.size A n rs) (hb : Below w.heap.size w w') : RdR w' w'.heap.size A n rs := (h.below hb).more hb.size
theorem RdR.upB (h : RdR w B A n rs) (hb : Below B w w') (hB : B ≤ w'.heap.size) : RdR w' w'.heap.size A n rs := (h.below hb).more hB
theorem RdR.nil_ : RdR w B A 0 [] := ⟨rfl, fun h => absurd h (by omega)⟩
/-- The k-th rule. -/
theorem RdR.rl (h : RdR w B A n rs) {k : Nat} (hk : k < n) : ∃ b off r, A = some ⟨b, off, none⟩ ∧ b < B ∧ rs[k]? = some r ∧ RlAt w B b (off + k * 4) r := by
  obtain ⟨b, off, e, hlt, hc⟩ := h.2 (by omega)
  obtain ⟨r, hr⟩ := some_at h.1 hk
  exact ⟨b, off, r, e, hlt, hr, hc k r hr⟩
end
theorem tst_ext {p q : Tst} (h : p.f = q.f ∧ p.m = q.m ∧ p.op = q.op ∧ p.x = q.x) : p = q := by
  obtain ⟨a, b, c, d⟩ := p
  obtain ⟨a', b', c', d'⟩ := q
  simp_all
def tstEq (p q : Tst) : Bool := p.f == q.f && p.m == q.m && p.op == q.op && p.x == q.x
theorem tstEq_iff {p q : Tst} : tstEq p q = true ↔ p = q := by
  constructor
  · intro h; simp [tstEq] at h; exact tst_ext ⟨h.1.1.1, h.1.1.2, h.1.2, h.2⟩
  · rintro rfl; simp [tstEq]
theorem own4 {w : World} {base e g n cap : Nat} {ys : List Value} (h : w.ownsRow base e 4 (.slice (some ⟨g, 0, none⟩) n cap) n ys) {k : Nat} (hk : k < n) :
    (∃ y0 y1 y2 y3, w.cell? ⟨g, k * 4, none⟩ = some y0 ∧ w.cell? ⟨g, k * 4 + 1, none⟩ = some y1 ∧ w.cell? ⟨g, k * 4 + 2, none⟩ = some y2 ∧ w.cell? ⟨g, k * 4 + 3, none⟩ = some y3) ∧ ∀ j, w.frozen? ⟨g, j, none⟩ = false := by
  have key : ∀ j, j < 4 → ∃ y, w.cell? ⟨g, k * 4 + j, none⟩ = some y := fun j hj => by
    obtain ⟨y, hy⟩ := some_at h.1 (k := k * 4 + j) (by omega)
    exact ⟨y, (h.cellAt (k * 4 + j) (by omega)).trans hy⟩
  obtain ⟨y0, h0⟩ := key 0 (by omega)
  obtain ⟨y1, h1⟩ := key 1 (by omega)
  obtain ⟨y2, h2⟩ := key 2 (by omega)
  obtain ⟨y3, h3⟩ := key 3 (by omega)
  exact ⟨⟨y0, y1, y2, y3, h0, h1, h2, h3⟩, fun j => h.frozenAt j⟩
theorem cset_b4 {w : World} {g o b j : Nat} (u : Value) (h : b ≠ g ∨ j ≠ o) : (w.setCell ⟨g, o, none⟩ u).cell? ⟨b, j, none⟩ = w.cell? ⟨b, j, none⟩ := World.cell?_setCell_other _ _ _ _ (by intro e; injection e with e1 e2; rcases h with h | h <;> omega)
theorem Rd.set_far {w : World} {B size n g o : Nat} {A : Option Addr} {xs : List Value} (h : Rd w B size A n xs) (hA : ∀ b off, A = some ⟨b, off, none⟩ → b ≠ g) (u : Value) : Rd (w.setCell ⟨g, o, none⟩ u) B size A n xs :=
  ⟨h.1, fun hn => by
    obtain ⟨b, off, e, hlt, hc⟩ := h.2 hn
    exact ⟨b, off, e, hlt, fun j v hv => (cset_b4 u (.inl (hA b off e))).trans (hc j v hv)⟩⟩
theorem info_test4 : (Tryd.prog.info? 67).map (fun i => (i.zero, i.size, i.bytes)) = some (some (.agg #[.int .i64 0, .int .i64 0, .int .i64 0, .int .i64 0]), 4, 32) := by kernel_rfl
theorem info_rule : (Tryd.prog.info? 40).map (fun i => (i.zero, i.size, i.bytes)) = some (some (.agg #[.int .i64 0, .int .i64 0, .int .i64 0, .slice none 0 0]), 4, 48) := by kernel_rfl
theorem eqTest_c (p q : Tst) (w : World) : Calls Tryd.prog 84 #[tstV p, tstV q] w (RetB (.bool (tstEq p q)) w) := by
  unfold tstV
  go_enter Tryd.func84, Tryd.ntmps84
  go_wp2
  all_goals go_returns
  all_goals (refine ⟨retv ?_, by go_grown⟩)
  all_goals go_light
  all_goals simp_all [tstEq]
theorem eqTestS_c (A B : Option Addr) (n c m d : Nat) (xs ys : List Tst) (w : World) (hx : Rd w w.heap.size 4 A n (tsts xs)) (hy : Rd w w.heap.size 4 B m (tsts ys)) (hn : n ≤ 9223372036854775807) (hm : m ≤ 9223372036854775807) :
    Calls Tryd.prog 69 #[.slice A n c, .slice B m d] w (RetB (.bool (decide (xs = ys))) w) := by
  have hlx : xs.length = n := by have := hx.1; rw [tsts_len] at this; omega
  have hly : ys.length = m := by have := hy.1; rw [tsts_len] at this; omega
  have HX := Lib.hid hx
  have HY := Lib.hid hy
  clear hx hy
  by_cases hnm : n = m
  · subst hnm
    have HLX := Lib.hid hlx
    have HLY := Lib.hid hly
    clear hlx hly
    go_enter Tryd.func69, Tryd.ntmps69
    go_wp2
    go_loopw [5] (fun i wr => ∃ k : Nat, k ≤ n ∧ i = .int .i64 k ∧ Hid (xs.take k = ys.take k) ∧ Below w.heap.size w wr) (fun i _ => n - (intOf i).toNat)
    case atStart => exact ⟨0, by omega, rfl, by simp [Hid], Below.refl _ _⟩
    case round =>
      obtain ⟨k, hk, rfl, hall, hbel⟩ := hrel
      have hbs := hbel.size
      by_cases hlt : k < n
      · obtain ⟨b, off, p, rfl, hb, hp, c0, c1, c2, c3⟩ := (HX.out.below hbel).tst hlt
        obtain ⟨b', off', q, rfl, hb', hq, d0, d1, d2, d3⟩ := (HY.out.below hbel).tst hlt
        have GX := Lib.hid hp
        have GY := Lib.hid hq
        clear hp hq
        go_wp2
        go_region_held3 (fun w' => w'.cell? ⟨b, off + k * 4, none⟩ = some (.int .i64 p.f) ∧ w'.cell? ⟨b, off + k * 4 + 1, none⟩ = some (.int .i64 p.m) ∧ w'.cell? ⟨b, off + k * 4 + 2, none⟩ = some (.int .i64 p.op) ∧ w'.cell? ⟨b, off + k * 4 + 3, none⟩ = some (.int .i64 p.x) ∧
            w'.cell? ⟨b', off' + k * 4, none⟩ = some (.int .i64 q.f) ∧ w'.cell? ⟨b', off' + k * 4 + 1, none⟩ = some (.int .i64 q.m) ∧ w'.cell? ⟨b', off' + k * 4 + 2, none⟩ = some (.int .i64 q.op) ∧ w'.cell? ⟨b', off' + k * 4 + 3, none⟩ = some (.int .i64 q.x)) (simp [go_sem, *])
          (first | (go_at_call 84; refine (eqTest_c p q _).mono ?_; rintro e w1 ⟨rfl, b1⟩; obtain ⟨gc1, gf1⟩ := below_get b1; (try simp only [heap_drew, World.size_alloc, World.size_setCell] at gc1 gf1); have hb1 := below_on hbel (by go_grown) b1; have hb2 : b < wr.heap.size := (by omega); have hb2' : b' < wr.heap.size := (by omega)))
        go_wp2
        · go_returns
          go_light
          rename (_ = true) => h
          refine ⟨retv ?_, hb1⟩
          have hne := ne_of_at GX.out GY.out (fun e => by rw [tstEq_iff.2 e] at h; simp at h)
          simp [hne]
        · go_roundw
          case rel =>
            go_light
            rename (_ = false) => h
            have e : p = q := tstEq_iff.1 (by simpa using h)
            subst e
            exact ⟨k + 1, by omega, by go_num, take_ext hall.out GX.out GY.out, hb1⟩
          case measure => simp [intOf]; omega
      · go_wp2
        go_returns
        go_light
        obtain rfl : k = n := by omega
        have e := take_full HLX.out HLY.out hall.out
        exact ⟨by simp [e], hbel⟩
  · have hne : decide (xs = ys) = false := by
      simp; rintro rfl; omega
    have HN := Lib.hid hne
    clear hne
    go_enter Tryd.func69, Tryd.ntmps69
    go_wp2
    all_goals (go_returns; refine ⟨retv ?_, by go_grown⟩; rw [HN.out]; rfl)
end Go.Proofs.YtflhniobbdanjaaDoor
namespace Go.Proofs.YtflhniobbdanjaaDoor
set_option linter.unusedSimpArgs false
open Go.RowKit
set_option linter.unusedVariables false
set_option linter.unnecessarySimpa false
def Rl.eq (p q : Rl) : Bool := p.v == q.v && p.lo == q.lo && p.hi == q.hi && decide (p.ts = q.ts)
theorem rl_ext {p q : Rl} (h : p.v = q.v ∧ p.lo = q.lo ∧ p.hi = q.hi ∧ p.ts = q.ts) : p = q := by
  obtain ⟨a, b, c, d⟩ := p
  obtain ⟨a', b', c', d'⟩ := q
  simp_all
theorem rlEq_iff {p q : Rl} : Rl.eq p q = true ↔ p = q := by
  constructor
  · intro h; simp [Rl.eq] at h; exact rl_ext ⟨h.1.1.1, h.1.1.2, h.1.2, h.2⟩
  · rintro rfl; simp [Rl.eq]
/-- How many tests there are. -/
def ruleN (rs : List Rl) : Nat := (rs.map (fun r => r.ts.length)).sum
theorem ruleN_succ {rs : List Rl} {k : Nat} {r : Rl} (h : rs[k]? = some r) : ruleN (rs.take (k + 1)) = ruleN (rs.take k) + r.ts.length := by
  unfold ruleN
  rw [List.take_add_one, h]; simp
theorem ruleN_le {rs : List Rl} {k : Nat} : ruleN (rs.take k) ≤ ruleN rs := by
  unfold ruleN
  have h : (rs.map (fun r => r.ts.length)).sum = ((rs.take k ++ rs.drop k).map (fun r => r.ts.length)).sum := by rw [List.take_append_drop]
  rw [h, List.map_append, List.sum_append]
  exact Nat.le_add_right _ _
/-- A rule of its own memory: the tests lie from block 'base' on. -/
def RlO (w : World) (base E b o : Nat) (r : Rl) : Prop := ∃ (TA : Option Addr) (tc : Nat), w.cell? ⟨b, o, none⟩ = some (.int .i64 r.v) ∧ w.cell? ⟨b, o + 1, none⟩ = some (.int .i64 r.lo) ∧ w.cell? ⟨b, o + 2, none⟩ = some (.int .i64 r.hi) ∧ w.cell? ⟨b, o + 3, none⟩ = some (.slice TA r.ts.length tc) ∧
  w.ownsRow base E 4 (.slice TA r.ts.length tc) r.ts.length (tsts r.ts) ∧ r.ts.length ≤ 9223372036854775807
section
variable {w w' : World} {base E b o : Nat} {r : Rl}
theorem RlO.at_ (h : RlO w base E b o r) : RlAt w w.heap.size b o r := by
  obtain ⟨TA, tc, h0, h1, h2, h3, h4, h5⟩ := h
  exact ⟨TA, tc, h0, h1, h2, h3, Rd.of_own h4, h5⟩
theorem RlO.up (h : RlO w base E b o r) (hb : Below w.heap.size w w') (hlt : b < w.heap.size) : RlO w' base E b o r := by
  obtain ⟨TA, tc, h0, h1, h2, h3, h4, h5⟩ := h
  exact ⟨TA, tc, (hb.cell (p := ⟨b, o, none⟩) hlt).trans h0, (hb.cell (p := ⟨b, o + 1, none⟩) hlt).trans h1, (hb.cell (p := ⟨b, o + 2, none⟩) hlt).trans h2, (hb.cell (p := ⟨b, o + 3, none⟩) hlt).trans h3, own_up h4 hb, h5⟩
theorem RlO.set (h : RlO w base E b o r) {j : Nat} (hj : o + 4 ≤ j) (hb : b < base) (u : Value) : RlO (w.setCell ⟨b, j, none⟩ u) base E b o r := by
  obtain ⟨TA, tc, h0, h1, h2, h3, h4, h5⟩ := h
  exact ⟨TA, tc, (cset_b4 u (.inr (by omega))).trans h0, (cset_b4 u (.inr (by omega))).trans h1, (cset_b4 u (.inr (by omega))).trans h2, (cset_b4 u (.inr (by omega))).trans h3, ownsRow_setCell_below h4 (by simpa using hb) u, h5⟩
theorem RlO.setCells (h : RlO w base E b o r) {j : Nat} (hj : o + 4 ≤ j) (hb : b < base) (cs : List Value) : RlO (setCells w b j cs) base E b o r := by
  induction cs generalizing w j with
  | nil => exact h
  | cons c cs ih => exact ih (h.set hj hb c) (by omega)
end
/-- Rules of their own memory, from block 'base' on. -/
def OwnR (w : World) (base E : Nat) (A : Option Addr) (n : Nat) (rs : List Rl) : Prop := rs.length = n ∧ ∃ g, A = some ⟨g, 0, none⟩ ∧ base ≤ g ∧ g < w.heap.size ∧ ∀ j r, rs[j]? = some r → RlO w (g + 1) E g (j * 4) r
section
variable {w w' : World} {base base' E n : Nat} {A : Option Addr} {rs : List Rl}
theorem OwnR.rd (h : OwnR w base E A n rs) : RdR w w.heap.size A n rs := by
  obtain ⟨hl, g, rfl, hb, hg, hr⟩ := h
  exact ⟨hl, fun _ => ⟨g, 0, rfl, hg, fun j r hj => by rw [Nat.zero_add]; exact (hr j r hj).at_⟩⟩
theorem RlO.far {b o : Nat} {r : Rl} (h : RlO w base E b o r) {a : Addr} (hb : a.block < b) (hb2 : a.block < base) (u : Value) : RlO (w.setCell a u) base E b o r := by
  obtain ⟨TA, tc, h0, h1, h2, h3, h4, h5⟩ := h
  have key : ∀ i, (w.setCell a u).cell? ⟨b, i, none⟩ = w.cell? ⟨b, i, none⟩ := fun i => World.cell?_setCell_other _ _ _ _ (by rintro rfl; simp at hb)
  exact ⟨TA, tc, (key _).trans h0, (key _).trans h1, (key _).trans h2, (key _).trans h3, ownsRow_setCell_below h4 hb2 u, h5⟩
theorem OwnR.far (h : OwnR w base E A n rs) {a : Addr} (hb : a.block < base) (u : Value) : OwnR (w.setCell a u) base E A n rs := by
  obtain ⟨hl, g, rfl, hbg, hg, hr⟩ := h
  exact ⟨hl, g, rfl, hbg, by simpa using hg, fun j r hj => (hr j r hj).far (by omega) (by omega) u⟩
theorem OwnR.up (h : OwnR w base E A n rs) (hb : Below w.heap.size w w') : OwnR w' base E A n rs := by
  obtain ⟨hl, g, rfl, hbg, hg, hr⟩ := h
  exact ⟨hl, g, rfl, hbg, by have := hb.size; omega, fun j r hj => (hr j r hj).up hb hg⟩
theorem OwnR.lower (h : OwnR w base E A n rs) (hb : base' ≤ base) : OwnR w base' E A n rs := by
  obtain ⟨hl, g, rfl, hbg, hg, hr⟩ := h
  exact ⟨hl, g, rfl, by omega, hg, hr⟩
end
theorem own_setCells_below {w : World} {base e size b : Nat} {v : Value} {n : Nat} {ys : List Value} (h : w.ownsRow base e size v n ys) (hb : b < base) (o : Nat) (cs : List Value) : (setCells w b o cs).ownsRow base e size v n ys := by
  induction cs generalizing w o with
  | nil => exact h
  | cons c cs ih => exact ih (ownsRow_setCell_below h (a := ⟨b, o, none⟩) (by simpa using hb) c) (o + 1)
theorem rules_put {w1 : World} {g E E' n k : Nat} {ys : List Value} {rs : List Rl} {r : Rl} {A1 : Option Addr} {c1 : Nat} (HO : w1.ownsRow g E 4 (.slice (some ⟨g, 0, none⟩) n n) n ys) (HY : ∀ j r', j < k → rs[j]? = some r' → RlO w1 (g + 1) E' g (j * 4) r')
    (HN : w1.ownsRow (g + 1) E' 4 (.slice A1 r.ts.length c1) r.ts.length (tsts r.ts)) (HP : rs[k]? = some r) (hlt : k < n) (hrl : r.ts.length ≤ 9223372036854775807) :
    (setCells w1 g (k * 4) [.int .i64 r.v, .int .i64 r.lo, .int .i64 r.hi, .slice A1 r.ts.length c1]).ownsRow g E 4 (.slice (some ⟨g, 0, none⟩) n n) n (setL ys (k * 4) [.int .i64 r.v, .int .i64 r.lo, .int .i64 r.hi, .slice A1 r.ts.length c1]) ∧
    (∀ j r', j < k + 1 → rs[j]? = some r' → RlO (setCells w1 g (k * 4) [.int .i64 r.v, .int .i64 r.lo, .int .i64 r.hi, .slice A1 r.ts.length c1]) (g + 1) E' g (j * 4) r') := by
  have hs := own_setL HO (k * 4) [.int .i64 r.v, .int .i64 r.lo, .int .i64 r.hi, .slice A1 r.ts.length c1]
  refine ⟨hs, fun j r' hj hr' => ?_⟩
  by_cases hjk : j < k
  · exact (HY j r' hjk hr').setCells (by omega) (by omega) _
  · obtain rfl : j = k := by omega
    obtain rfl : r' = r := by rw [hr'] at HP; injection HP
    have hl' : j * 4 + 3 < ys.length := by rw [HO.1]; omega
    have hat : ∀ i u, i < 4 → (setL ys (j * 4) [.int .i64 r'.v, .int .i64 r'.lo, .int .i64 r'.hi, .slice A1 r'.ts.length c1])[j * 4 + i]? = some u → (setCells w1 g (j * 4) [.int .i64 r'.v, .int .i64 r'.lo, .int .i64 r'.hi, .slice A1 r'.ts.length c1]).cell? ⟨g, j * 4 + i, none⟩ = some u := fun i u hi hu => (hs.cellAt (j * 4 + i) (by omega)).trans hu
    have hk0 := hat 0 (.int .i64 r'.v) (by omega) (by simp only [setL, Nat.add_zero]; rw [List.getElem?_set_ne (by omega), List.getElem?_set_ne (by omega), List.getElem?_set_ne (by omega), List.getElem?_set_self (by (try simp); omega)])
    have hk1 := hat 1 (.int .i64 r'.lo) (by omega) (by simp only [setL, Nat.add_zero]; rw [List.getElem?_set_ne (by omega), List.getElem?_set_ne (by omega), List.getElem?_set_self (by (try simp); omega)])
    have hk2 := hat 2 (.int .i64 r'.hi) (by omega) (by simp only [setL, Nat.add_zero]; rw [List.getElem?_set_ne (by omega), List.getElem?_set_self (by (try simp); omega)])
    have hk3 := hat 3 (.slice A1 r'.ts.length c1) (by omega) (by simp only [setL, Nat.add_zero]; rw [List.getElem?_set_self (by (try simp); omega)])
    exact ⟨A1, c1, hk0, hk1, hk2, hk3, own_setCells_below HN (by omega) _ _, hrl⟩
theorem eqRule_c (p q : Rl) (A B : Option Addr) (n c m d : Nat) (w : World) (hx : Rd w w.heap.size 4 A n (tsts p.ts)) (hy : Rd w w.heap.size 4 B m (tsts q.ts)) (hn : n ≤ 9223372036854775807) (hm : m ≤ 9223372036854775807) :
    Calls Tryd.prog 50 #[.agg #[.int .i64 p.v, .int .i64 p.lo, .int .i64 p.hi, .slice A n c], .agg #[.int .i64 q.v, .int .i64 q.lo, .int .i64 q.hi, .slice B m d]] w (RetB (.bool (Rl.eq p q)) w) := by
  have HR := Lib.hid hx
  have HQ := Lib.hid hy
  clear hx hy
  go_enter Tryd.func50, Tryd.ntmps50
  go_wp2_with (go_at_call 69; refine (eqTestS_c A B n c m d p.ts q.ts _ (HR.out.upB (by go_grown) (by go_size)) (HQ.out.upB (by go_grown) (by go_size)) hn hm).mono ?_; rintro e w1 ⟨rfl, b1⟩; obtain ⟨gc1, gf1⟩ := below_get b1; (try simp only [heap_drew, World.size_alloc, World.size_setCell] at gc1 gf1); have s1 := below_via (w := w) (by go_grown) b1; have H1 := s1; have hs1 := b1.size; (try simp at hs1); have z1_0 : w.heap.size < w1.heap.size := (by omega); clear b1)
  all_goals go_returns
  all_goals (refine ⟨retv ?_, by go_grown⟩)
  all_goals go_light
  all_goals simp_all [Rl.eq]
theorem eqRuleS_c (A B : Option Addr) (n c m d : Nat) (xs ys : List Rl) (w : World) (hx : RdR w w.heap.size A n xs) (hy : RdR w w.heap.size B m ys) (hn : n ≤ 9223372036854775807) (hm : m ≤ 9223372036854775807) :
    Calls Tryd.prog 27 #[.slice A n c, .slice B m d] w (RetB (.bool (decide (xs = ys))) w) := by
  have hlx := hx.1
  have hly := hy.1
  have HX := Lib.hid hx
  have HY := Lib.hid hy
  clear hx hy
  by_cases hnm : n = m
  · subst hnm
    have HLX := Lib.hid hlx
    have HLY := Lib.hid hly
    clear hlx hly
    go_enter Tryd.func27, Tryd.ntmps27
    go_wp2
    go_loopw [5] (fun i wr => ∃ k : Nat, k ≤ n ∧ i = .int .i64 k ∧ Hid (xs.take k = ys.take k) ∧ Below w.heap.size w wr) (fun i _ => n - (intOf i).toNat)
    case atStart => exact ⟨0, by omega, rfl, by simp [Hid], Below.refl _ _⟩
    case round =>
      obtain ⟨k, hk, rfl, hall, hbel⟩ := hrel
      have hbs := hbel.size
      by_cases hlt : k < n
      · obtain ⟨b, off, p, rfl, hb, hp, TA, tc, c0, c1, c2, c3, hrt, hrl⟩ := (HX.out.below hbel).rl hlt
        obtain ⟨b', off', q, rfl, hb', hq, TA', tc', d0, d1, d2, d3, hqt, hql⟩ := (HY.out.below hbel).rl hlt
        have GX := Lib.hid hp
        have GY := Lib.hid hq
        have GT := Lib.hid (hrt.more hbs)
        have GU := Lib.hid (hqt.more hbs)
        clear hp hq hrt hqt
        go_wp2
        go_region_held3 (fun w' => w'.cell? ⟨b, off + k * 4, none⟩ = some (.int .i64 p.v) ∧ w'.cell? ⟨b, off + k * 4 + 1, none⟩ = some (.int .i64 p.lo) ∧ w'.cell? ⟨b, off + k * 4 + 2, none⟩ = some (.int .i64 p.hi) ∧ w'.cell? ⟨b, off + k * 4 + 3, none⟩ = some (.slice TA p.ts.length tc) ∧
            w'.cell? ⟨b', off' + k * 4, none⟩ = some (.int .i64 q.v) ∧ w'.cell? ⟨b', off' + k * 4 + 1, none⟩ = some (.int .i64 q.lo) ∧ w'.cell? ⟨b', off' + k * 4 + 2, none⟩ = some (.int .i64 q.hi) ∧ w'.cell? ⟨b', off' + k * 4 + 3, none⟩ = some (.slice TA' q.ts.length tc')) (simp [go_sem, *])
          (first | (go_at_call 50; refine (eqRule_c p q TA TA' p.ts.length tc q.ts.length tc' _ (GT.out.upB (by go_grown) (by go_size)) (GU.out.upB (by go_grown) (by go_size)) hrl hql).mono ?_; rintro e w1 ⟨rfl, b1⟩; obtain ⟨gc1, gf1⟩ := below_get b1; (try simp only [heap_drew, World.size_alloc, World.size_setCell] at gc1 gf1); have hb1 := below_on hbel (by go_grown) b1; have hb2 : b < wr.heap.size := (by omega); have hb2' : b' < wr.heap.size := (by omega)))
        go_wp2
        · go_returns
          go_light
          rename (_ = true) => h
          refine ⟨retv ?_, hb1⟩
          have hne := ne_of_at GX.out GY.out (fun e => by rw [rlEq_iff.2 e] at h; simp at h)
          simp [hne]
        · go_roundw
          case rel =>
            go_light
            rename (_ = false) => h
            have e : p = q := rlEq_iff.1 (by simpa using h)
            exact ⟨k + 1, by omega, by go_num, take_ext hall.out GX.out (by rw [e]; exact GY.out), hb1⟩
          case measure => simp [intOf]; omega
      · go_wp2
        go_returns
        go_light
        obtain rfl : k = n := by omega
        have e := take_full HLX.out HLY.out hall.out
        exact ⟨by simp [e], hbel⟩
  · have hne : decide (xs = ys) = false := by
      simp; rintro rfl; omega
    have HN := Lib.hid hne
    clear hne
    go_enter Tryd.func27, Tryd.ntmps27
    go_wp2
    all_goals (go_returns; refine ⟨retv ?_, by go_grown⟩; rw [HN.out]; rfl)
end Go.Proofs.YtflhniobbdanjaaDoor
namespace Go.Proofs.YtflhniobbdanjaaDoor
set_option linter.unusedSimpArgs false
open Go.RowKit
set_option linter.unusedVariables false
set_option linter.unnecessarySimpa false
theorem eqPolicy_c (A B : Option Addr) (n c m d : Nat) (rs rs' : List Rl) (e e' : Int) (w : World) (hx : RdR w w.heap.size A n rs) (hy : RdR w w.heap.size B m rs') (hn : n ≤ 9223372036854775807) (hm : m ≤ 9223372036854775807) :
    Calls Tryd.prog 7 #[.agg #[.slice A n c, .int .i64 e], .agg #[.slice B m d, .int .i64 e']] w (RetB (.bool (decide (rs = rs') && e == e')) w) := by
  have HR := Lib.hid hx
  have HQ := Lib.hid hy
  clear hx hy
  go_enter Tryd.func7, Tryd.ntmps7
  go_wp2_with (go_at_call 27; refine (eqRuleS_c A B n c m d rs rs' _ (HR.out.upB (by go_grown) (by go_size)) (HQ.out.upB (by go_grown) (by go_size)) hn hm).mono ?_; rintro e w1 ⟨rfl, b1⟩; obtain ⟨gc1, gf1⟩ := below_get b1; (try simp only [heap_drew, World.size_alloc, World.size_setCell] at gc1 gf1); have s1 := below_via (w := w) (by go_grown) b1; have H1 := s1; have hs1 := b1.size; (try simp at hs1); have z1_0 : w.heap.size < w1.heap.size := (by omega); clear b1)
  all_goals go_returns
  all_goals (refine ⟨retv ?_, by go_grown⟩)
  all_goals go_light
  all_goals simp_all
end Go.Proofs.YtflhniobbdanjaaDoor
