/- Policies as they lie in memory; the functions that copy, compare and count them. Conditions: each contract's own. -/
import Derived.Test.YtljgaepgblakhaaDoorTest2
import Derived.Deep.RegionHeld3
import Derived.Deep.RegionLaw
import Derived.Deep.AppendLies
import Derived.Deep.LoopGhost
import Derived.Deep.QuietTactic
import Derived.BigQuiet
import Derived.Deep.DeepCutAuto
import Derived.Deep.DrawnRows
namespace Go.Proofs.YtljgaepgblakhaaDoor
set_option linter.unusedSimpArgs false
open Go.RowKit
set_option linter.unusedVariables false
set_option linter.unnecessarySimpa false
structure Tst where
  f : Int
  m : Int
  op : Int
  x : Int
deriving DecidableEq
def Tst.cells (t : Tst) : List Value := [.int .i64 t.f, .int .i64 t.m, .int .i64 t.op, .int .i64 t.x]
def tstV (t : Tst) : Value := .agg #[.int .i64 t.f, .int .i64 t.m, .int .i64 t.op, .int .i64 t.x]
def tsts (ts : List Tst) : List Value := ts.flatMap Tst.cells
structure Rl where
  v : Int
  lo : Int
  hi : Int
  ts : List Tst
deriving DecidableEq
structure Pol where
  rs : List Rl
  els : Int
deriving DecidableEq
theorem tsts_len (ts : List Tst) : (tsts ts).length = ts.length * 4 := by
  unfold tsts
  induction ts with
  | nil => rfl
  | cons p ps ih => rw [List.flatMap_cons, List.length_append, ih, List.length_cons]; simp [Tst.cells]; omega
theorem flat4_at {l : List Tst} {k : Nat} {a : Tst} (h : l[k]? = some a) {j : Nat} (hj : j < 4) : (tsts l)[k * 4 + j]? = a.cells[j]? := by
  unfold tsts
  induction l generalizing k with
  | nil => simp at h
  | cons b l ih =>
    rw [List.flatMap_cons]
    cases k with
    | zero =>
      simp at h
      subst h
      rw [List.getElem?_append_left (by simp [Tst.cells]; omega)]
      simp
    | succ k =>
      rw [List.getElem?_append_right (by simp [Tst.cells]; omega)]
      have e : (k + 1) * 4 + j - (Tst.cells b).length = k * 4 + j := by simp [Tst.cells]; omega
      rw [e]
      exact ih (by simpa using h)
theorem tsts_take {l : List Tst} {k : Nat} {a : Tst} (h : l[k]? = some a) : (tsts l).take (k * 4 + 4) = (tsts l).take (k * 4) ++ a.cells := by
  unfold tsts
  induction l generalizing k with
  | nil => simp at h
  | cons b l ih =>
    rw [List.flatMap_cons]
    cases k with
    | zero =>
      simp at h
      subst h
      simp [Tst.cells]
    | succ k =>
      have e1 : (k + 1) * 4 + 4 = (Tst.cells b).length + (k * 4 + 4) := by simp [Tst.cells]; omega
      have e2 : (k + 1) * 4 = (Tst.cells b).length + k * 4 := by simp [Tst.cells]; omega
      rw [e1, e2, List.take_length_add_append, List.take_length_add_append, ih (by simpa using h), List.append_assoc]
/-- The four cells of the k-th test. -/
theorem Rd.tst {w : World} {B n : Nat} {A : Option Addr} {ts : List Tst} (h : Rd w B 4 A n (tsts ts)) {k : Nat} (hk : k < n) :
    ∃ b off t, A = some ⟨b, off, none⟩ ∧ b < B ∧ ts[k]? = some t ∧ w.cell? ⟨b, off + k * 4, none⟩ = some (.int .i64 t.f) ∧ w.cell? ⟨b, off + k * 4 + 1, none⟩ = some (.int .i64 t.m) ∧ w.cell? ⟨b, off + k * 4 + 2, none⟩ = some (.int .i64 t.op) ∧ w.cell? ⟨b, off + k * 4 + 3, none⟩ = some (.int .i64 t.x) := by
  obtain ⟨b, off, rfl, hb, hc⟩ := h.2 (by omega)
  have hl : ts.length = n := by have := h.1; rw [tsts_len] at this; omega
  obtain ⟨t, ht⟩ := some_at hl hk
  have g : ∀ j u, j < 4 → t.cells[j]? = some u → w.cell? ⟨b, off + k * 4 + j, none⟩ = some u := fun j u hj hu => by
    have := hc (k * 4 + j) u (by rw [flat4_at ht hj]; exact hu)
    rw [show off + k * 4 + j = off + (k * 4 + j) from by omega]
    exact this
  exact ⟨b, off, t, rfl, hb, ht, g 0 _ (by omega) rfl, g 1 _ (by omega) rfl, g 2 _ (by omega) rfl, g 3 _ (by omega) rfl⟩
/-- The four cells of a rule, and its tests. -/
def RlAt (w : World) (B b o : Nat) (r : Rl) : Prop := ∃ (TA : Option Addr) (tc : Nat), w.cell? ⟨b, o, none⟩ = some (.int .i64 r.v) ∧ w.cell? ⟨b, o + 1, none⟩ = some (.int .i64 r.lo) ∧ w.cell? ⟨b, o + 2, none⟩ = some (.int .i64 r.hi) ∧ w.cell? ⟨b, o + 3, none⟩ = some (.slice TA r.ts.length tc) ∧
  Rd w B 4 TA r.ts.length (tsts r.ts) ∧ r.ts.length ≤ 9223372036854775807
/-- A slice of rules that reads as rs, below block B. -/
def RdR (w : World) (B : Nat) (A : Option Addr) (n : Nat) (rs : List Rl) : Prop := rs.length = n ∧ (0 < n → ∃ b off, A = some ⟨b, off, none⟩ ∧ b < B ∧ ∀ j r, rs[j]? = some r → RlAt w B b (off + j * 4) r)
section
variable {w w' : World} {B B' n : Nat} {A : Option Addr} {rs : List Rl}
theorem RlAt.below {b o : Nat} {r : Rl} (h : RlAt w B b o r) (hb : Below B w w') (hlt : b < B) : RlAt w' B b o r := by
  obtain ⟨TA, tc, h0, h1, h2, h3, h4, h5⟩ := h
  exact ⟨TA, tc, (hb.cell (p := ⟨b, o, none⟩) hlt).trans h0, (hb.cell (p := ⟨b, o + 1, none⟩) hlt).trans h1, (hb.cell (p := ⟨b, o + 2, none⟩) hlt).trans h2, (hb.cell (p := ⟨b, o + 3, none⟩) hlt).trans h3, h4.below hb, h5⟩
theorem RlAt.more {b o : Nat} {r : Rl} (h : RlAt w B b o r) (hB : B ≤ B') : RlAt w B' b o r := by
  obtain ⟨TA, tc, h0, h1, h2, h3, h4, h5⟩ := h
  exact ⟨TA, tc, h0, h1, h2, h3, h4.more hB, h5⟩
theorem RdR.below (h : RdR w B A n rs) (hb : Below B w w') : RdR w' B A n rs :=
  ⟨h.1, fun hn => by
    obtain ⟨b, off, e, hlt, hc⟩ := h.2 hn
    exact ⟨b, off, e, hlt, fun j r hr => (hc j r hr).below hb hlt⟩⟩
theorem RdR.more (h : RdR w B A n rs) (hB : B ≤ B') : RdR w B' A n rs :=
  ⟨h.1, fun hn => by
    obtain ⟨b, off, e, hlt, hc⟩ := h.2 hn
    exact ⟨b, off, e, by omega, fun j r hr => (hc j r hr).more hB⟩⟩
theorem RdR.up (h : RdR w w.heap.size A n rs) (hb : Below w.heap.size w w') : RdR w' w'.heap.size A n rs := (h.below hb).more hb.size
theorem RdR.upB (h : RdR w B A n rs) (hb : Below B w w') (hB : B ≤ w'.heap.size) : RdR w' w'.heap.size A n rs := (h.below hb).more hB
theorem RdR.nil_ : RdR w B A 0 [] := ⟨rfl, fun h => absurd h (by omega)⟩
/-- The k-th rule. -/
theorem RdR.rl (h : RdR w B A n rs) {k : Nat} (hk : k < n) : ∃ b off r, A = some ⟨b, off, none⟩ ∧ b < B ∧ rs[k]? = some r ∧ RlAt w B b (off + k * 4) r := by
  obtain ⟨b, off, e, hlt, hc⟩ := h.2 (by omega)
  obtain ⟨r, hr⟩ := some_at h.1 hk
  exact ⟨b, off, r, e, hlt, hr, hc k r hr⟩
end
theorem tst_ext {p q : Tst} (h : p.f = q.f ∧ p.m = q.m ∧ p.op = q.op ∧ p.x = q.x) : p = q := by
  obtain ⟨a, b, c, d⟩ := p
  obtain ⟨a', b', c', d'⟩ := q
  simp_all
def tstEq (p q : Tst) : Bool := p.f == q.f && p.m == q.m && p.op == q.op && p.x == q.x
theorem tstEq_iff {p q : Tst} : tstEq p q = true ↔ p = q := by
  constructor
  · intro h; simp [tstEq] at h; exact tst_ext ⟨h.1.1.1, h.1.1.2, h.1.2, h.2⟩
  · rintro rfl; simp [tstEq]
theorem own4 {w : World} {base e g n cap : Nat} {ys : List Value} (h : w.ownsRow base e 4 (.slice (some ⟨g, 0, none⟩) n cap) n ys) {k : Nat} (hk : k < n) :
    (∃ y0 y1 y2 y3, w.cell? ⟨g, k * 4, none⟩ = some y0 ∧ w.cell? ⟨g, k * 4 + 1, none⟩ = some y1 ∧ w.cell? ⟨g, k * 4 + 2, none⟩ = some y2 ∧ w.cell? ⟨g, k * 4 + 3, none⟩ = some y3) ∧ ∀ j, w.frozen? ⟨g, j, none⟩ = false := by
  have key : ∀ j, j < 4 → ∃ y, w.cell? ⟨g, k * 4 + j, none⟩ = some y := fun j hj => by
    obtain ⟨y, hy⟩ := some_at h.1 (k := k * 4 + j) (by omega)
    exact ⟨y, (h.cellAt (k * 4 + j) (by omega)).trans hy⟩
  obtain ⟨y0, h0⟩ := key 0 (by omega)
  obtain ⟨y1, h1⟩ := key 1 (by omega)
  obtain ⟨y2, h2⟩ := key 2 (by omega)
  obtain ⟨y3, h3⟩ := key 3 (by omega)
  exact ⟨⟨y0, y1, y2, y3, h0, h1, h2, h3⟩, fun j => h.frozenAt j⟩
theorem cset_b4 {w : World} {g o b j : Nat} (u : Value) (h : b ≠ g ∨ j ≠ o) : (w.setCell ⟨g, o, none⟩ u).cell? ⟨b, j, none⟩ = w.cell? ⟨b, j, none⟩ := World.cell?_setCell_other _ _ _ _ (by intro e; injection e with e1 e2; rcases h with h | h <;> omega)
theorem Rd.set_far {w : World} {B size n g o : Nat} {A : Option Addr} {xs : List Value} (h : Rd w B size A n xs) (hA : ∀ b off, A = some ⟨b, off, none⟩ → b ≠ g) (u : Value) : Rd (w.setCell ⟨g, o, none⟩ u) B size A n xs :=
  ⟨h.1, fun hn => by
    obtain ⟨b, off, e, hlt, hc⟩ := h.2 hn
    exact ⟨b, off, e, hlt, fun j v hv => (cset_b4 u (.inl (hA b off e))).trans (hc j v hv)⟩⟩
theorem info_test4 : (Tryd.prog.info? 83).map (fun i => (i.zero, i.size, i.bytes)) = some (some (.agg #[.int .i64 0, .int .i64 0, .int .i64 0, .int .i64 0]), 4, 32) := by kernel_rfl
theorem info_rule : (Tryd.prog.info? 35).map (fun i => (i.zero, i.size, i.bytes)) = some (some (.agg #[.int .i64 0, .int .i64 0, .int .i64 0, .slice none 0 0]), 4, 48) := by kernel_rfl
theorem toTestS_c (A : Option Addr) (n c : Nat) (xs : List Tst) (w : World) (hr : Rd w w.heap.size 4 A n (tsts xs)) (hn : n ≤ 1048576) :
    Calls Tryd.prog 159 #[.slice A n c] w (RetOwn 83 4 n (tsts xs) w) := by
  obtain ⟨i0, hi, hz0, hz1, hz2⟩ := info_parts info_test4
  have HR := Lib.hid hr
  clear hr
  go_enter Tryd.func159, Tryd.ntmps159
  go_wp2_with (at_make; refine wpList_make_full _ rfl _ _ 33 rfl w.heap.size 83 i0 _ 4 Tryd.underlying33 hi hz0 hz1 .i64 .i64 (n : Int) (n : Int) n rfl rfl rfl rfl ?b2 ?b3 ?b4 ?_)
  case b2 => rw [hz2]; omega
  case b3 => unfold maxLen; omega
  case b4 => exact Nat.le_refl _
  intro w0 hown0 hg0
  have hb0 : Below w.heap.size w w0 := (Below.refl _ _).grown hg0 (Nat.le_refl _) (by simp)
  have HO0 := Lib.hid hown0
  clear hown0 hg0 hi hz0 hz1 hz2
  go_wp2
  go_loopw [4] (fun i wr => ∃ (k : Nat) (ys : List Value), k ≤ n ∧ i = .int .i64 k ∧ Hid (wr.ownsRow w.heap.size 83 4 (.slice (some ⟨w.heap.size, 0, none⟩) n n) n ys) ∧ Hid (ys.take (k * 4) = (tsts xs).take (k * 4)) ∧ Below w.heap.size w wr) (fun i _ => n - (intOf i).toNat)
  case atStart => exact ⟨0, _, by omega, rfl, HO0, by simp [Hid], hb0⟩
  case round =>
    obtain ⟨k, ys, hk, rfl, HO, hys, hbel⟩ := hrel
    have hbs := hbel.size
    by_cases hlt : k < n
    · obtain ⟨b, off, p, rfl, hb, hp, c0, c1, c2, c3⟩ := (HR.out.below hbel).tst hlt
      have HP := Lib.hid hp
      clear hp
      go_wp2_with (go_at_call 176; refine (toTest_c p.f p.m p.op p.x _).mono ?_; rintro e w1 ⟨rfl, b1⟩; have hb1 := below_on hbel (by go_grown) b1; have HO1 := Lib.hid (own_up HO.out b1); clear b1; obtain ⟨⟨y0, y1, y2, y3, e0, e1, e2, e3⟩, f1⟩ := own4 HO1.out hlt; unfold testV)
      go_roundw
      case rel =>
        go_light
        have hl := HO1.out.1
        refine ⟨k + 1, setL ys (k * 4) p.cells, by omega, by go_num, own_setL HO1.out (k * 4) p.cells, ?_, below_setCells hb1 (Nat.le_refl _) (k * 4) p.cells⟩
        have h1 := setL_take ys (k * 4) p.cells (by rw [hl]; simp [Tst.cells]; omega)
        have h2 := tsts_take HP.out
        show _ = _
        rw [show (k + 1) * 4 = k * 4 + 4 from by omega, h2, ← hys.out]
        exact h1
      case measure => simp [intOf]; omega
    · go_wp2
      go_returns
      go_light
      obtain rfl : k = n := by omega
      have h1 := hys.out
      have h2 := HO.out
      have e : ys = tsts xs := by
        rwa [List.take_of_length_le (by rw [h2.1]; exact Nat.le_refl _), List.take_of_length_le (by rw [HR.out.1]; exact Nat.le_refl _)] at h1
      rw [e] at h2
      exact ⟨_, _, rfl, h2, hbel⟩
theorem toRule_c (v lo hi : Int) (A : Option Addr) (n c : Nat) (xs : List Tst) (w : World) (hr : Rd w w.heap.size 4 A n (tsts xs)) (hn : n ≤ 1048576) :
    Calls Tryd.prog 123 #[.agg #[.int .i64 v, .int .i64 lo, .int .i64 hi, .slice A n c]] w (fun e w' => ∃ A' c', e = .returned (.agg #[.int .i64 v, .int .i64 lo, .int .i64 hi, .slice A' n c']) ∧ w'.ownsRow (w.heap.size + 1) 83 4 (.slice A' n c') n (tsts xs) ∧ Below w.heap.size w w') := by
  have HR := Lib.hid hr
  clear hr
  go_enter Tryd.func123, Tryd.ntmps123
  go_wp2_with (go_at_call 159; refine (toTestS_c A n c xs _ (HR.out.upB (by go_grown) (by go_size)) hn).mono ?_; rintro e w' ⟨A2, c2, rfl, hown, hbel⟩; obtain ⟨gc, gf⟩ := below_get hbel; have hb := below_via (w := w) (by go_grown) hbel)
  refine bodyPost_ret (v := .agg #[.int .i64 v, .int .i64 lo, .int .i64 hi, .slice A2 n c2]) (by simp [results, Tryd.results123, go_sem, gc]) rfl ?_
  go_light
  have h1 := ownsRow_setCell_below hown (a := ⟨w.heap.size + 1 + 1, 3, none⟩) (by simp) (.slice A2 n c2)
  have h2 := ownsRow_setCell_below h1 (a := ⟨w.heap.size + 1, 0, none⟩) (by simp) (.int .i64 v)
  have h3 := ownsRow_setCell_below h2 (a := ⟨w.heap.size + 1, 1, none⟩) (by simp) (.int .i64 lo)
  have h4 := ownsRow_setCell_below h3 (a := ⟨w.heap.size + 1, 2, none⟩) (by simp) (.int .i64 hi)
  have h5 := ownsRow_setCell_below h4 (a := ⟨w.heap.size + 1, 3, none⟩) (by simp) (.slice A2 n c2)
  exact ⟨_, _, rfl, own_base h5 (by simp), by go_grown⟩
theorem szTestS_c (A : Option Addr) (n c : Nat) (l : Int) (w : World) (hn : n ≤ 9223372036854775807) (h1 : 0 ≤ l) (h2 : l ≤ 9223372036854775807) :
    Calls Tryd.prog 158 #[.slice A n c, .int .i64 l] w (RetW (.int .i64 (szV l n)) w) := by
  go_enter Tryd.func158, Tryd.ntmps158
  go_wp2
  all_goals go_returns
  all_goals go_light
  all_goals refine ⟨retv ?_, rfl⟩
  all_goals (simp [szV] at *; try omega)
theorem szRule_c (v lo hi : Int) (A : Option Addr) (n c : Nat) (l : Int) (w : World) (hn : n ≤ 9223372036854775807) (h1 : 0 ≤ l) (h2 : l ≤ 9223372036854775807) :
    Calls Tryd.prog 122 #[.agg #[.int .i64 v, .int .i64 lo, .int .i64 hi, .slice A n c], .int .i64 l] w (RetB (.int .i64 (szV l n)) w) := by
  go_enter Tryd.func122, Tryd.ntmps122
  go_wp2_with (go_at_call 158; refine (szTestS_c _ _ _ _ _ (by omega) (by omega) (by omega)).mono ?_; rintro e w' ⟨rfl, rfl⟩)
  all_goals go_returns
  all_goals (refine ⟨retv ?_, by go_grown⟩)
  all_goals go_light
  all_goals (simp [szV] at *; try omega)
theorem eqTest_c (p q : Tst) (w : World) : Calls Tryd.prog 177 #[tstV p, tstV q] w (RetB (.bool (tstEq p q)) w) := by
  unfold tstV
  go_enter Tryd.func177, Tryd.ntmps177
  go_wp2
  all_goals go_returns
  all_goals (refine ⟨retv ?_, by go_grown⟩)
  all_goals go_light
  all_goals simp_all [tstEq]
theorem eqTestS_c (A B : Option Addr) (n c m d : Nat) (xs ys : List Tst) (w : World) (hx : Rd w w.heap.size 4 A n (tsts xs)) (hy : Rd w w.heap.size 4 B m (tsts ys)) (hn : n ≤ 9223372036854775807) (hm : m ≤ 9223372036854775807) :
    Calls Tryd.prog 160 #[.slice A n c, .slice B m d] w (RetB (.bool (decide (xs = ys))) w) := by
  have hlx : xs.length = n := by have := hx.1; rw [tsts_len] at this; omega
  have hly : ys.length = m := by have := hy.1; rw [tsts_len] at this; omega
  have HX := Lib.hid hx
  have HY := Lib.hid hy
  clear hx hy
  by_cases hnm : n = m
  · subst hnm
    have HLX := Lib.hid hlx
    have HLY := Lib.hid hly
    clear hlx hly
    go_enter Tryd.func160, Tryd.ntmps160
    go_wp2
    go_loopw [5] (fun i wr => ∃ k : Nat, k ≤ n ∧ i = .int .i64 k ∧ Hid (xs.take k = ys.take k) ∧ Below w.heap.size w wr) (fun i _ => n - (intOf i).toNat)
    case atStart => exact ⟨0, by omega, rfl, by simp [Hid], Below.refl _ _⟩
    case round =>
      obtain ⟨k, hk, rfl, hall, hbel⟩ := hrel
      have hbs := hbel.size
      by_cases hlt : k < n
      · obtain ⟨b, off, p, rfl, hb, hp, c0, c1, c2, c3⟩ := (HX.out.below hbel).tst hlt
        obtain ⟨b', off', q, rfl, hb', hq, d0, d1, d2, d3⟩ := (HY.out.below hbel).tst hlt
        have GX := Lib.hid hp
        have GY := Lib.hid hq
        clear hp hq
        go_wp2
        go_region_held3 (fun w' => w'.cell? ⟨b, off + k * 4, none⟩ = some (.int .i64 p.f) ∧ w'.cell? ⟨b, off + k * 4 + 1, none⟩ = some (.int .i64 p.m) ∧ w'.cell? ⟨b, off + k * 4 + 2, none⟩ = some (.int .i64 p.op) ∧ w'.cell? ⟨b, off + k * 4 + 3, none⟩ = some (.int .i64 p.x) ∧
            w'.cell? ⟨b', off' + k * 4, none⟩ = some (.int .i64 q.f) ∧ w'.cell? ⟨b', off' + k * 4 + 1, none⟩ = some (.int .i64 q.m) ∧ w'.cell? ⟨b', off' + k * 4 + 2, none⟩ = some (.int .i64 q.op) ∧ w'.cell? ⟨b', off' + k * 4 + 3, none⟩ = some (.int .i64 q.x)) (simp [go_sem, *])
          (first | (go_at_call 177; refine (eqTest_c p q _).mono ?_; rintro e w1 ⟨rfl, b1⟩; obtain ⟨gc1, gf1⟩ := below_get b1; (try simp only [heap_drew, World.size_alloc, World.size_setCell] at gc1 gf1); have hb1 := below_on hbel (by go_grown) b1; have hb2 : b < wr.heap.size := (by omega); have hb2' : b' < wr.heap.size := (by omega)))
        go_wp2
        · go_returns
          go_light
          rename (_ = true) => h
          refine ⟨retv ?_, hb1⟩
          have hne := ne_of_at GX.out GY.out (fun e => by rw [tstEq_iff.2 e] at h; simp at h)
          simp [hne]
        · go_roundw
          case rel =>
            go_light
            rename (_ = false) => h
            have e : p = q := tstEq_iff.1 (by simpa using h)
            subst e
            exact ⟨k + 1, by omega, by go_num, take_ext hall.out GX.out GY.out, hb1⟩
          case measure => simp [intOf]; omega
      · go_wp2
        go_returns
        go_light
        obtain rfl : k = n := by omega
        have e := take_full HLX.out HLY.out hall.out
        exact ⟨by simp [e], hbel⟩
  · have hne : decide (xs = ys) = false := by
      simp; rintro rfl; omega
    have HN := Lib.hid hne
    clear hne
    go_enter Tryd.func160, Tryd.ntmps160
    go_wp2
    all_goals (go_returns; refine ⟨retv ?_, by go_grown⟩; rw [HN.out]; rfl)
end Go.Proofs.YtljgaepgblakhaaDoor
