/- Policies: the functions that copy, compare and count whole policies. Conditions: each contract's own. -/
import Derived.Test.YtljgaepgblakhaaDoorPol
namespace Go.Proofs.YtljgaepgblakhaaDoor
set_option linter.unusedSimpArgs false
open Go.RowKit
set_option linter.unusedVariables false
set_option linter.unnecessarySimpa false
def Rl.eq (p q : Rl) : Bool := p.v == q.v && p.lo == q.lo && p.hi == q.hi && decide (p.ts = q.ts)
theorem rl_ext {p q : Rl} (h : p.v = q.v ∧ p.lo = q.lo ∧ p.hi = q.hi ∧ p.ts = q.ts) : p = q := by
  obtain ⟨a, b, c, d⟩ := p
  obtain ⟨a', b', c', d'⟩ := q
  simp_all
theorem rlEq_iff {p q : Rl} : Rl.eq p q = true ↔ p = q := by
  constructor
  · intro h; simp [Rl.eq] at h; exact rl_ext ⟨h.1.1.1, h.1.1.2, h.1.2, h.2⟩
  · rintro rfl; simp [Rl.eq]
/-- How many tests there are. -/
def ruleN (rs : List Rl) : Nat := (rs.map (fun r => r.ts.length)).sum
theorem ruleN_succ {rs : List Rl} {k : Nat} {r : Rl} (h : rs[k]? = some r) : ruleN (rs.take (k + 1)) = ruleN (rs.take k) + r.ts.length := by
  unfold ruleN
  rw [List.take_add_one, h]; simp
theorem ruleN_le {rs : List Rl} {k : Nat} : ruleN (rs.take k) ≤ ruleN rs := by
  unfold ruleN
  have h : (rs.map (fun r => r.ts.length)).sum = ((rs.take k ++ rs.drop k).map (fun r => r.ts.length)).sum := by rw [List.take_append_drop]
  rw [h, List.map_append, List.sum_append]
  exact Nat.le_add_right _ _
/-- A rule of its own memory: the tests lie from block 'base' on. -/
def RlO (w : World) (base E b o : Nat) (r : Rl) : Prop := ∃ (TA : Option Addr) (tc : Nat), w.cell? ⟨b, o, none⟩ = some (.int .i64 r.v) ∧ w.cell? ⟨b, o + 1, none⟩ = some (.int .i64 r.lo) ∧ w.cell? ⟨b, o + 2, none⟩ = some (.int .i64 r.hi) ∧ w.cell? ⟨b, o + 3, none⟩ = some (.slice TA r.ts.length tc) ∧
  w.ownsRow base E 4 (.slice TA r.ts.length tc) r.ts.length (tsts r.ts) ∧ r.ts.length ≤ 9223372036854775807
section
variable {w w' : World} {base E b o : Nat} {r : Rl}
theorem RlO.at_ (h : RlO w base E b o r) : RlAt w w.heap.size b o r := by
  obtain ⟨TA, tc, h0, h1, h2, h3, h4, h5⟩ := h
  exact ⟨TA, tc, h0, h1, h2, h3, Rd.of_own h4, h5⟩
theorem RlO.up (h : RlO w base E b o r) (hb : Below w.heap.size w w') (hlt : b < w.heap.size) : RlO w' base E b o r := by
  obtain ⟨TA, tc, h0, h1, h2, h3, h4, h5⟩ := h
  exact ⟨TA, tc, (hb.cell (p := ⟨b, o, none⟩) hlt).trans h0, (hb.cell (p := ⟨b, o + 1, none⟩) hlt).trans h1, (hb.cell (p := ⟨b, o + 2, none⟩) hlt).trans h2, (hb.cell (p := ⟨b, o + 3, none⟩) hlt).trans h3, own_up h4 hb, h5⟩
theorem RlO.set (h : RlO w base E b o r) {j : Nat} (hj : o + 4 ≤ j) (hb : b < base) (u : Value) : RlO (w.setCell ⟨b, j, none⟩ u) base E b o r := by
  obtain ⟨TA, tc, h0, h1, h2, h3, h4, h5⟩ := h
  exact ⟨TA, tc, (cset_b4 u (.inr (by omega))).trans h0, (cset_b4 u (.inr (by omega))).trans h1, (cset_b4 u (.inr (by omega))).trans h2, (cset_b4 u (.inr (by omega))).trans h3, ownsRow_setCell_below h4 (by simpa using hb) u, h5⟩
theorem RlO.setCells (h : RlO w base E b o r) {j : Nat} (hj : o + 4 ≤ j) (hb : b < base) (cs : List Value) : RlO (setCells w b j cs) base E b o r := by
  induction cs generalizing w j with
  | nil => exact h
  | cons c cs ih => exact ih (h.set hj hb c) (by omega)
end
/-- Rules of their own memory, from block 'base' on. -/
def OwnR (w : World) (base E : Nat) (A : Option Addr) (n : Nat) (rs : List Rl) : Prop := rs.length = n ∧ ∃ g, A = some ⟨g, 0, none⟩ ∧ base ≤ g ∧ g < w.heap.size ∧ ∀ j r, rs[j]? = some r → RlO w (g + 1) E g (j * 4) r
section
variable {w w' : World} {base base' E n : Nat} {A : Option Addr} {rs : List Rl}
theorem OwnR.rd (h : OwnR w base E A n rs) : RdR w w.heap.size A n rs := by
  obtain ⟨hl, g, rfl, hb, hg, hr⟩ := h
  exact ⟨hl, fun _ => ⟨g, 0, rfl, hg, fun j r hj => by rw [Nat.zero_add]; exact (hr j r hj).at_⟩⟩
theorem RlO.far {b o : Nat} {r : Rl} (h : RlO w base E b o r) {a : Addr} (hb : a.block < b) (hb2 : a.block < base) (u : Value) : RlO (w.setCell a u) base E b o r := by
  obtain ⟨TA, tc, h0, h1, h2, h3, h4, h5⟩ := h
  have key : ∀ i, (w.setCell a u).cell? ⟨b, i, none⟩ = w.cell? ⟨b, i, none⟩ := fun i => World.cell?_setCell_other _ _ _ _ (by rintro rfl; simp at hb)
  exact ⟨TA, tc, (key _).trans h0, (key _).trans h1, (key _).trans h2, (key _).trans h3, ownsRow_setCell_below h4 hb2 u, h5⟩
theorem OwnR.far (h : OwnR w base E A n rs) {a : Addr} (hb : a.block < base) (u : Value) : OwnR (w.setCell a u) base E A n rs := by
  obtain ⟨hl, g, rfl, hbg, hg, hr⟩ := h
  exact ⟨hl, g, rfl, hbg, by simpa using hg, fun j r hj => (hr j r hj).far (by omega) (by omega) u⟩
theorem OwnR.up (h : OwnR w base E A n rs) (hb : Below w.heap.size w w') : OwnR w' base E A n rs := by
  obtain ⟨hl, g, rfl, hbg, hg, hr⟩ := h
  exact ⟨hl, g, rfl, hbg, by have := hb.size; omega, fun j r hj => (hr j r hj).up hb hg⟩
theorem OwnR.lower (h : OwnR w base E A n rs) (hb : base' ≤ base) : OwnR w base' E A n rs := by
  obtain ⟨hl, g, rfl, hbg, hg, hr⟩ := h
  exact ⟨hl, g, rfl, by omega, hg, hr⟩
end
theorem own_setCells_below {w : World} {base e size b : Nat} {v : Value} {n : Nat} {ys : List Value} (h : w.ownsRow base e size v n ys) (hb : b < base) (o : Nat) (cs : List Value) : (setCells w b o cs).ownsRow base e size v n ys := by
  induction cs generalizing w o with
  | nil => exact h
  | cons c cs ih => exact ih (ownsRow_setCell_below h (a := ⟨b, o, none⟩) (by simpa using hb) c) (o + 1)
theorem rules_put {w1 : World} {g E E' n k : Nat} {ys : List Value} {rs : List Rl} {r : Rl} {A1 : Option Addr} {c1 : Nat} (HO : w1.ownsRow g E 4 (.slice (some ⟨g, 0, none⟩) n n) n ys) (HY : ∀ j r', j < k → rs[j]? = some r' → RlO w1 (g + 1) E' g (j * 4) r')
    (HN : w1.ownsRow (g + 1) E' 4 (.slice A1 r.ts.length c1) r.ts.length (tsts r.ts)) (HP : rs[k]? = some r) (hlt : k < n) (hrl : r.ts.length ≤ 9223372036854775807) :
    (setCells w1 g (k * 4) [.int .i64 r.v, .int .i64 r.lo, .int .i64 r.hi, .slice A1 r.ts.length c1]).ownsRow g E 4 (.slice (some ⟨g, 0, none⟩) n n) n (setL ys (k * 4) [.int .i64 r.v, .int .i64 r.lo, .int .i64 r.hi, .slice A1 r.ts.length c1]) ∧
    (∀ j r', j < k + 1 → rs[j]? = some r' → RlO (setCells w1 g (k * 4) [.int .i64 r.v, .int .i64 r.lo, .int .i64 r.hi, .slice A1 r.ts.length c1]) (g + 1) E' g (j * 4) r') := by
  have hs := own_setL HO (k * 4) [.int .i64 r.v, .int .i64 r.lo, .int .i64 r.hi, .slice A1 r.ts.length c1]
  refine ⟨hs, fun j r' hj hr' => ?_⟩
  by_cases hjk : j < k
  · exact (HY j r' hjk hr').setCells (by omega) (by omega) _
  · obtain rfl : j = k := by omega
    obtain rfl : r' = r := by rw [hr'] at HP; injection HP
    have hl' : j * 4 + 3 < ys.length := by rw [HO.1]; omega
    have hat : ∀ i u, i < 4 → (setL ys (j * 4) [.int .i64 r'.v, .int .i64 r'.lo, .int .i64 r'.hi, .slice A1 r'.ts.length c1])[j * 4 + i]? = some u → (setCells w1 g (j * 4) [.int .i64 r'.v, .int .i64 r'.lo, .int .i64 r'.hi, .slice A1 r'.ts.length c1]).cell? ⟨g, j * 4 + i, none⟩ = some u := fun i u hi hu => (hs.cellAt (j * 4 + i) (by omega)).trans hu
    have hk0 := hat 0 (.int .i64 r'.v) (by omega) (by simp only [setL, Nat.add_zero]; rw [List.getElem?_set_ne (by omega), List.getElem?_set_ne (by omega), List.getElem?_set_ne (by omega), List.getElem?_set_self (by (try simp); omega)])
    have hk1 := hat 1 (.int .i64 r'.lo) (by omega) (by simp only [setL, Nat.add_zero]; rw [List.getElem?_set_ne (by omega), List.getElem?_set_ne (by omega), List.getElem?_set_self (by (try simp); omega)])
    have hk2 := hat 2 (.int .i64 r'.hi) (by omega) (by simp only [setL, Nat.add_zero]; rw [List.getElem?_set_ne (by omega), List.getElem?_set_self (by (try simp); omega)])
    have hk3 := hat 3 (.slice A1 r'.ts.length c1) (by omega) (by simp only [setL, Nat.add_zero]; rw [List.getElem?_set_self (by (try simp); omega)])
    exact ⟨A1, c1, hk0, hk1, hk2, hk3, own_setCells_below HN (by omega) _ _, hrl⟩
theorem toRuleS_c (A : Option Addr) (n c : Nat) (rs : List Rl) (w : World) (hr : RdR w w.heap.size A n rs) (hn : n ≤ 1048576) (hts : ∀ r ∈ rs, r.ts.length ≤ 1048576) :
    Calls Tryd.prog 90 #[.slice A n c] w (fun e w' => ∃ A' c', e = .returned (.slice A' n c') ∧ OwnR w' w.heap.size 83 A' n rs ∧ Below w.heap.size w w') := by
  obtain ⟨i0, hi, hz0, hz1, hz2⟩ := info_parts info_rule
  have HR := Lib.hid hr
  have HT := Lib.hid hts
  clear hr hts
  go_enter Tryd.func90, Tryd.ntmps90
  go_wp2_with (at_make; refine wpList_make_full _ rfl _ _ 23 rfl w.heap.size 35 i0 _ 4 Tryd.underlying23 hi hz0 hz1 .i64 .i64 (n : Int) (n : Int) n rfl rfl rfl rfl ?b2 ?b3 ?b4 ?_)
  case b2 => rw [hz2]; omega
  case b3 => unfold maxLen; omega
  case b4 => exact Nat.le_refl _
  intro w0 hown0 hg0
  have hb0 : Below w.heap.size w w0 := (Below.refl _ _).grown hg0 (Nat.le_refl _) (by simp)
  have HO0 := Lib.hid hown0
  clear hown0 hg0 hi hz0 hz1 hz2
  go_wp2
  go_loopw [4] (fun i wr => ∃ (k : Nat) (ys : List Value), k ≤ n ∧ i = .int .i64 k ∧ Hid (wr.ownsRow w.heap.size 35 4 (.slice (some ⟨w.heap.size, 0, none⟩) n n) n ys) ∧ Hid (∀ j r, j < k → rs[j]? = some r → RlO wr (w.heap.size + 1) 83 w.heap.size (j * 4) r) ∧ Below w.heap.size w wr) (fun i _ => n - (intOf i).toNat)
  case atStart => exact ⟨0, _, by omega, rfl, HO0, Lib.hid (fun j r hj => absurd hj (by omega)), hb0⟩
  case round =>
    obtain ⟨k, ys, hk, rfl, HO, hys, hbel⟩ := hrel
    have hbs := hbel.size
    by_cases hlt : k < n
    · obtain ⟨b, off, r, rfl, hb, hp, TA, tc, c0, c1, c2, c3, hrt, hrl⟩ := (HR.out.below hbel).rl hlt
      have HP := Lib.hid hp
      have HRT := Lib.hid hrt
      have hr4 := HT.out r (List.mem_of_getElem? hp)
      have hgl : w.heap.size < wr.heap.size := by
        have h9 := HO.out
        exact (h9.lt w.heap.size rfl).2
      clear hp hrt
      go_wp2_with (go_at_call 123; refine (toRule_c r.v r.lo r.hi TA r.ts.length tc r.ts _ ((HRT.out.more hbel.size).upB (by go_grown) (by go_size)) hr4).mono ?_; rintro e w1 ⟨A1, c1', rfl, hown1, b1⟩; have hb1 := below_on hbel (by go_grown) b1; have HO1 := Lib.hid (own_up HO.out b1); have HN1 := Lib.hid (own_base (base' := w.heap.size + 1) hown1 (by omega)); have HY1 := Lib.hid (fun j r' hj hr' => (hys.out j r' hj hr').up b1 hgl); clear b1 hown1; obtain ⟨⟨y0, y1, y2, y3, e0, e1, e2, e3⟩, f1⟩ := own4 HO1.out hlt)
      go_roundw
      case rel =>
        go_light
        obtain ⟨h1, h2⟩ := rules_put HO1.out HY1.out HN1.out HP.out hlt hrl
        exact ⟨k + 1, _, by omega, by go_num, h1, h2, below_setCells hb1 (Nat.le_refl _) (k * 4) [.int .i64 r.v, .int .i64 r.lo, .int .i64 r.hi, .slice A1 r.ts.length c1']⟩
      case measure => simp [intOf]; omega
    · go_wp2
      go_returns
      go_light
      obtain rfl : k = n := by omega
      refine ⟨_, _, rfl, ⟨HR.out.1, w.heap.size, rfl, Nat.le_refl _, (HO.out.lt w.heap.size rfl).2, fun j r hr => ?_⟩, hbel⟩
      have hj : j < k := by have := (List.getElem?_eq_some_iff.1 hr).1; have := HR.out.1; omega
      exact hys.out j r hj hr
theorem eqRule_c (p q : Rl) (A B : Option Addr) (n c m d : Nat) (w : World) (hx : Rd w w.heap.size 4 A n (tsts p.ts)) (hy : Rd w w.heap.size 4 B m (tsts q.ts)) (hn : n ≤ 9223372036854775807) (hm : m ≤ 9223372036854775807) :
    Calls Tryd.prog 124 #[.agg #[.int .i64 p.v, .int .i64 p.lo, .int .i64 p.hi, .slice A n c], .agg #[.int .i64 q.v, .int .i64 q.lo, .int .i64 q.hi, .slice B m d]] w (RetB (.bool (Rl.eq p q)) w) := by
  have HR := Lib.hid hx
  have HQ := Lib.hid hy
  clear hx hy
  go_enter Tryd.func124, Tryd.ntmps124
  go_wp2_with (go_at_call 160; refine (eqTestS_c A B n c m d p.ts q.ts _ (HR.out.upB (by go_grown) (by go_size)) (HQ.out.upB (by go_grown) (by go_size)) hn hm).mono ?_; rintro e w1 ⟨rfl, b1⟩; obtain ⟨gc1, gf1⟩ := below_get b1; (try simp only [heap_drew, World.size_alloc, World.size_setCell] at gc1 gf1); have s1 := below_via (w := w) (by go_grown) b1; have H1 := s1; have hs1 := b1.size; (try simp at hs1); have z1_0 : w.heap.size < w1.heap.size := (by omega); clear b1)
  all_goals go_returns
  all_goals (refine ⟨retv ?_, by go_grown⟩)
  all_goals go_light
  all_goals simp_all [Rl.eq]
theorem eqRuleS_c (A B : Option Addr) (n c m d : Nat) (xs ys : List Rl) (w : World) (hx : RdR w w.heap.size A n xs) (hy : RdR w w.heap.size B m ys) (hn : n ≤ 9223372036854775807) (hm : m ≤ 9223372036854775807) :
    Calls Tryd.prog 91 #[.slice A n c, .slice B m d] w (RetB (.bool (decide (xs = ys))) w) := by
  have hlx := hx.1
  have hly := hy.1
  have HX := Lib.hid hx
  have HY := Lib.hid hy
  clear hx hy
  by_cases hnm : n = m
  · subst hnm
    have HLX := Lib.hid hlx
    have HLY := Lib.hid hly
    clear hlx hly
    go_enter Tryd.func91, Tryd.ntmps91
    go_wp2
    go_loopw [5] (fun i wr => ∃ k : Nat, k ≤ n ∧ i = .int .i64 k ∧ Hid (xs.take k = ys.take k) ∧ Below w.heap.size w wr) (fun i _ => n - (intOf i).toNat)
    case atStart => exact ⟨0, by omega, rfl, by simp [Hid], Below.refl _ _⟩
    case round =>
      obtain ⟨k, hk, rfl, hall, hbel⟩ := hrel
      have hbs := hbel.size
      by_cases hlt : k < n
      · obtain ⟨b, off, p, rfl, hb, hp, TA, tc, c0, c1, c2, c3, hrt, hrl⟩ := (HX.out.below hbel).rl hlt
        obtain ⟨b', off', q, rfl, hb', hq, TA', tc', d0, d1, d2, d3, hqt, hql⟩ := (HY.out.below hbel).rl hlt
        have GX := Lib.hid hp
        have GY := Lib.hid hq
        have GT := Lib.hid (hrt.more hbs)
        have GU := Lib.hid (hqt.more hbs)
        clear hp hq hrt hqt
        go_wp2
        go_region_held3 (fun w' => w'.cell? ⟨b, off + k * 4, none⟩ = some (.int .i64 p.v) ∧ w'.cell? ⟨b, off + k * 4 + 1, none⟩ = some (.int .i64 p.lo) ∧ w'.cell? ⟨b, off + k * 4 + 2, none⟩ = some (.int .i64 p.hi) ∧ w'.cell? ⟨b, off + k * 4 + 3, none⟩ = some (.slice TA p.ts.length tc) ∧
            w'.cell? ⟨b', off' + k * 4, none⟩ = some (.int .i64 q.v) ∧ w'.cell? ⟨b', off' + k * 4 + 1, none⟩ = some (.int .i64 q.lo) ∧ w'.cell? ⟨b', off' + k * 4 + 2, none⟩ = some (.int .i64 q.hi) ∧ w'.cell? ⟨b', off' + k * 4 + 3, none⟩ = some (.slice TA' q.ts.length tc')) (simp [go_sem, *])
          (first | (go_at_call 124; refine (eqRule_c p q TA TA' p.ts.length tc q.ts.length tc' _ (GT.out.upB (by go_grown) (by go_size)) (GU.out.upB (by go_grown) (by go_size)) hrl hql).mono ?_; rintro e w1 ⟨rfl, b1⟩; obtain ⟨gc1, gf1⟩ := below_get b1; (try simp only [heap_drew, World.size_alloc, World.size_setCell] at gc1 gf1); have hb1 := below_on hbel (by go_grown) b1; have hb2 : b < wr.heap.size := (by omega); have hb2' : b' < wr.heap.size := (by omega)))
        go_wp2
        · go_returns
          go_light
          rename (_ = true) => h
          refine ⟨retv ?_, hb1⟩
          have hne := ne_of_at GX.out GY.out (fun e => by rw [rlEq_iff.2 e] at h; simp at h)
          simp [hne]
        · go_roundw
          case rel =>
            go_light
            rename (_ = false) => h
            have e : p = q := rlEq_iff.1 (by simpa using h)
            exact ⟨k + 1, by omega, by go_num, take_ext hall.out GX.out (by rw [e]; exact GY.out), hb1⟩
          case measure => simp [intOf]; omega
      · go_wp2
        go_returns
        go_light
        obtain rfl : k = n := by omega
        have e := take_full HLX.out HLY.out hall.out
        exact ⟨by simp [e], hbel⟩
  · have hne : decide (xs = ys) = false := by
      simp; rintro rfl; omega
    have HN := Lib.hid hne
    clear hne
    go_enter Tryd.func91, Tryd.ntmps91
    go_wp2
    all_goals (go_returns; refine ⟨retv ?_, by go_grown⟩; rw [HN.out]; rfl)
theorem szRuleS_c (A : Option Addr) (n c : Nat) (rs : List Rl) (l : Int) (w : World) (hr : RdR w w.heap.size A n rs) (hn : n ≤ 9223372036854775807) (h1 : 0 ≤ l) (h2 : l ≤ 9223372036854775807) :
    Calls Tryd.prog 89 #[.slice A n c, .int .i64 l] w (RetB (.int .i64 (szV l (n + ruleN rs))) w) := by
  have HR := Lib.hid hr
  clear hr
  by_cases hbig : (n : Int) ≤ l
  · go_enter Tryd.func89, Tryd.ntmps89
    go_wp2
    go_loopw [1, 5] (fun i j wr => ∃ k : Nat, k ≤ n ∧ j = .int .i64 k ∧ i = .int .i64 (l - n - ruleN (rs.take k)) ∧ (n : Int) + ruleN (rs.take k) ≤ l ∧ Below w.heap.size w wr) (fun _ i _ => n - (intOf i).toNat)
    case atStart => exact ⟨0, by omega, by rfl, by simp [ruleN], by simp [ruleN]; omega, by go_grown⟩
    case round =>
      obtain ⟨k, hk, rfl, rfl, hle, hbel⟩ := hrel
      have hbs := hbel.size
      by_cases hlt : k < n
      · obtain ⟨b, off, r, rfl, hb, hp, TA, tc, c0, c1, c2, c3, hrt, hrl⟩ := (HR.out.below hbel).rl hlt
        have HS := Lib.hid (ruleN_succ hp)
        have HM := Lib.hid (@ruleN_le rs (k + 1))
        clear hp hrt
        generalize hK : ruleN (rs.take k) = K at *
        go_wp2_with (go_at_call 122; refine (szRule_c r.v r.lo r.hi TA r.ts.length tc (l - n - K) _ hrl (by omega) (by omega)).mono ?_; rintro e w1 ⟨rfl, b1⟩; have hb1 := below_on hbel (by go_grown) b1)
        · go_returns
          go_light
          refine ⟨retv ?_, hb1⟩
          rename (szV _ _ < 0) => h
          have := HS.out
          have := HM.out
          simp [szV] at h ⊢
          omega
        · go_roundw
          case rel =>
            go_light
            rename (0 ≤ szV _ _) => h
            have := HS.out
            refine ⟨k + 1, by omega, by go_num, ?_, ?_, hb1⟩
            · simp [szV] at h ⊢
              omega
            · simp [szV] at h
              omega
          case measure => simp [intOf]; omega
      · go_wp2
        go_returns
        go_light
        obtain rfl : k = n := by omega
        have hA : rs.take k = rs := List.take_of_length_le (by have := HR.out.1; omega)
        rw [hA] at hle ⊢
        refine ⟨retv ?_, hbel⟩
        simp [szV]
        omega
  · go_enter Tryd.func89, Tryd.ntmps89
    go_wp2
    go_returns
    exact ⟨by simp [szV]; omega, by go_grown⟩
end Go.Proofs.YtljgaepgblakhaaDoor
