/- Parts of laws in one text. Conditions: each lemma's own. -/
import Derived.Test.YtljgaepgblakhaaDoorJf04f0fa8ed
namespace Go.Proofs.YtljgaepgblakhaaDoor
set_option linter.unusedSimpArgs false
open Go.RowKit
set_option linter.unusedVariables false
theorem pt_ext {p q : Pt} (h : p.v = q.v ∧ p.f = q.f ∧ p.m = q.m ∧ p.op = q.op ∧ p.x = q.x ∧ p.y = q.y ∧ p.n = q.n) : p = q := by
  obtain ⟨a, b, c, d, e, f, g⟩ := p
  obtain ⟨a', b', c', d', e', f', g'⟩ := q
  simp_all
def ptEq (p q : Pt) : Bool := p.v == q.v && p.f == q.f && p.m == q.m && p.op == q.op && p.x == q.x && p.y == q.y && p.n == q.n
theorem ptEq_iff {p q : Pt} : ptEq p q = true ↔ p = q := by
  constructor
  · intro h; simp [ptEq] at h; exact pt_ext ⟨h.1.1.1.1.1.1, h.1.1.1.1.1.2, h.1.1.1.1.2, h.1.1.1.2, h.1.1.2, h.1.2, h.2⟩
  · rintro rfl; simp [ptEq]
theorem info_point : (Tryd.prog.info? 106).map (fun i => (i.zero, i.size, i.bytes)) = some (some (.agg #[.int .i64 0, .int .i64 0, .int .i64 0, .int .i64 0, .int .i64 0, .int .i64 0, .int .i64 0]), 7, 56) := by kernel_rfl
theorem eqPoint_c (p q : Pt) (w : World) : Calls Tryd.prog 100 #[ptV p, ptV q] w (RetB (.bool (ptEq p q)) w) := by
  obtain ⟨v, f, m, op, x, y, z⟩ := p
  obtain ⟨v', f', m', op', x', y', z'⟩ := q
  unfold ptV
  go_enter Tryd.func100, Tryd.ntmps100
  go_wp2
  all_goals go_returns
  all_goals (refine ⟨retv ?_, by go_grown⟩)
  all_goals go_light
  all_goals simp_all [ptEq]
theorem eqPointS_c (A B : Option Addr) (n c m d : Nat) (xs ys : List Pt) (w : World) (hx : Rd w w.heap.size 7 A n (pts xs)) (hy : Rd w w.heap.size 7 B m (pts ys)) (hn : n ≤ 9223372036854775807) (hm : m ≤ 9223372036854775807) :
    Calls Tryd.prog 49 #[.slice A n c, .slice B m d] w (RetB (.bool (decide (xs = ys))) w) := by
  have hlx : xs.length = n := by have := hx.1; rw [pts_len] at this; omega
  have hly : ys.length = m := by have := hy.1; rw [pts_len] at this; omega
  have HX := Lib.hid hx
  have HY := Lib.hid hy
  clear hx hy
  by_cases hnm : n = m
  · subst hnm
    have HLX := Lib.hid hlx
    have HLY := Lib.hid hly
    clear hlx hly
    go_enter Tryd.func49, Tryd.ntmps49
    go_wp2
    go_loopw [5] (fun i wr => ∃ k : Nat, k ≤ n ∧ i = .int .i64 k ∧ Hid (xs.take k = ys.take k) ∧ Below w.heap.size w wr) (fun i _ => n - (intOf i).toNat)
    case atStart => exact ⟨0, by omega, rfl, by simp [Hid], Below.refl _ _⟩
    case round =>
      obtain ⟨k, hk, rfl, hall, hbel⟩ := hrel
      have hbs := hbel.size
      by_cases hlt : k < n
      · have hX := (HX.out.below hbel).pt hlt
        have hY := (HY.out.below hbel).pt hlt
        obtain ⟨b, off, p, rfl, hb, hp, hpl, c0, c1, c2, c3, c4, c5, c6⟩ := hX
        obtain ⟨b', off', q, rfl, hb', hq, hql, d0, d1, d2, d3, d4, d5, d6⟩ := hY
        have GX := Lib.hid hp
        have GY := Lib.hid hq
        clear hp hq hpl hql
        go_wp2
        go_region_held3 (fun w' => w'.cell? ⟨b, off + k * 7, none⟩ = some (.int .i64 p.v) ∧ w'.cell? ⟨b, off + k * 7 + 1, none⟩ = some (.int .i64 p.f) ∧ w'.cell? ⟨b, off + k * 7 + 2, none⟩ = some (.int .i64 p.m) ∧ w'.cell? ⟨b, off + k * 7 + 3, none⟩ = some (.int .i64 p.op) ∧ w'.cell? ⟨b, off + k * 7 + 4, none⟩ = some (.int .i64 p.x) ∧ w'.cell? ⟨b, off + k * 7 + 5, none⟩ = some (.int .i64 p.y) ∧ w'.cell? ⟨b, off + k * 7 + 6, none⟩ = some (.int .i64 p.n) ∧
            w'.cell? ⟨b', off' + k * 7, none⟩ = some (.int .i64 q.v) ∧ w'.cell? ⟨b', off' + k * 7 + 1, none⟩ = some (.int .i64 q.f) ∧ w'.cell? ⟨b', off' + k * 7 + 2, none⟩ = some (.int .i64 q.m) ∧ w'.cell? ⟨b', off' + k * 7 + 3, none⟩ = some (.int .i64 q.op) ∧ w'.cell? ⟨b', off' + k * 7 + 4, none⟩ = some (.int .i64 q.x) ∧ w'.cell? ⟨b', off' + k * 7 + 5, none⟩ = some (.int .i64 q.y) ∧ w'.cell? ⟨b', off' + k * 7 + 6, none⟩ = some (.int .i64 q.n)) (simp [go_sem, *])
          (first | (go_at_call 100; refine (eqPoint_c p q _).mono ?_; rintro e w1 ⟨rfl, b1⟩; obtain ⟨gc1, gf1⟩ := below_get b1; (try simp only [heap_drew, World.size_alloc, World.size_setCell] at gc1 gf1); have hb1 := below_on hbel (by go_grown) b1; have hb2 : b < wr.heap.size := (by omega); have hb2' : b' < wr.heap.size := (by omega)))
        go_wp2
        · go_returns
          go_light
          rename (_ = true) => h
          refine ⟨retv ?_, hb1⟩
          have hne := ne_of_at GX.out GY.out (fun e => by rw [ptEq_iff.2 e] at h; simp at h)
          simp [hne]
        · go_roundw
          case rel =>
            go_light
            rename (_ = false) => h
            have e : p = q := ptEq_iff.1 (by simpa using h)
            subst e
            exact ⟨k + 1, by omega, by go_num, take_ext hall.out GX.out GY.out, hb1⟩
          case measure => simp [intOf]; omega
      · go_wp2
        go_returns
        go_light
        obtain rfl : k = n := by omega
        have e := take_full HLX.out HLY.out hall.out
        exact ⟨by simp [e], hbel⟩
  · have hne : decide (xs = ys) = false := by
      simp; rintro rfl; omega
    have HN := Lib.hid hne
    clear hne
    go_enter Tryd.func49, Tryd.ntmps49
    go_wp2
    all_goals (go_returns; refine ⟨retv ?_, by go_grown⟩; rw [HN.out]; rfl)
theorem own_cell {w : World} {base e size g n cap : Nat} {ys : List Value} (h : w.ownsRow base e size (.slice (some ⟨g, 0, none⟩) n cap) n ys) (j : Nat) (hj : j < n * size) : ∃ y, w.cell? ⟨g, j, none⟩ = some y := by
  obtain ⟨y, hy⟩ := some_at h.1 hj
  exact ⟨y, (h.cellAt j hj).trans hy⟩
theorem own7 {w : World} {base e g n cap : Nat} {ys : List Value} (h : w.ownsRow base e 7 (.slice (some ⟨g, 0, none⟩) n cap) n ys) {k : Nat} (hk : k < n) :
    (∃ y0 y1 y2 y3 y4 y5 y6, w.cell? ⟨g, k * 7, none⟩ = some y0 ∧ w.cell? ⟨g, k * 7 + 1, none⟩ = some y1 ∧ w.cell? ⟨g, k * 7 + 2, none⟩ = some y2 ∧ w.cell? ⟨g, k * 7 + 3, none⟩ = some y3 ∧ w.cell? ⟨g, k * 7 + 4, none⟩ = some y4 ∧ w.cell? ⟨g, k * 7 + 5, none⟩ = some y5 ∧ w.cell? ⟨g, k * 7 + 6, none⟩ = some y6) ∧
    (∀ j, w.frozen? ⟨g, j, none⟩ = false) := by
  obtain ⟨y0, h0⟩ := own_cell h (k * 7) (by omega)
  obtain ⟨y1, h1⟩ := own_cell h (k * 7 + 1) (by omega)
  obtain ⟨y2, h2⟩ := own_cell h (k * 7 + 2) (by omega)
  obtain ⟨y3, h3⟩ := own_cell h (k * 7 + 3) (by omega)
  obtain ⟨y4, h4⟩ := own_cell h (k * 7 + 4) (by omega)
  obtain ⟨y5, h5⟩ := own_cell h (k * 7 + 5) (by omega)
  obtain ⟨y6, h6⟩ := own_cell h (k * 7 + 6) (by omega)
  exact ⟨⟨y0, y1, y2, y3, y4, y5, y6, h0, h1, h2, h3, h4, h5, h6⟩, fun j => h.frozenAt j⟩
end Go.Proofs.YtljgaepgblakhaaDoor
namespace Go.Proofs.YtljgaepgblakhaaDoor
set_option linter.unusedSimpArgs false
open Go.RowKit
set_option linter.unusedVariables false
theorem fields_pt : (Tryd.prog.fieldsOf 106).toList.map (fun f => (f.offset, f.type, f.name != "_")) = [(0, 3, true), (1, 3, true), (2, 3, true), (3, 3, true), (4, 3, true), (5, 3, true), (6, 3, true)] := by kernel_rfl
theorem ut_fields : Tryd.prog.underlying 106 = some (.struct (Tryd.prog.fieldsOf 106)) := by kernel_rfl
theorem ns_pt : Tryd.prog.stoodInHeld 106 = false := by kernel_rfl
theorem plain_int : Tryd.prog.plainKey 3 = true := by kernel_rfl
theorem info_int1 : (Tryd.prog.info? 3).map (·.size) = some 1 := by kernel_rfl
theorem eq_step (d : Nat) (xs ys : Array Value) (f : Field) (fs : List Field) (o : Nat) (a b : Int) (W : World) (ho : f.offset = o) (ht : f.type = 3) (hn : (f.name != "_") = true) (hx : xs[o]? = some (.int .i64 a)) (hy : ys[o]? = some (.int .i64 b)) :
    (Op.eqFields (d + 1) xs ys (f :: fs)).run Tryd.prog W = if a = b then (Op.eqFields (d + 1) xs ys fs).run Tryd.prog W else .ok false W := by
  have hn' : f.name ≠ "_" := by simpa using hn
  have p1 := run_part_plain (P := Tryd.prog) (w := W) plain_int hx
  have p2 := run_part_plain (P := Tryd.prog) (w := W) plain_int hy
  rw [Op.eqFields, if_pos hn', ht, ho]
  simp only [Sem.run_bind, p1, p2, Result.andThen_ok, run_equalIn_int W d 3 .i64 .i64 a b Tryd.underlying3]
  by_cases h : a = b
  · simp [h]
  · simp [h]
theorem eqPt_run (p q : Pt) (W : World) : (Op.equalIn 10000 106 (ptV p) (ptV q)).run Tryd.prog W = .ok (ptEq p q) W := by
  obtain ⟨v, f, m, op, x, y, n⟩ := p
  obtain ⟨v', f', m', op', x', y', n'⟩ := q
  unfold ptV
  rw [run_equalIn_agg W 9999 106 _ _ ut_fields ns_pt]
  have hf := fields_pt
  generalize (Tryd.prog.fieldsOf 106).toList = fs at *
  have hl : fs.length = 7 := by
    have := congrArg List.length hf
    simpa using this
  match fs, hl, hf with
  | [f0, f1, f2, f3, f4, f5, f6], _, hf =>
    simp only [List.map_cons, List.map_nil, List.cons.injEq, Prod.mk.injEq, and_true] at hf
    obtain ⟨⟨a0, b0, c0⟩, ⟨a1, b1, c1⟩, ⟨a2, b2, c2⟩, ⟨a3, b3, c3⟩, ⟨a4, b4, c4⟩, ⟨a5, b5, c5⟩, ⟨a6, b6, c6⟩⟩ := hf
    rw [eq_step 9998 _ _ f0 _ 0 v v' W a0 b0 c0 rfl rfl, eq_step 9998 _ _ f1 _ 1 f f' W a1 b1 c1 rfl rfl, eq_step 9998 _ _ f2 _ 2 m m' W a2 b2 c2 rfl rfl, eq_step 9998 _ _ f3 _ 3 op op' W a3 b3 c3 rfl rfl,
      eq_step 9998 _ _ f4 _ 4 x x' W a4 b4 c4 rfl rfl, eq_step 9998 _ _ f5 _ 5 y y' W a5 b5 c5 rfl rfl, eq_step 9998 _ _ f6 _ 6 n n' W a6 b6 c6 rfl rfl]
    have hnil : (Op.eqFields (9998 + 1) #[Value.int .i64 v, .int .i64 f, .int .i64 m, .int .i64 op, .int .i64 x, .int .i64 y, .int .i64 n] #[Value.int .i64 v', .int .i64 f', .int .i64 m', .int .i64 op', .int .i64 x', .int .i64 y', .int .i64 n'] []).run Tryd.prog W = .ok true W := rfl
    rw [hnil]
    unfold ptEq
    by_cases e0 : v = v' <;> by_cases e1 : f = f' <;> by_cases e2 : m = m' <;> by_cases e3 : op = op' <;> by_cases e4 : x = x' <;> by_cases e5 : y = y' <;> by_cases e6 : n = n' <;> simp [e0, e1, e2, e3, e4, e5, e6]
theorem eqAgg_run (v f m op x y n v' f' m' op' x' y' n' : Int) (W : World) : (Op.equalIn 10000 106 (.agg #[.int .i64 v, .int .i64 f, .int .i64 m, .int .i64 op, .int .i64 x, .int .i64 y, .int .i64 n]) (.agg #[.int .i64 v', .int .i64 f', .int .i64 m', .int .i64 op', .int .i64 x', .int .i64 y', .int .i64 n'])).run Tryd.prog W = .ok (ptEq ⟨v, f, m, op, x, y, n⟩ ⟨v', f', m', op', x', y', n'⟩) W :=
  eqPt_run ⟨v, f, m, op, x, y, n⟩ ⟨v', f', m', op', x', y', n'⟩ W
end Go.Proofs.YtljgaepgblakhaaDoor
namespace Go.Proofs.YtljgaepgblakhaaDoor
set_option linter.unusedSimpArgs false
open Go.RowKit
set_option linter.unusedVariables false
set_option linter.unnecessarySimpa false
/-- Points with one more, if it is not there. -/
def ins (ps : List Pt) (x : Pt) : List Pt := if x ∈ ps then ps else ps ++ [x]
theorem ins_len (ps : List Pt) (x : Pt) : ps.length ≤ (ins ps x).length ∧ (ins ps x).length ≤ ps.length + 1 ∧ ps.idxOf x < (ins ps x).length := by
  unfold ins
  split
  · rename_i h; exact ⟨Nat.le_refl _, Nat.le_succ _, List.idxOf_lt_length_iff.2 h⟩
  · rename_i h
    rw [List.idxOf_eq_length h, List.length_append]
    simp
theorem idx_le {ps : List Pt} {x : Pt} {k : Nat} (h : ps[k]? = some x) : ps.idxOf x ≤ k := by
  induction ps generalizing k with
  | nil => simp at h
  | cons a l ih =>
    rw [List.idxOf_cons]
    by_cases hax : a = x
    · simp [hax]
    · have : (a == x) = false := by simp [hax]
      rw [this]
      cases k with
      | zero => simp at h; exact absurd h hax
      | succ k =>
        have := ih (k := k) (by simpa using h)
        simp; omega
theorem idx_first {ps : List Pt} {x : Pt} {k : Nat} (hn : ∀ j, j < k → ps[j]? ≠ some x) (hk : ps[k]? = some x) : ps.idxOf x = k ∧ x ∈ ps := by
  have hm : x ∈ ps := List.mem_of_getElem? hk
  refine ⟨?_, hm⟩
  have hl := List.idxOf_lt_length_iff.2 hm
  have hg : ps[ps.idxOf x]? = some x := by rw [List.getElem?_eq_getElem hl, List.getElem_idxOf hl]
  rcases Nat.lt_trichotomy (ps.idxOf x) k with h | h | h
  · exact absurd hg (hn _ h)
  · exact h
  · have := idx_le hk; omega
theorem idx_none {ps : List Pt} {x : Pt} (hn : ∀ j, j < ps.length → ps[j]? ≠ some x) : x ∉ ps ∧ ps.idxOf x = ps.length := by
  have hm : x ∉ ps := fun hm => by
    obtain ⟨i, hi, e⟩ := List.getElem_of_mem hm
    exact hn i hi (by rw [List.getElem?_eq_getElem hi, e])
  exact ⟨hm, List.idxOf_eq_length hm⟩
def smallI (x : Int) : Prop := 0 ≤ x ∧ x ≤ 4294967295
def smallP (p : Pt) : Prop := smallI p.v ∧ smallI p.f ∧ smallI p.m ∧ smallI p.op ∧ smallI p.x ∧ smallI p.y ∧ smallI p.n
/-- A graph: all ways lead to points ahead. -/
def GOk (ps : List Pt) : Prop := ps.length ≤ 120 ∧ ∀ (i : Nat) (p : Pt), ps[i]? = some p → smallP p ∧ (p.op = 0 ∨ (0 < p.op ∧ p.v = 0 ∧ p.y < i ∧ p.n < i))
theorem graph_ok {ps : List Pt} (h : graphB ps = true) : GOk ps ∧ 1 ≤ ps.length := by
  unfold graphB at h
  simp only [Bool.and_eq_true, decide_eq_true_eq, List.all_eq_true] at h
  obtain ⟨⟨h1, h2⟩, h3⟩ := h
  refine ⟨⟨h2, fun i p hp => ?_⟩, h1⟩
  have hm : (p, i) ∈ ps.zipIdx := by
    rw [List.mem_zipIdx_iff_getElem?]; exact hp
  have := h3 _ hm
  unfold ptB at this
  simp only at this
  split at this
  · rename_i h0
    simp only [verB, leafB, Bool.and_eq_true, decide_eq_true_eq, beq_iff_eq] at this
    refine ⟨?_, .inl h0⟩
    unfold smallP smallI
    omega
  · rename_i h0
    simp only [wordB, Bool.and_eq_true, Bool.or_eq_true, decide_eq_true_eq, beq_iff_eq] at this
    have hi : i < ps.length := (List.getElem?_eq_some_iff.1 hp).1
    refine ⟨?_, .inr ?_⟩
    · unfold smallP smallI
      omega
    · omega
/-- What point i leads to is marked, if i is. -/
def markAt (g : List Pt) (i : Nat) (U : List Bool) : List Bool :=
  match g[i]? with
  | some p => if U.getD i false = true ∧ p.op ≠ 0 then (U.set p.y.toNat true).set p.n.toNat true else U
  | none => U
def markAll (g : List Pt) : Nat → List Bool → List Bool
  | 0, U => U
  | k + 1, U => markAll g k (markAt g k U)
def usedF (g : List Pt) (at_ : Nat) : List Bool := markAll g (at_ + 1) ((List.replicate g.length false).set at_ true)
theorem markAt_len (g : List Pt) (i : Nat) (U : List Bool) : (markAt g i U).length = U.length := by
  unfold markAt; split
  · split <;> simp
  · rfl
theorem markAll_len (g : List Pt) (k : Nat) (U : List Bool) : (markAll g k U).length = U.length := by
  induction k generalizing U with
  | zero => rfl
  | succ k ih => rw [markAll, ih, markAt_len]
theorem usedF_len (g : List Pt) (a : Nat) : (usedF g a).length = g.length := by rw [usedF, markAll_len]; simp
theorem set_getD (U : List Bool) (i j : Nat) (b : Bool) : (U.set i b).getD j false = if j = i ∧ i < U.length then b else U.getD j false := by
  simp only [List.getD, List.getElem?_set]
  by_cases h : i = j
  · subst h
    by_cases hl : i < U.length
    · simp [hl]
    · simp [hl]
  · have : ¬ j = i := fun e => h e.symm
    simp [h, this]
theorem markAt_mono {g : List Pt} {i j : Nat} {U : List Bool} (h : U.getD j false = true) : (markAt g i U).getD j false = true := by
  unfold markAt; split
  · split
    · rw [set_getD, set_getD]; split
      · rfl
      · split
        · rfl
        · exact h
    · exact h
  · exact h
theorem markAll_mono {g : List Pt} {k j : Nat} {U : List Bool} (h : U.getD j false = true) : (markAll g k U).getD j false = true := by
  induction k generalizing U with
  | zero => exact h
  | succ k ih => exact ih (markAt_mono h)
theorem markAt_high {g : List Pt} (hg : GOk g) {i j : Nat} {U : List Bool} (hj : i ≤ j) : (markAt g i U).getD j false = U.getD j false := by
  unfold markAt; split
  · rename_i p hp
    have := hg.2 i p hp
    unfold smallP smallI at this
    split
    · rename_i hc
      rw [set_getD, set_getD, if_neg (by omega), if_neg (by omega)]
    · rfl
  · rfl
theorem markAll_high {g : List Pt} (hg : GOk g) {k j : Nat} {U : List Bool} (hj : k ≤ j + 1) : (markAll g k U).getD j false = U.getD j false := by
  induction k generalizing U with
  | zero => rfl
  | succ k ih => rw [markAll, ih (by omega), markAt_high hg (by omega)]
/-- What a marked look leads to is marked. -/
theorem markAll_closed {g : List Pt} (hg : GOk g) {k i : Nat} {p : Pt} {U : List Bool} (hl : U.length = g.length) (hi : i < k) (hp : g[i]? = some p) (h0 : p.op ≠ 0) (h : (markAll g k U).getD i false = true) :
    (markAll g k U).getD p.y.toNat false = true ∧ (markAll g k U).getD p.n.toNat false = true := by
  induction k generalizing U with
  | zero => omega
  | succ k ih =>
    rw [markAll] at h ⊢
    by_cases hik : i = k
    · subst hik
      rw [markAll_high hg (by omega), markAt_high hg (Nat.le_refl _)] at h
      have hb := hg.2 i p hp
      unfold smallP smallI at hb
      have hlt : i < g.length := (List.getElem?_eq_some_iff.1 hp).1
      have e : markAt g i U = (U.set p.y.toNat true).set p.n.toNat true := by
        unfold markAt; rw [hp]; exact if_pos ⟨h, h0⟩
      refine ⟨markAll_mono ?_, markAll_mono ?_⟩
      · rw [e, set_getD, set_getD]
        split
        · rfl
        · rw [if_pos ⟨rfl, by omega⟩]
      · rw [e, set_getD, if_pos ⟨rfl, by rw [List.length_set]; omega⟩]
    · exact ih (by rw [markAt_len]; exact hl) (by omega) h
theorem usedF_self {g : List Pt} {a : Nat} (h : a < g.length) : (usedF g a).getD a false = true := by
  unfold usedF
  apply markAll_mono
  rw [set_getD, if_pos ⟨rfl, by simpa using h⟩]
theorem usedF_high {g : List Pt} (hg : GOk g) {a j : Nat} (h : a < j) : (usedF g a).getD j false = false := by
  unfold usedF
  rw [markAll_high hg (by omega), set_getD, if_neg (by omega)]
  simp [List.getD]
  by_cases hj : j < g.length
  · simp [hj]
  · simp [hj]
theorem usedF_closed {g : List Pt} (hg : GOk g) {a i : Nat} {p : Pt} (hp : g[i]? = some p) (h0 : p.op ≠ 0) (h : (usedF g a).getD i false = true) :
    (usedF g a).getD p.y.toNat false = true ∧ (usedF g a).getD p.n.toNat false = true := by
  by_cases hi : i ≤ a
  · exact markAll_closed hg (by simp) (by omega) hp h0 h
  · rw [usedF_high hg (by omega)] at h; cases h
/-- A look with its ways as they are now. -/
def led (x : Pt) (T : List Int) : Pt := { x with y := T.getD x.y.toNat 0, n := T.getD x.n.toNat 0 }
def look (ps : List Pt) (x : Pt) : List Pt × Int := if x.y = x.n then (ps, x.y) else (ins ps x, ((ps.idxOf x : Nat) : Int))
def stepT (g : List Pt) (U : List Bool) (st : List Pt × List Int) (i : Nat) : List Pt × List Int :=
  match g[i]? with
  | some x => if U.getD i false = true then
      if x.op = 0 then (ins st.1 x, st.2.set i ((st.1.idxOf x : Nat) : Int)) else ((look st.1 (led x st.2)).1, st.2.set i (look st.1 (led x st.2)).2)
    else st
  | none => st
def passT (g : List Pt) (U : List Bool) : Nat → List Pt × List Int
  | 0 => ([], List.replicate g.length 0)
  | k + 1 => stepT g U (passT g U k) k
/-- What a pass keeps. -/
structure PassOk (g : List Pt) (U : List Bool) (k : Nat) (st : List Pt × List Int) : Prop where
  ok : GOk st.1
  len : st.1.length ≤ k
  tlen : st.2.length = g.length
  low : ∀ j, 0 ≤ st.2.getD j 0
  high : ∀ j, st.2.getD j 0 ≤ 120
  lt : ∀ j, j < k → j < g.length → U.getD j false = true → st.2.getD j 0 < st.1.length
theorem iset_getD (U : List Int) (i j : Nat) (b : Int) : (U.set i b).getD j 0 = if j = i ∧ i < U.length then b else U.getD j 0 := by
  simp only [List.getD, List.getElem?_set]
  by_cases h : i = j
  · subst h
    by_cases hl : i < U.length
    · simp [hl]
    · simp [hl]
  · have : ¬ j = i := fun e => h e.symm
    simp [h, this]
theorem ins_ok {ps : List Pt} {x : Pt} (h : GOk ps) (hl : ps.length < 120) (hx : smallP x ∧ (x.op = 0 ∨ (0 < x.op ∧ x.v = 0 ∧ x.y < ps.length ∧ x.n < ps.length))) : GOk (ins ps x) := by
  unfold ins
  split
  · exact h
  · refine ⟨by simp; omega, fun i p hp => ?_⟩
    rw [List.getElem?_append] at hp
    split at hp
    · exact h.2 i p hp
    · rename_i hi
      have : i = ps.length := by
        have := (List.getElem?_eq_some_iff.1 hp).1
        simp at this; omega
      subst this
      simp at hp
      subst hp
      exact hx
theorem pass_ok {g : List Pt} (hg : GOk g) {a k : Nat} (hk : k ≤ g.length) : PassOk g (usedF g a) k (passT g (usedF g a) k) := by
  induction k with
  | zero =>
    refine ⟨⟨by simp [passT], by simp [passT]⟩, by simp [passT], by simp [passT], fun j => ?_, fun j => ?_, fun j hj => by omega⟩
    · simp only [passT, List.getD, List.getElem?_replicate]; split <;> simp
    · simp only [passT, List.getD, List.getElem?_replicate]; split <;> simp
  | succ k ih =>
    have I := ih (by omega)
    rw [passT]
    generalize passT g (usedF g a) k = st at *
    obtain ⟨x, hx⟩ := some_at (rfl : g.length = g.length) (show k < g.length by omega)
    have hg120 := hg.1
    have hxo := hg.2 k x hx
    have hIl := I.len
    unfold stepT
    rw [hx]
    simp only
    by_cases hU : (usedF g a).getD k false = true
    · rw [if_pos hU]
      by_cases h0 : x.op = 0
      · rw [if_pos h0]
        have hi := ins_len st.1 x
        refine ⟨ins_ok I.ok (by omega) ⟨hxo.1, .inl h0⟩, by simp; omega, by simp [I.tlen], fun j => ?_, fun j => ?_, fun j hj hjg hjU => ?_⟩
        · simp only; rw [iset_getD]; split
          · omega
          · exact I.low j
        · simp only; rw [iset_getD]; split
          · have := I.ok.1; omega
          · exact I.high j
        · simp only; rw [iset_getD]; split
          · omega
          · rename_i hne
            have := I.lt j (by have := I.tlen; omega) hjg hjU
            omega
      · rw [if_neg h0]
        obtain ⟨hUy, hUn⟩ := usedF_closed hg hx h0 hU
        have hsx := hxo.1
        unfold smallP smallI at hsx
        have hy : x.y < k ∧ x.n < k ∧ 0 < x.op ∧ x.v = 0 := by omega
        have ly := I.lt x.y.toNat (by omega) (by omega) hUy
        have ln := I.lt x.n.toNat (by omega) (by omega) hUn
        have ly0 := I.low x.y.toNat
        have ln0 := I.low x.n.toNat
        have lyh := I.high x.y.toNat
        have lnh := I.high x.n.toNat
        unfold look
        split
        · refine ⟨I.ok, by simp; omega, by simp [I.tlen], fun j => ?_, fun j => ?_, fun j hj hjg hjU => ?_⟩
          · simp only; rw [iset_getD]; split
            · simpa [led] using ly0
            · exact I.low j
          · simp only; rw [iset_getD]; split
            · simpa [led] using lyh
            · exact I.high j
          · simp only; rw [iset_getD]; split
            · simpa [led] using ly
            · exact I.lt j (by have := I.tlen; omega) hjg hjU
        · have hi := ins_len st.1 (led x st.2)
          refine ⟨ins_ok I.ok (by omega) ⟨?_, .inr ?_⟩, by simp; omega, by simp [I.tlen], fun j => ?_, fun j => ?_, fun j hj hjg hjU => ?_⟩
          · unfold smallP smallI led; simp only; omega
          · unfold led; simp only; omega
          · simp only; rw [iset_getD]; split
            · omega
            · exact I.low j
          · simp only; rw [iset_getD]; split
            · have := I.ok.1; omega
            · exact I.high j
          · simp only; rw [iset_getD]; split
            · omega
            · have := I.lt j (by have := I.tlen; omega) hjg hjU
              omega
    · rw [if_neg hU]
      refine ⟨I.ok, by omega, I.tlen, I.low, I.high, fun j hj hjg hjU => ?_⟩
      by_cases hjk : j = k
      · subst hjk; exact absurd hjU hU
      · exact I.lt j (by omega) hjg hjU
/-- A graph from a place on, trimmed until its place is the last. -/
def trimN : Nat → List Pt → Nat → List Pt
  | 0, g, _ => g
  | f + 1, g, a =>
    if (passT g (usedF g a) (a + 1)).2.getD a 0 = ((passT g (usedF g a) (a + 1)).1.length : Int) - 1 then (passT g (usedF g a) (a + 1)).1
    else trimN f (passT g (usedF g a) (a + 1)).1 ((passT g (usedF g a) (a + 1)).2.getD a 0).toNat
/-- What a pass leaves to the next. -/
theorem pass_next {g : List Pt} (hg : GOk g) {a : Nat} (ha : a < g.length) :
    GOk (passT g (usedF g a) (a + 1)).1 ∧ 0 ≤ (passT g (usedF g a) (a + 1)).2.getD a 0 ∧ (passT g (usedF g a) (a + 1)).2.getD a 0 < (passT g (usedF g a) (a + 1)).1.length ∧ (passT g (usedF g a) (a + 1)).1.length ≤ a + 1 := by
  have I := pass_ok hg (a := a) (k := a + 1) (by omega)
  exact ⟨I.ok, I.low a, I.lt a (by omega) ha (usedF_self ha), I.len⟩
end Go.Proofs.YtljgaepgblakhaaDoor
namespace Go.Proofs.YtljgaepgblakhaaDoor
set_option linter.unusedSimpArgs false
open Go.RowKit
set_option linter.unusedVariables false
end Go.Proofs.YtljgaepgblakhaaDoor
