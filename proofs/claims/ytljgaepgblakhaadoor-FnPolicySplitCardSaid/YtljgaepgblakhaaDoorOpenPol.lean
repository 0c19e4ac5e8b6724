/- A policy as a law's argument. No condition. -/
import Derived.Test.YtljgaepgblakhaaDoorOpen2
import Derived.Test.YtljgaepgblakhaaDoorPol
namespace Go.Proofs.YtljgaepgblakhaaDoor
set_option linter.unusedSimpArgs false
open Go.ChangeShapes Go.WideShapes Go.ChangeAt Go.RowKit Go.Joins Go.Deep
set_option linter.unusedVariables false
set_option linter.unnecessarySimpa false
set_option maxRecDepth 100000
theorem build_list {α : Type} (Q : Nat → α → Prop) (n : Nat) (h : ∀ i, i < n → ∃ a, Q i a) : ∃ l : List α, l.length = n ∧ ∀ i a, l[i]? = some a → Q i a := by
  have key : ∀ k, k ≤ n → ∃ l : List α, l.length = k ∧ ∀ i a, l[i]? = some a → Q i a := by
    intro k
    induction k with
    | zero => intro _; exact ⟨[], rfl, by simp⟩
    | succ k ih =>
      intro hk
      obtain ⟨l, hl, hp⟩ := ih (by omega)
      obtain ⟨a, ha⟩ := h k (by omega)
      refine ⟨l ++ [a], by simp [hl], fun i q hi => ?_⟩
      by_cases hik : i < k
      · rw [List.getElem?_append_left (by omega)] at hi
        exact hp i q hi
      · have hlt := (List.getElem?_eq_some_iff.1 hi).1
        simp [hl] at hlt
        obtain rfl : i = k := by omega
        rw [List.getElem?_append_right (by omega), hl, Nat.sub_self] at hi
        simp at hi
        subst hi
        exact ha
  exact key n (Nat.le_refl _)
/-- A law's argument: a policy. -/
def IsPolicy (w : World) (v : Value) : Prop := ∃ (A : Option Addr) (n c : Nat) (rs : List Rl) (e : Int), v = .agg #[.slice A n c, .int .i64 e] ∧ RdR w w.heap.size A n rs ∧ n ≤ maxLen
section
variable {H : Type} {enc : TypeId × Value → H} {W : World} {base : Nat} {v : Value} {d : DataW H} {p : List MemPlace} {sp : Nat → Bool} {held : Bool}
theorem cells_lawTest4 : Tryd.prog.cellsOf 189 = 4 := by kernel_rfl
theorem cells_lawRule : Tryd.prog.cellsOf 138 = 4 := by kernel_rfl
theorem cells_lawTests : Tryd.prog.cellsOf 136 = 1 := by kernel_rfl
theorem cells_lawPolicy : Tryd.prog.cellsOf 57 = 2 := by kernel_rfl
theorem tests_open {fuel : Nat} {c : Value} {y : DataW H × List MemPlace} (h : DataW.trod enc Tryd.prog W 0 sp held fuel 136 [c] = some y) :
    ∃ (TA : Option Addr) (m tc : Nat) (ts : List Tst), c = .slice TA m tc ∧ Rd W W.heap.size 4 TA m (tsts ts) ∧ m ≤ maxLen := by
  rcases open_slice Tryd.underlying136 h with ⟨hcs, _⟩ | ⟨a, len, cap, m, k, D, Pl, hcs, _, hl, hm, hmm, _, hi⟩
  · injection hcs with hcs
    exact ⟨none, 0, 0, [], hcs, Rd.nil_, by unfold maxLen; omega⟩
  · injection hcs with hcs
    have hlm : len ≤ m := by rw [hmm]; split <;> omega
    obtain ⟨ps, hpl, hr⟩ := rd_elems (w := W) Tst.cells 4 (by omega) (fun _ => rfl) (a := a) (n := len) (fun i hin => by
      obtain ⟨cs', hc, ht⟩ := hi i (by omega)
      rw [cells_lawTest4] at hc
      obtain ⟨_, hcl, hat⟩ := World.cells?_some hc
      obtain ⟨zs, rfl, hzl⟩ := struct_ints Tryd.underlying189 (by kernel_rfl) cells_lawTest4 (fun i f hf => by
        match i, hf with
        | 0, hf | 1, hf | 2, hf | 3, hf => simp at hf; subst hf; exact Tryd.underlying3
        | i + 4, hf => simp at hf) ht
      match zs, hzl with
      | [z0, z1, z2, z3], _ =>
        refine ⟨⟨z0, z1, z2, z3⟩, fun j u hj hu => ?_⟩
        have := hat j (by omega)
        rw [Go.Deep.add_add] at this
        rw [this]
        exact hu)
    exact ⟨some a, len, cap, ps, hcs, hr, by omega⟩
theorem rule_open {fuel : Nat} {cs : List Value} {y : DataW H × List MemPlace} (h : DataW.trod enc Tryd.prog W 0 sp held fuel 138 cs = some y) :
    ∃ (vv lo hi : Int) (TA : Option Addr) (m tc : Nat) (ts : List Tst), cs = [.int .i64 vv, .int .i64 lo, .int .i64 hi, .slice TA m tc] ∧ Rd W W.heap.size 4 TA m (tsts ts) ∧ m ≤ maxLen := by
  obtain ⟨ys, n, _, _, hlen, hyl, hf⟩ := DataW.trod_struct Tryd.underlying138 h
  rw [cells_lawRule] at hlen
  match cs, hlen with
  | [c0, c1, c2, c3], _ =>
    obtain ⟨y0, e0⟩ := some_at hyl (show 0 < 4 by omega)
    obtain ⟨y1, e1⟩ := some_at hyl (show 1 < 4 by omega)
    obtain ⟨y2, e2⟩ := some_at hyl (show 2 < 4 by omega)
    obtain ⟨y3, e3⟩ := some_at hyl (show 3 < 4 by omega)
    have h0 := (hf 0 _ rfl).trans e0
    have h1 := (hf 1 _ rfl).trans e1
    have h2 := (hf 2 _ rfl).trans e2
    have h3 := (hf 3 _ rfl).trans e3
    have k0 : DataW.trod enc Tryd.prog W 0 sp held n 3 [c0] = some y0 := by rw [← h0]; show _ = DataW.trod enc Tryd.prog W 0 sp held n 3 (List.take (Tryd.prog.cellsOf 3) (List.drop 0 [c0, c1, c2, c3])); rw [cells_int]; rfl
    have k1 : DataW.trod enc Tryd.prog W 0 sp held n 3 [c1] = some y1 := by rw [← h1]; show _ = DataW.trod enc Tryd.prog W 0 sp held n 3 (List.take (Tryd.prog.cellsOf 3) (List.drop 1 [c0, c1, c2, c3])); rw [cells_int]; rfl
    have k2 : DataW.trod enc Tryd.prog W 0 sp held n 3 [c2] = some y2 := by rw [← h2]; show _ = DataW.trod enc Tryd.prog W 0 sp held n 3 (List.take (Tryd.prog.cellsOf 3) (List.drop 2 [c0, c1, c2, c3])); rw [cells_int]; rfl
    have k3 : DataW.trod enc Tryd.prog W 0 sp held n 136 [c3] = some y3 := by rw [← h3]; show _ = DataW.trod enc Tryd.prog W 0 sp held n 136 (List.take (Tryd.prog.cellsOf 136) (List.drop 3 [c0, c1, c2, c3])); rw [cells_lawTests]; rfl
    obtain ⟨m0, g0, _, _⟩ := DataW.trod_int Tryd.underlying3 k0
    obtain ⟨m1, g1, _, _⟩ := DataW.trod_int Tryd.underlying3 k1
    obtain ⟨m2, g2, _, _⟩ := DataW.trod_int Tryd.underlying3 k2
    injection g0 with g0; injection g1 with g1; injection g2 with g2
    obtain ⟨TA, m, tc, ts, g3, hr, hm⟩ := tests_open k3
    subst g0 g1 g2 g3
    exact ⟨m0, m1, m2, TA, m, tc, ts, rfl, hr, hm⟩
theorem rules_open {fuel : Nat} {c : Value} {y : DataW H × List MemPlace} (h : DataW.trod enc Tryd.prog W 0 sp held fuel 55 [c] = some y) :
    ∃ (A : Option Addr) (n cc : Nat) (rs : List Rl), c = .slice A n cc ∧ RdR W W.heap.size A n rs ∧ n ≤ maxLen := by
  rcases open_slice Tryd.underlying55 h with ⟨hcs, _⟩ | ⟨a, len, cap, m, k, D, Pl, hcs, _, hl, hm, hmm, _, hi⟩
  · injection hcs with hcs
    exact ⟨none, 0, 0, [], hcs, RdR.nil_, by unfold maxLen; omega⟩
  · injection hcs with hcs
    have hlm : len ≤ m := by rw [hmm]; split <;> omega
    obtain ⟨rs, hrl, hrs⟩ := build_list (fun (i : Nat) (r : Rl) => ∃ (TA : Option Addr) (tc : Nat), (∀ j u, ([.int .i64 r.v, .int .i64 r.lo, .int .i64 r.hi, .slice TA r.ts.length tc] : List Value)[j]? = some u → W.cell? (a.add (i * 4 + j)) = some u) ∧ Rd W W.heap.size 4 TA r.ts.length (tsts r.ts) ∧ r.ts.length ≤ 9223372036854775807) len (fun i hin => by
      obtain ⟨cs', hc, ht⟩ := hi i (by omega)
      rw [cells_lawRule] at hc
      obtain ⟨_, hcl, hat⟩ := World.cells?_some hc
      obtain ⟨vv, lo, hi', TA, m', tc, ts, rfl, hr, hm'⟩ := rule_open ht
      have hml : ts.length = m' := by have := hr.1; rw [tsts_len] at this; omega
      subst hml
      refine ⟨⟨vv, lo, hi', ts⟩, TA, tc, fun j u hu => ?_, hr, by unfold maxLen at hm'; omega⟩
      have hj : j < 4 := (List.getElem?_eq_some_iff.1 hu).1
      have := hat j (by omega)
      rw [Go.Deep.add_add] at this
      rw [this]
      exact hu)
    refine ⟨some a, len, cap, rs, hcs, ⟨hrl, fun hn => ?_⟩, by omega⟩
    obtain ⟨r0, hr0⟩ := some_at hrl hn
    obtain ⟨TA0, tc0, hc0, _⟩ := hrs 0 r0 hr0
    have hcell0 := hc0 0 _ rfl
    have hsp : a.spot = none := by simpa [Addr.add] using World.cell?_spot hcell0
    obtain ⟨b, off, spot⟩ := a
    subst hsp
    refine ⟨b, off, rfl, ?_, fun j r hr => ?_⟩
    · rw [add_norm] at hcell0
      exact World.block_lt_of_cell? W _ hcell0
    · obtain ⟨TA, tc, hc, h4, h5⟩ := hrs j r hr
      have key : ∀ i u, ([.int .i64 r.v, .int .i64 r.lo, .int .i64 r.hi, .slice TA r.ts.length tc] : List Value)[i]? = some u → W.cell? ⟨b, off + j * 4 + i, none⟩ = some u := fun i u hu => by
        have := hc i u hu
        rw [add_norm] at this
        rw [Nat.add_assoc]; exact this
      exact ⟨TA, tc, key 0 _ rfl, key 1 _ rfl, key 2 _ rfl, key 3 _ rfl, h4, h5⟩
theorem open_Policy (ho : Value.okWide Tryd.prog W .any base 57 v) (h : DataW.Trod enc Tryd.prog W 0 (fun _ => true) true 57 v d p) : IsPolicy W v := by
  obtain ⟨c0, c1, y0, y1, m, rfl, rfl, rfl, hy0, hy1⟩ := open_agg2 Tryd.underlying57 (by kernel_rfl) cells_lawPolicy ho h
  obtain ⟨e, e1, _, _⟩ := DataW.trod_int Tryd.underlying3 hy1
  injection e1 with e1
  subst e1
  obtain ⟨A, n, c, rs, rfl, hr, hn⟩ := rules_open hy0
  exact ⟨A, n, c, rs, e, rfl, hr, hn⟩
end
end Go.Proofs.YtljgaepgblakhaaDoor
