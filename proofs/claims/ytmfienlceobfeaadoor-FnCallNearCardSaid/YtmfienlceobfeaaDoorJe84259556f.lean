/- Near calls: the places on their way round; calls laid in a row; the words as they lie. Conditions: each lemma's own. -/
import Derived.Test.YtmfienlceobfeaaDoorJ39a1547237
namespace Go.Proofs.YtmfienlceobfeaaDoor
set_option linter.unusedSimpArgs false
open Go.RowKit
set_option linter.unusedVariables false
set_option linter.unnecessarySimpa false
set_option maxRecDepth 20000
/-- The first m places as they are, the others nought. -/
def cB (a : List Nat) (m : Nat) : List Nat := a.take m ++ List.replicate (5 - m) 0
theorem cB_len {a : List Nat} {m : Nat} (h : a.length = 5) (hm : m ≤ 5) : (cB a m).length = 5 := by unfold cB; simp; omega
theorem cB_full {a : List Nat} (h : a.length = 5) : cB a 5 = a := by unfold cB; rw [List.take_of_length_le (by omega)]; simp
theorem cB_at {a : List Nat} {m : Nat} (h : a.length = 5) (hm : m < 5) : (cB a (m + 1))[m]? = a[m]? := by
  unfold cB
  rw [List.getElem?_append_left (by rw [List.length_take]; omega), List.getElem?_take]
  simp
theorem cB_set {a : List Nat} {m : Nat} (h : a.length = 5) (hm : m < 5) (x : Nat) : (cB a (m + 1)).set m x = a.take m ++ x :: List.replicate (5 - (m + 1)) 0 := by
  unfold cB
  rw [List.take_add_one, List.append_assoc, List.set_append_right _ _ (by rw [List.length_take]; omega)]
  have : a[m]? = some a[m] := List.getElem?_eq_getElem (by omega)
  rw [this]
  simp [List.length_take]
  rw [show m - min m a.length = 0 by omega]
  rfl
theorem cB_set0 {a : List Nat} {m : Nat} (h : a.length = 5) (hm : m < 5) : (cB a (m + 1)).set m 0 = cB a m := by
  rw [cB_set h hm]
  unfold cB
  rw [show 5 - m = 5 - (m + 1) + 1 by omega, List.replicate_succ]
theorem next_none {ls a : List Nat} {m x n : Nat} (hx : a[m]? = some x) (hn : ls[m]? = some n) (h : ¬ x + 1 < n) (hz : nextN (ls.drop (m + 1)) (a.drop (m + 1)) = none) : nextN (ls.drop m) (a.drop m) = none := by
  rw [List.drop_eq_getElem_cons (List.getElem?_eq_some_iff.1 hn).1, List.drop_eq_getElem_cons (List.getElem?_eq_some_iff.1 hx).1, (List.getElem?_eq_some_iff.1 hn).2, (List.getElem?_eq_some_iff.1 hx).2]
  exact nextN_end h hz
theorem next_some {ls a : List Nat} {m x n : Nat} (hl : ls.length = 5) (ha : a.length = 5) (hx : a[m]? = some x) (hn : ls[m]? = some n) (h : x + 1 < n) (hz : nextN (ls.drop (m + 1)) (a.drop (m + 1)) = none) : nextN ls a = some ((cB a (m + 1)).set m (x + 1)) := by
  have hm : m < 5 := by have := (List.getElem?_eq_some_iff.1 hx).1; omega
  have e1 : ls = ls.take m ++ n :: ls.drop (m + 1) := by
    have := List.take_append_drop m ls
    rw [List.drop_eq_getElem_cons (List.getElem?_eq_some_iff.1 hn).1, (List.getElem?_eq_some_iff.1 hn).2] at this
    exact this.symm
  have e2 : a = a.take m ++ x :: a.drop (m + 1) := by
    have := List.take_append_drop m a
    rw [List.drop_eq_getElem_cons (List.getElem?_eq_some_iff.1 hx).1, (List.getElem?_eq_some_iff.1 hx).2] at this
    exact this.symm
  have hc := nextN_carry (ls := ls.take m) (a := a.take m) (n := n) (x := x) (ms := ls.drop (m + 1)) (zs := a.drop (m + 1)) (by simp [hl, ha]) (by simp [hl, ha]) hz
  rw [← e1, ← e2, if_pos h] at hc
  rw [hc, cB_set ha hm]
  congr 2
  rw [List.map_const', List.length_drop, hl]
/-- Places as cells. -/
def nv (a : List Nat) : List Value := a.map (fun (x : Nat) => Value.int .i64 (x : Int))
theorem nv_at {a : List Nat} {k x : Nat} (h : a[k]? = some x) : (nv a)[k]? = some (.int .i64 (x : Int)) := by unfold nv; rw [List.getElem?_map, h]; rfl
theorem nv_set (a : List Nat) (k x : Nat) : (nv a).set k (.int .i64 (x : Int)) = nv (a.set k x) := by unfold nv; rw [List.map_set]
theorem nv_len (a : List Nat) : (nv a).length = a.length := by simp [nv]
/-- The words as they lie: five lists, below block B. -/
def WD (w : World) (B bw ow : Nat) (ls : List (List Int)) : Prop := ∀ (i : Nat) (xs : List Int), ls[i]? = some xs → bw < B ∧ ∃ b o c, b < B ∧ xs.length ≤ 1000 ∧ w.cell? ⟨bw, ow + i, none⟩ = some (.slice (some ⟨b, o, none⟩) xs.length c) ∧ ∀ j x, xs[j]? = some x → w.cell? ⟨b, o + j, none⟩ = some (.int .i64 x)
theorem WD.below {w w' : World} {B bw ow : Nat} {ls : List (List Int)} (h : WD w B bw ow ls) (k : Below B w w') : WD w' B bw ow ls := fun i xs hi => by
  obtain ⟨h1, b, o, c, h2, h3, h4, h5⟩ := h i xs hi
  exact ⟨h1, b, o, c, h2, h3, (k.cell (p := ⟨bw, ow + i, none⟩) h1).trans h4, fun j x hj => (k.cell (p := ⟨b, o + j, none⟩) h2).trans (h5 j x hj)⟩
theorem nearL_at {rs : List Rl} {k : Nat} (hk : k < 5) : (nearL rs)[k]? = some (nearW rs (k : Int)) := by
  have : k = 0 ∨ k = 1 ∨ k = 2 ∨ k = 3 ∨ k = 4 := by omega
  rcases this with rfl | rfl | rfl | rfl | rfl <;> rfl
theorem nearL_len (rs : List Rl) : (nearL rs).length = 5 := rfl
theorem lensN_at {rs : List Rl} {k : Nat} (hk : k < 5) : (lensN (nearL rs))[k]? = some (nearW rs (k : Int)).length := by
  unfold lensN
  rw [List.getElem?_map, nearL_at hk]; rfl
/-- A call's cells: its number, its words. -/
def ccells (qs : List (List Int × Value)) : List Value := qs.flatMap (fun q => [.int .i64 (q.1.headD 0), q.2])
theorem ccells_app (a b : List (List Int × Value)) : ccells (a ++ b) = ccells a ++ ccells b := by simp [ccells]
theorem ccells_len (qs : List (List Int × Value)) : (ccells qs).length = qs.length * 2 := by
  unfold ccells
  induction qs with
  | nil => rfl
  | cons p ps ih => rw [List.flatMap_cons, List.length_append, ih, List.length_cons]; simp; omega
theorem ccells_at {l : List (List Int × Value)} {k : Nat} {a : List Int × Value} (h : l[k]? = some a) : (ccells l)[k * 2]? = some (.int .i64 (a.1.headD 0)) ∧ (ccells l)[k * 2 + 1]? = some a.2 := by
  unfold ccells
  induction l generalizing k with
  | nil => simp at h
  | cons b l ih =>
    rw [List.flatMap_cons]
    cases k with
    | zero =>
      simp at h
      subst h
      simp
    | succ k =>
      have e1 : (k + 1) * 2 = k * 2 + 2 := by omega
      rw [List.getElem?_append_right (by simp; omega), List.getElem?_append_right (by simp; omega), e1]
      exact ih (by simpa using h)
/-- A call whose words lie in memory of their own, from block lo on. -/
structure CO (w : World) (lo ET : Nat) (q : List Int × Value) : Prop where
  own : w.ownsRow lo ET 1 q.2 4 (ints q.1.tail)
  five : q.1.length = 5
structure CP (w : World) (lo CT ET : Nat) (A : Option Addr) (n c : Nat) (qs : List (List Int × Value)) : Prop where
  own : w.ownsRow lo CT 2 (.slice A n c) n (ccells qs)
  all : ∀ q ∈ qs, CO w lo ET q
section
variable {w w' : World} {lo CT ET n c : Nat} {A : Option Addr} {qs : List (List Int × Value)}
theorem CO.up {q : List Int × Value} (h : CO w lo ET q) (k : Below w.heap.size w w') : CO w' lo ET q := ⟨own_up h.own k, h.five⟩
theorem CO.kept {q : List Int × Value} {row : Option Nat} (h : CO w lo ET q) (k : w.grownBy w' row) (hr : ∀ g, row = some g → q.2.ownBlock ≠ some g) : CO w' lo ET q :=
  ⟨h.own.kept k (by
    cases hq : q.2.ownBlock with
    | none => exact .inl rfl
    | some g => exact .inr (fun e => hr g e.symm hq)), h.five⟩
theorem CP.nil_ (w : World) (lo CT ET : Nat) : CP w lo CT ET none 0 0 [] := ⟨World.ownsRow_nil _ _ _ _, (fun q hq => by cases hq)⟩
theorem CP.len (h : CP w lo CT ET A n c qs) : qs.length = n := by have := h.own.1; rw [ccells_len] at this; omega
theorem CP.up (h : CP w lo CT ET A n c qs) (k : Below w.heap.size w w') : CP w' lo CT ET A n c qs := ⟨own_up h.own k, fun q hq => (h.all q hq).up k⟩
theorem CP.app {n' c' : Nat} {A' : Option Addr} {q : List Int × Value} (h : CP w lo CT ET A n c qs) (hE : CT ≠ ET) (h2 : CO w lo ET q) (ho : w'.ownsRow lo CT 2 (.slice A' n' c') n' (ccells qs ++ ccells [q])) (hg : w.grownBy w' (Value.slice A n c).ownBlock) : CP w' lo CT ET A' n' c' (qs ++ [q]) := by
  refine ⟨by rw [ccells_app]; exact ho, fun x hx => ?_⟩
  have key : ∀ x, CO w lo ET x → CO w' lo ET x := fun x hx => hx.kept hg (fun g hg' hx' => own_unlike hx.own h.own (Ne.symm hE) g hx' hg')
  rcases List.mem_append.1 hx with hx | hx
  · exact key x (h.all x hx)
  · rw [List.mem_singleton.1 hx]; exact key q h2
/-- What is written below them leaves them. -/
theorem CP.setLow (h : CP w lo CT ET A n c qs) {g o : Nat} (hg : g < lo) (u : Value) : CP (w.setCell ⟨g, o, none⟩ u) lo CT ET A n c qs :=
  ⟨ownsRow_setCell_below h.own (a := ⟨g, o, none⟩) hg u, fun q hq => ⟨ownsRow_setCell_below (h.all q hq).own (a := ⟨g, o, none⟩) hg u, (h.all q hq).five⟩⟩
theorem CP.setB (h : CP w lo CT ET A n c qs) {X T o : Nat} {cs : List Value} (hX : Blk w X T cs) (h1 : CT ≠ T) (h2 : ET ≠ T) (u : Value) : CP (w.setCell ⟨X, o, none⟩ u) lo CT ET A n c qs :=
  ⟨own_setB h.own hX h1 u, fun q hq => ⟨own_setB (h.all q hq).own hX h2 u, (h.all q hq).five⟩⟩
/-- The other rows grow. -/
theorem CP.kept {row : Option Nat} (h : CP w lo CT ET A n c qs) (k : w.grownBy w' row) (h1 : ∀ g, row = some g → (Value.slice A n c).ownBlock ≠ some g) (h2 : ∀ q ∈ qs, ∀ g, row = some g → q.2.ownBlock ≠ some g) : CP w' lo CT ET A n c qs :=
  ⟨h.own.kept k (by
    cases hq : (Value.slice A n c).ownBlock with
    | none => exact .inl rfl
    | some g => exact .inr (fun e => h1 g e.symm hq)), fun q hq => (h.all q hq).kept k (h2 q hq)⟩
end
/-- Calls that read so, below block B. -/
def RdC (w : World) (B : Nat) (A : Option Addr) (n : Nat) (cs : List (List Int)) : Prop := cs.length = n ∧ (0 < n → ∃ b off, A = some ⟨b, off, none⟩ ∧ b < B ∧ ∀ j x, cs[j]? = some x → x.length = 5 ∧ ∃ TA tc, w.cell? ⟨b, off + j * 2, none⟩ = some (.int .i64 (x.headD 0)) ∧ w.cell? ⟨b, off + j * 2 + 1, none⟩ = some (.slice TA 4 tc) ∧ Rd w B 1 TA 4 (ints x.tail))
theorem RdC.up {w w' : World} {B n : Nat} {A : Option Addr} {cs : List (List Int)} (h : RdC w B A n cs) (k : Below B w w') (hB : B ≤ w'.heap.size) : RdC w' w'.heap.size A n cs := by
  refine ⟨h.1, fun hn => ?_⟩
  obtain ⟨b, off, e, hb, hc⟩ := h.2 hn
  refine ⟨b, off, e, by omega, fun j x hj => ?_⟩
  obtain ⟨h5, TA, tc, k0, k1, k2⟩ := hc j x hj
  exact ⟨h5, TA, tc, (k.cell (p := ⟨b, off + j * 2, none⟩) hb).trans k0, (k.cell (p := ⟨b, off + j * 2 + 1, none⟩) hb).trans k1, (k2.below k).more hB⟩
theorem CP.rd {w : World} {lo CT ET n c : Nat} {A : Option Addr} {qs : List (List Int × Value)} (h : CP w lo CT ET A n c qs) : RdC w w.heap.size A n (qs.map Prod.fst) := by
  have hl := h.len
  refine ⟨by rw [List.length_map]; exact hl, fun hn => ?_⟩
  obtain ⟨b, off, e, hb, hc⟩ := (Rd.of_own h.own).2 hn
  refine ⟨b, off, e, hb, fun j x hj => ?_⟩
  rw [List.getElem?_map, Option.map_eq_some_iff] at hj
  obtain ⟨q, hq, rfl⟩ := hj
  obtain ⟨k0, k1⟩ := ccells_at hq
  have ho := h.all q (List.mem_of_getElem? hq)
  obtain ⟨TA, tc, e2⟩ := own_slice ho.own
  have ho2 := ho.own
  rw [e2] at ho2 k1
  exact ⟨ho.five, TA, tc, hc _ _ k0, by rw [Nat.add_assoc]; exact hc _ _ k1, Rd.of_own ho2⟩
end Go.Proofs.YtmfienlceobfeaaDoor
