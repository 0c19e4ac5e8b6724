/- Policies in memory of their own: rules, each with its tests. No condition. -/
import Derived.Test.YtmfienlceobfeaaDoorJ3c00a93304
namespace Go.Proofs.YtmfienlceobfeaaDoor
set_option linter.unusedSimpArgs false
open Go.RowKit
set_option linter.unusedVariables false
set_option linter.unnecessarySimpa false
/-- From w to w' nothing has turned in the blocks that ok names. -/
structure Keep (w w' : World) (ok : Nat → Prop) : Prop where
  os : w'.os = w.os
  tape : w'.tape = w.tape
  output : w'.output = w.output
  size : w.heap.size ≤ w'.heap.size
  block : ∀ t, t < w.heap.size → ok t → w'.heap[t]? = w.heap[t]?
section
variable {w w' w2 : World} {ok ok2 : Nat → Prop}
theorem Keep.refl (w : World) (ok : Nat → Prop) : Keep w w ok := ⟨rfl, rfl, rfl, Nat.le_refl _, fun _ _ _ => rfl⟩
theorem Keep.grown (h : Keep w w' ok) {row : Option Nat} (hg : w'.grownBy w2 row) (hr : ∀ t, ok t → t < w.heap.size → row ≠ some t) : Keep w w2 ok :=
  ⟨hg.os.trans h.os, hg.tape.trans h.tape, hg.output.trans h.output, Nat.le_trans h.size hg.size, fun t ht ho => (hg.block t (Nat.lt_of_lt_of_le ht h.size) (fun e => hr t ho ht e.symm)).trans (h.block t ht ho)⟩
theorem Keep.set_ (h : Keep w w' ok) {g o : Nat} (u : Value) (hr : ∀ t, ok t → t < w.heap.size → g ≠ t) : Keep w (w'.setCell ⟨g, o, none⟩ u) ok :=
  h.grown (row := some g) ⟨rfl, rfl, rfl, by simp, fun k _ hk => heap_setCell_other w' ⟨g, o, none⟩ k u (fun e => hk (by simp [e]))⟩ (fun t ho ht e => hr t ho ht (by injection e))
theorem Keep.trans (h : Keep w w' ok) (k : Keep w' w2 ok2) (hr : ∀ t, ok t → t < w.heap.size → ok2 t) : Keep w w2 ok :=
  ⟨k.os.trans h.os, k.tape.trans h.tape, k.output.trans h.output, Nat.le_trans h.size k.size, fun t ht ho => (k.block t (Nat.lt_of_lt_of_le ht h.size) (hr t ho ht)).trans (h.block t ht ho)⟩
theorem Keep.less (h : Keep w w' ok) (hr : ∀ t, ok2 t → t < w.heap.size → ok t) : Keep w w' ok2 := ⟨h.os, h.tape, h.output, h.size, fun t ht ho => h.block t ht (hr t ho ht)⟩
theorem Keep.below (h : Keep w w' ok) {B : Nat} (hB : B ≤ w.heap.size) (hr : ∀ t, t < B → ok t) : Below B w w' := ⟨h.os, h.tape, h.output, h.size, fun t ht => h.block t (by omega) (hr t ht)⟩
theorem Keep.of_below {B : Nat} (h : Below B w w') (hr : ∀ t, ok t → t < w.heap.size → t < B) : Keep w w' ok := ⟨h.os, h.tape, h.output, h.size, fun t ht ho => h.block t (hr t ho ht)⟩
theorem Keep.own (h : Keep w w' ok) {base e size n : Nat} {v : Value} {xs : List Value} (ho : w.ownsRow base e size v n xs) (hr : ∀ t, v.ownBlock = some t → ok t) : w'.ownsRow base e size v n xs := by
  refine ⟨ho.1, ?_⟩
  rcases ho.2 with hn | ⟨g, cap, cur, rfl, hb, hgg, rest⟩
  · exact .inl hn
  · exact .inr ⟨g, cap, cur, rfl, hb, by rw [h.block g (Array.getElem?_eq_some_iff.1 hgg).1 (hr g rfl)]; exact hgg, rest⟩
theorem Keep.blk (h : Keep w w' ok) {g t : Nat} {cs : List Value} (hb : Blk w g t cs) (hr : ok g) : Blk w' g t cs := (h.block g hb.lt hr).trans hb
end
theorem own_slice {w : World} {base e size n : Nat} {v : Value} {xs : List Value} (h : w.ownsRow base e size v n xs) : ∃ A c, v = .slice A n c := by
  rcases h.2 with ⟨h1, h2⟩ | ⟨g, cap, cur, rfl, _⟩
  · exact ⟨none, 0, by rw [h1, h2]⟩
  · exact ⟨_, _, rfl⟩
theorem own_cap {w : World} {base e size n : Nat} {v : Value} {xs : List Value} (h : w.ownsRow base e size v n xs) : n ≤ maxLen := by
  rcases h.2 with ⟨h1, h2⟩ | ⟨g, cap, cur, rfl, _, _, h3, h4, _⟩
  · rw [h2]; exact Nat.zero_le _
  · omega
/-- Two rows of unlike element types lie in two blocks. -/
theorem own_unlike {w : World} {base base' e e' size size' n n' : Nat} {v v' : Value} {xs xs' : List Value} (h : w.ownsRow base e size v n xs) (h' : w.ownsRow base' e' size' v' n' xs') (hne : e ≠ e') (g : Nat) (hg : v.ownBlock = some g) : v'.ownBlock ≠ some g := by
  intro hg'
  rcases h.2 with ⟨h1, _⟩ | ⟨g1, c1, cur1, rfl, _, hh1, _⟩
  · rw [h1] at hg; cases hg
  rcases h'.2 with ⟨h1, _⟩ | ⟨g2, c2, cur2, rfl, _, hh2, _⟩
  · rw [h1] at hg'; cases hg'
  have e1 : g1 = g := by injection hg
  have e2 : g2 = g := by injection hg'
  subst e1 e2
  rw [hh1] at hh2
  injection hh2 with hh2
  injection hh2 with _ e3 _
  exact hne e3
/-- A rule with the value of its tests. -/
def qcells (q : Rl × Value) : List Value := [.int .i64 q.1.v, .int .i64 q.1.lo, .int .i64 q.1.hi, q.2]
def rcells (qs : List (Rl × Value)) : List Value := qs.flatMap qcells
def rls (qs : List (Rl × Value)) : List Rl := qs.map Prod.fst
theorem rcells_len (qs : List (Rl × Value)) : (rcells qs).length = qs.length * 4 := by
  unfold rcells
  induction qs with
  | nil => rfl
  | cons p ps ih => rw [List.flatMap_cons, List.length_append, ih, List.length_cons]; simp [qcells]; omega
theorem rcells_add (qs : List (Rl × Value)) (q : Rl × Value) : rcells (qs ++ [q]) = rcells qs ++ qcells q := by simp [rcells]
theorem rcells_app (qs qs' : List (Rl × Value)) : rcells (qs ++ qs') = rcells qs ++ rcells qs' := by simp [rcells]
theorem rls_at {qs : List (Rl × Value)} {k : Nat} {q : Rl × Value} (h : qs[k]? = some q) : (rls qs)[k]? = some q.1 := by simp [rls, h]
theorem rls_len (qs : List (Rl × Value)) : (rls qs).length = qs.length := by simp [rls]
theorem rls_app (a b : List (Rl × Value)) : rls (a ++ b) = rls a ++ rls b := by simp [rls]
theorem rcells_at {l : List (Rl × Value)} {k : Nat} {a : Rl × Value} (h : l[k]? = some a) {j : Nat} (hj : j < 4) : (rcells l)[k * 4 + j]? = (qcells a)[j]? := by
  unfold rcells
  induction l generalizing k with
  | nil => simp at h
  | cons b l ih =>
    rw [List.flatMap_cons]
    cases k with
    | zero =>
      simp at h
      subst h
      rw [List.getElem?_append_left (by simp [qcells]; omega)]
      simp
    | succ k =>
      rw [List.getElem?_append_right (by simp [qcells]; omega)]
      have e : (k + 1) * 4 + j - (qcells b).length = k * 4 + j := by simp [qcells]; omega
      rw [e]
      exact ih (by simpa using h)
theorem rcells_set {l : List (Rl × Value)} {k : Nat} {a b : Rl × Value} (h : l[k]? = some a) : rcells (l.set k b) = setL (rcells l) (k * 4) (qcells b) := by
  obtain ⟨bv, bt⟩ := b
  have e4 : ∀ (ys : List Value) (o : Nat), setL ys o (qcells (bv, bt)) = (((ys.set o (.int .i64 bv.v)).set (o + 1) (.int .i64 bv.lo)).set (o + 1 + 1) (.int .i64 bv.hi)).set (o + 1 + 1 + 1) bt := fun _ _ => rfl
  rw [e4]
  apply List.ext_getElem?
  intro i
  have hk : k < l.length := (List.getElem?_eq_some_iff.1 h).1
  have hl := rcells_len l
  by_cases hi : i / 4 = k
  · obtain ⟨j, rfl, hj⟩ : ∃ j, i = k * 4 + j ∧ j < 4 := ⟨i % 4, by omega, by omega⟩
    rw [rcells_at (a := (bv, bt)) (by rw [List.getElem?_set_self hk]) hj]
    match j, hj with
    | 0, _ => rw [List.getElem?_set_ne (by omega), List.getElem?_set_ne (by omega), List.getElem?_set_ne (by omega), Nat.add_zero, List.getElem?_set_self (by omega)]; rfl
    | 1, _ => rw [List.getElem?_set_ne (by omega), List.getElem?_set_ne (by omega), List.getElem?_set_self (by simp; omega)]; rfl
    | 2, _ => rw [List.getElem?_set_ne (by omega), List.getElem?_set_self (by simp; omega)]; rfl
    | 3, _ => rw [List.getElem?_set_self (by simp; omega)]; rfl
  · rw [List.getElem?_set_ne (by omega), List.getElem?_set_ne (by omega), List.getElem?_set_ne (by omega), List.getElem?_set_ne (by omega)]
    obtain ⟨j, hij, hj⟩ : ∃ j, i = (i / 4) * 4 + j ∧ j < 4 := ⟨i % 4, by omega, by omega⟩
    by_cases hlt : i / 4 < l.length
    · obtain ⟨x, hx⟩ := some_at (l := l) rfl hlt
      rw [hij, rcells_at (a := x) (by rw [List.getElem?_set_ne (by omega)]; exact hx) hj, rcells_at hx hj]
    · have hl2 := rcells_len (l.set k (bv, bt))
      rw [List.length_set] at hl2
      rw [List.getElem?_eq_none (by omega), List.getElem?_eq_none (by omega)]
theorem set_same {α : Type} {l : List α} {i : Nat} {a : α} (h : l[i]? = some a) : l.set i a = l := by
  apply List.ext_getElem?
  intro j
  by_cases hij : i = j
  · subst hij
    rw [List.getElem?_set_self (List.getElem?_eq_some_iff.1 h).1, h]
  · rw [List.getElem?_set_ne hij]
/-- Tests of a rule, in a row of their own. -/
structure TO (w : World) (lo hi ET : Nat) (q : Rl × Value) : Prop where
  own : w.ownsRow lo ET 4 q.2 q.1.ts.length (tsts q.1.ts)
  high : ∀ g, q.2.ownBlock = some g → g < hi
/-- No two have their tests in one block. -/
def Apart (qs : List (Rl × Value)) : Prop := ∀ (i j : Nat) (q q' : Rl × Value), i < j → qs[i]? = some q → qs[j]? = some q' → q.2.ownBlock = none ∨ q.2.ownBlock ≠ q'.2.ownBlock
/-- A policy's rules in memory of its own, from block lo on, below block hi. -/
structure OP (w : World) (lo hi ER ET : Nat) (A : Option Addr) (n c : Nat) (qs : List (Rl × Value)) : Prop where
  own : w.ownsRow lo ER 4 (.slice A n c) n (rcells qs)
  high : ∀ g, (Value.slice A n c).ownBlock = some g → g < hi
  tst : ∀ q ∈ qs, TO w lo hi ET q
section
variable {w w' : World} {lo hi lo' hi' ER ET n c : Nat} {A : Option Addr} {qs : List (Rl × Value)} {q : Rl × Value}
theorem TO.wide (h : TO w lo hi ET q) (h1 : lo' ≤ lo) (h2 : hi ≤ hi') : TO w lo' hi' ET q := ⟨own_base h.own h1, fun g hg => Nat.lt_of_lt_of_le (h.high g hg) h2⟩
theorem TO.lt (h : TO w lo hi ET q) (g : Nat) (hg : q.2.ownBlock = some g) : lo ≤ g ∧ g < w.heap.size := h.own.lt g hg
theorem TO.keep (h : TO w lo hi ET q) {ok : Nat → Prop} (k : Keep w w' ok) (hr : ∀ t, lo ≤ t → t < hi → ok t) : TO w' lo hi ET q := ⟨k.own h.own (fun t ht => hr t (h.lt t ht).1 (h.high t ht)), h.high⟩
theorem TO.up (h : TO w lo hi ET q) (hb : Below w.heap.size w w') : TO w' lo hi ET q := ⟨own_up h.own hb, h.high⟩
theorem OP.len (h : OP w lo hi ER ET A n c qs) : qs.length = n := by have := h.own.1; rw [rcells_len] at this; omega
theorem OP.wide (h : OP w lo hi ER ET A n c qs) (h1 : lo' ≤ lo) (h2 : hi ≤ hi') : OP w lo' hi' ER ET A n c qs := ⟨own_base h.own h1, fun g hg => Nat.lt_of_lt_of_le (h.high g hg) h2, fun q hq => (h.tst q hq).wide h1 h2⟩
theorem OP.lt (h : OP w lo hi ER ET A n c qs) (g : Nat) (hg : (Value.slice A n c).ownBlock = some g) : lo ≤ g ∧ g < w.heap.size := h.own.lt g hg
theorem OP.keep (h : OP w lo hi ER ET A n c qs) {ok : Nat → Prop} (k : Keep w w' ok) (hr : ∀ t, lo ≤ t → t < hi → ok t) : OP w' lo hi ER ET A n c qs :=
  ⟨k.own h.own (fun t ht => hr t (h.lt t ht).1 (h.high t ht)), h.high, fun q hq => (h.tst q hq).keep k hr⟩
theorem OP.up (h : OP w lo hi ER ET A n c qs) (hb : Below w.heap.size w w') : OP w' lo hi ER ET A n c qs := ⟨own_up h.own hb, h.high, fun q hq => (h.tst q hq).up hb⟩
theorem OP.nil_ (w : World) (lo hi ER ET : Nat) : OP w lo hi ER ET none 0 0 [] := ⟨World.ownsRow_nil _ _ _ _, (fun g hg => by cases hg), (fun q hq => by cases hq)⟩
theorem OP.cap (h : OP w lo hi ER ET A n c qs) : n ≤ maxLen := own_cap h.own
/-- How such rules read: all of it lies below hi. -/
theorem OP.rdB (h : OP w lo hi ER ET A n c qs) : RdR w hi A n (rls qs) := by
  have hl := h.len
  refine ⟨by rw [rls_len]; exact hl, fun hn => ?_⟩
  rcases h.own.2 with ⟨_, h0⟩ | ⟨g, cap, cur, hv, _⟩
  · omega
  · have hA : A = some ⟨g, 0, none⟩ := by injection hv
    subst hA
    refine ⟨g, 0, rfl, h.high g rfl, fun j r hr => ?_⟩
    have hj : j < qs.length := by have := (List.getElem?_eq_some_iff.1 hr).1; rwa [rls_len] at this
    obtain ⟨q, hq⟩ := some_at (l := qs) rfl hj
    have e := rls_at hq
    rw [hr] at e
    injection e with e
    subst e
    have ht := h.tst q (List.mem_of_getElem? hq)
    obtain ⟨TA, tc, htv⟩ := own_slice ht.own
    have cell : ∀ i u, i < 4 → (qcells q)[i]? = some u → w.cell? ⟨g, 0 + j * 4 + i, none⟩ = some u := fun i u hi hu => by
      have := h.own.cells (g := g) rfl (j * 4 + i) u (by rw [rcells_at hq hi]; exact hu)
      rw [add_zero_block] at this
      rw [Nat.zero_add]
      exact this
    have ho := ht.own
    rw [htv] at ho
    have hrd := Rd.of_own ho
    refine ⟨TA, tc, cell 0 _ (by omega) rfl, cell 1 _ (by omega) rfl, cell 2 _ (by omega) rfl, by have := cell 3 _ (by omega) rfl; rw [htv] at this; exact this, ⟨hrd.1, fun hn => ?_⟩, by have := own_cap ho; unfold maxLen at this; omega⟩
    obtain ⟨b, off, e, hlt, hc⟩ := hrd.2 hn
    refine ⟨b, off, e, ht.high b ?_, hc⟩
    rw [htv, e]; rfl
theorem OP.rd (h : OP w lo hi ER ET A n c qs) : RdR w w.heap.size A n (rls qs) :=
  OP.rdB (hi := w.heap.size) (lo := lo) (c := c) ⟨h.own, fun g hg => (h.lt g hg).2, fun q hq => ⟨(h.tst q hq).own, fun g hg => ((h.tst q hq).lt g hg).2⟩⟩
/-- The four cells of the k-th rule, and its tests. -/
theorem OP.at_ (h : OP w lo hi ER ET A n c qs) {k : Nat} (hk : k < n) : ∃ g q TA tc, A = some ⟨g, 0, none⟩ ∧ lo ≤ g ∧ g < hi ∧ g < w.heap.size ∧ qs[k]? = some q ∧ q.2 = .slice TA q.1.ts.length tc ∧ w.cell? ⟨g, k * 4, none⟩ = some (.int .i64 q.1.v) ∧ w.cell? ⟨g, k * 4 + 1, none⟩ = some (.int .i64 q.1.lo) ∧ w.cell? ⟨g, k * 4 + 2, none⟩ = some (.int .i64 q.1.hi) ∧ w.cell? ⟨g, k * 4 + 3, none⟩ = some (.slice TA q.1.ts.length tc) ∧ (∀ j, w.frozen? ⟨g, j, none⟩ = false) ∧ q.1.ts.length ≤ 9223372036854775807 := by
  rcases h.own.2 with ⟨_, h0⟩ | ⟨g, cap, cur, hv, hlo, _⟩
  · omega
  · have hA : A = some ⟨g, 0, none⟩ := by injection hv
    subst hA
    obtain ⟨q, hq⟩ := some_at h.len hk
    have ht := h.tst q (List.mem_of_getElem? hq)
    obtain ⟨TA, tc, htv⟩ := own_slice ht.own
    have cell : ∀ i u, i < 4 → (qcells q)[i]? = some u → w.cell? ⟨g, k * 4 + i, none⟩ = some u := fun i u hi hu => by
      have := h.own.cells (g := g) rfl (k * 4 + i) u (by rw [rcells_at hq hi]; exact hu)
      rw [add_zero_block] at this
      exact this
    have ho := h.own
    have hcap : c = cap := by injection hv
    subst hcap
    exact ⟨g, q, TA, tc, rfl, hlo, h.high g rfl, (h.lt g rfl).2, hq, htv, cell 0 _ (by omega) rfl, cell 1 _ (by omega) rfl, cell 2 _ (by omega) rfl, by have := cell 3 _ (by omega) rfl; rw [htv] at this; exact this, fun j => ho.frozenAt j, by have := own_cap ht.own; unfold maxLen at this; omega⟩
end
section
variable {w w' : World} {lo hi ER ET g n c : Nat} {qs : List (Rl × Value)}
/-- Some cells of the rules' row written anew. -/
theorem OP.cells (h : OP w lo hi ER ET (some ⟨g, 0, none⟩) n c qs) (hE : ER ≠ ET) {o : Nat} {cs : List Value} {qs' : List (Rl × Value)} (he : setL (rcells qs) o cs = rcells qs') (ht : ∀ q ∈ qs', TO w lo hi ET q) : OP (setCells w g o cs) lo hi ER ET (some ⟨g, 0, none⟩) n c qs' := by
  have hS := own_setL h.own o cs
  have key : ∀ x, TO w lo hi ET x → TO (setCells w g o cs) lo hi ET x := fun x hx => by
    have hne := own_unlike h.own hx.own hE g rfl
    have : ∀ (cs : List Value) (o : Nat) (w : World), w.ownsRow lo ET 4 x.2 x.1.ts.length (tsts x.1.ts) → (setCells w g o cs).ownsRow lo ET 4 x.2 x.1.ts.length (tsts x.1.ts) := by
      intro cs
      induction cs with
      | nil => intro o w h; exact h
      | cons u cs ih =>
        intro o w h
        refine ih (o + 1) _ ((Keep.set_ (ok := fun t => t ≠ g) (Keep.refl w _) u (fun t ht _ e => ht e.symm)).own h (fun t ht e => hne (by rw [ht, e])))
    exact ⟨this _ _ _ hx.own, hx.high⟩
  exact ⟨by rw [← he]; exact hS, h.high, fun x hx => key x (ht x hx)⟩
/-- A rule's four cells written anew; its tests may be other ones. -/
theorem OP.put (h : OP w lo hi ER ET (some ⟨g, 0, none⟩) n c qs) (hE : ER ≠ ET) {k : Nat} {a q : Rl × Value} (hk : qs[k]? = some a) (hq : TO w lo hi ET q) : OP (setCells w g (k * 4) (qcells q)) lo hi ER ET (some ⟨g, 0, none⟩) n c (qs.set k q) :=
  h.cells hE (rcells_set hk).symm fun x hx => by
    rcases List.mem_or_eq_of_mem_set hx with hx | rfl
    · exact h.tst x hx
    · exact hq
/-- A rule's three numbers written anew. -/
theorem OP.put3 (h : OP w lo hi ER ET (some ⟨g, 0, none⟩) n c qs) (hE : ER ≠ ET) {k : Nat} {a : Rl × Value} (hk : qs[k]? = some a) (v l u : Int) : OP (setCells w g (k * 4) [.int .i64 v, .int .i64 l, .int .i64 u]) lo hi ER ET (some ⟨g, 0, none⟩) n c (qs.set k (⟨v, l, u, a.1.ts⟩, a.2)) := by
  refine h.cells hE ?_ fun x hx => ?_
  · rw [rcells_set hk]
    show _ = (setL (rcells qs) (k * 4) [.int .i64 v, .int .i64 l, .int .i64 u]).set (k * 4 + 1 + 1 + 1) a.2
    have hl := rcells_len qs
    have hkl : k < qs.length := (List.getElem?_eq_some_iff.1 hk).1
    rw [setL, setL, setL, setL]
    refine (set_same ?_).symm
    rw [List.getElem?_set_ne (by omega), List.getElem?_set_ne (by omega), List.getElem?_set_ne (by omega)]
    exact rcells_at hk (j := 3) (by omega)
  · rcases List.mem_or_eq_of_mem_set hx with hx | rfl
    · exact h.tst x hx
    · have := h.tst a (List.mem_of_getElem? hk)
      exact ⟨this.own, this.high⟩
/-- A rule's verdict written anew. -/
theorem OP.put1 (h : OP w lo hi ER ET (some ⟨g, 0, none⟩) n c qs) (hE : ER ≠ ET) {k : Nat} {a : Rl × Value} (hk : qs[k]? = some a) (v : Int) : OP (w.setCell ⟨g, k * 4, none⟩ (.int .i64 v)) lo hi ER ET (some ⟨g, 0, none⟩) n c (qs.set k (⟨v, a.1.lo, a.1.hi, a.1.ts⟩, a.2)) := by
  refine h.cells (o := k * 4) (cs := [.int .i64 v]) hE ?_ fun x hx => ?_
  · rw [rcells_set hk]
    show (rcells qs).set (k * 4) (.int .i64 v) = ((((rcells qs).set (k * 4) (.int .i64 v)).set (k * 4 + 1) (.int .i64 a.1.lo)).set (k * 4 + 1 + 1) (.int .i64 a.1.hi)).set (k * 4 + 1 + 1 + 1) a.2
    have r1 := rcells_at hk (j := 1) (by omega)
    have r2 := rcells_at hk (j := 2) (by omega)
    have r3 := rcells_at hk (j := 3) (by omega)
    rw [set_same (l := (rcells qs).set (k * 4) (.int .i64 v)) (by rw [List.getElem?_set_ne (by omega)]; exact r1), set_same (l := (rcells qs).set (k * 4) (.int .i64 v)) (by rw [List.getElem?_set_ne (by omega)]; exact r2), set_same (l := (rcells qs).set (k * 4) (.int .i64 v)) (by rw [List.getElem?_set_ne (by omega)]; exact r3)]
  · rcases List.mem_or_eq_of_mem_set hx with hx | rfl
    · exact h.tst x hx
    · have := h.tst a (List.mem_of_getElem? hk)
      exact ⟨this.own, this.high⟩
end
theorem Apart.nil_ : Apart [] := fun i j q q' _ h => by simp at h
theorem Apart.add {qs : List (Rl × Value)} {q : Rl × Value} (h : Apart qs) (hq : ∀ x ∈ qs, x.2.ownBlock = none ∨ x.2.ownBlock ≠ q.2.ownBlock) : Apart (qs ++ [q]) := by
  intro i j a b hij ha hb
  have hj := (List.getElem?_eq_some_iff.1 hb).1
  simp at hj
  rw [List.getElem?_append_left (by omega)] at ha
  by_cases hjl : j < qs.length
  · rw [List.getElem?_append_left hjl] at hb
    exact h i j a b hij ha hb
  · rw [List.getElem?_append_right (by omega), show j - qs.length = 0 from by omega] at hb
    simp at hb
    subst hb
    exact hq a (List.mem_of_getElem? ha)
theorem Apart.app {qs qs' : List (Rl × Value)} (h : Apart qs) (h' : Apart qs') (hq : ∀ x ∈ qs, ∀ y ∈ qs', x.2.ownBlock = none ∨ x.2.ownBlock ≠ y.2.ownBlock) : Apart (qs ++ qs') := by
  induction qs' generalizing qs with
  | nil => simpa using h
  | cons y ys ih =>
    rw [show qs ++ y :: ys = (qs ++ [y]) ++ ys from by simp]
    have hy : Apart ys := fun i j a b hij ha hb => h' (i + 1) (j + 1) a b (by omega) (by simpa using ha) (by simpa using hb)
    refine ih (h.add fun x hx => hq x hx y (by simp)) hy fun x hx z hz => ?_
    rcases List.mem_append.1 hx with hx | hx
    · exact hq x hx z (by simp [hz])
    · simp at hx
      subst hx
      obtain ⟨k, hk⟩ := List.mem_iff_getElem?.1 hz
      exact h' 0 (k + 1) x z (by omega) (by simp) (by simpa using hk)
theorem Apart.set {qs : List (Rl × Value)} {k : Nat} {a q : Rl × Value} (h : Apart qs) (hk : qs[k]? = some a) (e : q.2 = a.2) : Apart (qs.set k q) := by
  intro i j x y hij hx hy
  have key : ∀ (i : Nat) (x : Rl × Value), (qs.set k q)[i]? = some x → ∃ x', qs[i]? = some x' ∧ x'.2 = x.2 := fun i x hx => by
    by_cases hik : k = i
    · subst hik
      rw [List.getElem?_set_self (List.getElem?_eq_some_iff.1 hk).1] at hx
      injection hx with hx
      exact ⟨a, hk, by rw [← e, hx]⟩
    · rw [List.getElem?_set_ne hik] at hx
      exact ⟨x, hx, rfl⟩
  obtain ⟨x', hx', ex⟩ := key i x hx
  obtain ⟨y', hy', ey⟩ := key j y hy
  have := h i j x' y' hij hx' hy'
  rwa [ex, ey] at this
theorem Apart.sub {qs qs' : List (Rl × Value)} (h : Apart qs) (hs : qs'.Sublist qs) : Apart qs' := by
  have h1 : qs.Pairwise (fun a b => a.2.ownBlock = none ∨ a.2.ownBlock ≠ b.2.ownBlock) := by
    rw [List.pairwise_iff_getElem]
    intro i j hi hj hij
    exact h i j _ _ hij (by simp [hi]) (by simp [hj])
  have h2 := h1.sublist hs
  rw [List.pairwise_iff_getElem] at h2
  intro i j a b hij ha hb
  obtain ⟨hi, ea⟩ := List.getElem?_eq_some_iff.1 ha
  obtain ⟨hj, eb⟩ := List.getElem?_eq_some_iff.1 hb
  rw [← ea, ← eb]
  exact h2 i j hi hj hij
end Go.Proofs.YtmfienlceobfeaaDoor
