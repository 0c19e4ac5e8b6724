/- Parts of laws in one text. Conditions: each lemma's own. -/
import Derived.Test.YtflhniobbdanjaaDoorJ559e663008
namespace Go.Proofs.YtflhniobbdanjaaDoor
set_option linter.unusedSimpArgs false
open Go.RowKit
set_option linter.unusedVariables false
set_option linter.unnecessarySimpa false
/-- From w to w' nothing has turned in the blocks that ok names. -/
structure Keep (w w' : World) (ok : Nat → Prop) : Prop where
  os : w'.os = w.os
  tape : w'.tape = w.tape
  output : w'.output = w.output
  size : w.heap.size ≤ w'.heap.size
  block : ∀ t, t < w.heap.size → ok t → w'.heap[t]? = w.heap[t]?
section
variable {w w' w2 : World} {ok ok2 : Nat → Prop}
theorem Keep.refl (w : World) (ok : Nat → Prop) : Keep w w ok := ⟨rfl, rfl, rfl, Nat.le_refl _, fun _ _ _ => rfl⟩
theorem Keep.grown (h : Keep w w' ok) {row : Option Nat} (hg : w'.grownBy w2 row) (hr : ∀ t, ok t → t < w.heap.size → row ≠ some t) : Keep w w2 ok :=
  ⟨hg.os.trans h.os, hg.tape.trans h.tape, hg.output.trans h.output, Nat.le_trans h.size hg.size, fun t ht ho => (hg.block t (Nat.lt_of_lt_of_le ht h.size) (fun e => hr t ho ht e.symm)).trans (h.block t ht ho)⟩
theorem Keep.set_ (h : Keep w w' ok) {g o : Nat} (u : Value) (hr : ∀ t, ok t → t < w.heap.size → g ≠ t) : Keep w (w'.setCell ⟨g, o, none⟩ u) ok :=
  h.grown (row := some g) ⟨rfl, rfl, rfl, by simp, fun k _ hk => heap_setCell_other w' ⟨g, o, none⟩ k u (fun e => hk (by simp [e]))⟩ (fun t ho ht e => hr t ho ht (by injection e))
theorem Keep.trans (h : Keep w w' ok) (k : Keep w' w2 ok2) (hr : ∀ t, ok t → t < w.heap.size → ok2 t) : Keep w w2 ok :=
  ⟨k.os.trans h.os, k.tape.trans h.tape, k.output.trans h.output, Nat.le_trans h.size k.size, fun t ht ho => (k.block t (Nat.lt_of_lt_of_le ht h.size) (hr t ho ht)).trans (h.block t ht ho)⟩
theorem Keep.less (h : Keep w w' ok) (hr : ∀ t, ok2 t → t < w.heap.size → ok t) : Keep w w' ok2 := ⟨h.os, h.tape, h.output, h.size, fun t ht ho => h.block t ht (hr t ho ht)⟩
theorem Keep.below (h : Keep w w' ok) {B : Nat} (hB : B ≤ w.heap.size) (hr : ∀ t, t < B → ok t) : Below B w w' := ⟨h.os, h.tape, h.output, h.size, fun t ht => h.block t (by omega) (hr t ht)⟩
theorem Keep.of_below {B : Nat} (h : Below B w w') (hr : ∀ t, ok t → t < w.heap.size → t < B) : Keep w w' ok := ⟨h.os, h.tape, h.output, h.size, fun t ht ho => h.block t (hr t ho ht)⟩
theorem Keep.own (h : Keep w w' ok) {base e size n : Nat} {v : Value} {xs : List Value} (ho : w.ownsRow base e size v n xs) (hr : ∀ t, v.ownBlock = some t → ok t) : w'.ownsRow base e size v n xs := by
  refine ⟨ho.1, ?_⟩
  rcases ho.2 with hn | ⟨g, cap, cur, rfl, hb, hgg, rest⟩
  · exact .inl hn
  · exact .inr ⟨g, cap, cur, rfl, hb, by rw [h.block g (Array.getElem?_eq_some_iff.1 hgg).1 (hr g rfl)]; exact hgg, rest⟩
theorem Keep.blk (h : Keep w w' ok) {g t : Nat} {cs : List Value} (hb : Blk w g t cs) (hr : ok g) : Blk w' g t cs := (h.block g hb.lt hr).trans hb
end
theorem own_slice {w : World} {base e size n : Nat} {v : Value} {xs : List Value} (h : w.ownsRow base e size v n xs) : ∃ A c, v = .slice A n c := by
  rcases h.2 with ⟨h1, h2⟩ | ⟨g, cap, cur, rfl, _⟩
  · exact ⟨none, 0, by rw [h1, h2]⟩
  · exact ⟨_, _, rfl⟩
theorem own_cap {w : World} {base e size n : Nat} {v : Value} {xs : List Value} (h : w.ownsRow base e size v n xs) : n ≤ maxLen := by
  rcases h.2 with ⟨h1, h2⟩ | ⟨g, cap, cur, rfl, _, _, h3, h4, _⟩
  · rw [h2]; exact Nat.zero_le _
  · omega
/-- Two rows of unlike element types lie in two blocks. -/
theorem own_unlike {w : World} {base base' e e' size size' n n' : Nat} {v v' : Value} {xs xs' : List Value} (h : w.ownsRow base e size v n xs) (h' : w.ownsRow base' e' size' v' n' xs') (hne : e ≠ e') (g : Nat) (hg : v.ownBlock = some g) : v'.ownBlock ≠ some g := by
  intro hg'
  rcases h.2 with ⟨h1, _⟩ | ⟨g1, c1, cur1, rfl, _, hh1, _⟩
  · rw [h1] at hg; cases hg
  rcases h'.2 with ⟨h1, _⟩ | ⟨g2, c2, cur2, rfl, _, hh2, _⟩
  · rw [h1] at hg'; cases hg'
  have e1 : g1 = g := by injection hg
  have e2 : g2 = g := by injection hg'
  subst e1 e2
  rw [hh1] at hh2
  injection hh2 with hh2
  injection hh2 with _ e3 _
  exact hne e3
/-- A rule with the value of its tests. -/
def qcells (q : Rl × Value) : List Value := [.int .i64 q.1.v, .int .i64 q.1.lo, .int .i64 q.1.hi, q.2]
def rcells (qs : List (Rl × Value)) : List Value := qs.flatMap qcells
def rls (qs : List (Rl × Value)) : List Rl := qs.map Prod.fst
theorem rcells_len (qs : List (Rl × Value)) : (rcells qs).length = qs.length * 4 := by
  unfold rcells
  induction qs with
  | nil => rfl
  | cons p ps ih => rw [List.flatMap_cons, List.length_append, ih, List.length_cons]; simp [qcells]; omega
theorem rcells_add (qs : List (Rl × Value)) (q : Rl × Value) : rcells (qs ++ [q]) = rcells qs ++ qcells q := by simp [rcells]
theorem rcells_app (qs qs' : List (Rl × Value)) : rcells (qs ++ qs') = rcells qs ++ rcells qs' := by simp [rcells]
theorem rls_at {qs : List (Rl × Value)} {k : Nat} {q : Rl × Value} (h : qs[k]? = some q) : (rls qs)[k]? = some q.1 := by simp [rls, h]
theorem rls_len (qs : List (Rl × Value)) : (rls qs).length = qs.length := by simp [rls]
theorem rls_app (a b : List (Rl × Value)) : rls (a ++ b) = rls a ++ rls b := by simp [rls]
theorem rcells_at {l : List (Rl × Value)} {k : Nat} {a : Rl × Value} (h : l[k]? = some a) {j : Nat} (hj : j < 4) : (rcells l)[k * 4 + j]? = (qcells a)[j]? := by
  unfold rcells
  induction l generalizing k with
  | nil => simp at h
  | cons b l ih =>
    rw [List.flatMap_cons]
    cases k with
    | zero =>
      simp at h
      subst h
      rw [List.getElem?_append_left (by simp [qcells]; omega)]
      simp
    | succ k =>
      rw [List.getElem?_append_right (by simp [qcells]; omega)]
      have e : (k + 1) * 4 + j - (qcells b).length = k * 4 + j := by simp [qcells]; omega
      rw [e]
      exact ih (by simpa using h)
theorem rcells_set {l : List (Rl × Value)} {k : Nat} {a b : Rl × Value} (h : l[k]? = some a) : rcells (l.set k b) = setL (rcells l) (k * 4) (qcells b) := by
  obtain ⟨bv, bt⟩ := b
  have e4 : ∀ (ys : List Value) (o : Nat), setL ys o (qcells (bv, bt)) = (((ys.set o (.int .i64 bv.v)).set (o + 1) (.int .i64 bv.lo)).set (o + 1 + 1) (.int .i64 bv.hi)).set (o + 1 + 1 + 1) bt := fun _ _ => rfl
  rw [e4]
  apply List.ext_getElem?
  intro i
  have hk : k < l.length := (List.getElem?_eq_some_iff.1 h).1
  have hl := rcells_len l
  by_cases hi : i / 4 = k
  · obtain ⟨j, rfl, hj⟩ : ∃ j, i = k * 4 + j ∧ j < 4 := ⟨i % 4, by omega, by omega⟩
    rw [rcells_at (a := (bv, bt)) (by rw [List.getElem?_set_self hk]) hj]
    match j, hj with
    | 0, _ => rw [List.getElem?_set_ne (by omega), List.getElem?_set_ne (by omega), List.getElem?_set_ne (by omega), Nat.add_zero, List.getElem?_set_self (by omega)]; rfl
    | 1, _ => rw [List.getElem?_set_ne (by omega), List.getElem?_set_ne (by omega), List.getElem?_set_self (by simp; omega)]; rfl
    | 2, _ => rw [List.getElem?_set_ne (by omega), List.getElem?_set_self (by simp; omega)]; rfl
    | 3, _ => rw [List.getElem?_set_self (by simp; omega)]; rfl
  · rw [List.getElem?_set_ne (by omega), List.getElem?_set_ne (by omega), List.getElem?_set_ne (by omega), List.getElem?_set_ne (by omega)]
    obtain ⟨j, hij, hj⟩ : ∃ j, i = (i / 4) * 4 + j ∧ j < 4 := ⟨i % 4, by omega, by omega⟩
    by_cases hlt : i / 4 < l.length
    · obtain ⟨x, hx⟩ := some_at (l := l) rfl hlt
      rw [hij, rcells_at (a := x) (by rw [List.getElem?_set_ne (by omega)]; exact hx) hj, rcells_at hx hj]
    · have hl2 := rcells_len (l.set k (bv, bt))
      rw [List.length_set] at hl2
      rw [List.getElem?_eq_none (by omega), List.getElem?_eq_none (by omega)]
theorem set_same {α : Type} {l : List α} {i : Nat} {a : α} (h : l[i]? = some a) : l.set i a = l := by
  apply List.ext_getElem?
  intro j
  by_cases hij : i = j
  · subst hij
    rw [List.getElem?_set_self (List.getElem?_eq_some_iff.1 h).1, h]
  · rw [List.getElem?_set_ne hij]
/-- Tests of a rule, in a row of their own. -/
structure TO (w : World) (lo hi ET : Nat) (q : Rl × Value) : Prop where
  own : w.ownsRow lo ET 4 q.2 q.1.ts.length (tsts q.1.ts)
  high : ∀ g, q.2.ownBlock = some g → g < hi
/-- No two have their tests in one block. -/
def Apart (qs : List (Rl × Value)) : Prop := ∀ (i j : Nat) (q q' : Rl × Value), i < j → qs[i]? = some q → qs[j]? = some q' → q.2.ownBlock = none ∨ q.2.ownBlock ≠ q'.2.ownBlock
/-- A policy's rules in memory of its own, from block lo on, below block hi. -/
structure OP (w : World) (lo hi ER ET : Nat) (A : Option Addr) (n c : Nat) (qs : List (Rl × Value)) : Prop where
  own : w.ownsRow lo ER 4 (.slice A n c) n (rcells qs)
  high : ∀ g, (Value.slice A n c).ownBlock = some g → g < hi
  tst : ∀ q ∈ qs, TO w lo hi ET q
section
variable {w w' : World} {lo hi lo' hi' ER ET n c : Nat} {A : Option Addr} {qs : List (Rl × Value)} {q : Rl × Value}
theorem TO.wide (h : TO w lo hi ET q) (h1 : lo' ≤ lo) (h2 : hi ≤ hi') : TO w lo' hi' ET q := ⟨own_base h.own h1, fun g hg => Nat.lt_of_lt_of_le (h.high g hg) h2⟩
theorem TO.lt (h : TO w lo hi ET q) (g : Nat) (hg : q.2.ownBlock = some g) : lo ≤ g ∧ g < w.heap.size := h.own.lt g hg
theorem TO.keep (h : TO w lo hi ET q) {ok : Nat → Prop} (k : Keep w w' ok) (hr : ∀ t, lo ≤ t → t < hi → ok t) : TO w' lo hi ET q := ⟨k.own h.own (fun t ht => hr t (h.lt t ht).1 (h.high t ht)), h.high⟩
theorem TO.up (h : TO w lo hi ET q) (hb : Below w.heap.size w w') : TO w' lo hi ET q := ⟨own_up h.own hb, h.high⟩
theorem OP.len (h : OP w lo hi ER ET A n c qs) : qs.length = n := by have := h.own.1; rw [rcells_len] at this; omega
theorem OP.wide (h : OP w lo hi ER ET A n c qs) (h1 : lo' ≤ lo) (h2 : hi ≤ hi') : OP w lo' hi' ER ET A n c qs := ⟨own_base h.own h1, fun g hg => Nat.lt_of_lt_of_le (h.high g hg) h2, fun q hq => (h.tst q hq).wide h1 h2⟩
theorem OP.lt (h : OP w lo hi ER ET A n c qs) (g : Nat) (hg : (Value.slice A n c).ownBlock = some g) : lo ≤ g ∧ g < w.heap.size := h.own.lt g hg
theorem OP.keep (h : OP w lo hi ER ET A n c qs) {ok : Nat → Prop} (k : Keep w w' ok) (hr : ∀ t, lo ≤ t → t < hi → ok t) : OP w' lo hi ER ET A n c qs :=
  ⟨k.own h.own (fun t ht => hr t (h.lt t ht).1 (h.high t ht)), h.high, fun q hq => (h.tst q hq).keep k hr⟩
theorem OP.up (h : OP w lo hi ER ET A n c qs) (hb : Below w.heap.size w w') : OP w' lo hi ER ET A n c qs := ⟨own_up h.own hb, h.high, fun q hq => (h.tst q hq).up hb⟩
theorem OP.nil_ (w : World) (lo hi ER ET : Nat) : OP w lo hi ER ET none 0 0 [] := ⟨World.ownsRow_nil _ _ _ _, (fun g hg => by cases hg), (fun q hq => by cases hq)⟩
theorem OP.cap (h : OP w lo hi ER ET A n c qs) : n ≤ maxLen := own_cap h.own
/-- How such rules read: all of it lies below hi. -/
theorem OP.rdB (h : OP w lo hi ER ET A n c qs) : RdR w hi A n (rls qs) := by
  have hl := h.len
  refine ⟨by rw [rls_len]; exact hl, fun hn => ?_⟩
  rcases h.own.2 with ⟨_, h0⟩ | ⟨g, cap, cur, hv, _⟩
  · omega
  · have hA : A = some ⟨g, 0, none⟩ := by injection hv
    subst hA
    refine ⟨g, 0, rfl, h.high g rfl, fun j r hr => ?_⟩
    have hj : j < qs.length := by have := (List.getElem?_eq_some_iff.1 hr).1; rwa [rls_len] at this
    obtain ⟨q, hq⟩ := some_at (l := qs) rfl hj
    have e := rls_at hq
    rw [hr] at e
    injection e with e
    subst e
    have ht := h.tst q (List.mem_of_getElem? hq)
    obtain ⟨TA, tc, htv⟩ := own_slice ht.own
    have cell : ∀ i u, i < 4 → (qcells q)[i]? = some u → w.cell? ⟨g, 0 + j * 4 + i, none⟩ = some u := fun i u hi hu => by
      have := h.own.cells (g := g) rfl (j * 4 + i) u (by rw [rcells_at hq hi]; exact hu)
      rw [add_zero_block] at this
      rw [Nat.zero_add]
      exact this
    have ho := ht.own
    rw [htv] at ho
    have hrd := Rd.of_own ho
    refine ⟨TA, tc, cell 0 _ (by omega) rfl, cell 1 _ (by omega) rfl, cell 2 _ (by omega) rfl, by have := cell 3 _ (by omega) rfl; rw [htv] at this; exact this, ⟨hrd.1, fun hn => ?_⟩, by have := own_cap ho; unfold maxLen at this; omega⟩
    obtain ⟨b, off, e, hlt, hc⟩ := hrd.2 hn
    refine ⟨b, off, e, ht.high b ?_, hc⟩
    rw [htv, e]; rfl
theorem OP.rd (h : OP w lo hi ER ET A n c qs) : RdR w w.heap.size A n (rls qs) :=
  OP.rdB (hi := w.heap.size) (lo := lo) (c := c) ⟨h.own, fun g hg => (h.lt g hg).2, fun q hq => ⟨(h.tst q hq).own, fun g hg => ((h.tst q hq).lt g hg).2⟩⟩
/-- The four cells of the k-th rule, and its tests. -/
theorem OP.at_ (h : OP w lo hi ER ET A n c qs) {k : Nat} (hk : k < n) : ∃ g q TA tc, A = some ⟨g, 0, none⟩ ∧ lo ≤ g ∧ g < hi ∧ g < w.heap.size ∧ qs[k]? = some q ∧ q.2 = .slice TA q.1.ts.length tc ∧ w.cell? ⟨g, k * 4, none⟩ = some (.int .i64 q.1.v) ∧ w.cell? ⟨g, k * 4 + 1, none⟩ = some (.int .i64 q.1.lo) ∧ w.cell? ⟨g, k * 4 + 2, none⟩ = some (.int .i64 q.1.hi) ∧ w.cell? ⟨g, k * 4 + 3, none⟩ = some (.slice TA q.1.ts.length tc) ∧ (∀ j, w.frozen? ⟨g, j, none⟩ = false) ∧ q.1.ts.length ≤ 9223372036854775807 := by
  rcases h.own.2 with ⟨_, h0⟩ | ⟨g, cap, cur, hv, hlo, _⟩
  · omega
  · have hA : A = some ⟨g, 0, none⟩ := by injection hv
    subst hA
    obtain ⟨q, hq⟩ := some_at h.len hk
    have ht := h.tst q (List.mem_of_getElem? hq)
    obtain ⟨TA, tc, htv⟩ := own_slice ht.own
    have cell : ∀ i u, i < 4 → (qcells q)[i]? = some u → w.cell? ⟨g, k * 4 + i, none⟩ = some u := fun i u hi hu => by
      have := h.own.cells (g := g) rfl (k * 4 + i) u (by rw [rcells_at hq hi]; exact hu)
      rw [add_zero_block] at this
      exact this
    have ho := h.own
    have hcap : c = cap := by injection hv
    subst hcap
    exact ⟨g, q, TA, tc, rfl, hlo, h.high g rfl, (h.lt g rfl).2, hq, htv, cell 0 _ (by omega) rfl, cell 1 _ (by omega) rfl, cell 2 _ (by omega) rfl, by have := cell 3 _ (by omega) rfl; rw [htv] at this; exact this, fun j => ho.frozenAt j, by have := own_cap ht.own; unfold maxLen at this; omega⟩
end
section
variable {w w' : World} {lo hi ER ET g n c : Nat} {qs : List (Rl × Value)}
/-- Some cells of the rules' row written anew. -/
theorem OP.cells (h : OP w lo hi ER ET (some ⟨g, 0, none⟩) n c qs) (hE : ER ≠ ET) {o : Nat} {cs : List Value} {qs' : List (Rl × Value)} (he : setL (rcells qs) o cs = rcells qs') (ht : ∀ q ∈ qs', TO w lo hi ET q) : OP (setCells w g o cs) lo hi ER ET (some ⟨g, 0, none⟩) n c qs' := by
  have hS := own_setL h.own o cs
  have key : ∀ x, TO w lo hi ET x → TO (setCells w g o cs) lo hi ET x := fun x hx => by
    have hne := own_unlike h.own hx.own hE g rfl
    have : ∀ (cs : List Value) (o : Nat) (w : World), w.ownsRow lo ET 4 x.2 x.1.ts.length (tsts x.1.ts) → (setCells w g o cs).ownsRow lo ET 4 x.2 x.1.ts.length (tsts x.1.ts) := by
      intro cs
      induction cs with
      | nil => intro o w h; exact h
      | cons u cs ih =>
        intro o w h
        refine ih (o + 1) _ ((Keep.set_ (ok := fun t => t ≠ g) (Keep.refl w _) u (fun t ht _ e => ht e.symm)).own h (fun t ht e => hne (by rw [ht, e])))
    exact ⟨this _ _ _ hx.own, hx.high⟩
  exact ⟨by rw [← he]; exact hS, h.high, fun x hx => key x (ht x hx)⟩
/-- A rule's four cells written anew; its tests may be other ones. -/
theorem OP.put (h : OP w lo hi ER ET (some ⟨g, 0, none⟩) n c qs) (hE : ER ≠ ET) {k : Nat} {a q : Rl × Value} (hk : qs[k]? = some a) (hq : TO w lo hi ET q) : OP (setCells w g (k * 4) (qcells q)) lo hi ER ET (some ⟨g, 0, none⟩) n c (qs.set k q) :=
  h.cells hE (rcells_set hk).symm fun x hx => by
    rcases List.mem_or_eq_of_mem_set hx with hx | rfl
    · exact h.tst x hx
    · exact hq
/-- A rule's three numbers written anew. -/
theorem OP.put3 (h : OP w lo hi ER ET (some ⟨g, 0, none⟩) n c qs) (hE : ER ≠ ET) {k : Nat} {a : Rl × Value} (hk : qs[k]? = some a) (v l u : Int) : OP (setCells w g (k * 4) [.int .i64 v, .int .i64 l, .int .i64 u]) lo hi ER ET (some ⟨g, 0, none⟩) n c (qs.set k (⟨v, l, u, a.1.ts⟩, a.2)) := by
  refine h.cells hE ?_ fun x hx => ?_
  · rw [rcells_set hk]
    show _ = (setL (rcells qs) (k * 4) [.int .i64 v, .int .i64 l, .int .i64 u]).set (k * 4 + 1 + 1 + 1) a.2
    have hl := rcells_len qs
    have hkl : k < qs.length := (List.getElem?_eq_some_iff.1 hk).1
    rw [setL, setL, setL, setL]
    refine (set_same ?_).symm
    rw [List.getElem?_set_ne (by omega), List.getElem?_set_ne (by omega), List.getElem?_set_ne (by omega)]
    exact rcells_at hk (j := 3) (by omega)
  · rcases List.mem_or_eq_of_mem_set hx with hx | rfl
    · exact h.tst x hx
    · have := h.tst a (List.mem_of_getElem? hk)
      exact ⟨this.own, this.high⟩
/-- A rule's verdict written anew. -/
theorem OP.put1 (h : OP w lo hi ER ET (some ⟨g, 0, none⟩) n c qs) (hE : ER ≠ ET) {k : Nat} {a : Rl × Value} (hk : qs[k]? = some a) (v : Int) : OP (w.setCell ⟨g, k * 4, none⟩ (.int .i64 v)) lo hi ER ET (some ⟨g, 0, none⟩) n c (qs.set k (⟨v, a.1.lo, a.1.hi, a.1.ts⟩, a.2)) := by
  refine h.cells (o := k * 4) (cs := [.int .i64 v]) hE ?_ fun x hx => ?_
  · rw [rcells_set hk]
    show (rcells qs).set (k * 4) (.int .i64 v) = ((((rcells qs).set (k * 4) (.int .i64 v)).set (k * 4 + 1) (.int .i64 a.1.lo)).set (k * 4 + 1 + 1) (.int .i64 a.1.hi)).set (k * 4 + 1 + 1 + 1) a.2
    have r1 := rcells_at hk (j := 1) (by omega)
    have r2 := rcells_at hk (j := 2) (by omega)
    have r3 := rcells_at hk (j := 3) (by omega)
    rw [set_same (l := (rcells qs).set (k * 4) (.int .i64 v)) (by rw [List.getElem?_set_ne (by omega)]; exact r1), set_same (l := (rcells qs).set (k * 4) (.int .i64 v)) (by rw [List.getElem?_set_ne (by omega)]; exact r2), set_same (l := (rcells qs).set (k * 4) (.int .i64 v)) (by rw [List.getElem?_set_ne (by omega)]; exact r3)]
  · rcases List.mem_or_eq_of_mem_set hx with hx | rfl
    · exact h.tst x hx
    · have := h.tst a (List.mem_of_getElem? hk)
      exact ⟨this.own, this.high⟩
end
theorem Apart.nil_ : Apart [] := fun i j q q' _ h => by simp at h
theorem Apart.add {qs : List (Rl × Value)} {q : Rl × Value} (h : Apart qs) (hq : ∀ x ∈ qs, x.2.ownBlock = none ∨ x.2.ownBlock ≠ q.2.ownBlock) : Apart (qs ++ [q]) := by
  intro i j a b hij ha hb
  have hj := (List.getElem?_eq_some_iff.1 hb).1
  simp at hj
  rw [List.getElem?_append_left (by omega)] at ha
  by_cases hjl : j < qs.length
  · rw [List.getElem?_append_left hjl] at hb
    exact h i j a b hij ha hb
  · rw [List.getElem?_append_right (by omega), show j - qs.length = 0 from by omega] at hb
    simp at hb
    subst hb
    exact hq a (List.mem_of_getElem? ha)
theorem Apart.app {qs qs' : List (Rl × Value)} (h : Apart qs) (h' : Apart qs') (hq : ∀ x ∈ qs, ∀ y ∈ qs', x.2.ownBlock = none ∨ x.2.ownBlock ≠ y.2.ownBlock) : Apart (qs ++ qs') := by
  induction qs' generalizing qs with
  | nil => simpa using h
  | cons y ys ih =>
    rw [show qs ++ y :: ys = (qs ++ [y]) ++ ys from by simp]
    have hy : Apart ys := fun i j a b hij ha hb => h' (i + 1) (j + 1) a b (by omega) (by simpa using ha) (by simpa using hb)
    refine ih (h.add fun x hx => hq x hx y (by simp)) hy fun x hx z hz => ?_
    rcases List.mem_append.1 hx with hx | hx
    · exact hq x hx z (by simp [hz])
    · simp at hx
      subst hx
      obtain ⟨k, hk⟩ := List.mem_iff_getElem?.1 hz
      exact h' 0 (k + 1) x z (by omega) (by simp) (by simpa using hk)
theorem Apart.set {qs : List (Rl × Value)} {k : Nat} {a q : Rl × Value} (h : Apart qs) (hk : qs[k]? = some a) (e : q.2 = a.2) : Apart (qs.set k q) := by
  intro i j x y hij hx hy
  have key : ∀ (i : Nat) (x : Rl × Value), (qs.set k q)[i]? = some x → ∃ x', qs[i]? = some x' ∧ x'.2 = x.2 := fun i x hx => by
    by_cases hik : k = i
    · subst hik
      rw [List.getElem?_set_self (List.getElem?_eq_some_iff.1 hk).1] at hx
      injection hx with hx
      exact ⟨a, hk, by rw [← e, hx]⟩
    · rw [List.getElem?_set_ne hik] at hx
      exact ⟨x, hx, rfl⟩
  obtain ⟨x', hx', ex⟩ := key i x hx
  obtain ⟨y', hy', ey⟩ := key j y hy
  have := h i j x' y' hij hx' hy'
  rwa [ex, ey] at this
theorem Apart.sub {qs qs' : List (Rl × Value)} (h : Apart qs) (hs : qs'.Sublist qs) : Apart qs' := by
  have h1 : qs.Pairwise (fun a b => a.2.ownBlock = none ∨ a.2.ownBlock ≠ b.2.ownBlock) := by
    rw [List.pairwise_iff_getElem]
    intro i j hi hj hij
    exact h i j _ _ hij (by simp [hi]) (by simp [hj])
  have h2 := h1.sublist hs
  rw [List.pairwise_iff_getElem] at h2
  intro i j a b hij ha hb
  obtain ⟨hi, ea⟩ := List.getElem?_eq_some_iff.1 ha
  obtain ⟨hj, eb⟩ := List.getElem?_eq_some_iff.1 hb
  rw [← ea, ← eb]
  exact h2 i j hi hj hij
end Go.Proofs.YtflhniobbdanjaaDoor
namespace Go.Proofs.YtflhniobbdanjaaDoor
set_option linter.unusedSimpArgs false
open Go.RowKit
set_option linter.unusedVariables false
set_option linter.unnecessarySimpa false
/-- Test j when tests are marked from k on. -/
def mtst (k : Int) (j : Nat) : Tst := ⟨k + 4 * (j : Int), k + 4 * (j : Int) + 1, k + 4 * (j : Int) + 1 + 1, k + 4 * (j : Int) + 1 + 1 + 1⟩
def mtsts (k : Int) (n : Nat) : List Tst := (List.range n).map (mtst k)
theorem mtsts_len (k : Int) (n : Nat) : (mtsts k n).length = n := by simp [mtsts]
theorem mtsts_succ (k : Int) (n : Nat) : tsts (mtsts k (n + 1)) = tsts (mtsts k n) ++ (mtst k n).cells := by
  rw [mtsts, List.range_succ, List.map_append]
  simp [tsts, mtsts]
theorem mtsts_at (k : Int) {n j : Nat} (h : j < n) : (mtsts k n)[j]? = some (mtst k j) := by simp [mtsts, h]
/-- Rules marked from k on. -/
def mq : Int → List (Rl × Value) → List (Rl × Value)
  | _, [] => []
  | k, q :: qs => (⟨k, k + 1, k + 1 + 1, mtsts (k + 1 + 1 + 1) q.1.ts.length⟩, q.2) :: mq (k + 3 + 4 * (q.1.ts.length : Int)) qs
/-- How many marks there are. -/
def cnt (qs : List (Rl × Value)) : Nat := (qs.map (fun q => 3 + 4 * q.1.ts.length)).sum
theorem cnt_add (qs : List (Rl × Value)) (q : Rl × Value) : cnt (qs ++ [q]) = cnt qs + (3 + 4 * q.1.ts.length) := by simp [cnt]
theorem cnt_take {qs : List (Rl × Value)} {k : Nat} {q : Rl × Value} (h : qs[k]? = some q) : cnt (qs.take (k + 1)) = cnt (qs.take k) + (3 + 4 * q.1.ts.length) := by
  rw [List.take_add_one, h]
  exact cnt_add _ _
theorem cnt_le {qs : List (Rl × Value)} {k : Nat} : cnt (qs.take k) ≤ cnt qs := by
  have h : cnt qs = cnt (qs.take k) + cnt (qs.drop k) := by
    rw [cnt, ← List.take_append_drop k qs, List.map_append, List.sum_append, List.take_append_drop]; rfl
  omega
theorem cnt_ruleN (qs : List (Rl × Value)) : cnt qs = 3 * qs.length + 4 * ruleN (rls qs) := by
  induction qs with
  | nil => rfl
  | cons q qs ih =>
    simp only [cnt, ruleN, rls, List.map_cons, List.sum_cons, List.length_cons, List.map_map] at ih ⊢
    rw [ih]; omega
theorem mq_len (k : Int) (qs : List (Rl × Value)) : (mq k qs).length = qs.length := by
  induction qs generalizing k with
  | nil => rfl
  | cons q qs ih => simp [mq, ih]
theorem mq_snd (k : Int) (qs : List (Rl × Value)) : (mq k qs).map Prod.snd = qs.map Prod.snd := by
  induction qs generalizing k with
  | nil => rfl
  | cons q qs ih => simp [mq, ih]
theorem mq_tsl (k : Int) (qs : List (Rl × Value)) : (mq k qs).map (fun q => q.1.ts.length) = qs.map (fun q => q.1.ts.length) := by
  induction qs generalizing k with
  | nil => rfl
  | cons q qs ih => simp [mq, ih, mtsts_len]
theorem mq_add (k : Int) (qs : List (Rl × Value)) (q : Rl × Value) : mq k (qs ++ [q]) = mq k qs ++ [(⟨k + (cnt qs : Int), k + (cnt qs : Int) + 1, k + (cnt qs : Int) + 1 + 1, mtsts (k + (cnt qs : Int) + 1 + 1 + 1) q.1.ts.length⟩, q.2)] := by
  induction qs generalizing k with
  | nil => simp [mq, cnt]
  | cons p qs ih =>
    have e : k + 3 + 4 * (p.1.ts.length : Int) + (cnt qs : Int) = k + (cnt (p :: qs) : Int) := by simp [cnt]; omega
    rw [List.cons_append, mq, ih, mq, e, List.cons_append]
theorem mq_at {k : Int} {qs : List (Rl × Value)} {j : Nat} {q : Rl × Value} (h : qs[j]? = some q) : (mq k qs)[j]? = some (⟨k + (cnt (qs.take j) : Int), k + (cnt (qs.take j) : Int) + 1, k + (cnt (qs.take j) : Int) + 1 + 1, mtsts (k + (cnt (qs.take j) : Int) + 1 + 1 + 1) q.1.ts.length⟩, q.2) := by
  induction qs generalizing k j with
  | nil => simp at h
  | cons p qs ih =>
    cases j with
    | zero =>
      simp at h
      subst h
      simp [mq, cnt]
    | succ j =>
      have := ih (k := k + 3 + 4 * (p.1.ts.length : Int)) (by simpa using h)
      have e : k + 3 + 4 * (p.1.ts.length : Int) + (cnt (qs.take j) : Int) = k + (cnt ((p :: qs).take (j + 1)) : Int) := by simp [cnt]; omega
      rw [e] at this
      simpa [mq] using this
theorem Apart.snd {qs qs' : List (Rl × Value)} (h : Apart qs) (e : qs'.map Prod.snd = qs.map Prod.snd) : Apart qs' := by
  intro i j a b hij ha hb
  have key : ∀ (i : Nat) (a : Rl × Value), qs'[i]? = some a → ∃ x, qs[i]? = some x ∧ x.2 = a.2 := fun i a ha => by
    have h1 : (qs'.map Prod.snd)[i]? = some a.2 := by simp [ha]
    rw [e] at h1
    simp only [List.getElem?_map, Option.map_eq_some_iff] at h1
    obtain ⟨x, hx, hx2⟩ := h1
    exact ⟨x, hx, hx2⟩
  obtain ⟨x, hx, ex⟩ := key i a ha
  obtain ⟨y, hy, ey⟩ := key j b hb
  have := h i j x y hij hx hy
  rwa [ex, ey] at this
theorem own_someP {w : World} {base e size n c : Nat} {A : Option Addr} {xs : List Value} (h : w.ownsRow base e size (.slice A n c) n xs) (hn : 0 < n) : ∃ g, A = some ⟨g, 0, none⟩ := by
  rcases h.2 with ⟨_, h0⟩ | ⟨g, cap, cur, hv, _⟩
  · omega
  · exact ⟨g, by injection hv⟩
set_option maxHeartbeats 1000000 in
set_option maxRecDepth 100000 in
theorem markTestS_c (base : Nat) (A : Option Addr) (n cap : Nat) (k : Int) (ys : List Value) (w : World) (h : w.ownsRow base 67 4 (.slice A n cap) n ys) (hk0 : 0 ≤ k) (hk : k + 4 * n ≤ 100000000) :
    Calls Tryd.prog 51 #[.slice A n cap, .int .i64 k] w (fun e w' => e = .returned (.int .i64 (k + 4 * (n : Int))) ∧ w'.ownsRow base 67 4 (.slice A n cap) n (tsts (mtsts k n)) ∧ Keep w w' (fun t => (Value.slice A n cap).ownBlock ≠ some t)) := by
  have H := Lib.hid h
  clear h
  go_enter Tryd.func51, Tryd.ntmps51
  go_wp2
  go_loopg [1, 5] n (fun gk q i wr => ∃ (j : Nat) (zs : List Value), gk + j = n ∧ i = .int .i64 j ∧ q = .int .i64 (k + 4 * (j : Int)) ∧ Hid (wr.ownsRow base 67 4 (.slice A n cap) n zs) ∧ Hid (zs.take (j * 4) = tsts (mtsts k j)) ∧ Hid (Keep w wr (fun t => (Value.slice A n cap).ownBlock ≠ some t)))
  case atStart => exact ⟨0, ys, rfl, rfl, by simp, H, Lib.hid (by simp [mtsts, tsts]), Keep.refl _ _⟩
  case round =>
    obtain ⟨j, zs, hgk, rfl, rfl, HO, HT, HG⟩ := hrel
    by_cases hlt : j < n
    · obtain ⟨gk, rfl⟩ : ∃ m, gk = m + 1 := ⟨gk - 1, by omega⟩
      obtain ⟨g, rfl⟩ := own_someP HO.out (by omega)
      obtain ⟨⟨y0, y1, y2, y3, e0, e1, e2, e3⟩, f1⟩ := own4 HO.out hlt
      have hgt : ∀ t, (Value.slice (some ⟨g, 0, none⟩) n cap).ownBlock ≠ some t → t < w.heap.size → g ≠ t := fun t ht _ e => ht (by rw [e]; rfl)
      have HGT := Lib.hid hgt
      clear hgt
      go_wp2
      go_roundg gk
      case measure => omega
      case rel =>
        go_light
        have hl := HO.out.1
        refine ⟨j + 1, setL zs (j * 4) (mtst k j).cells, by omega, by go_num, by go_num, own_setL HO.out (j * 4) (mtst k j).cells, ?_, (((HG.out.set_ (g := g) (o := j * 4) (.int .i64 (k + 4 * (j : Int))) HGT.out).set_ (g := g) (o := j * 4 + 1) (.int .i64 (k + 4 * (j : Int) + 1)) HGT.out).set_ (g := g) (o := j * 4 + 2) (.int .i64 (k + 4 * (j : Int) + 1 + 1)) HGT.out).set_ (g := g) (o := j * 4 + 3) (.int .i64 (k + 4 * (j : Int) + 1 + 1 + 1)) HGT.out⟩
        show _ = _
        have h1 := setL_take zs (j * 4) (mtst k j).cells (by rw [hl]; simp [Tst.cells]; omega)
        rw [mtsts_succ, ← HT.out, show (j + 1) * 4 = j * 4 + 4 from by omega]
        exact h1
    · obtain rfl : j = n := by omega
      go_wp2
      go_returns
      have ht := HT.out
      have hl := HO.out.1
      rw [List.take_of_length_le (by omega)] at ht
      subst ht
      exact ⟨rfl, HO.out, HG.out⟩
set_option maxHeartbeats 1000000 in
set_option maxRecDepth 100000 in
theorem heldTestS_c (A : Option Addr) (n c : Nat) (k : Int) (w : World) (hr : Rd w w.heap.size 4 A n (tsts (mtsts k n))) (hk0 : 0 ≤ k) (hk : k + 4 * n ≤ 100000000) :
    Calls Tryd.prog 52 #[.slice A n c, .int .i64 k] w (RetB (.int .i64 (k + 4 * (n : Int))) w) := by
  have HR := Lib.hid hr
  clear hr
  go_enter Tryd.func52, Tryd.ntmps52
  go_wp2
  go_loopg [1, 5] n (fun gk q i wr => ∃ (j : Nat), gk + j = n ∧ i = .int .i64 j ∧ q = .int .i64 (k + 4 * (j : Int)) ∧ Hid (Below w.heap.size w wr))
  case atStart => exact ⟨0, rfl, rfl, by simp, Lib.hid (Below.refl _ _)⟩
  case round =>
    obtain ⟨j, hgk, rfl, rfl, HB⟩ := hrel
    by_cases hlt : j < n
    · obtain ⟨gk, rfl⟩ : ∃ m, gk = m + 1 := ⟨gk - 1, by omega⟩
      obtain ⟨b0, off, p, rfl, hb, hp, c0, c1, c2, c3⟩ := (HR.out.below HB.out).tst hlt
      have he : p = mtst k j := by
        have := mtsts_at k hlt
        rw [hp] at this
        injection this
      subst he
      clear hp
      unfold mtst at c0 c1 c2 c3
      simp only at c0 c1 c2 c3
      go_wp2
      go_roundg gk
      case measure => omega
      case rel =>
        go_light
        exact ⟨j + 1, by omega, by go_num, by go_num, HB⟩
    · obtain rfl : j = n := by omega
      go_wp2
      go_returns
      exact ⟨rfl, HB.out⟩
/-- What marks on a policy's rules may turn. -/
theorem mark_step {w w1 : World} {lo hi g n c : Nat} {zs : List (Rl × Value)} {j : Nat} {q : Rl × Value} {k : Int} {TA : Option Addr} {tc : Nat} (h : OP w lo hi 40 67 (some ⟨g, 0, none⟩) n c zs) (ha : Apart zs) (hq : zs[j]? = some q) (e2 : q.2 = .slice TA q.1.ts.length tc)
    (o1 : w1.ownsRow lo 67 4 (.slice TA q.1.ts.length tc) q.1.ts.length (tsts (mtsts k q.1.ts.length))) (k1 : Keep w w1 (fun t => (Value.slice TA q.1.ts.length tc).ownBlock ≠ some t)) :
    OP w1 lo hi 40 67 (some ⟨g, 0, none⟩) n c (zs.set j (⟨q.1.v, q.1.lo, q.1.hi, mtsts k q.1.ts.length⟩, q.2)) := by
  have hqt := h.tst q (List.mem_of_getElem? hq)
  have hqo := hqt.own
  have hne := own_unlike h.own hqo (show 40 ≠ 67 by decide) g rfl
  refine ⟨?_, h.high, fun x hx => ?_⟩
  · have : rcells (zs.set j (⟨q.1.v, q.1.lo, q.1.hi, mtsts k q.1.ts.length⟩, q.2)) = rcells zs := by
      rw [rcells_set hq]
      apply List.ext_getElem?
      intro i
      have hk : j < zs.length := (List.getElem?_eq_some_iff.1 hq).1
      have hl := rcells_len zs
      have r0 := rcells_at hq (j := 0) (by omega)
      have r1 := rcells_at hq (j := 1) (by omega)
      have r2 := rcells_at hq (j := 2) (by omega)
      have r3 := rcells_at hq (j := 3) (by omega)
      show (setL (rcells zs) (j * 4) [.int .i64 q.1.v, .int .i64 q.1.lo, .int .i64 q.1.hi, q.2])[i]? = _
      simp only [setL]
      by_cases i3 : j * 4 + 1 + 1 + 1 = i
      · subst i3; rw [List.getElem?_set_self (by simp; omega)]; exact r3.symm
      rw [List.getElem?_set_ne i3]
      by_cases i2 : j * 4 + 1 + 1 = i
      · subst i2; rw [List.getElem?_set_self (by simp; omega)]; exact r2.symm
      rw [List.getElem?_set_ne i2]
      by_cases i1 : j * 4 + 1 = i
      · subst i1; rw [List.getElem?_set_self (by simp; omega)]; exact r1.symm
      rw [List.getElem?_set_ne i1]
      by_cases i0 : j * 4 = i
      · subst i0; rw [List.getElem?_set_self (by omega)]; exact r0.symm
      rw [List.getElem?_set_ne i0]
    rw [this]
    exact k1.own h.own (fun t ht e => by
      have : t = g := by injection ht with ht; exact ht.symm
      subst this
      rw [e2] at hne
      exact hne e)
  · have hcases : x = (⟨q.1.v, q.1.lo, q.1.hi, mtsts k q.1.ts.length⟩, q.2) ∨ (∃ i, i ≠ j ∧ zs[i]? = some x) := by
      obtain ⟨i, hi⟩ := List.mem_iff_getElem?.1 hx
      by_cases hij : j = i
      · subst hij
        rw [List.getElem?_set_self (List.getElem?_eq_some_iff.1 hq).1] at hi
        left; injection hi with hi; exact hi.symm
      · rw [List.getElem?_set_ne hij] at hi
        exact .inr ⟨i, fun e => hij e.symm, hi⟩
    rcases hcases with rfl | ⟨i, hij, hi⟩
    · refine ⟨?_, fun t ht => hqt.high t ht⟩
      show w1.ownsRow lo 67 4 q.2 (mtsts k q.1.ts.length).length (tsts (mtsts k q.1.ts.length))
      rw [mtsts_len, e2]
      exact o1
    · have hxt := h.tst x (List.mem_of_getElem? hi)
      refine ⟨k1.own hxt.own (fun t ht e => ?_), hxt.high⟩
      rw [← e2] at e
      rcases Nat.lt_or_gt_of_ne hij with hlt | hlt
      · rcases ha i j x q hlt hi hq with h1 | h1
        · rw [h1] at ht; cases ht
        · exact h1 (ht.trans e.symm)
      · rcases ha j i q x hlt hq hi with h1 | h1
        · rw [h1] at e; cases e
        · exact h1 (e.trans ht.symm)
set_option maxHeartbeats 1000000 in
set_option maxRecDepth 100000 in
theorem markRuleS_c (lo hi : Nat) (A : Option Addr) (n c : Nat) (k : Int) (qs : List (Rl × Value)) (w : World) (h : OP w lo hi 40 67 A n c qs) (ha : Apart qs) (hk0 : 0 ≤ k) (hk : k + cnt qs ≤ 10000000) :
    Calls Tryd.prog 28 #[.slice A n c, .int .i64 k] w (fun e w' => e = .returned (.int .i64 (k + (cnt qs : Int))) ∧ OP w' lo hi 40 67 A n c (mq k qs) ∧ Keep w w' (fun t => t < lo ∨ hi ≤ t)) := by
  have hn := h.len
  have hcap := h.cap
  unfold maxLen at hcap
  have H := Lib.hid h
  have HA := Lib.hid ha
  clear h ha
  go_enter Tryd.func28, Tryd.ntmps28
  go_wp2
  go_loopg [1, 5] n (fun gk q i wr => ∃ (j : Nat) (zs : List (Rl × Value)), gk + j = n ∧ i = .int .i64 j ∧ q = .int .i64 (k + (cnt (qs.take j) : Int)) ∧ Hid (OP wr lo hi 40 67 A n c zs) ∧ Hid (zs = mq k (qs.take j) ++ qs.drop j) ∧ Hid (Keep w wr (fun t => t < lo ∨ hi ≤ t)))
  case atStart => exact ⟨0, qs, rfl, rfl, by simp [cnt], H, Lib.hid (by simp [mq]), Keep.refl _ _⟩
  case round =>
    obtain ⟨j, zs, hgk, rfl, rfl, HO, HZ, HG⟩ := hrel
    have hcl := @cnt_le qs (j + 1)
    have hcl2 := @cnt_le qs j
    by_cases hlt : j < n
    · obtain ⟨gk, rfl⟩ : ∃ m, gk = m + 1 := ⟨gk - 1, by omega⟩
      obtain ⟨g, q, TA, tc, rfl, hlo, hhi, hgs, hq, e2, c0, c1, c2, c3, f1, hql⟩ := HO.out.at_ hlt
      have hzl : (mq k (qs.take j)).length = j := by rw [mq_len, List.length_take]; omega
      have hqq : qs[j]? = some q := by
        have := HZ.out
        rw [this, List.getElem?_append_right (by omega), hzl, Nat.sub_self, List.getElem?_drop] at hq
        simpa using hq
      have hct := cnt_take hqq
      have hsn : zs.map Prod.snd = qs.map Prod.snd := by
        rw [HZ.out, List.map_append, mq_snd, ← List.map_append, List.take_append_drop]
      have HQ := Lib.hid hq
      have HQQ := Lib.hid hqq
      have HE2 := Lib.hid e2
      have HAZ := Lib.hid (HA.out.snd hsn)
      have HCT := Lib.hid hct
      have hgt : ∀ t, (t < lo ∨ hi ≤ t) → t < w.heap.size → g ≠ t := fun t ht _ e => by omega
      have HGT := Lib.hid hgt
      have hbd : k + (cnt (qs.take j) : Int) + 1 + 1 + 1 + 4 * (q.1.ts.length : Int) ≤ 10000000 := by rw [hct] at hcl; omega
      clear hq hqq e2 hct hsn hgt hcl hzl
      generalize hK : k + (cnt (qs.take j) : Int) = K at *
      have hK0 : 0 ≤ K := by omega
      have HK := Lib.hid hK
      clear hK hcl2
      have hP3 := HO.out.put3 (show 40 ≠ 67 by decide) HQ.out K (K + 1) (K + 1 + 1)
      have HP3 := Lib.hid hP3
      have HK3 := Lib.hid (((HG.out.set_ (g := g) (o := j * 4) (.int .i64 K) HGT.out).set_ (g := g) (o := j * 4 + 1) (.int .i64 (K + 1)) HGT.out).set_ (g := g) (o := j * 4 + 2) (.int .i64 (K + 1 + 1)) HGT.out)
      have hq3 : (zs.set j (⟨K, K + 1, K + 1 + 1, q.1.ts⟩, q.2))[j]? = some (⟨K, K + 1, K + 1 + 1, q.1.ts⟩, q.2) := List.getElem?_set_self (List.getElem?_eq_some_iff.1 HQ.out).1
      have HQ3 := Lib.hid hq3
      have hT3 := (HP3.out.tst _ (List.mem_of_getElem? hq3)).own
      simp only [HE2.out] at hT3
      have HT3 := Lib.hid hT3
      have hAP := HAZ.out.set HQ.out (q := (⟨K, K + 1, K + 1 + 1, q.1.ts⟩, q.2)) rfl
      have HAP := Lib.hid hAP
      clear hP3 hT3 hAP hq3
      go_wp2_with (go_at_call 51; refine (markTestS_c lo TA q.1.ts.length tc (K + 1 + 1 + 1) _ _ HT3.out (by omega) (by omega)).mono ?_; rintro e w1 ⟨rfl, o1, k1⟩; have O1 := Lib.hid (mark_step HP3.out HAP.out HQ3.out HE2.out o1 k1); have K1 := Lib.hid (HK3.out.trans k1 (fun t ht _ e => by have h1 := (HO.out.tst q (List.mem_of_getElem? HQ.out)); rw [← HE2.out] at e; have := h1.high t e; have := (h1.lt t e).1; omega)); clear o1 k1)
      go_roundg gk
      case measure => omega
      case rel =>
        go_light
        refine ⟨j + 1, (zs.set j (⟨K, K + 1, K + 1 + 1, q.1.ts⟩, q.2)).set j (⟨K, K + 1, K + 1 + 1, mtsts (K + 1 + 1 + 1) q.1.ts.length⟩, q.2), by omega, by go_num, ?_, O1, ?_, K1⟩
        · have := HCT.out
          have := HK.out
          refine congrArg (Value.int .i64) ?_
          rw [HCT.out]; omega
        · show _ = _
          have hz := HZ.out
          have hqq := HQQ.out
          have hjl : j < qs.length := (List.getElem?_eq_some_iff.1 hqq).1
          have hd : qs.drop j = q :: qs.drop (j + 1) := by
            rw [List.drop_eq_getElem_cons hjl]
            congr 1
            have := List.getElem?_eq_getElem hjl
            rw [hqq] at this
            injection this with this
            exact this.symm
          rw [List.take_add_one, hqq, Option.toList_some, mq_add, HK.out, List.set_set, hz, hd]
          have hml : (mq k (qs.take j)).length = j := by rw [mq_len, List.length_take]; omega
          rw [List.set_append_right _ _ (by omega), hml, Nat.sub_self, List.set_cons_zero, List.append_assoc]
          rfl
    · obtain rfl : j = n := by omega
      go_wp2
      go_returns
      have hz := HZ.out
      rw [List.drop_of_length_le (by omega), List.take_of_length_le (by omega), List.append_nil] at hz
      subst hz
      rw [List.take_of_length_le (by omega)]
      exact ⟨rfl, HO.out, HG.out⟩
theorem markPolicy_c (lo hi : Nat) (A : Option Addr) (n c : Nat) (e k : Int) (qs : List (Rl × Value)) (w : World) (h : OP w lo hi 40 67 A n c qs) (ha : Apart qs) (hh : hi ≤ w.heap.size) (hk0 : 0 ≤ k) (hk : k + cnt qs ≤ 10000000) :
    Calls Tryd.prog 8 #[.agg #[.slice A n c, .int .i64 e], .int .i64 k] w (fun e w' => e = .returned (.int .i64 (k + (cnt qs : Int))) ∧ OP w' lo hi 40 67 A n c (mq k qs) ∧ Keep w w' (fun t => t < lo ∨ hi ≤ t)) := by
  have H := Lib.hid h
  have HA := Lib.hid ha
  clear h ha
  go_enter Tryd.func8, Tryd.ntmps8
  go_wp2_with (go_at_call 28; refine (markRuleS_c lo hi A n c k qs _ (H.out.up (by go_grown)) HA.out hk0 hk).mono ?_; rintro e w1 ⟨rfl, o1, k1⟩; have O1 := Lib.hid o1; have K1 := Lib.hid k1; clear o1 k1)
  go_returns
  refine ⟨rfl, O1.out, ?_⟩
  exact (Keep.of_below (ok := fun t => t < lo ∨ hi ≤ t) (B := w.heap.size) (by go_grown) (fun t _ ht => ht)).trans K1.out (fun t ht _ => ht)
set_option maxHeartbeats 1000000 in
set_option maxRecDepth 100000 in
theorem heldRuleS_c (A : Option Addr) (n c : Nat) (k : Int) (qs : List (Rl × Value)) (w : World) (hr : RdR w w.heap.size A n (rls (mq k qs))) (hk0 : 0 ≤ k) (hk : k + cnt qs ≤ 10000000) :
    Calls Tryd.prog 29 #[.slice A n c, .int .i64 k] w (RetB (.int .i64 (k + (cnt qs : Int))) w) := by
  have hn : qs.length = n := by have := hr.1; rw [rls_len, mq_len] at this; exact this
  have HR := Lib.hid hr
  clear hr
  by_cases hnb : n ≤ 9223372036854775807
  case neg => exfalso; have := cnt_ruleN qs; omega
  go_enter Tryd.func29, Tryd.ntmps29
  go_wp2
  go_loopg [1, 5] n (fun gk q i wr => ∃ (j : Nat), gk + j = n ∧ i = .int .i64 j ∧ q = .int .i64 (k + (cnt (qs.take j) : Int)) ∧ Hid (Below w.heap.size w wr))
  case atStart => exact ⟨0, rfl, rfl, by simp [cnt], Lib.hid (Below.refl _ _)⟩
  case round =>
    obtain ⟨j, hgk, rfl, rfl, HB⟩ := hrel
    have hcl := @cnt_le qs (j + 1)
    have hcl2 := @cnt_le qs j
    by_cases hlt : j < n
    · obtain ⟨gk, rfl⟩ : ∃ m, gk = m + 1 := ⟨gk - 1, by omega⟩
      obtain ⟨q, hqq⟩ := some_at hn hlt
      obtain ⟨b, off, r, rfl, hb, hp, TA, tc, c0, c1, c2, c3, hrt, hrl⟩ := (HR.out.below HB.out).rl hlt
      have hct := cnt_take hqq
      have he := rls_at (mq_at (k := k) hqq)
      rw [hp] at he
      injection he with he
      have HCT := Lib.hid hct
      have hbd : k + (cnt (qs.take j) : Int) + 1 + 1 + 1 + 4 * (q.1.ts.length : Int) ≤ 10000000 := by rw [hct] at hcl; omega
      clear hp hqq hct hcl
      generalize hK : k + (cnt (qs.take j) : Int) = K at *
      have hK0 : 0 ≤ K := by omega
      have HK := Lib.hid hK
      clear hK hcl2
      subst he
      simp only [mtsts_len] at c0 c1 c2 c3 hrt hrl
      have HRT := Lib.hid hrt
      have hbs := HB.out.size
      clear hrt
      go_wp2_with (go_at_call 52; refine (heldTestS_c TA q.1.ts.length tc (K + 1 + 1 + 1) _ ((HRT.out.more hbs).upB (by go_grown) (by go_size)) (by omega) (by omega)).mono ?_; rintro e w1 ⟨rfl, b1⟩; have HB1 := Lib.hid (below_on HB.out (by go_grown) b1); clear b1)
      go_roundg gk
      case measure => omega
      case rel =>
        go_light
        refine ⟨j + 1, by omega, by go_num, ?_, HB1⟩
        have := HCT.out
        have := HK.out
        refine congrArg (Value.int .i64) ?_
        rw [HCT.out]; omega
    · obtain rfl : j = n := by omega
      rw [List.take_of_length_le (by omega)]
      go_wp2
      go_returns
      exact ⟨rfl, HB.out⟩
theorem heldPolicy_c (A : Option Addr) (n c : Nat) (e k : Int) (qs : List (Rl × Value)) (w : World) (hr : RdR w w.heap.size A n (rls (mq k qs))) (hk0 : 0 ≤ k) (hk : k + cnt qs ≤ 10000000) :
    Calls Tryd.prog 9 #[.agg #[.slice A n c, .int .i64 e], .int .i64 k] w (RetB (.int .i64 (k + (cnt qs : Int))) w) := by
  have HR := Lib.hid hr
  clear hr
  go_enter Tryd.func9, Tryd.ntmps9
  go_wp2_with (go_at_call 29; refine (heldRuleS_c A n c k qs _ (HR.out.upB (by go_grown) (by go_size)) hk0 hk).mono ?_; rintro e w1 ⟨rfl, b1⟩; obtain ⟨gc1, gf1⟩ := below_get b1; (try simp only [heap_drew, World.size_alloc, World.size_setCell] at gc1 gf1); have s1 := below_via (w := w) (by go_grown) b1; have H1 := s1; have hs1 := b1.size; (try simp at hs1); have z1_0 : w.heap.size < w1.heap.size := (by omega); clear b1)
  go_returns
  exact ⟨rfl, by go_grown⟩
end Go.Proofs.YtflhniobbdanjaaDoor
namespace Go.Proofs.YtflhniobbdanjaaDoor
set_option linter.unusedSimpArgs false
open Go.RowKit
set_option linter.unusedVariables false
theorem fields_tst : (Tryd.prog.fieldsOf 67).toList.map (fun f => (f.offset, f.type, f.name != "_")) = [(0, 3, true), (1, 3, true), (2, 3, true), (3, 3, true)] := by kernel_rfl
theorem ut_fields_tst : Tryd.prog.underlying 67 = some (.struct (Tryd.prog.fieldsOf 67)) := by kernel_rfl
theorem ns_tst : Tryd.prog.stoodInHeld 67 = false := by kernel_rfl
theorem plain_intT : Tryd.prog.plainKey 3 = true := by kernel_rfl
theorem eq_stepT (d : Nat) (xs ys : Array Value) (f : Field) (fs : List Field) (o : Nat) (a b : Int) (W : World) (ho : f.offset = o) (ht : f.type = 3) (hn : (f.name != "_") = true) (hx : xs[o]? = some (.int .i64 a)) (hy : ys[o]? = some (.int .i64 b)) :
    (Op.eqFields (d + 1) xs ys (f :: fs)).run Tryd.prog W = if a = b then (Op.eqFields (d + 1) xs ys fs).run Tryd.prog W else .ok false W := by
  have hn' : f.name ≠ "_" := by simpa using hn
  have p1 := run_part_plain (P := Tryd.prog) (w := W) plain_intT hx
  have p2 := run_part_plain (P := Tryd.prog) (w := W) plain_intT hy
  rw [Op.eqFields, if_pos hn', ht, ho]
  simp only [Sem.run_bind, p1, p2, Result.andThen_ok, run_equalIn_int W d 3 .i64 .i64 a b Tryd.underlying3]
  by_cases h : a = b
  · simp [h]
  · simp [h]
theorem eqTst_run (p q : Tst) (W : World) : (Op.equalIn 10000 67 (tstV p) (tstV q)).run Tryd.prog W = .ok (tstEq p q) W := by
  obtain ⟨f, m, op, x⟩ := p
  obtain ⟨f', m', op', x'⟩ := q
  unfold tstV
  rw [run_equalIn_agg W 9999 67 _ _ ut_fields_tst ns_tst]
  have hf := fields_tst
  generalize (Tryd.prog.fieldsOf 67).toList = fs at *
  have hl : fs.length = 4 := by
    have := congrArg List.length hf
    simpa using this
  match fs, hl, hf with
  | [f0, f1, f2, f3], _, hf =>
    simp only [List.map_cons, List.map_nil, List.cons.injEq, Prod.mk.injEq, and_true] at hf
    obtain ⟨⟨a0, b0, c0⟩, ⟨a1, b1, c1⟩, ⟨a2, b2, c2⟩, ⟨a3, b3, c3⟩⟩ := hf
    rw [eq_stepT 9998 _ _ f0 _ 0 f f' W a0 b0 c0 rfl rfl, eq_stepT 9998 _ _ f1 _ 1 m m' W a1 b1 c1 rfl rfl, eq_stepT 9998 _ _ f2 _ 2 op op' W a2 b2 c2 rfl rfl, eq_stepT 9998 _ _ f3 _ 3 x x' W a3 b3 c3 rfl rfl]
    have hnil : (Op.eqFields (9998 + 1) #[Value.int .i64 f, .int .i64 m, .int .i64 op, .int .i64 x] #[Value.int .i64 f', .int .i64 m', .int .i64 op', .int .i64 x'] []).run Tryd.prog W = .ok true W := rfl
    rw [hnil]
    unfold tstEq
    by_cases e1 : f = f' <;> by_cases e2 : m = m' <;> by_cases e3 : op = op' <;> by_cases e4 : x = x' <;> simp [e1, e2, e3, e4]
theorem eqTstAgg_run (f m op x f' m' op' x' : Int) (W : World) : (Op.equalIn 10000 67 (.agg #[.int .i64 f, .int .i64 m, .int .i64 op, .int .i64 x]) (.agg #[.int .i64 f', .int .i64 m', .int .i64 op', .int .i64 x'])).run Tryd.prog W = .ok (tstEq ⟨f, m, op, x⟩ ⟨f', m', op', x'⟩) W :=
  eqTst_run ⟨f, m, op, x⟩ ⟨f', m', op', x'⟩ W
end Go.Proofs.YtflhniobbdanjaaDoor
