/- Rules copied: copyRules, l2Copy. Conditions: each contract's own. -/
import Derived.Test.YtljgaepgblakhaaApp
import Derived.Test.YtljgaepgblakhaaPolMark
namespace Go.Proofs.Ytljgaepgblakhaa
set_option linter.unusedSimpArgs false
open Go.RowKit
set_option linter.unusedVariables false
set_option linter.unnecessarySimpa false
set_option maxRecDepth 20000
theorem one_rcells {w : World} {lo hi ET : Nat} {qs : List (Rl × Value)} (h : ∀ q ∈ qs, TO w lo hi ET q) : ∀ u ∈ rcells qs, u.oneCell' = true := by
  intro u hu
  simp only [rcells, List.mem_flatMap, qcells, List.mem_cons, List.not_mem_nil, or_false] at hu
  obtain ⟨q, hq, hu⟩ := hu
  rcases hu with rfl | rfl | rfl | rfl
  · rfl
  · rfl
  · rfl
  · obtain ⟨A, c, e⟩ := own_slice (h q hq).own
    rw [e]; rfl
theorem rd_new {w : World} {g : Nat} (hg : w.heap.size = g) (t size n : Nat) (cs : List Value) (h : cs.length = n * size) : Rd (w.alloc (.cells cs.toArray t)) (g + 1) size (some ⟨g, 0, none⟩) n cs := by
  subst hg
  exact ⟨h, fun _ => ⟨w.heap.size, 0, rfl, Nat.lt_succ_self _, fun j u hu => by rw [Nat.zero_add]; exact (Blk.new w t cs).cell hu⟩⟩
/-- The world behind a copied rule: its tests put into the copy, the copy laid out for append. -/
theorem copied {wr w1 : World} {ET ER G c1 m : Nat} {A1 : Option Addr} {v lo hi : Int} {ts : List Tst} (hG : wr.heap.size = G) (hm : ts.length = m) (b1 : Below G wr w1) (hs : G + 1 ≤ w1.heap.size) (o1 : w1.ownsRow (G + 1) ET 4 (.slice A1 m c1) m (tsts ts)) :
    Below G wr ((w1.setCell ⟨G, 3, none⟩ (.slice A1 m c1)).alloc (.cells #[.int .i64 v, .int .i64 lo, .int .i64 hi, .slice A1 m c1] ER)) ∧
    TO ((w1.setCell ⟨G, 3, none⟩ (.slice A1 m c1)).alloc (.cells #[.int .i64 v, .int .i64 lo, .int .i64 hi, .slice A1 m c1] ER)) (G + 1) (w1.heap.size + 1) ET (⟨v, lo, hi, ts⟩, .slice A1 m c1) ∧
    Rd ((w1.setCell ⟨G, 3, none⟩ (.slice A1 m c1)).alloc (.cells #[.int .i64 v, .int .i64 lo, .int .i64 hi, .slice A1 m c1] ER)) (w1.heap.size + 1) 4 (some ⟨w1.heap.size, 0, none⟩) 1 (rcells [(⟨v, lo, hi, ts⟩, .slice A1 m c1)]) := by
  subst hG hm
  have o2 := ownsRow_setCell_below o1 (a := ⟨wr.heap.size, 3, none⟩) (by simp) (.slice A1 ts.length c1)
  refine ⟨(b1.setCell (p := ⟨wr.heap.size, 3, none⟩) (Nat.le_refl _) _).alloc (by simp; omega) _, ⟨own_up o2 (Below.alloc (Below.refl _ _) (Nat.le_refl _) _), fun g e => ?_⟩, rd_new (by simp) ER 4 1 _ rfl⟩
  have := (o1.lt g e).2
  omega
/-- More rules behind those that are there. -/
theorem OP.app {w w' : World} {lo hi hi' ER ET n n' c c' : Nat} {A A' : Option Addr} {qs qs2 : List (Rl × Value)} (h : OP w lo hi ER ET A n c qs) (hE : ER ≠ ET) (h2 : ∀ q ∈ qs2, TO w lo hi' ET q) (hh : hi ≤ hi')
    (ho : w'.ownsRow lo ER 4 (.slice A' n' c') n' (rcells qs ++ rcells qs2)) (hg : w.grownBy w' (Value.slice A n c).ownBlock) (hH : w'.heap.size ≤ hi') : OP w' lo hi' ER ET A' n' c' (qs ++ qs2) := by
  refine ⟨by rw [rcells_app]; exact ho, fun g e => Nat.lt_of_lt_of_le (ho.lt g e).2 hH, fun q hq => ?_⟩
  have key : ∀ q, TO w lo hi' ET q → TO w' lo hi' ET q := fun q hq => by
    refine ⟨hq.own.kept hg ?_, hq.high⟩
    by_cases hn : q.2.ownBlock = none
    · exact .inl hn
    · obtain ⟨g, hgq⟩ := Option.ne_none_iff_exists'.1 hn
      right
      intro e
      exact own_unlike hq.own h.own (Ne.symm hE) g hgq (by rw [← e]; exact hgq)
  rcases List.mem_append.1 hq with hq | hq
  · exact key q ((h.tst q hq).wide (Nat.le_refl _) hh)
  · exact key q (h2 q hq)
/-- The call returns rules in memory of its own. -/
def RetRules (ER ET : Nat) (rs : List Rl) (w : World) (e : Ending) (w' : World) : Prop :=
  ∃ A c qs, e = .returned (.slice A rs.length c) ∧ rls qs = rs ∧ OP w' w.heap.size w'.heap.size ER ET A rs.length c qs ∧ Apart qs ∧ Below w.heap.size w w'
/-- The call returns a policy in memory of its own. -/
def RetPol (ER ET : Nat) (p : Pol) (w : World) (e : Ending) (w' : World) : Prop :=
  ∃ A c qs, e = .returned (.agg #[.slice A p.rs.length c, .int .i64 p.els]) ∧ rls qs = p.rs ∧ OP w' w.heap.size w'.heap.size ER ET A p.rs.length c qs ∧ Apart qs ∧ Below w.heap.size w w'
theorem Apart.new {w : World} {lo hi ER ET n c : Nat} {A : Option Addr} {qs : List (Rl × Value)} (ha : Apart qs) (h : OP w lo hi ER ET A n c qs) {q : Rl × Value} {B : Nat} (hq : ∀ g, q.2.ownBlock = some g → B ≤ g) (hB : hi ≤ B) : Apart (qs ++ [q]) :=
  ha.add fun x hx => by
    by_cases hn : x.2.ownBlock = none
    · exact .inl hn
    · obtain ⟨g, hg⟩ := Option.ne_none_iff_exists'.1 hn
      right
      intro e
      have h1 := (h.tst x hx).high g hg
      have h2 := hq g (by rw [← e]; exact hg)
      omega
theorem ob_of {g o n c b : Nat} (e : (Value.slice (some ⟨g, o, none⟩) n c).ownBlock = some b) : b = g := by
  injection e with e; exact e.symm
theorem Blk.gn {w w' : World} {g t : Nat} {cs : List Value} {row : Option Nat} (h : Blk w g t cs) (k : w.grownBy w' row) (hr : row ≠ some g) : Blk w' g t cs := (k.block g h.lt (fun e => hr e.symm)).trans h
theorem blk_three (w : World) (t s r : Nat) (us vs xs : List Value) : Blk (((w.alloc (.cells us.toArray t)).alloc (.cells vs.toArray s)).alloc (.cells xs.toArray r)) w.heap.size t us ∧ Blk (((w.alloc (.cells us.toArray t)).alloc (.cells vs.toArray s)).alloc (.cells xs.toArray r)) (w.heap.size + 1) s vs ∧ Blk (((w.alloc (.cells us.toArray t)).alloc (.cells vs.toArray s)).alloc (.cells xs.toArray r)) (w.heap.size + 1 + 1) r xs := by
  refine ⟨((Blk.new w t us).alloc _).alloc _, ?_, ?_⟩
  · have := (Blk.new (w.alloc (.cells us.toArray t)) s vs).alloc (.cells xs.toArray r)
    rwa [World.size_alloc] at this
  · have := Blk.new ((w.alloc (.cells us.toArray t)).alloc (.cells vs.toArray s)) r xs
    rwa [World.size_alloc, World.size_alloc] at this
theorem OP.set_ {w : World} {lo hi ER ET n c g o : Nat} {A : Option Addr} {qs : List (Rl × Value)} (h : OP w lo hi ER ET A n c qs) (hg : g < lo ∨ hi ≤ g) (u : Value) : OP (w.setCell ⟨g, o, none⟩ u) lo hi ER ET A n c qs :=
  h.keep (ok := fun t => t ≠ g) ((Keep.refl w _).set_ u (fun t ht _ e => ht e.symm)) (fun t h1 h2 e => by omega)
