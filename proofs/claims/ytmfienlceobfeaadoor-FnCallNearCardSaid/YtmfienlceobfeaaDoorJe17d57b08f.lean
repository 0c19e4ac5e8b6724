/- okPolicy, PolicyJoin: both sides. Conditions: each contract's own. -/
import Derived.Test.YtmfienlceobfeaaDoorJ95c411bff7
import Derived.Test.YtmfienlceobfeaaDoorJ1b377cafa9
import Derived.Test.YtmfienlceobfeaaDoorJc91dc9a385
namespace Go.Proofs.YtmfienlceobfeaaDoor
set_option linter.unusedSimpArgs false
open Go.RowKit
set_option linter.unusedVariables false
set_option linter.unnecessarySimpa false
set_option maxRecDepth 20000
/-- The call returns a policy in memory of its own, and whether it is one. -/
def RetPolB (ER ET : Nat) (p : Pol) (ok : Bool) (w : World) (e : Ending) (w' : World) : Prop :=
  ∃ A c qs, e = .returned (.tuple #[.agg #[.slice A p.rs.length c, .int .i64 p.els], .bool ok]) ∧ rls qs = p.rs ∧ OP w' w.heap.size w'.heap.size ER ET A p.rs.length c qs ∧ Apart qs ∧ Below w.heap.size w w'
theorem retPolB_no {ER ET : Nat} {w w' : World} {e : Ending} (he : e = .returned (.tuple #[.agg #[.slice none 0 0, .int .i64 0], .bool false])) (hb : Below w.heap.size w w') : RetPolB ER ET ⟨[], 0⟩ false w e w' :=
  ⟨none, 0, [], he, rfl, OP.nil_ _ _ _ _ _, Apart.nil_, hb⟩
theorem OP.drew {w : World} {lo hi ER ET n c : Nat} {A : Option Addr} {qs : List (Rl × Value)} (h : OP w lo hi ER ET A n c qs) : OP w.drew lo hi ER ET A n c qs := ⟨h.own, h.high, fun q hq => ⟨(h.tst q hq).own, (h.tst q hq).high⟩⟩
theorem OP.drewN {w : World} {lo hi ER ET n c : Nat} {A : Option Addr} {qs : List (Rl × Value)} (h : OP w lo hi ER ET A n c qs) (k : Nat) : OP (w.drewN k) lo hi ER ET A n c qs := ⟨h.own, h.high, fun q hq => ⟨(h.tst q hq).own, (h.tst q hq).high⟩⟩
theorem own_setB {w : World} {lo e size n X T o : Nat} {v : Value} {xs cs : List Value} (h : w.ownsRow lo e size v n xs) (hX : Blk w X T cs) (hT : e ≠ T) (u : Value) : (w.setCell ⟨X, o, none⟩ u).ownsRow lo e size v n xs := by
  refine ((Keep.refl w (fun t => t ≠ X)).set_ u (fun t ht _ e => ht e.symm)).own h (fun t ht e => ?_)
  subst e
  rcases h.2 with ⟨h1, _⟩ | ⟨g1, c1, cur1, rfl, _, hh1, _⟩
  · rw [h1] at ht; cases ht
  · have e1 : g1 = t := by injection ht
    subst e1
    have h2 := hX
    unfold Blk at h2
    rw [hh1] at h2
    injection h2 with h2
    injection h2 with _ e3 _
    exact hT e3
/-- A cell of a block of another kind written. -/
theorem OP.setB {w : World} {lo hi ER ET n c X T o : Nat} {A : Option Addr} {qs : List (Rl × Value)} {cs : List Value} (h : OP w lo hi ER ET A n c qs) (hX : Blk w X T cs) (h1 : ER ≠ T) (h2 : ET ≠ T) (u : Value) : OP (w.setCell ⟨X, o, none⟩ u) lo hi ER ET A n c qs :=
  ⟨own_setB h.own hX h1 u, h.high, fun q hq => ⟨own_setB (h.tst q hq).own hX h2 u, (h.tst q hq).high⟩⟩
/-- What becomes of rules that are made into a policy. -/
def okP (p : Pol) : Pol := if polOk p then p else ⟨[], 0⟩
def joinP (p q : Pol) : Pol := if polOk p && polOk q then okP ⟨p.rs ++ q.rs, q.els⟩ else ⟨[], 0⟩
def joinB (p q : Pol) : Bool := polOk p && polOk q && polOk ⟨p.rs ++ q.rs, q.els⟩
theorem apart_of {w w' : World} {lo hi lo' hi' ET : Nat} {x y : Rl × Value} (hx : TO w lo hi ET x) (hy : TO w' lo' hi' ET y) (h : hi ≤ lo') : x.2.ownBlock = none ∨ x.2.ownBlock ≠ y.2.ownBlock := by
  by_cases hn : x.2.ownBlock = none
  · exact .inl hn
  · obtain ⟨g, hg⟩ := Option.ne_none_iff_exists'.1 hn
    right
    intro e
    have h1 := hx.high g hg
    have h2 := (hy.lt g (by rw [← e]; exact hg)).1
    omega
theorem polOk_ts {rs : List Rl} {e : Int} (h : polOk ⟨rs, e⟩ = true) : ∀ r ∈ rs, r.ts.length ≤ 4 := fun r hr => by
  have := (polOk_rules h).2
  rw [List.all_eq_true] at this
  exact (rule_and (this r hr)).2.2.2.2.1
theorem field_pol (a b : Value) (W : World) : (Instr.field 25 (.agg #[a, b]) 0).run Tryd.prog W = .ok a W := by kernel_rfl
end Go.Proofs.YtmfienlceobfeaaDoor
