/- Parts of laws in one text. Conditions: each lemma's own. -/
import Derived.Test.YtmfienlceobfeaaDoorJ1b377cafa9
import Derived.Test.YtmfienlceobfeaaDoorJ6de6721e6c
namespace Go.Proofs.YtmfienlceobfeaaDoor
set_option linter.unusedSimpArgs false
open Go.RowKit
set_option linter.unusedVariables false
set_option linter.unnecessarySimpa false
set_option maxRecDepth 20000
def fitsT (num : Int) (xs : List Int) (t : Tst) : Bool := fitsB t.f t.m t.op t.x num xs
def ruleFitsB (num : Int) (xs : List Int) (r : Rl) : Bool := decide (r.lo ≤ num ∧ num ≤ r.hi) && r.ts.all (fitsT num xs)
/-- The place of the first that holds. -/
theorem find_at {α : Type} {p : α → Bool} {l : List α} {k : Nat} {a : α} (h : l[k]? = some a) (hp : p a = true) (hb : (l.take k).all (fun x => !p x) = true) : l.find? p = some a ∧ l.findIdx? p = some k := by
  induction l generalizing k with
  | nil => simp at h
  | cons b l ih =>
    cases k with
    | zero =>
      simp at h
      subst h
      simp [List.find?_cons, List.findIdx?_cons, hp]
    | succ k =>
      rw [List.take_succ_cons, List.all_cons, Bool.and_eq_true] at hb
      have hbp : p b = false := by simpa using hb.1
      obtain ⟨h1, h2⟩ := ih (by simpa using h) hb.2
      simp [List.find?_cons, List.findIdx?_cons, hbp, h1, h2]
theorem find_none {α : Type} {p : α → Bool} {l : List α} (hb : l.all (fun x => !p x) = true) : l.find? p = none ∧ l.findIdx? p = none := by
  rw [List.all_eq_true] at hb
  refine ⟨List.find?_eq_none.2 fun x hx => by simpa using hb x hx, List.findIdx?_eq_none_iff.2 fun x hx => by simpa using hb x hx⟩
/-- What becomes of a call, both being ok. -/
def polV (p : Pol) (num : Int) (xs : List Int) : Int := match p.rs.find? (ruleFitsB num xs) with | some r => r.v | none => p.els
def fitV (p : Pol) (num : Int) (xs : List Int) : Int := match p.rs.findIdx? (ruleFitsB num xs) with | some k => (k : Int) + 1 | none => 0
def polOfV (p : Pol) (num : Int) (xs : List Int) : Int := if polOk p && callB num xs then polV p num xs else 4
def polFitV (p : Pol) (num : Int) (xs : List Int) : Int := if polOk p && callB num xs then fitV p num xs else -1
theorem polOk_rules {rs : List Rl} {e : Int} (h : polOk ⟨rs, e⟩ = true) : rs.length ≤ 8 ∧ rs.all ruleB = true := by
  simp only [polOk, polB, Bool.and_eq_true, decide_eq_true_eq] at h
  exact ⟨h.1.1.1, h.1.2⟩
theorem rule_tests {rs : List Rl} {k : Nat} {r : Rl} (h : rs.all ruleB = true) (hk : rs[k]? = some r) : r.ts.all tstB = true := by
  rw [List.all_eq_true] at h
  exact (rule_and (h r (List.mem_of_getElem? hk))).2.2.2.2.2
theorem tst_mem {ts : List Tst} {k : Nat} {t : Tst} (h : ts.all tstB = true) (hk : ts[k]? = some t) : tstB t = true := by
  rw [List.all_eq_true] at h
  exact h t (List.mem_of_getElem? hk)
theorem blk_two (w : World) (t s : Nat) (us vs : List Value) : Blk ((w.alloc (.cells us.toArray t)).alloc (.cells vs.toArray s)) w.heap.size t us ∧ Blk ((w.alloc (.cells us.toArray t)).alloc (.cells vs.toArray s)) (w.heap.size + 1) s vs := by
  refine ⟨(Blk.new w t us).alloc _, ?_⟩
  have := Blk.new (w.alloc (.cells us.toArray t)) s vs
  rwa [World.size_alloc] at this
end Go.Proofs.YtmfienlceobfeaaDoor
namespace Go.Proofs.YtmfienlceobfeaaDoor
set_option linter.unusedSimpArgs false
open Go.RowKit
set_option linter.unusedVariables false
set_option linter.unnecessarySimpa false
set_option maxRecDepth 20000
theorem polV_at {rs : List Rl} {e num : Int} {xs : List Int} {k : Nat} {r : Rl} (h : rs[k]? = some r) (hp : ruleFitsB num xs r = true) (hb : (rs.take k).all (fun x => !ruleFitsB num xs x) = true) : polV ⟨rs, e⟩ num xs = r.v ∧ fitV ⟨rs, e⟩ num xs = (k : Int) + 1 := by
  obtain ⟨h1, h2⟩ := find_at h hp hb
  simp only [polV, fitV, h1, h2, and_self]
theorem polV_none {rs : List Rl} {e num : Int} {xs : List Int} (hb : rs.all (fun x => !ruleFitsB num xs x) = true) : polV ⟨rs, e⟩ num xs = e ∧ fitV ⟨rs, e⟩ num xs = 0 := by
  obtain ⟨h1, h2⟩ := find_none hb
  simp only [polV, fitV, h1, h2, and_self]
end Go.Proofs.YtmfienlceobfeaaDoor
