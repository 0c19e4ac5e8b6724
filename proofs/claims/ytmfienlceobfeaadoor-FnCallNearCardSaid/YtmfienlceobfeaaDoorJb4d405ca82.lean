/- A law's policy made into the program's, in memory of its own. Conditions: each contract's own. -/
import Derived.Test.YtmfienlceobfeaaDoorJ95c411bff7
namespace Go.Proofs.YtmfienlceobfeaaDoor
set_option linter.unusedSimpArgs false
open Go.RowKit
set_option linter.unusedVariables false
set_option linter.unnecessarySimpa false
set_option maxRecDepth 20000
theorem to_cells {w : World} {lo hi ER ET n X : Nat} {q : Rl × Value} {v : Value} {ys : List Value} (h : TO w lo hi ET q) (hX : w.ownsRow lo ER 4 v n ys) (hv : v.ownBlock = some X) (hE : ER ≠ ET) (o : Nat) (cs : List Value) : TO (setCells w X o cs) lo hi ET q := by
  have hne := own_unlike hX h.own hE X hv
  have : ∀ (cs : List Value) (o : Nat) (w : World), w.ownsRow lo ET 4 q.2 q.1.ts.length (tsts q.1.ts) → (setCells w X o cs).ownsRow lo ET 4 q.2 q.1.ts.length (tsts q.1.ts) := by
    intro cs
    induction cs with
    | nil => intro o w h; exact h
    | cons u cs ih =>
      intro o w h
      refine ih (o + 1) _ ((Keep.set_ (ok := fun t => t ≠ X) (Keep.refl w _) u (fun t ht _ e => ht e.symm)).own h (fun t ht e => hne (by rw [ht, e])))
  exact ⟨this cs o w h.own, h.high⟩
end Go.Proofs.YtmfienlceobfeaaDoor
