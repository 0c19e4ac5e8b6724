/- Contracts of the functions that copy and compare calls; the walk of FnExactCallOk. Conditions: each contract's own. -/
import Derived.Test.YtljgaepgblakhaaDoorCall
import Derived.Deep.RegionHeld3
namespace Go.Proofs.YtljgaepgblakhaaDoor
set_option linter.unusedSimpArgs false
open Go.RowKit
set_option linter.unusedVariables false
/-- The call returns a call of its own: the number, and new memory that reads as xs. -/
def RetCall (E : Nat) (num : Int) (n : Nat) (xs : List Int) (w : World) (e : Ending) (w' : World) : Prop :=
  ∃ A c, e = .returned (.agg #[.int .i64 num, .slice A n c]) ∧ w'.ownsRow w.heap.size E 1 (.slice A n c) n (ints xs) ∧ Below w.heap.size w w'
