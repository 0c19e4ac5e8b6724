/-
  DERIVED. GIVEN WITH THE SEED: THE CARDS: each row of YtflhniobbdanjaaDoorRows.lean that lists a variable, with what it lists TIED to the program's text (the seventh form; the later family's looks); each row that meets fmt, with fmt's text TOLD by the authors' own Lean function (tested against real Go, not proved from fmt's source: count such statements apart). THE CARD IS WHAT COUNTS. Prove the row's statement (the work); the ties are given (YtflhniobbdanjaaDoorTie.lean); close each card by the builder's one call (the guide's Derived/Test/ToyasCard.lean, 'card_holds'). Laid BY PROGRAM, IN A SANDBOX (cutbox-door.mjs). By AI agents, Wed Nov 11 2026. No macro, syntax, notation, axiom, sorry.
-/
import Derived.Test.YtflhniobbdanjaaDoorRows
import GoSem.ClaimSeven
namespace Go.Proofs.YtflhniobbdanjaaDoor
namespace Rows

/-- THE TIED CARD OF 'laws.FnExactPolicyRead'. -/
def fnExactPolicyReadCard : Claim7 := { stood := { row := fnExactPolicyReadRow, standIns := [], harness := (true, "7d3d068f4cd3a684ccb4ae3a76b4a8261afce71b158d63827da79cdd2f2f3917"), looks := true }, kinds := [], alts := [], laidByText := true, laidKinds := [.data, .pinned], laidTests := true, laidLooks := .later }
def FnExactPolicyReadCardSaid : Prop := Claim7.holds Tryd.pinned (.plain (OpenSpec.ofChange fnExactPolicyReadSpec)) fnExactPolicyReadCard

/-- THE TIED CARD OF 'laws.FnPolicyText'. -/
def fnPolicyTextCard : Claim7 := { stood := { row := fnPolicyTextRow, standIns := [], harness := (true, "7d3d068f4cd3a684ccb4ae3a76b4a8261afce71b158d63827da79cdd2f2f3917"), looks := true }, kinds := [], alts := [], laidByText := true, laidKinds := [.data, .data, .data, .data, .pinned], laidTests := true, laidLooks := .later }
def FnPolicyTextCardSaid : Prop := Claim7.holds Tryd.pinned (.plain (OpenSpec.ofChange fnPolicyTextSpec)) fnPolicyTextCard

/-- THE SECOND FORM's CARD OF 'laws.FnExactPolicyRead'. -/
def fnExactPolicyReadUptoCard : Claim7 := { stood := { row := fnExactPolicyReadUptoRow, standIns := [], harness := (true, "7d3d068f4cd3a684ccb4ae3a76b4a8261afce71b158d63827da79cdd2f2f3917"), looks := true }, kinds := [], alts := [], laidByText := true, laidKinds := [.data, .pinned], laidTests := true, laidLooks := .later }
def FnExactPolicyReadUptoCardSaid : Prop := Claim7.holds Tryd.pinned (.plain (OpenSpec.upto fnExactPolicyReadSpec)) fnExactPolicyReadUptoCard

/-- THE SECOND FORM's CARD OF 'laws.FnPolicyText'. -/
def fnPolicyTextUptoCard : Claim7 := { stood := { row := fnPolicyTextUptoRow, standIns := [], harness := (true, "7d3d068f4cd3a684ccb4ae3a76b4a8261afce71b158d63827da79cdd2f2f3917"), looks := true }, kinds := [], alts := [], laidByText := true, laidKinds := [.data, .data, .data, .data, .pinned], laidTests := true, laidLooks := .later }
def FnPolicyTextUptoCardSaid : Prop := Claim7.holds Tryd.pinned (.plain (OpenSpec.upto fnPolicyTextSpec)) fnPolicyTextUptoCard
end Rows
end Go.Proofs.YtflhniobbdanjaaDoor
