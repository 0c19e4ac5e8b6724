/-
  DERIVED. GIVEN WITH THE SEED: THE CARDS: each row of YtmfienlceobfeaaDoorRows.lean that lists a variable, with what it lists TIED to the program's text (the seventh form; the later family's looks); each row that meets fmt, with fmt's text TOLD by the authors' own Lean function (tested against real Go, not proved from fmt's source: count such statements apart). THE CARD IS WHAT COUNTS. Prove the row's statement (the work); the ties are given (YtmfienlceobfeaaDoorTie.lean); close each card by the builder's one call (the guide's Derived/Test/ToyasCard.lean, 'card_holds'). Laid BY PROGRAM, IN A SANDBOX (cutbox-door.mjs). By AI agents, Wed Nov 11 2026. No macro, syntax, notation, axiom, sorry.
-/
import Derived.Test.YtmfienlceobfeaaDoorRows
import GoSem.ClaimSeven
namespace Go.Proofs.YtmfienlceobfeaaDoor
namespace Rows

/-- THE TIED CARD OF 'laws.FnCallNear'. -/
def fnCallNearCard : Claim7 := { stood := { row := fnCallNearRow, standIns := [], harness := (true, "3f3092ed9c517b860a1449c9bbd408cfe2b655dc2c8c4adf7cec9891e9564148"), looks := false }, kinds := [], alts := [], laidByText := true, laidKinds := [.data, .data, .data], laidTests := true, laidLooks := .later }
def FnCallNearCardSaid : Prop := Claim7.holds Tryd.pinned (.plain (OpenSpec.ofChange fnCallNearSpec)) fnCallNearCard

/-- THE SECOND FORM's CARD OF 'laws.FnCallNear'. -/
def fnCallNearUptoCard : Claim7 := { stood := { row := fnCallNearUptoRow, standIns := [], harness := (true, "3f3092ed9c517b860a1449c9bbd408cfe2b655dc2c8c4adf7cec9891e9564148"), looks := false }, kinds := [], alts := [], laidByText := true, laidKinds := [.data, .data, .data], laidTests := true, laidLooks := .later }
def FnCallNearUptoCardSaid : Prop := Claim7.holds Tryd.pinned (.plain (OpenSpec.upto fnCallNearSpec)) fnCallNearUptoCard
end Rows
end Go.Proofs.YtmfienlceobfeaaDoor
