/-
  DERIVED. GIVEN WITH THE SEED: THE CARDS: each row of YtcocagdbkpkkaaaDoorRows.lean that lists a variable, with what it lists TIED to the program's text (the seventh form; the later family's looks); each row that meets fmt, with fmt's text TOLD by the authors' own Lean function (tested against real Go, not proved from fmt's source: count such statements apart). THE CARD IS WHAT COUNTS. Prove the row's statement (the work); the ties are given (YtcocagdbkpkkaaaDoorTie.lean); close each card by the builder's one call (the guide's Derived/Test/ToyasCard.lean, 'card_holds'). Laid BY PROGRAM, IN A SANDBOX (cutbox-door.mjs). By AI agents, Wed Nov 11 2026. No macro, syntax, notation, axiom, sorry.
-/
import Derived.Test.YtcocagdbkpkkaaaDoorRows
import GoSem.ClaimSeven
namespace Go.Proofs.YtcocagdbkpkkaaaDoor
namespace Rows

/-- THE TIED CARD OF 'laws.FnExactPolicyOk'. -/
def fnExactPolicyOkCard : Claim7 := { stood := { row := fnExactPolicyOkRow, standIns := [], harness := (true, "1bec60d0faf7977a9d47a45710736ecb076b1668f732cd746a3417471cc71ec6"), looks := false }, kinds := [], alts := [], laidByText := true, laidKinds := [.data, .data, .data], laidTests := true, laidLooks := .later }
def FnExactPolicyOkCardSaid : Prop := Claim7.holds Tryd.pinned (.plain (OpenSpec.ofChange fnExactPolicyOkSpec)) fnExactPolicyOkCard

/-- THE TIED CARD OF 'laws.FnExactPolicyWrite'. -/
def fnExactPolicyWriteCard : Claim7 := { stood := { row := fnExactPolicyWriteRow, standIns := [], harness := (true, "1bec60d0faf7977a9d47a45710736ecb076b1668f732cd746a3417471cc71ec6"), looks := false }, kinds := [], alts := [], laidByText := true, laidKinds := [.data, .data, .data], laidTests := true, laidLooks := .later }
def FnExactPolicyWriteCardSaid : Prop := Claim7.holds Tryd.pinned (.plain (OpenSpec.ofChange fnExactPolicyWriteSpec)) fnExactPolicyWriteCard

/-- THE TIED CARD OF 'laws.FnExactPolicyOf'. -/
def fnExactPolicyOfCard : Claim7 := { stood := { row := fnExactPolicyOfRow, standIns := [], harness := (true, "1bec60d0faf7977a9d47a45710736ecb076b1668f732cd746a3417471cc71ec6"), looks := false }, kinds := [], alts := [], laidByText := true, laidKinds := [.data, .data, .data], laidTests := true, laidLooks := .later }
def FnExactPolicyOfCardSaid : Prop := Claim7.holds Tryd.pinned (.plain (OpenSpec.ofChange fnExactPolicyOfSpec)) fnExactPolicyOfCard

/-- THE TIED CARD OF 'laws.FnExactPolicyFit'. -/
def fnExactPolicyFitCard : Claim7 := { stood := { row := fnExactPolicyFitRow, standIns := [], harness := (true, "1bec60d0faf7977a9d47a45710736ecb076b1668f732cd746a3417471cc71ec6"), looks := false }, kinds := [], alts := [], laidByText := true, laidKinds := [.data, .data, .data], laidTests := true, laidLooks := .later }
def FnExactPolicyFitCardSaid : Prop := Claim7.holds Tryd.pinned (.plain (OpenSpec.ofChange fnExactPolicyFitSpec)) fnExactPolicyFitCard

/-- THE TIED CARD OF 'laws.FnExactPolicyJoin'. -/
def fnExactPolicyJoinCard : Claim7 := { stood := { row := fnExactPolicyJoinRow, standIns := [], harness := (true, "1bec60d0faf7977a9d47a45710736ecb076b1668f732cd746a3417471cc71ec6"), looks := false }, kinds := [], alts := [], laidByText := true, laidKinds := [.data, .data, .data], laidTests := true, laidLooks := .later }
def FnExactPolicyJoinCardSaid : Prop := Claim7.holds Tryd.pinned (.plain (OpenSpec.ofChange fnExactPolicyJoinSpec)) fnExactPolicyJoinCard

/-- THE TIED CARD OF 'laws.FnExactPolicyOnly'. -/
def fnExactPolicyOnlyCard : Claim7 := { stood := { row := fnExactPolicyOnlyRow, standIns := [], harness := (true, "1bec60d0faf7977a9d47a45710736ecb076b1668f732cd746a3417471cc71ec6"), looks := false }, kinds := [], alts := [], laidByText := true, laidKinds := [.data, .data, .data], laidTests := true, laidLooks := .later }
def FnExactPolicyOnlyCardSaid : Prop := Claim7.holds Tryd.pinned (.plain (OpenSpec.ofChange fnExactPolicyOnlySpec)) fnExactPolicyOnlyCard

/-- THE TIED CARD OF 'laws.FnExactPolicyMap'. -/
def fnExactPolicyMapCard : Claim7 := { stood := { row := fnExactPolicyMapRow, standIns := [], harness := (true, "1bec60d0faf7977a9d47a45710736ecb076b1668f732cd746a3417471cc71ec6"), looks := false }, kinds := [], alts := [], laidByText := true, laidKinds := [.data, .data, .data], laidTests := true, laidLooks := .later }
def FnExactPolicyMapCardSaid : Prop := Claim7.holds Tryd.pinned (.plain (OpenSpec.ofChange fnExactPolicyMapSpec)) fnExactPolicyMapCard

/-- THE TIED CARD OF 'laws.FnPolicyFirst'. -/
def fnPolicyFirstCard : Claim7 := { stood := { row := fnPolicyFirstRow, standIns := [], harness := (true, "1bec60d0faf7977a9d47a45710736ecb076b1668f732cd746a3417471cc71ec6"), looks := false }, kinds := [], alts := [], laidByText := true, laidKinds := [.data, .data, .data], laidTests := true, laidLooks := .later }
def FnPolicyFirstCardSaid : Prop := Claim7.holds Tryd.pinned (.plain (OpenSpec.ofChange fnPolicyFirstSpec)) fnPolicyFirstCard

/-- THE TIED CARD OF 'laws.FnPolicySplit'. -/
def fnPolicySplitCard : Claim7 := { stood := { row := fnPolicySplitRow, standIns := [], harness := (true, "1bec60d0faf7977a9d47a45710736ecb076b1668f732cd746a3417471cc71ec6"), looks := false }, kinds := [], alts := [], laidByText := true, laidKinds := [.data, .data, .data], laidTests := true, laidLooks := .later }
def FnPolicySplitCardSaid : Prop := Claim7.holds Tryd.pinned (.plain (OpenSpec.ofChange fnPolicySplitSpec)) fnPolicySplitCard

/-- THE TIED CARD OF 'laws.FnPolicyFit'. -/
def fnPolicyFitCard : Claim7 := { stood := { row := fnPolicyFitRow, standIns := [], harness := (true, "1bec60d0faf7977a9d47a45710736ecb076b1668f732cd746a3417471cc71ec6"), looks := false }, kinds := [], alts := [], laidByText := true, laidKinds := [.data, .data, .data], laidTests := true, laidLooks := .later }
def FnPolicyFitCardSaid : Prop := Claim7.holds Tryd.pinned (.plain (OpenSpec.ofChange fnPolicyFitSpec)) fnPolicyFitCard

/-- THE TIED CARD OF 'laws.FnPolicyJoin'. -/
def fnPolicyJoinCard : Claim7 := { stood := { row := fnPolicyJoinRow, standIns := [], harness := (true, "1bec60d0faf7977a9d47a45710736ecb076b1668f732cd746a3417471cc71ec6"), looks := false }, kinds := [], alts := [], laidByText := true, laidKinds := [.data, .data, .data], laidTests := true, laidLooks := .later }
def FnPolicyJoinCardSaid : Prop := Claim7.holds Tryd.pinned (.plain (OpenSpec.ofChange fnPolicyJoinSpec)) fnPolicyJoinCard

/-- THE SECOND FORM's CARD OF 'laws.FnExactPolicyOk'. -/
def fnExactPolicyOkUptoCard : Claim7 := { stood := { row := fnExactPolicyOkUptoRow, standIns := [], harness := (true, "1bec60d0faf7977a9d47a45710736ecb076b1668f732cd746a3417471cc71ec6"), looks := false }, kinds := [], alts := [], laidByText := true, laidKinds := [.data, .data, .data], laidTests := true, laidLooks := .later }
def FnExactPolicyOkUptoCardSaid : Prop := Claim7.holds Tryd.pinned (.plain (OpenSpec.upto fnExactPolicyOkSpec)) fnExactPolicyOkUptoCard

/-- THE SECOND FORM's CARD OF 'laws.FnExactPolicyWrite'. -/
def fnExactPolicyWriteUptoCard : Claim7 := { stood := { row := fnExactPolicyWriteUptoRow, standIns := [], harness := (true, "1bec60d0faf7977a9d47a45710736ecb076b1668f732cd746a3417471cc71ec6"), looks := false }, kinds := [], alts := [], laidByText := true, laidKinds := [.data, .data, .data], laidTests := true, laidLooks := .later }
def FnExactPolicyWriteUptoCardSaid : Prop := Claim7.holds Tryd.pinned (.plain (OpenSpec.upto fnExactPolicyWriteSpec)) fnExactPolicyWriteUptoCard

/-- THE SECOND FORM's CARD OF 'laws.FnExactPolicyOf'. -/
def fnExactPolicyOfUptoCard : Claim7 := { stood := { row := fnExactPolicyOfUptoRow, standIns := [], harness := (true, "1bec60d0faf7977a9d47a45710736ecb076b1668f732cd746a3417471cc71ec6"), looks := false }, kinds := [], alts := [], laidByText := true, laidKinds := [.data, .data, .data], laidTests := true, laidLooks := .later }
def FnExactPolicyOfUptoCardSaid : Prop := Claim7.holds Tryd.pinned (.plain (OpenSpec.upto fnExactPolicyOfSpec)) fnExactPolicyOfUptoCard

/-- THE SECOND FORM's CARD OF 'laws.FnExactPolicyFit'. -/
def fnExactPolicyFitUptoCard : Claim7 := { stood := { row := fnExactPolicyFitUptoRow, standIns := [], harness := (true, "1bec60d0faf7977a9d47a45710736ecb076b1668f732cd746a3417471cc71ec6"), looks := false }, kinds := [], alts := [], laidByText := true, laidKinds := [.data, .data, .data], laidTests := true, laidLooks := .later }
def FnExactPolicyFitUptoCardSaid : Prop := Claim7.holds Tryd.pinned (.plain (OpenSpec.upto fnExactPolicyFitSpec)) fnExactPolicyFitUptoCard

/-- THE SECOND FORM's CARD OF 'laws.FnExactPolicyJoin'. -/
def fnExactPolicyJoinUptoCard : Claim7 := { stood := { row := fnExactPolicyJoinUptoRow, standIns := [], harness := (true, "1bec60d0faf7977a9d47a45710736ecb076b1668f732cd746a3417471cc71ec6"), looks := false }, kinds := [], alts := [], laidByText := true, laidKinds := [.data, .data, .data], laidTests := true, laidLooks := .later }
def FnExactPolicyJoinUptoCardSaid : Prop := Claim7.holds Tryd.pinned (.plain (OpenSpec.upto fnExactPolicyJoinSpec)) fnExactPolicyJoinUptoCard

/-- THE SECOND FORM's CARD OF 'laws.FnExactPolicyOnly'. -/
def fnExactPolicyOnlyUptoCard : Claim7 := { stood := { row := fnExactPolicyOnlyUptoRow, standIns := [], harness := (true, "1bec60d0faf7977a9d47a45710736ecb076b1668f732cd746a3417471cc71ec6"), looks := false }, kinds := [], alts := [], laidByText := true, laidKinds := [.data, .data, .data], laidTests := true, laidLooks := .later }
def FnExactPolicyOnlyUptoCardSaid : Prop := Claim7.holds Tryd.pinned (.plain (OpenSpec.upto fnExactPolicyOnlySpec)) fnExactPolicyOnlyUptoCard

/-- THE SECOND FORM's CARD OF 'laws.FnExactPolicyMap'. -/
def fnExactPolicyMapUptoCard : Claim7 := { stood := { row := fnExactPolicyMapUptoRow, standIns := [], harness := (true, "1bec60d0faf7977a9d47a45710736ecb076b1668f732cd746a3417471cc71ec6"), looks := false }, kinds := [], alts := [], laidByText := true, laidKinds := [.data, .data, .data], laidTests := true, laidLooks := .later }
def FnExactPolicyMapUptoCardSaid : Prop := Claim7.holds Tryd.pinned (.plain (OpenSpec.upto fnExactPolicyMapSpec)) fnExactPolicyMapUptoCard

/-- THE SECOND FORM's CARD OF 'laws.FnPolicyFirst'. -/
def fnPolicyFirstUptoCard : Claim7 := { stood := { row := fnPolicyFirstUptoRow, standIns := [], harness := (true, "1bec60d0faf7977a9d47a45710736ecb076b1668f732cd746a3417471cc71ec6"), looks := false }, kinds := [], alts := [], laidByText := true, laidKinds := [.data, .data, .data], laidTests := true, laidLooks := .later }
def FnPolicyFirstUptoCardSaid : Prop := Claim7.holds Tryd.pinned (.plain (OpenSpec.upto fnPolicyFirstSpec)) fnPolicyFirstUptoCard

/-- THE SECOND FORM's CARD OF 'laws.FnPolicySplit'. -/
def fnPolicySplitUptoCard : Claim7 := { stood := { row := fnPolicySplitUptoRow, standIns := [], harness := (true, "1bec60d0faf7977a9d47a45710736ecb076b1668f732cd746a3417471cc71ec6"), looks := false }, kinds := [], alts := [], laidByText := true, laidKinds := [.data, .data, .data], laidTests := true, laidLooks := .later }
def FnPolicySplitUptoCardSaid : Prop := Claim7.holds Tryd.pinned (.plain (OpenSpec.upto fnPolicySplitSpec)) fnPolicySplitUptoCard

/-- THE SECOND FORM's CARD OF 'laws.FnPolicyFit'. -/
def fnPolicyFitUptoCard : Claim7 := { stood := { row := fnPolicyFitUptoRow, standIns := [], harness := (true, "1bec60d0faf7977a9d47a45710736ecb076b1668f732cd746a3417471cc71ec6"), looks := false }, kinds := [], alts := [], laidByText := true, laidKinds := [.data, .data, .data], laidTests := true, laidLooks := .later }
def FnPolicyFitUptoCardSaid : Prop := Claim7.holds Tryd.pinned (.plain (OpenSpec.upto fnPolicyFitSpec)) fnPolicyFitUptoCard

/-- THE SECOND FORM's CARD OF 'laws.FnPolicyJoin'. -/
def fnPolicyJoinUptoCard : Claim7 := { stood := { row := fnPolicyJoinUptoRow, standIns := [], harness := (true, "1bec60d0faf7977a9d47a45710736ecb076b1668f732cd746a3417471cc71ec6"), looks := false }, kinds := [], alts := [], laidByText := true, laidKinds := [.data, .data, .data], laidTests := true, laidLooks := .later }
def FnPolicyJoinUptoCardSaid : Prop := Claim7.holds Tryd.pinned (.plain (OpenSpec.upto fnPolicyJoinSpec)) fnPolicyJoinUptoCard
end Rows
end Go.Proofs.YtcocagdbkpkkaaaDoor
