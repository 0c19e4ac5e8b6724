/-
  DERIVED. GIVEN WITH THE SEED: THE CARDS: each row of YtljgaepgblakhaaDoorRows.lean that lists a variable, with what it lists TIED to the program's text (the seventh form; the later family's looks); each row that meets fmt, with fmt's text TOLD by the authors' own Lean function (tested against real Go, not proved from fmt's source: count such statements apart). THE CARD IS WHAT COUNTS. Prove the row's statement (the work); the ties are given (YtljgaepgblakhaaDoorTie.lean); close each card by the builder's one call (the guide's Derived/Test/ToyasCard.lean, 'card_holds'). Laid BY PROGRAM, IN A SANDBOX (cutbox-door.mjs). By AI agents, Wed Nov 11 2026. No macro, syntax, notation, axiom, sorry.
-/
import Derived.Test.YtljgaepgblakhaaDoorRows
import GoSem.ClaimSeven
namespace Go.Proofs.YtljgaepgblakhaaDoor
namespace Rows

/-- THE TIED CARD OF 'laws.FnPolicySplit'. -/
def fnPolicySplitCard : Claim7 := { stood := { row := fnPolicySplitRow, standIns := [], harness := (true, "e5285b4dfec83ce1191f224f2249e333f59ff691aa3990693bdc3cbb67853b79"), looks := false }, kinds := [], alts := [], laidByText := true, laidKinds := [.data, .data, .data], laidTests := true, laidLooks := .later }
def FnPolicySplitCardSaid : Prop := Claim7.holds Tryd.pinned (.plain (OpenSpec.ofChange fnPolicySplitSpec)) fnPolicySplitCard

/-- THE TIED CARD OF 'laws.FnPolicyOnly'. -/
def fnPolicyOnlyCard : Claim7 := { stood := { row := fnPolicyOnlyRow, standIns := [], harness := (true, "e5285b4dfec83ce1191f224f2249e333f59ff691aa3990693bdc3cbb67853b79"), looks := false }, kinds := [], alts := [], laidByText := true, laidKinds := [.data, .data, .data], laidTests := true, laidLooks := .later }
def FnPolicyOnlyCardSaid : Prop := Claim7.holds Tryd.pinned (.plain (OpenSpec.ofChange fnPolicyOnlySpec)) fnPolicyOnlyCard

/-- THE TIED CARD OF 'laws.FnPolicyMap'. -/
def fnPolicyMapCard : Claim7 := { stood := { row := fnPolicyMapRow, standIns := [], harness := (true, "e5285b4dfec83ce1191f224f2249e333f59ff691aa3990693bdc3cbb67853b79"), looks := false }, kinds := [], alts := [], laidByText := true, laidKinds := [.data, .data, .data], laidTests := true, laidLooks := .later }
def FnPolicyMapCardSaid : Prop := Claim7.holds Tryd.pinned (.plain (OpenSpec.ofChange fnPolicyMapSpec)) fnPolicyMapCard

/-- THE TIED CARD OF 'laws.FnPolicyNone'. -/
def fnPolicyNoneCard : Claim7 := { stood := { row := fnPolicyNoneRow, standIns := [], harness := (true, "e5285b4dfec83ce1191f224f2249e333f59ff691aa3990693bdc3cbb67853b79"), looks := false }, kinds := [], alts := [], laidByText := true, laidKinds := [.data, .data, .data], laidTests := true, laidLooks := .later }
def FnPolicyNoneCardSaid : Prop := Claim7.holds Tryd.pinned (.plain (OpenSpec.ofChange fnPolicyNoneSpec)) fnPolicyNoneCard

/-- THE TIED CARD OF 'laws.FnPolicyUses'. -/
def fnPolicyUsesCard : Claim7 := { stood := { row := fnPolicyUsesRow, standIns := [], harness := (true, "e5285b4dfec83ce1191f224f2249e333f59ff691aa3990693bdc3cbb67853b79"), looks := false }, kinds := [], alts := [], laidByText := true, laidKinds := [.data, .data, .data], laidTests := true, laidLooks := .later }
def FnPolicyUsesCardSaid : Prop := Claim7.holds Tryd.pinned (.plain (OpenSpec.ofChange fnPolicyUsesSpec)) fnPolicyUsesCard

/-- THE TIED CARD OF 'laws.FnPolicyTrim'. -/
def fnPolicyTrimCard : Claim7 := { stood := { row := fnPolicyTrimRow, standIns := [], harness := (true, "e5285b4dfec83ce1191f224f2249e333f59ff691aa3990693bdc3cbb67853b79"), looks := false }, kinds := [], alts := [], laidByText := true, laidKinds := [.data, .data, .data], laidTests := true, laidLooks := .later }
def FnPolicyTrimCardSaid : Prop := Claim7.holds Tryd.pinned (.plain (OpenSpec.ofChange fnPolicyTrimSpec)) fnPolicyTrimCard

/-- THE TIED CARD OF 'laws.FnExactPolicyTrim'. -/
def fnExactPolicyTrimCard : Claim7 := { stood := { row := fnExactPolicyTrimRow, standIns := [], harness := (true, "e5285b4dfec83ce1191f224f2249e333f59ff691aa3990693bdc3cbb67853b79"), looks := false }, kinds := [], alts := [], laidByText := true, laidKinds := [.data, .data, .data], laidTests := true, laidLooks := .later }
def FnExactPolicyTrimCardSaid : Prop := Claim7.holds Tryd.pinned (.plain (OpenSpec.ofChange fnExactPolicyTrimSpec)) fnExactPolicyTrimCard

/-- THE TIED CARD OF 'laws.FnExactPolicyUses'. -/
def fnExactPolicyUsesCard : Claim7 := { stood := { row := fnExactPolicyUsesRow, standIns := [], harness := (true, "e5285b4dfec83ce1191f224f2249e333f59ff691aa3990693bdc3cbb67853b79"), looks := false }, kinds := [], alts := [], laidByText := true, laidKinds := [.data, .data, .data], laidTests := true, laidLooks := .later }
def FnExactPolicyUsesCardSaid : Prop := Claim7.holds Tryd.pinned (.plain (OpenSpec.ofChange fnExactPolicyUsesSpec)) fnExactPolicyUsesCard

/-- THE TIED CARD OF 'laws.FnExactGraphMake'. -/
def fnExactGraphMakeCard : Claim7 := { stood := { row := fnExactGraphMakeRow, standIns := [], harness := (true, "e5285b4dfec83ce1191f224f2249e333f59ff691aa3990693bdc3cbb67853b79"), looks := false }, kinds := [], alts := [], laidByText := true, laidKinds := [.data, .data, .data], laidTests := true, laidLooks := .later }
def FnExactGraphMakeCardSaid : Prop := Claim7.holds Tryd.pinned (.plain (OpenSpec.ofChange fnExactGraphMakeSpec)) fnExactGraphMakeCard

/-- THE TIED CARD OF 'laws.FnGraphMake'. -/
def fnGraphMakeCard : Claim7 := { stood := { row := fnGraphMakeRow, standIns := [], harness := (true, "e5285b4dfec83ce1191f224f2249e333f59ff691aa3990693bdc3cbb67853b79"), looks := false }, kinds := [], alts := [], laidByText := true, laidKinds := [.data, .data, .data], laidTests := true, laidLooks := .later }
def FnGraphMakeCardSaid : Prop := Claim7.holds Tryd.pinned (.plain (OpenSpec.ofChange fnGraphMakeSpec)) fnGraphMakeCard

/-- THE TIED CARD OF 'laws.FnCallNear'. -/
def fnCallNearCard : Claim7 := { stood := { row := fnCallNearRow, standIns := [], harness := (true, "e5285b4dfec83ce1191f224f2249e333f59ff691aa3990693bdc3cbb67853b79"), looks := false }, kinds := [], alts := [], laidByText := true, laidKinds := [.data, .data, .data], laidTests := true, laidLooks := .later }
def FnCallNearCardSaid : Prop := Claim7.holds Tryd.pinned (.plain (OpenSpec.ofChange fnCallNearSpec)) fnCallNearCard

/-- THE SECOND FORM's CARD OF 'laws.FnPolicySplit'. -/
def fnPolicySplitUptoCard : Claim7 := { stood := { row := fnPolicySplitUptoRow, standIns := [], harness := (true, "e5285b4dfec83ce1191f224f2249e333f59ff691aa3990693bdc3cbb67853b79"), looks := false }, kinds := [], alts := [], laidByText := true, laidKinds := [.data, .data, .data], laidTests := true, laidLooks := .later }
def FnPolicySplitUptoCardSaid : Prop := Claim7.holds Tryd.pinned (.plain (OpenSpec.upto fnPolicySplitSpec)) fnPolicySplitUptoCard

/-- THE SECOND FORM's CARD OF 'laws.FnPolicyOnly'. -/
def fnPolicyOnlyUptoCard : Claim7 := { stood := { row := fnPolicyOnlyUptoRow, standIns := [], harness := (true, "e5285b4dfec83ce1191f224f2249e333f59ff691aa3990693bdc3cbb67853b79"), looks := false }, kinds := [], alts := [], laidByText := true, laidKinds := [.data, .data, .data], laidTests := true, laidLooks := .later }
def FnPolicyOnlyUptoCardSaid : Prop := Claim7.holds Tryd.pinned (.plain (OpenSpec.upto fnPolicyOnlySpec)) fnPolicyOnlyUptoCard

/-- THE SECOND FORM's CARD OF 'laws.FnPolicyMap'. -/
def fnPolicyMapUptoCard : Claim7 := { stood := { row := fnPolicyMapUptoRow, standIns := [], harness := (true, "e5285b4dfec83ce1191f224f2249e333f59ff691aa3990693bdc3cbb67853b79"), looks := false }, kinds := [], alts := [], laidByText := true, laidKinds := [.data, .data, .data], laidTests := true, laidLooks := .later }
def FnPolicyMapUptoCardSaid : Prop := Claim7.holds Tryd.pinned (.plain (OpenSpec.upto fnPolicyMapSpec)) fnPolicyMapUptoCard

/-- THE SECOND FORM's CARD OF 'laws.FnPolicyNone'. -/
def fnPolicyNoneUptoCard : Claim7 := { stood := { row := fnPolicyNoneUptoRow, standIns := [], harness := (true, "e5285b4dfec83ce1191f224f2249e333f59ff691aa3990693bdc3cbb67853b79"), looks := false }, kinds := [], alts := [], laidByText := true, laidKinds := [.data, .data, .data], laidTests := true, laidLooks := .later }
def FnPolicyNoneUptoCardSaid : Prop := Claim7.holds Tryd.pinned (.plain (OpenSpec.upto fnPolicyNoneSpec)) fnPolicyNoneUptoCard

/-- THE SECOND FORM's CARD OF 'laws.FnPolicyUses'. -/
def fnPolicyUsesUptoCard : Claim7 := { stood := { row := fnPolicyUsesUptoRow, standIns := [], harness := (true, "e5285b4dfec83ce1191f224f2249e333f59ff691aa3990693bdc3cbb67853b79"), looks := false }, kinds := [], alts := [], laidByText := true, laidKinds := [.data, .data, .data], laidTests := true, laidLooks := .later }
def FnPolicyUsesUptoCardSaid : Prop := Claim7.holds Tryd.pinned (.plain (OpenSpec.upto fnPolicyUsesSpec)) fnPolicyUsesUptoCard

/-- THE SECOND FORM's CARD OF 'laws.FnPolicyTrim'. -/
def fnPolicyTrimUptoCard : Claim7 := { stood := { row := fnPolicyTrimUptoRow, standIns := [], harness := (true, "e5285b4dfec83ce1191f224f2249e333f59ff691aa3990693bdc3cbb67853b79"), looks := false }, kinds := [], alts := [], laidByText := true, laidKinds := [.data, .data, .data], laidTests := true, laidLooks := .later }
def FnPolicyTrimUptoCardSaid : Prop := Claim7.holds Tryd.pinned (.plain (OpenSpec.upto fnPolicyTrimSpec)) fnPolicyTrimUptoCard

/-- THE SECOND FORM's CARD OF 'laws.FnExactPolicyTrim'. -/
def fnExactPolicyTrimUptoCard : Claim7 := { stood := { row := fnExactPolicyTrimUptoRow, standIns := [], harness := (true, "e5285b4dfec83ce1191f224f2249e333f59ff691aa3990693bdc3cbb67853b79"), looks := false }, kinds := [], alts := [], laidByText := true, laidKinds := [.data, .data, .data], laidTests := true, laidLooks := .later }
def FnExactPolicyTrimUptoCardSaid : Prop := Claim7.holds Tryd.pinned (.plain (OpenSpec.upto fnExactPolicyTrimSpec)) fnExactPolicyTrimUptoCard

/-- THE SECOND FORM's CARD OF 'laws.FnExactPolicyUses'. -/
def fnExactPolicyUsesUptoCard : Claim7 := { stood := { row := fnExactPolicyUsesUptoRow, standIns := [], harness := (true, "e5285b4dfec83ce1191f224f2249e333f59ff691aa3990693bdc3cbb67853b79"), looks := false }, kinds := [], alts := [], laidByText := true, laidKinds := [.data, .data, .data], laidTests := true, laidLooks := .later }
def FnExactPolicyUsesUptoCardSaid : Prop := Claim7.holds Tryd.pinned (.plain (OpenSpec.upto fnExactPolicyUsesSpec)) fnExactPolicyUsesUptoCard

/-- THE SECOND FORM's CARD OF 'laws.FnExactGraphMake'. -/
def fnExactGraphMakeUptoCard : Claim7 := { stood := { row := fnExactGraphMakeUptoRow, standIns := [], harness := (true, "e5285b4dfec83ce1191f224f2249e333f59ff691aa3990693bdc3cbb67853b79"), looks := false }, kinds := [], alts := [], laidByText := true, laidKinds := [.data, .data, .data], laidTests := true, laidLooks := .later }
def FnExactGraphMakeUptoCardSaid : Prop := Claim7.holds Tryd.pinned (.plain (OpenSpec.upto fnExactGraphMakeSpec)) fnExactGraphMakeUptoCard

/-- THE SECOND FORM's CARD OF 'laws.FnGraphMake'. -/
def fnGraphMakeUptoCard : Claim7 := { stood := { row := fnGraphMakeUptoRow, standIns := [], harness := (true, "e5285b4dfec83ce1191f224f2249e333f59ff691aa3990693bdc3cbb67853b79"), looks := false }, kinds := [], alts := [], laidByText := true, laidKinds := [.data, .data, .data], laidTests := true, laidLooks := .later }
def FnGraphMakeUptoCardSaid : Prop := Claim7.holds Tryd.pinned (.plain (OpenSpec.upto fnGraphMakeSpec)) fnGraphMakeUptoCard

/-- THE SECOND FORM's CARD OF 'laws.FnCallNear'. -/
def fnCallNearUptoCard : Claim7 := { stood := { row := fnCallNearUptoRow, standIns := [], harness := (true, "e5285b4dfec83ce1191f224f2249e333f59ff691aa3990693bdc3cbb67853b79"), looks := false }, kinds := [], alts := [], laidByText := true, laidKinds := [.data, .data, .data], laidTests := true, laidLooks := .later }
def FnCallNearUptoCardSaid : Prop := Claim7.holds Tryd.pinned (.plain (OpenSpec.upto fnCallNearSpec)) fnCallNearUptoCard
end Rows
end Go.Proofs.YtljgaepgblakhaaDoor
