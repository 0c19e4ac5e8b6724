/-
  DERIVED. GIVEN WITH THE SEED: THE CARDS: each row of YtdbojdgppgphkaaDoorRows.lean that lists a variable, with what it lists TIED to the program's text (the seventh form; the later family's looks); each row that meets fmt, with fmt's text TOLD by the authors' own Lean function (tested against real Go, not proved from fmt's source: count such statements apart). THE CARD IS WHAT COUNTS. Prove the row's statement (the work); the ties are given (YtdbojdgppgphkaaDoorTie.lean); close each card by the builder's one call (the guide's Derived/Test/ToyasCard.lean, 'card_holds'). Laid BY PROGRAM, IN A SANDBOX (cutbox-door.mjs). By AI agents, Wed Nov 11 2026. No macro, syntax, notation, axiom, sorry.
-/
import Derived.Test.YtdbojdgppgphkaaDoorRows
import GoSem.ClaimSeven
namespace Go.Proofs.YtdbojdgppgphkaaDoor
namespace Rows

/-- THE TIED CARD OF 'laws.FnExactGateOrder'. -/
def fnExactGateOrderCard : Claim7 := { stood := { row := fnExactGateOrderRow, standIns := [], harness := (true, "b121fac4b65e6596d7006fcc74cc60828f861e55e109e0c6baaf5907fcd27632"), looks := true }, kinds := [], alts := [], laidByText := true, laidKinds := [.data, .data, .data, .data], laidTests := true, laidLooks := .later }
def FnExactGateOrderCardSaid : Prop := Claim7.holds Tryd.pinned (.plain (OpenSpec.ofChange fnExactGateOrderSpec)) fnExactGateOrderCard

/-- THE TIED CARD OF 'laws.FnGateOrder'. -/
def fnGateOrderCard : Claim7 := { stood := { row := fnGateOrderRow, standIns := [], harness := (true, "b121fac4b65e6596d7006fcc74cc60828f861e55e109e0c6baaf5907fcd27632"), looks := true }, kinds := [], alts := [], laidByText := true, laidKinds := [.data, .data, .data, .data], laidTests := true, laidLooks := .later }
def FnGateOrderCardSaid : Prop := Claim7.holds Tryd.pinned (.plain (OpenSpec.ofChange fnGateOrderSpec)) fnGateOrderCard

/-- THE TIED CARD OF 'laws.FnExactPackWrite'. -/
def fnExactPackWriteCard : Claim7 := { stood := { row := fnExactPackWriteRow, standIns := [], harness := (true, "b121fac4b65e6596d7006fcc74cc60828f861e55e109e0c6baaf5907fcd27632"), looks := true }, kinds := [], alts := [], laidByText := true, laidKinds := [.data, .data, .data, .data], laidTests := true, laidLooks := .later }
def FnExactPackWriteCardSaid : Prop := Claim7.holds Tryd.pinned (.plain (OpenSpec.ofChange fnExactPackWriteSpec)) fnExactPackWriteCard

/-- THE TIED CARD OF 'laws.FnPolicyText'. -/
def fnPolicyTextCard : Claim7 := { stood := { row := fnPolicyTextRow, standIns := [], harness := (true, "b121fac4b65e6596d7006fcc74cc60828f861e55e109e0c6baaf5907fcd27632"), looks := true }, kinds := [], alts := [], laidByText := true, laidKinds := [.data, .data, .data, .data, .pinned], laidTests := true, laidLooks := .later }
def FnPolicyTextCardSaid : Prop := Claim7.holds Tryd.pinned (.plain (OpenSpec.ofChange fnPolicyTextSpec)) fnPolicyTextCard

/-- THE TIED CARD OF 'laws.FnExactPolicyRead'. -/
def fnExactPolicyReadCard : Claim7 := { stood := { row := fnExactPolicyReadRow, standIns := [], harness := (true, "b121fac4b65e6596d7006fcc74cc60828f861e55e109e0c6baaf5907fcd27632"), looks := true }, kinds := [], alts := [], laidByText := true, laidKinds := [.data, .pinned], laidTests := true, laidLooks := .later }
def FnExactPolicyReadCardSaid : Prop := Claim7.holds Tryd.pinned (.plain (OpenSpec.ofChange fnExactPolicyReadSpec)) fnExactPolicyReadCard

/-- THE TIED CARD OF 'laws.FnExactSlotsWrite'. -/
def fnExactSlotsWriteCard : Claim7 := { stood := { row := fnExactSlotsWriteRow, standIns := [], harness := (true, "b121fac4b65e6596d7006fcc74cc60828f861e55e109e0c6baaf5907fcd27632"), looks := true }, kinds := [], alts := [], laidByText := true, laidKinds := [.data, .data, .data], laidTests := true, laidLooks := .later }
def FnExactSlotsWriteCardSaid : Prop := Claim7.holds Tryd.pinned (.plain (OpenSpec.ofChange fnExactSlotsWriteSpec)) fnExactSlotsWriteCard

/-- THE TIED CARD OF 'laws.FnExactSlotsTorn'. -/
def fnExactSlotsTornCard : Claim7 := { stood := { row := fnExactSlotsTornRow, standIns := [], harness := (true, "b121fac4b65e6596d7006fcc74cc60828f861e55e109e0c6baaf5907fcd27632"), looks := true }, kinds := [], alts := [], laidByText := true, laidKinds := [.data, .data, .data], laidTests := true, laidLooks := .later }
def FnExactSlotsTornCardSaid : Prop := Claim7.holds Tryd.pinned (.plain (OpenSpec.ofChange fnExactSlotsTornSpec)) fnExactSlotsTornCard

/-- THE TIED CARD OF 'laws.FnSlotsWrite'. -/
def fnSlotsWriteCard : Claim7 := { stood := { row := fnSlotsWriteRow, standIns := [], harness := (true, "b121fac4b65e6596d7006fcc74cc60828f861e55e109e0c6baaf5907fcd27632"), looks := true }, kinds := [], alts := [], laidByText := true, laidKinds := [.data, .data, .data], laidTests := true, laidLooks := .later }
def FnSlotsWriteCardSaid : Prop := Claim7.holds Tryd.pinned (.plain (OpenSpec.ofChange fnSlotsWriteSpec)) fnSlotsWriteCard

/-- THE TIED CARD OF 'laws.FnSlotsTorn'. -/
def fnSlotsTornCard : Claim7 := { stood := { row := fnSlotsTornRow, standIns := [], harness := (true, "b121fac4b65e6596d7006fcc74cc60828f861e55e109e0c6baaf5907fcd27632"), looks := true }, kinds := [], alts := [], laidByText := true, laidKinds := [.data, .data, .data], laidTests := true, laidLooks := .later }
def FnSlotsTornCardSaid : Prop := Claim7.holds Tryd.pinned (.plain (OpenSpec.ofChange fnSlotsTornSpec)) fnSlotsTornCard

/-- THE TIED CARD OF 'laws.FnSlotsTwice'. -/
def fnSlotsTwiceCard : Claim7 := { stood := { row := fnSlotsTwiceRow, standIns := [], harness := (true, "b121fac4b65e6596d7006fcc74cc60828f861e55e109e0c6baaf5907fcd27632"), looks := true }, kinds := [], alts := [], laidByText := true, laidKinds := [.data, .data, .data], laidTests := true, laidLooks := .later }
def FnSlotsTwiceCardSaid : Prop := Claim7.holds Tryd.pinned (.plain (OpenSpec.ofChange fnSlotsTwiceSpec)) fnSlotsTwiceCard

/-- THE SECOND FORM's CARD OF 'laws.FnExactGateOrder'. -/
def fnExactGateOrderUptoCard : Claim7 := { stood := { row := fnExactGateOrderUptoRow, standIns := [], harness := (true, "b121fac4b65e6596d7006fcc74cc60828f861e55e109e0c6baaf5907fcd27632"), looks := true }, kinds := [], alts := [], laidByText := true, laidKinds := [.data, .data, .data, .data], laidTests := true, laidLooks := .later }
def FnExactGateOrderUptoCardSaid : Prop := Claim7.holds Tryd.pinned (.plain (OpenSpec.upto fnExactGateOrderSpec)) fnExactGateOrderUptoCard

/-- THE SECOND FORM's CARD OF 'laws.FnGateOrder'. -/
def fnGateOrderUptoCard : Claim7 := { stood := { row := fnGateOrderUptoRow, standIns := [], harness := (true, "b121fac4b65e6596d7006fcc74cc60828f861e55e109e0c6baaf5907fcd27632"), looks := true }, kinds := [], alts := [], laidByText := true, laidKinds := [.data, .data, .data, .data], laidTests := true, laidLooks := .later }
def FnGateOrderUptoCardSaid : Prop := Claim7.holds Tryd.pinned (.plain (OpenSpec.upto fnGateOrderSpec)) fnGateOrderUptoCard

/-- THE SECOND FORM's CARD OF 'laws.FnExactPackWrite'. -/
def fnExactPackWriteUptoCard : Claim7 := { stood := { row := fnExactPackWriteUptoRow, standIns := [], harness := (true, "b121fac4b65e6596d7006fcc74cc60828f861e55e109e0c6baaf5907fcd27632"), looks := true }, kinds := [], alts := [], laidByText := true, laidKinds := [.data, .data, .data, .data], laidTests := true, laidLooks := .later }
def FnExactPackWriteUptoCardSaid : Prop := Claim7.holds Tryd.pinned (.plain (OpenSpec.upto fnExactPackWriteSpec)) fnExactPackWriteUptoCard

/-- THE SECOND FORM's CARD OF 'laws.FnPolicyText'. -/
def fnPolicyTextUptoCard : Claim7 := { stood := { row := fnPolicyTextUptoRow, standIns := [], harness := (true, "b121fac4b65e6596d7006fcc74cc60828f861e55e109e0c6baaf5907fcd27632"), looks := true }, kinds := [], alts := [], laidByText := true, laidKinds := [.data, .data, .data, .data, .pinned], laidTests := true, laidLooks := .later }
def FnPolicyTextUptoCardSaid : Prop := Claim7.holds Tryd.pinned (.plain (OpenSpec.upto fnPolicyTextSpec)) fnPolicyTextUptoCard

/-- THE SECOND FORM's CARD OF 'laws.FnExactPolicyRead'. -/
def fnExactPolicyReadUptoCard : Claim7 := { stood := { row := fnExactPolicyReadUptoRow, standIns := [], harness := (true, "b121fac4b65e6596d7006fcc74cc60828f861e55e109e0c6baaf5907fcd27632"), looks := true }, kinds := [], alts := [], laidByText := true, laidKinds := [.data, .pinned], laidTests := true, laidLooks := .later }
def FnExactPolicyReadUptoCardSaid : Prop := Claim7.holds Tryd.pinned (.plain (OpenSpec.upto fnExactPolicyReadSpec)) fnExactPolicyReadUptoCard

/-- THE SECOND FORM's CARD OF 'laws.FnExactSlotsWrite'. -/
def fnExactSlotsWriteUptoCard : Claim7 := { stood := { row := fnExactSlotsWriteUptoRow, standIns := [], harness := (true, "b121fac4b65e6596d7006fcc74cc60828f861e55e109e0c6baaf5907fcd27632"), looks := true }, kinds := [], alts := [], laidByText := true, laidKinds := [.data, .data, .data], laidTests := true, laidLooks := .later }
def FnExactSlotsWriteUptoCardSaid : Prop := Claim7.holds Tryd.pinned (.plain (OpenSpec.upto fnExactSlotsWriteSpec)) fnExactSlotsWriteUptoCard

/-- THE SECOND FORM's CARD OF 'laws.FnExactSlotsTorn'. -/
def fnExactSlotsTornUptoCard : Claim7 := { stood := { row := fnExactSlotsTornUptoRow, standIns := [], harness := (true, "b121fac4b65e6596d7006fcc74cc60828f861e55e109e0c6baaf5907fcd27632"), looks := true }, kinds := [], alts := [], laidByText := true, laidKinds := [.data, .data, .data], laidTests := true, laidLooks := .later }
def FnExactSlotsTornUptoCardSaid : Prop := Claim7.holds Tryd.pinned (.plain (OpenSpec.upto fnExactSlotsTornSpec)) fnExactSlotsTornUptoCard

/-- THE SECOND FORM's CARD OF 'laws.FnSlotsWrite'. -/
def fnSlotsWriteUptoCard : Claim7 := { stood := { row := fnSlotsWriteUptoRow, standIns := [], harness := (true, "b121fac4b65e6596d7006fcc74cc60828f861e55e109e0c6baaf5907fcd27632"), looks := true }, kinds := [], alts := [], laidByText := true, laidKinds := [.data, .data, .data], laidTests := true, laidLooks := .later }
def FnSlotsWriteUptoCardSaid : Prop := Claim7.holds Tryd.pinned (.plain (OpenSpec.upto fnSlotsWriteSpec)) fnSlotsWriteUptoCard

/-- THE SECOND FORM's CARD OF 'laws.FnSlotsTorn'. -/
def fnSlotsTornUptoCard : Claim7 := { stood := { row := fnSlotsTornUptoRow, standIns := [], harness := (true, "b121fac4b65e6596d7006fcc74cc60828f861e55e109e0c6baaf5907fcd27632"), looks := true }, kinds := [], alts := [], laidByText := true, laidKinds := [.data, .data, .data], laidTests := true, laidLooks := .later }
def FnSlotsTornUptoCardSaid : Prop := Claim7.holds Tryd.pinned (.plain (OpenSpec.upto fnSlotsTornSpec)) fnSlotsTornUptoCard

/-- THE SECOND FORM's CARD OF 'laws.FnSlotsTwice'. -/
def fnSlotsTwiceUptoCard : Claim7 := { stood := { row := fnSlotsTwiceUptoRow, standIns := [], harness := (true, "b121fac4b65e6596d7006fcc74cc60828f861e55e109e0c6baaf5907fcd27632"), looks := true }, kinds := [], alts := [], laidByText := true, laidKinds := [.data, .data, .data], laidTests := true, laidLooks := .later }
def FnSlotsTwiceUptoCardSaid : Prop := Claim7.holds Tryd.pinned (.plain (OpenSpec.upto fnSlotsTwiceSpec)) fnSlotsTwiceUptoCard
end Rows
end Go.Proofs.YtdbojdgppgphkaaDoor
