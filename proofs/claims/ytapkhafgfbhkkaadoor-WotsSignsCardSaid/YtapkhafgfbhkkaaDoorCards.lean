/-
  DERIVED. GIVEN WITH THE SEED: THE CARDS: each row of YtapkhafgfbhkkaaDoorRows.lean that lists a variable, with what it lists TIED to the program's text (the seventh form; the later family's looks); each row that meets fmt, with fmt's text TOLD by the authors' own Lean function (tested against real Go, not proved from fmt's source: count such statements apart). THE CARD IS WHAT COUNTS. Prove the row's statement (the work); the ties are given (YtapkhafgfbhkkaaDoorTie.lean); close each card by the builder's one call (the guide's Derived/Test/ToyasCard.lean, 'card_holds'). Laid BY PROGRAM, IN A SANDBOX (cutbox-door.mjs). By AI agents, Wed Nov 11 2026. No macro, syntax, notation, axiom, sorry.
-/
import Derived.Test.YtapkhafgfbhkkaaDoorRows
import GoSem.ClaimSeven
namespace Go.Proofs.YtapkhafgfbhkkaaDoor
namespace Rows

/-- THE TIED CARD OF 'portreevelaw05.PrfKeyed'. -/
def prfKeyedCard : Claim7 := { stood := { row := prfKeyedRow, standIns := [], harness := (true, "371b21211ff0837d23507089b64c01cb4a829484380ab00093a2f49a183f160b"), looks := false }, kinds := [], alts := [], laidByText := true, laidKinds := [.data, .data], laidTests := true, laidLooks := .later }
def PrfKeyedCardSaid : Prop := Claim7.holds Tryd.pinned (.plain (OpenSpec.ofChange prfKeyedSpec)) prfKeyedCard

/-- THE TIED CARD OF 'portreevelaw05.PrfNodes'. -/
def prfNodesCard : Claim7 := { stood := { row := prfNodesRow, standIns := [], harness := (true, "371b21211ff0837d23507089b64c01cb4a829484380ab00093a2f49a183f160b"), looks := false }, kinds := [], alts := [], laidByText := true, laidKinds := [.data, .data], laidTests := true, laidLooks := .later }
def PrfNodesCardSaid : Prop := Claim7.holds Tryd.pinned (.plain (OpenSpec.ofChange prfNodesSpec)) prfNodesCard

/-- THE TIED CARD OF 'portreevelaw05.PrfMsgs'. -/
def prfMsgsCard : Claim7 := { stood := { row := prfMsgsRow, standIns := [], harness := (true, "371b21211ff0837d23507089b64c01cb4a829484380ab00093a2f49a183f160b"), looks := false }, kinds := [], alts := [], laidByText := true, laidKinds := [.data, .data], laidTests := true, laidLooks := .later }
def PrfMsgsCardSaid : Prop := Claim7.holds Tryd.pinned (.plain (OpenSpec.ofChange prfMsgsSpec)) prfMsgsCard

/-- THE TIED CARD OF 'portreevelaw05.PrfXors'. -/
def prfXorsCard : Claim7 := { stood := { row := prfXorsRow, standIns := [], harness := (true, "371b21211ff0837d23507089b64c01cb4a829484380ab00093a2f49a183f160b"), looks := false }, kinds := [], alts := [], laidByText := true, laidKinds := [.data, .data], laidTests := true, laidLooks := .later }
def PrfXorsCardSaid : Prop := Claim7.holds Tryd.pinned (.plain (OpenSpec.ofChange prfXorsSpec)) prfXorsCard

/-- THE TIED CARD OF 'portreevelaw05.PrfRands'. -/
def prfRandsCard : Claim7 := { stood := { row := prfRandsRow, standIns := [], harness := (true, "371b21211ff0837d23507089b64c01cb4a829484380ab00093a2f49a183f160b"), looks := false }, kinds := [], alts := [], laidByText := true, laidKinds := [.data, .data], laidTests := true, laidLooks := .later }
def PrfRandsCardSaid : Prop := Claim7.holds Tryd.pinned (.plain (OpenSpec.ofChange prfRandsSpec)) prfRandsCard

/-- THE TIED CARD OF 'portreevelaw06.WotsChains'. -/
def wotsChainsCard : Claim7 := { stood := { row := wotsChainsRow, standIns := [], harness := (true, "371b21211ff0837d23507089b64c01cb4a829484380ab00093a2f49a183f160b"), looks := false }, kinds := [], alts := [], laidByText := true, laidKinds := [.data, .data], laidTests := true, laidLooks := .later }
def WotsChainsCardSaid : Prop := Claim7.holds Tryd.pinned (.plain (OpenSpec.ofChange wotsChainsSpec)) wotsChainsCard

/-- THE TIED CARD OF 'portreevelaw06.WotsSteps'. -/
def wotsStepsCard : Claim7 := { stood := { row := wotsStepsRow, standIns := [], harness := (true, "371b21211ff0837d23507089b64c01cb4a829484380ab00093a2f49a183f160b"), looks := false }, kinds := [], alts := [], laidByText := true, laidKinds := [.data, .data], laidTests := true, laidLooks := .later }
def WotsStepsCardSaid : Prop := Claim7.holds Tryd.pinned (.plain (OpenSpec.ofChange wotsStepsSpec)) wotsStepsCard

/-- THE TIED CARD OF 'portreevelaw06.WotsPublic'. -/
def wotsPublicCard : Claim7 := { stood := { row := wotsPublicRow, standIns := [], harness := (true, "371b21211ff0837d23507089b64c01cb4a829484380ab00093a2f49a183f160b"), looks := false }, kinds := [], alts := [], laidByText := true, laidKinds := [.data, .data], laidTests := true, laidLooks := .later }
def WotsPublicCardSaid : Prop := Claim7.holds Tryd.pinned (.plain (OpenSpec.ofChange wotsPublicSpec)) wotsPublicCard

/-- THE TIED CARD OF 'portreevelaw06.WotsKeys'. -/
def wotsKeysCard : Claim7 := { stood := { row := wotsKeysRow, standIns := [], harness := (true, "371b21211ff0837d23507089b64c01cb4a829484380ab00093a2f49a183f160b"), looks := false }, kinds := [], alts := [], laidByText := true, laidKinds := [.data, .data], laidTests := true, laidLooks := .later }
def WotsKeysCardSaid : Prop := Claim7.holds Tryd.pinned (.plain (OpenSpec.ofChange wotsKeysSpec)) wotsKeysCard

/-- THE TIED CARD OF 'portreevelaw06.WotsSigns'. -/
def wotsSignsCard : Claim7 := { stood := { row := wotsSignsRow, standIns := [], harness := (true, "371b21211ff0837d23507089b64c01cb4a829484380ab00093a2f49a183f160b"), looks := false }, kinds := [], alts := [], laidByText := true, laidKinds := [.data, .data], laidTests := true, laidLooks := .later }
def WotsSignsCardSaid : Prop := Claim7.holds Tryd.pinned (.plain (OpenSpec.ofChange wotsSignsSpec)) wotsSignsCard

/-- THE SECOND FORM's CARD OF 'portreevelaw05.PrfKeyed'. -/
def prfKeyedUptoCard : Claim7 := { stood := { row := prfKeyedUptoRow, standIns := [], harness := (true, "371b21211ff0837d23507089b64c01cb4a829484380ab00093a2f49a183f160b"), looks := false }, kinds := [], alts := [], laidByText := true, laidKinds := [.data, .data], laidTests := true, laidLooks := .later }
def PrfKeyedUptoCardSaid : Prop := Claim7.holds Tryd.pinned (.plain (OpenSpec.upto prfKeyedSpec)) prfKeyedUptoCard

/-- THE SECOND FORM's CARD OF 'portreevelaw05.PrfNodes'. -/
def prfNodesUptoCard : Claim7 := { stood := { row := prfNodesUptoRow, standIns := [], harness := (true, "371b21211ff0837d23507089b64c01cb4a829484380ab00093a2f49a183f160b"), looks := false }, kinds := [], alts := [], laidByText := true, laidKinds := [.data, .data], laidTests := true, laidLooks := .later }
def PrfNodesUptoCardSaid : Prop := Claim7.holds Tryd.pinned (.plain (OpenSpec.upto prfNodesSpec)) prfNodesUptoCard

/-- THE SECOND FORM's CARD OF 'portreevelaw05.PrfMsgs'. -/
def prfMsgsUptoCard : Claim7 := { stood := { row := prfMsgsUptoRow, standIns := [], harness := (true, "371b21211ff0837d23507089b64c01cb4a829484380ab00093a2f49a183f160b"), looks := false }, kinds := [], alts := [], laidByText := true, laidKinds := [.data, .data], laidTests := true, laidLooks := .later }
def PrfMsgsUptoCardSaid : Prop := Claim7.holds Tryd.pinned (.plain (OpenSpec.upto prfMsgsSpec)) prfMsgsUptoCard

/-- THE SECOND FORM's CARD OF 'portreevelaw05.PrfXors'. -/
def prfXorsUptoCard : Claim7 := { stood := { row := prfXorsUptoRow, standIns := [], harness := (true, "371b21211ff0837d23507089b64c01cb4a829484380ab00093a2f49a183f160b"), looks := false }, kinds := [], alts := [], laidByText := true, laidKinds := [.data, .data], laidTests := true, laidLooks := .later }
def PrfXorsUptoCardSaid : Prop := Claim7.holds Tryd.pinned (.plain (OpenSpec.upto prfXorsSpec)) prfXorsUptoCard

/-- THE SECOND FORM's CARD OF 'portreevelaw05.PrfRands'. -/
def prfRandsUptoCard : Claim7 := { stood := { row := prfRandsUptoRow, standIns := [], harness := (true, "371b21211ff0837d23507089b64c01cb4a829484380ab00093a2f49a183f160b"), looks := false }, kinds := [], alts := [], laidByText := true, laidKinds := [.data, .data], laidTests := true, laidLooks := .later }
def PrfRandsUptoCardSaid : Prop := Claim7.holds Tryd.pinned (.plain (OpenSpec.upto prfRandsSpec)) prfRandsUptoCard

/-- THE SECOND FORM's CARD OF 'portreevelaw06.WotsChains'. -/
def wotsChainsUptoCard : Claim7 := { stood := { row := wotsChainsUptoRow, standIns := [], harness := (true, "371b21211ff0837d23507089b64c01cb4a829484380ab00093a2f49a183f160b"), looks := false }, kinds := [], alts := [], laidByText := true, laidKinds := [.data, .data], laidTests := true, laidLooks := .later }
def WotsChainsUptoCardSaid : Prop := Claim7.holds Tryd.pinned (.plain (OpenSpec.upto wotsChainsSpec)) wotsChainsUptoCard

/-- THE SECOND FORM's CARD OF 'portreevelaw06.WotsSteps'. -/
def wotsStepsUptoCard : Claim7 := { stood := { row := wotsStepsUptoRow, standIns := [], harness := (true, "371b21211ff0837d23507089b64c01cb4a829484380ab00093a2f49a183f160b"), looks := false }, kinds := [], alts := [], laidByText := true, laidKinds := [.data, .data], laidTests := true, laidLooks := .later }
def WotsStepsUptoCardSaid : Prop := Claim7.holds Tryd.pinned (.plain (OpenSpec.upto wotsStepsSpec)) wotsStepsUptoCard

/-- THE SECOND FORM's CARD OF 'portreevelaw06.WotsPublic'. -/
def wotsPublicUptoCard : Claim7 := { stood := { row := wotsPublicUptoRow, standIns := [], harness := (true, "371b21211ff0837d23507089b64c01cb4a829484380ab00093a2f49a183f160b"), looks := false }, kinds := [], alts := [], laidByText := true, laidKinds := [.data, .data], laidTests := true, laidLooks := .later }
def WotsPublicUptoCardSaid : Prop := Claim7.holds Tryd.pinned (.plain (OpenSpec.upto wotsPublicSpec)) wotsPublicUptoCard

/-- THE SECOND FORM's CARD OF 'portreevelaw06.WotsKeys'. -/
def wotsKeysUptoCard : Claim7 := { stood := { row := wotsKeysUptoRow, standIns := [], harness := (true, "371b21211ff0837d23507089b64c01cb4a829484380ab00093a2f49a183f160b"), looks := false }, kinds := [], alts := [], laidByText := true, laidKinds := [.data, .data], laidTests := true, laidLooks := .later }
def WotsKeysUptoCardSaid : Prop := Claim7.holds Tryd.pinned (.plain (OpenSpec.upto wotsKeysSpec)) wotsKeysUptoCard

/-- THE SECOND FORM's CARD OF 'portreevelaw06.WotsSigns'. -/
def wotsSignsUptoCard : Claim7 := { stood := { row := wotsSignsUptoRow, standIns := [], harness := (true, "371b21211ff0837d23507089b64c01cb4a829484380ab00093a2f49a183f160b"), looks := false }, kinds := [], alts := [], laidByText := true, laidKinds := [.data, .data], laidTests := true, laidLooks := .later }
def WotsSignsUptoCardSaid : Prop := Claim7.holds Tryd.pinned (.plain (OpenSpec.upto wotsSignsSpec)) wotsSignsUptoCard
end Rows
end Go.Proofs.YtapkhafgfbhkkaaDoor
