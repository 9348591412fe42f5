/-
  DERIVED. GIVEN WITH THE SEED: THE CARDS: each row of YtgfdjfglfipjfaaDoorRows.lean that lists a variable, with what it lists TIED to the program's text (the seventh form; the later family's looks); each row that meets fmt, with fmt's text TOLD by the authors' own Lean function (tested against real Go, not proved from fmt's source: count such statements apart). THE CARD IS WHAT COUNTS. Prove the row's statement (the work); the ties are given (YtgfdjfglfipjfaaDoorTie.lean); close each card by the builder's one call (the guide's Derived/Test/ToyasCard.lean, 'card_holds'). Laid BY PROGRAM, IN A SANDBOX (cutbox-door.mjs). By AI agents, Wed Nov 11 2026. No macro, syntax, notation, axiom, sorry.
-/
import Derived.Test.YtgfdjfglfipjfaaDoorRows
import GoSem.ClaimSeven
namespace Go.Proofs.YtgfdjfglfipjfaaDoor
namespace Rows

/-- THE TIED CARD OF 'portreevelaw07.LtreeLeaves'. -/
def ltreeLeavesCard : Claim7 := { stood := { row := ltreeLeavesRow, standIns := [], harness := (true, "146edc036b11988cba7f6102f7c143cf4eade9589ec0dd4c9b02e43c205a3b68"), looks := false }, kinds := [], alts := [], laidByText := true, laidKinds := [.data, .data], laidTests := true, laidLooks := .later }
def LtreeLeavesCardSaid : Prop := Claim7.holds Tryd.pinned (.plain (OpenSpec.ofChange ltreeLeavesSpec)) ltreeLeavesCard

/-- THE TIED CARD OF 'portreevelaw07.LtreeRoots'. -/
def ltreeRootsCard : Claim7 := { stood := { row := ltreeRootsRow, standIns := [], harness := (true, "146edc036b11988cba7f6102f7c143cf4eade9589ec0dd4c9b02e43c205a3b68"), looks := false }, kinds := [], alts := [], laidByText := true, laidKinds := [.data, .data], laidTests := true, laidLooks := .later }
def LtreeRootsCardSaid : Prop := Claim7.holds Tryd.pinned (.plain (OpenSpec.ofChange ltreeRootsSpec)) ltreeRootsCard

/-- THE TIED CARD OF 'portreevelaw07.LtreeSplits'. -/
def ltreeSplitsCard : Claim7 := { stood := { row := ltreeSplitsRow, standIns := [], harness := (true, "146edc036b11988cba7f6102f7c143cf4eade9589ec0dd4c9b02e43c205a3b68"), looks := false }, kinds := [], alts := [], laidByText := true, laidKinds := [.data, .data], laidTests := true, laidLooks := .later }
def LtreeSplitsCardSaid : Prop := Claim7.holds Tryd.pinned (.plain (OpenSpec.ofChange ltreeSplitsSpec)) ltreeSplitsCard

/-- THE TIED CARD OF 'portreevelaw07.LtreePaths'. -/
def ltreePathsCard : Claim7 := { stood := { row := ltreePathsRow, standIns := [], harness := (true, "146edc036b11988cba7f6102f7c143cf4eade9589ec0dd4c9b02e43c205a3b68"), looks := false }, kinds := [], alts := [], laidByText := true, laidKinds := [.data, .data], laidTests := true, laidLooks := .later }
def LtreePathsCardSaid : Prop := Claim7.holds Tryd.pinned (.plain (OpenSpec.ofChange ltreePathsSpec)) ltreePathsCard

/-- THE TIED CARD OF 'portreevelaw07.LtreeProves'. -/
def ltreeProvesCard : Claim7 := { stood := { row := ltreeProvesRow, standIns := [], harness := (true, "146edc036b11988cba7f6102f7c143cf4eade9589ec0dd4c9b02e43c205a3b68"), looks := false }, kinds := [], alts := [], laidByText := true, laidKinds := [.data, .data], laidTests := true, laidLooks := .later }
def LtreeProvesCardSaid : Prop := Claim7.holds Tryd.pinned (.plain (OpenSpec.ofChange ltreeProvesSpec)) ltreeProvesCard

/-- THE TIED CARD OF 'portreevelaw08.XmssMakes'. -/
def xmssMakesCard : Claim7 := { stood := { row := xmssMakesRow, standIns := [], harness := (true, "146edc036b11988cba7f6102f7c143cf4eade9589ec0dd4c9b02e43c205a3b68"), looks := false }, kinds := [], alts := [], laidByText := true, laidKinds := [.data, .data], laidTests := true, laidLooks := .later }
def XmssMakesCardSaid : Prop := Claim7.holds Tryd.pinned (.plain (OpenSpec.ofChange xmssMakesSpec)) xmssMakesCard

/-- THE TIED CARD OF 'portreevelaw08.XmssVerifies'. -/
def xmssVerifiesCard : Claim7 := { stood := { row := xmssVerifiesRow, standIns := [], harness := (true, "146edc036b11988cba7f6102f7c143cf4eade9589ec0dd4c9b02e43c205a3b68"), looks := false }, kinds := [], alts := [], laidByText := true, laidKinds := [.data, .data], laidTests := true, laidLooks := .later }
def XmssVerifiesCardSaid : Prop := Claim7.holds Tryd.pinned (.plain (OpenSpec.ofChange xmssVerifiesSpec)) xmssVerifiesCard

/-- THE TIED CARD OF 'portreevelaw08.XmssSigns'. -/
def xmssSignsCard : Claim7 := { stood := { row := xmssSignsRow, standIns := [], harness := (true, "146edc036b11988cba7f6102f7c143cf4eade9589ec0dd4c9b02e43c205a3b68"), looks := false }, kinds := [], alts := [], laidByText := true, laidKinds := [.data, .data], laidTests := true, laidLooks := .later }
def XmssSignsCardSaid : Prop := Claim7.holds Tryd.pinned (.plain (OpenSpec.ofChange xmssSignsSpec)) xmssSignsCard

/-- THE SECOND FORM's CARD OF 'portreevelaw07.LtreeLeaves'. -/
def ltreeLeavesUptoCard : Claim7 := { stood := { row := ltreeLeavesUptoRow, standIns := [], harness := (true, "146edc036b11988cba7f6102f7c143cf4eade9589ec0dd4c9b02e43c205a3b68"), looks := false }, kinds := [], alts := [], laidByText := true, laidKinds := [.data, .data], laidTests := true, laidLooks := .later }
def LtreeLeavesUptoCardSaid : Prop := Claim7.holds Tryd.pinned (.plain (OpenSpec.upto ltreeLeavesSpec)) ltreeLeavesUptoCard

/-- THE SECOND FORM's CARD OF 'portreevelaw07.LtreeRoots'. -/
def ltreeRootsUptoCard : Claim7 := { stood := { row := ltreeRootsUptoRow, standIns := [], harness := (true, "146edc036b11988cba7f6102f7c143cf4eade9589ec0dd4c9b02e43c205a3b68"), looks := false }, kinds := [], alts := [], laidByText := true, laidKinds := [.data, .data], laidTests := true, laidLooks := .later }
def LtreeRootsUptoCardSaid : Prop := Claim7.holds Tryd.pinned (.plain (OpenSpec.upto ltreeRootsSpec)) ltreeRootsUptoCard

/-- THE SECOND FORM's CARD OF 'portreevelaw07.LtreeSplits'. -/
def ltreeSplitsUptoCard : Claim7 := { stood := { row := ltreeSplitsUptoRow, standIns := [], harness := (true, "146edc036b11988cba7f6102f7c143cf4eade9589ec0dd4c9b02e43c205a3b68"), looks := false }, kinds := [], alts := [], laidByText := true, laidKinds := [.data, .data], laidTests := true, laidLooks := .later }
def LtreeSplitsUptoCardSaid : Prop := Claim7.holds Tryd.pinned (.plain (OpenSpec.upto ltreeSplitsSpec)) ltreeSplitsUptoCard

/-- THE SECOND FORM's CARD OF 'portreevelaw07.LtreePaths'. -/
def ltreePathsUptoCard : Claim7 := { stood := { row := ltreePathsUptoRow, standIns := [], harness := (true, "146edc036b11988cba7f6102f7c143cf4eade9589ec0dd4c9b02e43c205a3b68"), looks := false }, kinds := [], alts := [], laidByText := true, laidKinds := [.data, .data], laidTests := true, laidLooks := .later }
def LtreePathsUptoCardSaid : Prop := Claim7.holds Tryd.pinned (.plain (OpenSpec.upto ltreePathsSpec)) ltreePathsUptoCard

/-- THE SECOND FORM's CARD OF 'portreevelaw07.LtreeProves'. -/
def ltreeProvesUptoCard : Claim7 := { stood := { row := ltreeProvesUptoRow, standIns := [], harness := (true, "146edc036b11988cba7f6102f7c143cf4eade9589ec0dd4c9b02e43c205a3b68"), looks := false }, kinds := [], alts := [], laidByText := true, laidKinds := [.data, .data], laidTests := true, laidLooks := .later }
def LtreeProvesUptoCardSaid : Prop := Claim7.holds Tryd.pinned (.plain (OpenSpec.upto ltreeProvesSpec)) ltreeProvesUptoCard

/-- THE SECOND FORM's CARD OF 'portreevelaw08.XmssMakes'. -/
def xmssMakesUptoCard : Claim7 := { stood := { row := xmssMakesUptoRow, standIns := [], harness := (true, "146edc036b11988cba7f6102f7c143cf4eade9589ec0dd4c9b02e43c205a3b68"), looks := false }, kinds := [], alts := [], laidByText := true, laidKinds := [.data, .data], laidTests := true, laidLooks := .later }
def XmssMakesUptoCardSaid : Prop := Claim7.holds Tryd.pinned (.plain (OpenSpec.upto xmssMakesSpec)) xmssMakesUptoCard

/-- THE SECOND FORM's CARD OF 'portreevelaw08.XmssVerifies'. -/
def xmssVerifiesUptoCard : Claim7 := { stood := { row := xmssVerifiesUptoRow, standIns := [], harness := (true, "146edc036b11988cba7f6102f7c143cf4eade9589ec0dd4c9b02e43c205a3b68"), looks := false }, kinds := [], alts := [], laidByText := true, laidKinds := [.data, .data], laidTests := true, laidLooks := .later }
def XmssVerifiesUptoCardSaid : Prop := Claim7.holds Tryd.pinned (.plain (OpenSpec.upto xmssVerifiesSpec)) xmssVerifiesUptoCard

/-- THE SECOND FORM's CARD OF 'portreevelaw08.XmssSigns'. -/
def xmssSignsUptoCard : Claim7 := { stood := { row := xmssSignsUptoRow, standIns := [], harness := (true, "146edc036b11988cba7f6102f7c143cf4eade9589ec0dd4c9b02e43c205a3b68"), looks := false }, kinds := [], alts := [], laidByText := true, laidKinds := [.data, .data], laidTests := true, laidLooks := .later }
def XmssSignsUptoCardSaid : Prop := Claim7.holds Tryd.pinned (.plain (OpenSpec.upto xmssSignsSpec)) xmssSignsUptoCard
end Rows
end Go.Proofs.YtgfdjfglfipjfaaDoor
