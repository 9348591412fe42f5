/-
  DERIVED. GIVEN WITH THE SEED: THE CARDS: each row of YtipdmhppadapkaaGreatDoorRows.lean that lists a variable, with what it lists TIED to the program's text (the seventh form; the later family's looks); each row that meets fmt, with fmt's text TOLD by the authors' own Lean function (tested against real Go, not proved from fmt's source: count such statements apart). THE CARD IS WHAT COUNTS. Prove the row's statement (the work); the ties are given (YtipdmhppadapkaaGreatDoorTie.lean); close each card by the builder's one call (the guide's Derived/Test/ToyasCard.lean, 'card_holds'). Laid BY PROGRAM, IN A SANDBOX (cutbox-door.mjs). By AI agents, Wed Nov 11 2026. No macro, syntax, notation, axiom, sorry.
-/
import Derived.Test.YtipdmhppadapkaaGreatDoorRows
import GoSem.ClaimSeven
namespace Go.Proofs.YtipdmhppadapkaaGreatDoor
namespace Rows

/-- THE TIED CARD OF 'portreevelaw26.LoadChecks'. -/
def loadChecksCard : Claim7 := { stood := { row := loadChecksRow, standIns := [], harness := (true, "b135c0baadc11e0e3ac5c6fee29b7ccfd03fc1d7167245d7e6d7f9e97d9fe89b"), looks := false }, kinds := [], alts := [], laidByText := true, laidKinds := [.data, .data], laidTests := true, laidLooks := .later }
def LoadChecksCardSaid : Prop := Claim7.holds Tryz.pinned (.plain (OpenSpec.ofChange loadChecksSpec)) loadChecksCard

/-- THE TIED CARD OF 'portreevelaw26.LoadFails'. -/
def loadFailsCard : Claim7 := { stood := { row := loadFailsRow, standIns := [], harness := (true, "b135c0baadc11e0e3ac5c6fee29b7ccfd03fc1d7167245d7e6d7f9e97d9fe89b"), looks := false }, kinds := [], alts := [], laidByText := true, laidKinds := [.data, .data], laidTests := true, laidLooks := .later }
def LoadFailsCardSaid : Prop := Claim7.holds Tryz.pinned (.plain (OpenSpec.ofChange loadFailsSpec)) loadFailsCard

/-- THE TIED CARD OF 'portreevelaw26.LoadSigned'. -/
def loadSignedCard : Claim7 := { stood := { row := loadSignedRow, standIns := [], harness := (true, "b135c0baadc11e0e3ac5c6fee29b7ccfd03fc1d7167245d7e6d7f9e97d9fe89b"), looks := false }, kinds := [], alts := [], laidByText := true, laidKinds := [.data, .data], laidTests := true, laidLooks := .later }
def LoadSignedCardSaid : Prop := Claim7.holds Tryz.pinned (.plain (OpenSpec.ofChange loadSignedSpec)) loadSignedCard

/-- THE TIED CARD OF 'portreevelaw26.LoadPlaces'. -/
def loadPlacesCard : Claim7 := { stood := { row := loadPlacesRow, standIns := [], harness := (true, "b135c0baadc11e0e3ac5c6fee29b7ccfd03fc1d7167245d7e6d7f9e97d9fe89b"), looks := false }, kinds := [], alts := [], laidByText := true, laidKinds := [.data, .data], laidTests := true, laidLooks := .later }
def LoadPlacesCardSaid : Prop := Claim7.holds Tryz.pinned (.plain (OpenSpec.ofChange loadPlacesSpec)) loadPlacesCard

/-- THE SECOND FORM's CARD OF 'portreevelaw26.LoadChecks'. -/
def loadChecksUptoCard : Claim7 := { stood := { row := loadChecksUptoRow, standIns := [], harness := (true, "b135c0baadc11e0e3ac5c6fee29b7ccfd03fc1d7167245d7e6d7f9e97d9fe89b"), looks := false }, kinds := [], alts := [], laidByText := true, laidKinds := [.data, .data], laidTests := true, laidLooks := .later }
def LoadChecksUptoCardSaid : Prop := Claim7.holds Tryz.pinned (.plain (OpenSpec.upto loadChecksSpec)) loadChecksUptoCard

/-- THE SECOND FORM's CARD OF 'portreevelaw26.LoadFails'. -/
def loadFailsUptoCard : Claim7 := { stood := { row := loadFailsUptoRow, standIns := [], harness := (true, "b135c0baadc11e0e3ac5c6fee29b7ccfd03fc1d7167245d7e6d7f9e97d9fe89b"), looks := false }, kinds := [], alts := [], laidByText := true, laidKinds := [.data, .data], laidTests := true, laidLooks := .later }
def LoadFailsUptoCardSaid : Prop := Claim7.holds Tryz.pinned (.plain (OpenSpec.upto loadFailsSpec)) loadFailsUptoCard

/-- THE SECOND FORM's CARD OF 'portreevelaw26.LoadSigned'. -/
def loadSignedUptoCard : Claim7 := { stood := { row := loadSignedUptoRow, standIns := [], harness := (true, "b135c0baadc11e0e3ac5c6fee29b7ccfd03fc1d7167245d7e6d7f9e97d9fe89b"), looks := false }, kinds := [], alts := [], laidByText := true, laidKinds := [.data, .data], laidTests := true, laidLooks := .later }
def LoadSignedUptoCardSaid : Prop := Claim7.holds Tryz.pinned (.plain (OpenSpec.upto loadSignedSpec)) loadSignedUptoCard

/-- THE SECOND FORM's CARD OF 'portreevelaw26.LoadPlaces'. -/
def loadPlacesUptoCard : Claim7 := { stood := { row := loadPlacesUptoRow, standIns := [], harness := (true, "b135c0baadc11e0e3ac5c6fee29b7ccfd03fc1d7167245d7e6d7f9e97d9fe89b"), looks := false }, kinds := [], alts := [], laidByText := true, laidKinds := [.data, .data], laidTests := true, laidLooks := .later }
def LoadPlacesUptoCardSaid : Prop := Claim7.holds Tryz.pinned (.plain (OpenSpec.upto loadPlacesSpec)) loadPlacesUptoCard
end Rows
end Go.Proofs.YtipdmhppadapkaaGreatDoor
