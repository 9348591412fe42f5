/-
  DERIVED. GIVEN WITH THE SEED: THE CARDS: each row of YtpellkblaeeopaaGreatDoorRows.lean that lists a variable, with what it lists TIED to the program's text (the seventh form; the later family's looks); each row that meets fmt, with fmt's text TOLD by the authors' own Lean function (tested against real Go, not proved from fmt's source: count such statements apart). THE CARD IS WHAT COUNTS. Prove the row's statement (the work); the ties are given (YtpellkblaeeopaaGreatDoorTie.lean); close each card by the builder's one call (the guide's Derived/Test/ToyasCard.lean, 'card_holds'). Laid BY PROGRAM, IN A SANDBOX (cutbox-door.mjs). By AI agents, Wed Nov 11 2026. No macro, syntax, notation, axiom, sorry.
-/
import Derived.Test.YtpellkblaeeopaaGreatDoorRows
import GoSem.ClaimSeven
namespace Go.Proofs.YtpellkblaeeopaaGreatDoor
namespace Rows

/-- THE TIED CARD OF 'portreevetop.TopColors'. -/
def topColorsCard : Claim7 := { stood := { row := topColorsRow, standIns := [], harness := (true, "934930a310cec384db959367d27cd1a1c410c914fee1369d6820999f0abb3904"), looks := true }, kinds := [], alts := [], laidByText := true, laidKinds := [.data], laidTests := true, laidLooks := .later }
def TopColorsCardSaid : Prop := Claim7.holds Tryz.pinned (.plain (OpenSpec.ofChange topColorsSpec)) topColorsCard

/-- THE SECOND FORM's CARD OF 'portreevetop.TopColors'. -/
def topColorsUptoCard : Claim7 := { stood := { row := topColorsUptoRow, standIns := [], harness := (true, "934930a310cec384db959367d27cd1a1c410c914fee1369d6820999f0abb3904"), looks := true }, kinds := [], alts := [], laidByText := true, laidKinds := [.data], laidTests := true, laidLooks := .later }
def TopColorsUptoCardSaid : Prop := Claim7.holds Tryz.pinned (.plain (OpenSpec.upto topColorsSpec)) topColorsUptoCard
end Rows
end Go.Proofs.YtpellkblaeeopaaGreatDoor
