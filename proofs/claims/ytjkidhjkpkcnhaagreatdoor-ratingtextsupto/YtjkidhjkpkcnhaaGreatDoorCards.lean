/-
  DERIVED. GIVEN WITH THE SEED: THE CARDS: each row of YtjkidhjkpkcnhaaGreatDoorRows.lean that lists a variable, with what it lists TIED to the program's text (the seventh form; the later family's looks); each row that meets fmt, with fmt's text TOLD by the authors' own Lean function (tested against real Go, not proved from fmt's source: count such statements apart). THE CARD IS WHAT COUNTS. Prove the row's statement (the work); the ties are given (YtjkidhjkpkcnhaaGreatDoorTie.lean); close each card by the builder's one call (the guide's Derived/Test/ToyasCard.lean, 'card_holds'). Laid BY PROGRAM, IN A SANDBOX (cutbox-door.mjs). By AI agents, Wed Nov 11 2026. No macro, syntax, notation, axiom, sorry.
-/
import Derived.Test.YtjkidhjkpkcnhaaGreatDoorRows
import GoSem.ClaimSeven
namespace Go.Proofs.YtjkidhjkpkcnhaaGreatDoor
namespace Rows

/-- THE TIED CARD OF 'jitlaw2.SeriesRide'. -/
def seriesRideCard : Claim7 := { stood := { row := seriesRideRow, standIns := [], harness := (true, "c27bb4515818061319f18fc2e9285361a43ef9816a251b776a7a19318976efed"), looks := true }, kinds := [], alts := [], laidByText := true, laidKinds := [.data, .data, .data], laidTests := true, laidLooks := .later }
def SeriesRideCardSaid : Prop := Claim7.holds Tryz.pinned (.plain (OpenSpec.ofChange seriesRideSpec)) seriesRideCard

/-- THE TIED CARD OF 'jitlaw2.VehiclesReady'. -/
def vehiclesReadyCard : Claim7 := { stood := { row := vehiclesReadyRow, standIns := [], harness := (true, "c27bb4515818061319f18fc2e9285361a43ef9816a251b776a7a19318976efed"), looks := true }, kinds := [], alts := [], laidByText := true, laidKinds := [.data, .data, .data, .sentinel, .sentinel], laidTests := true, laidLooks := .later }
def VehiclesReadyCardSaid : Prop := Claim7.holds Tryz.pinned (.plain (OpenSpec.ofChange vehiclesReadySpec)) vehiclesReadyCard

/-- THE TIED CARD OF 'jitlaw2.RunTexts'. -/
def runTextsCard : Claim7 := { stood := { row := runTextsRow, standIns := [], harness := (true, "c27bb4515818061319f18fc2e9285361a43ef9816a251b776a7a19318976efed"), looks := true }, kinds := [], alts := [], laidByText := true, laidKinds := [.data, .data, .data, .data, .sentinel, .sentinel, .pinned], laidTests := true, laidLooks := .later }
def RunTextsCardSaid : Prop := Claim7.holds Tryz.pinned (.plain (OpenSpec.ofChange runTextsSpec)) runTextsCard

/-- THE TIED CARD OF 'jitlaw2.RatingTexts'. -/
def ratingTextsCard : Claim7 := { stood := { row := ratingTextsRow, standIns := [], harness := (true, "c27bb4515818061319f18fc2e9285361a43ef9816a251b776a7a19318976efed"), looks := true }, kinds := [], alts := [], laidByText := true, laidKinds := [.data, .data, .data, .data, .sentinel, .sentinel, .pinned], laidTests := true, laidLooks := .later }
def RatingTextsCardSaid : Prop := Claim7.holds Tryz.pinned (.plain (OpenSpec.ofChange ratingTextsSpec)) ratingTextsCard

/-- THE SECOND FORM's CARD OF 'jitlaw2.SeriesRide'. -/
def seriesRideUptoCard : Claim7 := { stood := { row := seriesRideUptoRow, standIns := [], harness := (true, "c27bb4515818061319f18fc2e9285361a43ef9816a251b776a7a19318976efed"), looks := true }, kinds := [], alts := [], laidByText := true, laidKinds := [.data, .data, .data], laidTests := true, laidLooks := .later }
def SeriesRideUptoCardSaid : Prop := Claim7.holds Tryz.pinned (.plain (OpenSpec.upto seriesRideSpec)) seriesRideUptoCard

/-- THE SECOND FORM's CARD OF 'jitlaw2.VehiclesReady'. -/
def vehiclesReadyUptoCard : Claim7 := { stood := { row := vehiclesReadyUptoRow, standIns := [], harness := (true, "c27bb4515818061319f18fc2e9285361a43ef9816a251b776a7a19318976efed"), looks := true }, kinds := [], alts := [], laidByText := true, laidKinds := [.data, .data, .data, .sentinel, .sentinel], laidTests := true, laidLooks := .later }
def VehiclesReadyUptoCardSaid : Prop := Claim7.holds Tryz.pinned (.plain (OpenSpec.upto vehiclesReadySpec)) vehiclesReadyUptoCard

/-- THE SECOND FORM's CARD OF 'jitlaw2.RunTexts'. -/
def runTextsUptoCard : Claim7 := { stood := { row := runTextsUptoRow, standIns := [], harness := (true, "c27bb4515818061319f18fc2e9285361a43ef9816a251b776a7a19318976efed"), looks := true }, kinds := [], alts := [], laidByText := true, laidKinds := [.data, .data, .data, .data, .sentinel, .sentinel, .pinned], laidTests := true, laidLooks := .later }
def RunTextsUptoCardSaid : Prop := Claim7.holds Tryz.pinned (.plain (OpenSpec.upto runTextsSpec)) runTextsUptoCard

/-- THE SECOND FORM's CARD OF 'jitlaw2.RatingTexts'. -/
def ratingTextsUptoCard : Claim7 := { stood := { row := ratingTextsUptoRow, standIns := [], harness := (true, "c27bb4515818061319f18fc2e9285361a43ef9816a251b776a7a19318976efed"), looks := true }, kinds := [], alts := [], laidByText := true, laidKinds := [.data, .data, .data, .data, .sentinel, .sentinel, .pinned], laidTests := true, laidLooks := .later }
def RatingTextsUptoCardSaid : Prop := Claim7.holds Tryz.pinned (.plain (OpenSpec.upto ratingTextsSpec)) ratingTextsUptoCard
end Rows
end Go.Proofs.YtjkidhjkpkcnhaaGreatDoor
