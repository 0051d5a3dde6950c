/-
  DERIVED. GIVEN WITH THE SEED: THE CARDS: each row of YtfiembgemhonlaaDoorRows.lean that lists a variable, with what it lists TIED to the program's text (the seventh form; the later family's looks); each row that meets fmt, with fmt's text TOLD by the authors' own Lean function (tested against real Go, not proved from fmt's source: count such statements apart). THE CARD IS WHAT COUNTS. Prove the row's statement (the work); the ties are given (YtfiembgemhonlaaDoorTie.lean); close each card by the builder's one call (the guide's Derived/Test/ToyasCard.lean, 'card_holds'). Laid BY PROGRAM, IN A SANDBOX (cutbox-door.mjs). By AI agents, Wed Nov 11 2026. No macro, syntax, notation, axiom, sorry.
-/
import Derived.Test.YtfiembgemhonlaaDoorRows
import GoSem.ClaimSeven
namespace Go.Proofs.YtfiembgemhonlaaDoor
namespace Rows

/-- THE TIED CARD OF 'jitlaw2.BonusesPaid'. -/
def bonusesPaidCard : Claim7 := { stood := { row := bonusesPaidRow, standIns := [], harness := (true, "789aed1c2dc382029abd60dc3f08e5761fea0529533b0df88a7b8913de69e861"), looks := false }, kinds := [], alts := [], laidByText := true, laidKinds := [.data, .data, .data], laidTests := true, laidLooks := .later }
def BonusesPaidCardSaid : Prop := Claim7.holds Tryd.pinned (.plain (OpenSpec.ofChange bonusesPaidSpec)) bonusesPaidCard

/-- THE TIED CARD OF 'jitlaw2.RidesAskedTwice'. -/
def ridesAskedTwiceCard : Claim7 := { stood := { row := ridesAskedTwiceRow, standIns := [], harness := (true, "789aed1c2dc382029abd60dc3f08e5761fea0529533b0df88a7b8913de69e861"), looks := false }, kinds := [], alts := [], laidByText := true, laidKinds := [.data, .data, .data], laidTests := true, laidLooks := .later }
def RidesAskedTwiceCardSaid : Prop := Claim7.holds Tryd.pinned (.plain (OpenSpec.ofChange ridesAskedTwiceSpec)) ridesAskedTwiceCard

/-- THE SECOND FORM's CARD OF 'jitlaw2.BonusesPaid'. -/
def bonusesPaidUptoCard : Claim7 := { stood := { row := bonusesPaidUptoRow, standIns := [], harness := (true, "789aed1c2dc382029abd60dc3f08e5761fea0529533b0df88a7b8913de69e861"), looks := false }, kinds := [], alts := [], laidByText := true, laidKinds := [.data, .data, .data], laidTests := true, laidLooks := .later }
def BonusesPaidUptoCardSaid : Prop := Claim7.holds Tryd.pinned (.plain (OpenSpec.upto bonusesPaidSpec)) bonusesPaidUptoCard

/-- THE SECOND FORM's CARD OF 'jitlaw2.RidesAskedTwice'. -/
def ridesAskedTwiceUptoCard : Claim7 := { stood := { row := ridesAskedTwiceUptoRow, standIns := [], harness := (true, "789aed1c2dc382029abd60dc3f08e5761fea0529533b0df88a7b8913de69e861"), looks := false }, kinds := [], alts := [], laidByText := true, laidKinds := [.data, .data, .data], laidTests := true, laidLooks := .later }
def RidesAskedTwiceUptoCardSaid : Prop := Claim7.holds Tryd.pinned (.plain (OpenSpec.upto ridesAskedTwiceSpec)) ridesAskedTwiceUptoCard
end Rows
end Go.Proofs.YtfiembgemhonlaaDoor
