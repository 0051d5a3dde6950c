/-
  DERIVED. GIVEN WITH THE SEED: THE CARDS: each row of YtbjpkdbneopgkaaGreatDoorRows.lean that lists a variable, with what it lists TIED to the program's text (the seventh form; the later family's looks); each row that meets fmt, with fmt's text TOLD by the authors' own Lean function (tested against real Go, not proved from fmt's source: count such statements apart). THE CARD IS WHAT COUNTS. Prove the row's statement (the work); the ties are given (YtbjpkdbneopgkaaGreatDoorTie.lean); close each card by the builder's one call (the guide's Derived/Test/ToyasCard.lean, 'card_holds'). Laid BY PROGRAM, IN A SANDBOX (cutbox-door.mjs). By AI agents, Wed Nov 11 2026. No macro, syntax, notation, axiom, sorry.
-/
import Derived.Test.YtbjpkdbneopgkaaGreatDoorRows
import GoSem.ClaimSeven
namespace Go.Proofs.YtbjpkdbneopgkaaGreatDoor
namespace Rows

/-- THE TIED CARD OF 'jitlaw2.AskTexts'. -/
def askTextsCard : Claim7 := { stood := { row := askTextsRow, standIns := [], harness := (true, "e2710abcfcd0fc2128c4537ab9d8068b72c2f6a81b6f498d58d48a97d0edd532"), looks := true }, kinds := [], alts := [], laidByText := true, laidKinds := [.data, .data, .data, .data, .sentinel, .sentinel, .pinned], laidTests := true, laidLooks := .later }
def AskTextsCardSaid : Prop := Claim7.holds Tryz.pinned (.plain (OpenSpec.ofChange askTextsSpec)) askTextsCard

/-- THE TIED CARD OF 'jitlaw2.DeedTexts'. -/
def deedTextsCard : Claim7 := { stood := { row := deedTextsRow, standIns := [], harness := (true, "e2710abcfcd0fc2128c4537ab9d8068b72c2f6a81b6f498d58d48a97d0edd532"), looks := true }, kinds := [], alts := [], laidByText := true, laidKinds := [.data, .data, .data, .data, .sentinel, .sentinel, .pinned], laidTests := true, laidLooks := .later }
def DeedTextsCardSaid : Prop := Claim7.holds Tryz.pinned (.plain (OpenSpec.ofChange deedTextsSpec)) deedTextsCard

/-- THE TIED CARD OF 'jitlaw2.OfferTexts'. -/
def offerTextsCard : Claim7 := { stood := { row := offerTextsRow, standIns := [], harness := (true, "e2710abcfcd0fc2128c4537ab9d8068b72c2f6a81b6f498d58d48a97d0edd532"), looks := true }, kinds := [], alts := [], laidByText := true, laidKinds := [.data, .data, .data, .data, .sentinel, .sentinel, .pinned], laidTests := true, laidLooks := .later }
def OfferTextsCardSaid : Prop := Claim7.holds Tryz.pinned (.plain (OpenSpec.ofChange offerTextsSpec)) offerTextsCard

/-- THE SECOND FORM's CARD OF 'jitlaw2.AskTexts'. -/
def askTextsUptoCard : Claim7 := { stood := { row := askTextsUptoRow, standIns := [], harness := (true, "e2710abcfcd0fc2128c4537ab9d8068b72c2f6a81b6f498d58d48a97d0edd532"), looks := true }, kinds := [], alts := [], laidByText := true, laidKinds := [.data, .data, .data, .data, .sentinel, .sentinel, .pinned], laidTests := true, laidLooks := .later }
def AskTextsUptoCardSaid : Prop := Claim7.holds Tryz.pinned (.plain (OpenSpec.upto askTextsSpec)) askTextsUptoCard

/-- THE SECOND FORM's CARD OF 'jitlaw2.DeedTexts'. -/
def deedTextsUptoCard : Claim7 := { stood := { row := deedTextsUptoRow, standIns := [], harness := (true, "e2710abcfcd0fc2128c4537ab9d8068b72c2f6a81b6f498d58d48a97d0edd532"), looks := true }, kinds := [], alts := [], laidByText := true, laidKinds := [.data, .data, .data, .data, .sentinel, .sentinel, .pinned], laidTests := true, laidLooks := .later }
def DeedTextsUptoCardSaid : Prop := Claim7.holds Tryz.pinned (.plain (OpenSpec.upto deedTextsSpec)) deedTextsUptoCard

/-- THE SECOND FORM's CARD OF 'jitlaw2.OfferTexts'. -/
def offerTextsUptoCard : Claim7 := { stood := { row := offerTextsUptoRow, standIns := [], harness := (true, "e2710abcfcd0fc2128c4537ab9d8068b72c2f6a81b6f498d58d48a97d0edd532"), looks := true }, kinds := [], alts := [], laidByText := true, laidKinds := [.data, .data, .data, .data, .sentinel, .sentinel, .pinned], laidTests := true, laidLooks := .later }
def OfferTextsUptoCardSaid : Prop := Claim7.holds Tryz.pinned (.plain (OpenSpec.upto offerTextsSpec)) offerTextsUptoCard
end Rows
end Go.Proofs.YtbjpkdbneopgkaaGreatDoor
