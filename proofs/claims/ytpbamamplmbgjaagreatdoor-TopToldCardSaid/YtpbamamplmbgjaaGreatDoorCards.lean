/-
  DERIVED. GIVEN WITH THE SEED: THE CARDS: each row of YtpbamamplmbgjaaGreatDoorRows.lean that lists a variable, with what it lists TIED to the program's text (the seventh form; the later family's looks); each row that meets fmt, with fmt's text TOLD by the authors' own Lean function (tested against real Go, not proved from fmt's source: count such statements apart). THE CARD IS WHAT COUNTS. Prove the row's statement (the work); the ties are given (YtpbamamplmbgjaaGreatDoorTie.lean); close each card by the builder's one call (the guide's Derived/Test/ToyasCard.lean, 'card_holds'). Laid BY PROGRAM, IN A SANDBOX (cutbox-door.mjs). By AI agents, Wed Nov 11 2026. No macro, syntax, notation, axiom, sorry.
-/
import Derived.Test.YtpbamamplmbgjaaGreatDoorRows
import GoSem.ClaimSeven
namespace Go.Proofs.YtpbamamplmbgjaaGreatDoor
namespace Rows

/-- THE TIED CARD OF 'conventicletop.TopTold'. -/
def topToldCard : Claim7 := { stood := { row := topToldRow, standIns := [], harness := (true, "18f6b45a0437f4280671c30a6e9ce1f195aa12371599a35b1eb7fdf7b6bd74e4"), looks := true }, kinds := [], alts := [], laidByText := true, laidKinds := [.data], laidTests := true, laidLooks := .later }
def TopToldCardSaid : Prop := Claim7.holds Tryz.pinned (.plain (OpenSpec.ofChange topToldSpec)) topToldCard

/-- THE TIED CARD OF 'conventicletop.TopWaits'. -/
def topWaitsCard : Claim7 := { stood := { row := topWaitsRow, standIns := [], harness := (true, "18f6b45a0437f4280671c30a6e9ce1f195aa12371599a35b1eb7fdf7b6bd74e4"), looks := true }, kinds := [], alts := [], laidByText := true, laidKinds := [.data], laidTests := true, laidLooks := .later }
def TopWaitsCardSaid : Prop := Claim7.holds Tryz.pinned (.plain (OpenSpec.ofChange topWaitsSpec)) topWaitsCard

/-- THE TIED CARD OF 'conventicletop.TopChoice'. -/
def topChoiceCard : Claim7 := { stood := { row := topChoiceRow, standIns := [], harness := (true, "18f6b45a0437f4280671c30a6e9ce1f195aa12371599a35b1eb7fdf7b6bd74e4"), looks := true }, kinds := [], alts := [], laidByText := true, laidKinds := [.data], laidTests := true, laidLooks := .later }
def TopChoiceCardSaid : Prop := Claim7.holds Tryz.pinned (.plain (OpenSpec.ofChange topChoiceSpec)) topChoiceCard

/-- THE TIED CARD OF 'conventicletop.TopKnown'. -/
def topKnownCard : Claim7 := { stood := { row := topKnownRow, standIns := [], harness := (true, "18f6b45a0437f4280671c30a6e9ce1f195aa12371599a35b1eb7fdf7b6bd74e4"), looks := true }, kinds := [], alts := [], laidByText := true, laidKinds := [.data], laidTests := true, laidLooks := .later }
def TopKnownCardSaid : Prop := Claim7.holds Tryz.pinned (.plain (OpenSpec.ofChange topKnownSpec)) topKnownCard

/-- THE SECOND FORM's CARD OF 'conventicletop.TopTold'. -/
def topToldUptoCard : Claim7 := { stood := { row := topToldUptoRow, standIns := [], harness := (true, "18f6b45a0437f4280671c30a6e9ce1f195aa12371599a35b1eb7fdf7b6bd74e4"), looks := true }, kinds := [], alts := [], laidByText := true, laidKinds := [.data], laidTests := true, laidLooks := .later }
def TopToldUptoCardSaid : Prop := Claim7.holds Tryz.pinned (.plain (OpenSpec.upto topToldSpec)) topToldUptoCard

/-- THE SECOND FORM's CARD OF 'conventicletop.TopWaits'. -/
def topWaitsUptoCard : Claim7 := { stood := { row := topWaitsUptoRow, standIns := [], harness := (true, "18f6b45a0437f4280671c30a6e9ce1f195aa12371599a35b1eb7fdf7b6bd74e4"), looks := true }, kinds := [], alts := [], laidByText := true, laidKinds := [.data], laidTests := true, laidLooks := .later }
def TopWaitsUptoCardSaid : Prop := Claim7.holds Tryz.pinned (.plain (OpenSpec.upto topWaitsSpec)) topWaitsUptoCard

/-- THE SECOND FORM's CARD OF 'conventicletop.TopChoice'. -/
def topChoiceUptoCard : Claim7 := { stood := { row := topChoiceUptoRow, standIns := [], harness := (true, "18f6b45a0437f4280671c30a6e9ce1f195aa12371599a35b1eb7fdf7b6bd74e4"), looks := true }, kinds := [], alts := [], laidByText := true, laidKinds := [.data], laidTests := true, laidLooks := .later }
def TopChoiceUptoCardSaid : Prop := Claim7.holds Tryz.pinned (.plain (OpenSpec.upto topChoiceSpec)) topChoiceUptoCard

/-- THE SECOND FORM's CARD OF 'conventicletop.TopKnown'. -/
def topKnownUptoCard : Claim7 := { stood := { row := topKnownUptoRow, standIns := [], harness := (true, "18f6b45a0437f4280671c30a6e9ce1f195aa12371599a35b1eb7fdf7b6bd74e4"), looks := true }, kinds := [], alts := [], laidByText := true, laidKinds := [.data], laidTests := true, laidLooks := .later }
def TopKnownUptoCardSaid : Prop := Claim7.holds Tryz.pinned (.plain (OpenSpec.upto topKnownSpec)) topKnownUptoCard
end Rows
end Go.Proofs.YtpbamamplmbgjaaGreatDoor
