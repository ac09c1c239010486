/-
  DERIVED. GIVEN WITH THE SEED: THE CARDS: each row of YtaaaiggbnkeblaaGreatDoorRows.lean that lists a variable, with what it lists TIED to the program's text (the seventh form; the later family's looks); each row that meets fmt, with fmt's text TOLD by the authors' own Lean function (tested against real Go, not proved from fmt's source: count such statements apart). THE CARD IS WHAT COUNTS. Prove the row's statement (the work); the ties are given (YtaaaiggbnkeblaaGreatDoorTie.lean); close each card by the builder's one call (the guide's Derived/Test/ToyasCard.lean, 'card_holds'). Laid BY PROGRAM, IN A SANDBOX (cutbox-door.mjs). By AI agents, Wed Nov 11 2026. No macro, syntax, notation, axiom, sorry.
-/
import Derived.Test.YtaaaiggbnkeblaaGreatDoorRows
import GoSem.ClaimSeven
namespace Go.Proofs.YtaaaiggbnkeblaaGreatDoor
namespace Rows

/-- THE TIED CARD OF 'conventicletop.TopChoice'. -/
def topChoiceCard : Claim7 := { stood := { row := topChoiceRow, standIns := [], harness := (true, "da320ff6f626aed4c9083dc7d46bb2882bc97ae34e480fede4335bd351e638a8"), looks := true }, kinds := [], alts := [], laidByText := true, laidKinds := [.data], laidTests := true, laidLooks := .later }
def TopChoiceCardSaid : Prop := Claim7.holds Tryz.pinned (.plain (OpenSpec.ofChange topChoiceSpec)) topChoiceCard

/-- THE TIED CARD OF 'conventicletop.TopKnown'. -/
def topKnownCard : Claim7 := { stood := { row := topKnownRow, standIns := [], harness := (true, "da320ff6f626aed4c9083dc7d46bb2882bc97ae34e480fede4335bd351e638a8"), looks := true }, kinds := [], alts := [], laidByText := true, laidKinds := [.data], laidTests := true, laidLooks := .later }
def TopKnownCardSaid : Prop := Claim7.holds Tryz.pinned (.plain (OpenSpec.ofChange topKnownSpec)) topKnownCard

/-- THE SECOND FORM's CARD OF 'conventicletop.TopChoice'. -/
def topChoiceUptoCard : Claim7 := { stood := { row := topChoiceUptoRow, standIns := [], harness := (true, "da320ff6f626aed4c9083dc7d46bb2882bc97ae34e480fede4335bd351e638a8"), looks := true }, kinds := [], alts := [], laidByText := true, laidKinds := [.data], laidTests := true, laidLooks := .later }
def TopChoiceUptoCardSaid : Prop := Claim7.holds Tryz.pinned (.plain (OpenSpec.upto topChoiceSpec)) topChoiceUptoCard

/-- THE SECOND FORM's CARD OF 'conventicletop.TopKnown'. -/
def topKnownUptoCard : Claim7 := { stood := { row := topKnownUptoRow, standIns := [], harness := (true, "da320ff6f626aed4c9083dc7d46bb2882bc97ae34e480fede4335bd351e638a8"), looks := true }, kinds := [], alts := [], laidByText := true, laidKinds := [.data], laidTests := true, laidLooks := .later }
def TopKnownUptoCardSaid : Prop := Claim7.holds Tryz.pinned (.plain (OpenSpec.upto topKnownSpec)) topKnownUptoCard
end Rows
end Go.Proofs.YtaaaiggbnkeblaaGreatDoor
