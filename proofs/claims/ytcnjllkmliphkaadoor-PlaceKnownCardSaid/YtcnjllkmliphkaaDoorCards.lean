/-
  DERIVED. GIVEN WITH THE SEED: THE CARDS: each row of YtcnjllkmliphkaaDoorRows.lean that lists a variable, with what it lists TIED to the program's text (the seventh form; the later family's looks); each row that meets fmt, with fmt's text TOLD by the authors' own Lean function (tested against real Go, not proved from fmt's source: count such statements apart). THE CARD IS WHAT COUNTS. Prove the row's statement (the work); the ties are given (YtcnjllkmliphkaaDoorTie.lean); close each card by the builder's one call (the guide's Derived/Test/ToyasCard.lean, 'card_holds'). Laid BY PROGRAM, IN A SANDBOX (cutbox-door.mjs). By AI agents, Wed Nov 11 2026. No macro, syntax, notation, axiom, sorry.
-/
import Derived.Test.YtcnjllkmliphkaaDoorRows
import GoSem.ClaimSeven
namespace Go.Proofs.YtcnjllkmliphkaaDoor
namespace Rows

/-- THE TIED CARD OF 'shoallaw6.PlaceKnown'. -/
def placeKnownCard : Claim7 := { stood := { row := placeKnownRow, standIns := [], harness := (true, "aaee9e9e341afef08e92368e1845f8e9118e36d863f5dd564c64a9b5ff732608"), looks := false }, kinds := [], alts := [], laidByText := true, laidKinds := [.data], laidTests := true, laidLooks := .later }
def PlaceKnownCardSaid : Prop := Claim7.holds Tryd.pinned (.plain (OpenSpec.ofChange placeKnownSpec)) placeKnownCard

/-- THE TIED CARD OF 'shoallaw6.PlaceSays'. -/
def placeSaysCard : Claim7 := { stood := { row := placeSaysRow, standIns := [], harness := (true, "aaee9e9e341afef08e92368e1845f8e9118e36d863f5dd564c64a9b5ff732608"), looks := false }, kinds := [], alts := [], laidByText := true, laidKinds := [.data], laidTests := true, laidLooks := .later }
def PlaceSaysCardSaid : Prop := Claim7.holds Tryd.pinned (.plain (OpenSpec.ofChange placeSaysSpec)) placeSaysCard

/-- THE TIED CARD OF 'shoallaw6.PlaceKeepers'. -/
def placeKeepersCard : Claim7 := { stood := { row := placeKeepersRow, standIns := [], harness := (true, "aaee9e9e341afef08e92368e1845f8e9118e36d863f5dd564c64a9b5ff732608"), looks := false }, kinds := [], alts := [], laidByText := true, laidKinds := [.data], laidTests := true, laidLooks := .later }
def PlaceKeepersCardSaid : Prop := Claim7.holds Tryd.pinned (.plain (OpenSpec.ofChange placeKeepersSpec)) placeKeepersCard

/-- THE SECOND FORM's CARD OF 'shoallaw6.PlaceKnown'. -/
def placeKnownUptoCard : Claim7 := { stood := { row := placeKnownUptoRow, standIns := [], harness := (true, "aaee9e9e341afef08e92368e1845f8e9118e36d863f5dd564c64a9b5ff732608"), looks := false }, kinds := [], alts := [], laidByText := true, laidKinds := [.data], laidTests := true, laidLooks := .later }
def PlaceKnownUptoCardSaid : Prop := Claim7.holds Tryd.pinned (.plain (OpenSpec.upto placeKnownSpec)) placeKnownUptoCard

/-- THE SECOND FORM's CARD OF 'shoallaw6.PlaceSays'. -/
def placeSaysUptoCard : Claim7 := { stood := { row := placeSaysUptoRow, standIns := [], harness := (true, "aaee9e9e341afef08e92368e1845f8e9118e36d863f5dd564c64a9b5ff732608"), looks := false }, kinds := [], alts := [], laidByText := true, laidKinds := [.data], laidTests := true, laidLooks := .later }
def PlaceSaysUptoCardSaid : Prop := Claim7.holds Tryd.pinned (.plain (OpenSpec.upto placeSaysSpec)) placeSaysUptoCard

/-- THE SECOND FORM's CARD OF 'shoallaw6.PlaceKeepers'. -/
def placeKeepersUptoCard : Claim7 := { stood := { row := placeKeepersUptoRow, standIns := [], harness := (true, "aaee9e9e341afef08e92368e1845f8e9118e36d863f5dd564c64a9b5ff732608"), looks := false }, kinds := [], alts := [], laidByText := true, laidKinds := [.data], laidTests := true, laidLooks := .later }
def PlaceKeepersUptoCardSaid : Prop := Claim7.holds Tryd.pinned (.plain (OpenSpec.upto placeKeepersSpec)) placeKeepersUptoCard
end Rows
end Go.Proofs.YtcnjllkmliphkaaDoor
