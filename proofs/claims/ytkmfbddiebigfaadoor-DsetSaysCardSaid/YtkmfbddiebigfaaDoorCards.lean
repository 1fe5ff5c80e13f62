/-
  DERIVED. GIVEN WITH THE SEED: THE CARDS: each row of YtkmfbddiebigfaaDoorRows.lean that lists a variable, with what it lists TIED to the program's text (the seventh form; the later family's looks); each row that meets fmt, with fmt's text TOLD by the authors' own Lean function (tested against real Go, not proved from fmt's source: count such statements apart). THE CARD IS WHAT COUNTS. Prove the row's statement (the work); the ties are given (YtkmfbddiebigfaaDoorTie.lean); close each card by the builder's one call (the guide's Derived/Test/ToyasCard.lean, 'card_holds'). Laid BY PROGRAM, IN A SANDBOX (cutbox-door.mjs). By AI agents, Wed Nov 11 2026. No macro, syntax, notation, axiom, sorry.
-/
import Derived.Test.YtkmfbddiebigfaaDoorRows
import GoSem.ClaimSeven
namespace Go.Proofs.YtkmfbddiebigfaaDoor
namespace Rows

/-- THE TIED CARD OF 'shoallaw4.DsetKnown'. -/
def dsetKnownCard : Claim7 := { stood := { row := dsetKnownRow, standIns := [], harness := (true, "d940d7b0046eb392d42373a9bdde29f7e54648d6614caa779ccfc344cfdc32b7"), looks := true }, kinds := [], alts := [], laidByText := true, laidKinds := [.data, .data, .data, .data, .sentinel, .sentinel, .pinned], laidTests := true, laidLooks := .later }
def DsetKnownCardSaid : Prop := Claim7.holds Tryd.pinned (.plain (OpenSpec.ofChange dsetKnownSpec)) dsetKnownCard

/-- THE TIED CARD OF 'shoallaw4.DsetSays'. -/
def dsetSaysCard : Claim7 := { stood := { row := dsetSaysRow, standIns := [], harness := (true, "d940d7b0046eb392d42373a9bdde29f7e54648d6614caa779ccfc344cfdc32b7"), looks := true }, kinds := [], alts := [], laidByText := true, laidKinds := [.data, .data, .data, .data, .sentinel, .sentinel, .pinned], laidTests := true, laidLooks := .later }
def DsetSaysCardSaid : Prop := Claim7.holds Tryd.pinned (.plain (OpenSpec.ofChange dsetSaysSpec)) dsetSaysCard

/-- THE TIED CARD OF 'shoallaw4.DsetOrder'. -/
def dsetOrderCard : Claim7 := { stood := { row := dsetOrderRow, standIns := [], harness := (true, "d940d7b0046eb392d42373a9bdde29f7e54648d6614caa779ccfc344cfdc32b7"), looks := true }, kinds := [], alts := [], laidByText := true, laidKinds := [.data, .data, .data, .data, .sentinel, .sentinel, .pinned], laidTests := true, laidLooks := .later }
def DsetOrderCardSaid : Prop := Claim7.holds Tryd.pinned (.plain (OpenSpec.ofChange dsetOrderSpec)) dsetOrderCard

/-- THE TIED CARD OF 'shoallaw4.DsetBack'. -/
def dsetBackCard : Claim7 := { stood := { row := dsetBackRow, standIns := [], harness := (true, "d940d7b0046eb392d42373a9bdde29f7e54648d6614caa779ccfc344cfdc32b7"), looks := true }, kinds := [], alts := [], laidByText := true, laidKinds := [.data, .data, .data, .data, .sentinel, .sentinel, .pinned], laidTests := true, laidLooks := .later }
def DsetBackCardSaid : Prop := Claim7.holds Tryd.pinned (.plain (OpenSpec.ofChange dsetBackSpec)) dsetBackCard

/-- THE TIED CARD OF 'shoallaw4.DsetSums'. -/
def dsetSumsCard : Claim7 := { stood := { row := dsetSumsRow, standIns := [], harness := (true, "d940d7b0046eb392d42373a9bdde29f7e54648d6614caa779ccfc344cfdc32b7"), looks := true }, kinds := [], alts := [], laidByText := true, laidKinds := [.data, .data, .data, .data, .sentinel, .sentinel, .pinned], laidTests := true, laidLooks := .later }
def DsetSumsCardSaid : Prop := Claim7.holds Tryd.pinned (.plain (OpenSpec.ofChange dsetSumsSpec)) dsetSumsCard

/-- THE SECOND FORM's CARD OF 'shoallaw4.DsetKnown'. -/
def dsetKnownUptoCard : Claim7 := { stood := { row := dsetKnownUptoRow, standIns := [], harness := (true, "d940d7b0046eb392d42373a9bdde29f7e54648d6614caa779ccfc344cfdc32b7"), looks := true }, kinds := [], alts := [], laidByText := true, laidKinds := [.data, .data, .data, .data, .sentinel, .sentinel, .pinned], laidTests := true, laidLooks := .later }
def DsetKnownUptoCardSaid : Prop := Claim7.holds Tryd.pinned (.plain (OpenSpec.upto dsetKnownSpec)) dsetKnownUptoCard

/-- THE SECOND FORM's CARD OF 'shoallaw4.DsetSays'. -/
def dsetSaysUptoCard : Claim7 := { stood := { row := dsetSaysUptoRow, standIns := [], harness := (true, "d940d7b0046eb392d42373a9bdde29f7e54648d6614caa779ccfc344cfdc32b7"), looks := true }, kinds := [], alts := [], laidByText := true, laidKinds := [.data, .data, .data, .data, .sentinel, .sentinel, .pinned], laidTests := true, laidLooks := .later }
def DsetSaysUptoCardSaid : Prop := Claim7.holds Tryd.pinned (.plain (OpenSpec.upto dsetSaysSpec)) dsetSaysUptoCard

/-- THE SECOND FORM's CARD OF 'shoallaw4.DsetOrder'. -/
def dsetOrderUptoCard : Claim7 := { stood := { row := dsetOrderUptoRow, standIns := [], harness := (true, "d940d7b0046eb392d42373a9bdde29f7e54648d6614caa779ccfc344cfdc32b7"), looks := true }, kinds := [], alts := [], laidByText := true, laidKinds := [.data, .data, .data, .data, .sentinel, .sentinel, .pinned], laidTests := true, laidLooks := .later }
def DsetOrderUptoCardSaid : Prop := Claim7.holds Tryd.pinned (.plain (OpenSpec.upto dsetOrderSpec)) dsetOrderUptoCard

/-- THE SECOND FORM's CARD OF 'shoallaw4.DsetBack'. -/
def dsetBackUptoCard : Claim7 := { stood := { row := dsetBackUptoRow, standIns := [], harness := (true, "d940d7b0046eb392d42373a9bdde29f7e54648d6614caa779ccfc344cfdc32b7"), looks := true }, kinds := [], alts := [], laidByText := true, laidKinds := [.data, .data, .data, .data, .sentinel, .sentinel, .pinned], laidTests := true, laidLooks := .later }
def DsetBackUptoCardSaid : Prop := Claim7.holds Tryd.pinned (.plain (OpenSpec.upto dsetBackSpec)) dsetBackUptoCard

/-- THE SECOND FORM's CARD OF 'shoallaw4.DsetSums'. -/
def dsetSumsUptoCard : Claim7 := { stood := { row := dsetSumsUptoRow, standIns := [], harness := (true, "d940d7b0046eb392d42373a9bdde29f7e54648d6614caa779ccfc344cfdc32b7"), looks := true }, kinds := [], alts := [], laidByText := true, laidKinds := [.data, .data, .data, .data, .sentinel, .sentinel, .pinned], laidTests := true, laidLooks := .later }
def DsetSumsUptoCardSaid : Prop := Claim7.holds Tryd.pinned (.plain (OpenSpec.upto dsetSumsSpec)) dsetSumsUptoCard
end Rows
end Go.Proofs.YtkmfbddiebigfaaDoor
