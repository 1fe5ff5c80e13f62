/-
  DERIVED. GIVEN WITH THE SEED: THE CARDS: each row of YtgpjipgbighplaaDoorRows.lean that lists a variable, with what it lists TIED to the program's text (the seventh form; the later family's looks); each row that meets fmt, with fmt's text TOLD by the authors' own Lean function (tested against real Go, not proved from fmt's source: count such statements apart). THE CARD IS WHAT COUNTS. Prove the row's statement (the work); the ties are given (YtgpjipgbighplaaDoorTie.lean); close each card by the builder's one call (the guide's Derived/Test/ToyasCard.lean, 'card_holds'). Laid BY PROGRAM, IN A SANDBOX (cutbox-door.mjs). By AI agents, Wed Nov 11 2026. No macro, syntax, notation, axiom, sorry.
-/
import Derived.Test.YtgpjipgbighplaaDoorRows
import GoSem.ClaimSeven
namespace Go.Proofs.YtgpjipgbighplaaDoor
namespace Rows

/-- THE TIED CARD OF 'shoallaw1.FloOrder'. -/
def floOrderCard : Claim7 := { stood := { row := floOrderRow, standIns := [], harness := (true, "f127adfe29a28d7d709e1460905b92bd47de0a8844ef185cda807becdaebcf03"), looks := true }, kinds := [], alts := [], laidByText := true, laidKinds := [.data, .data, .data], laidTests := true, laidLooks := .later }
def FloOrderCardSaid : Prop := Claim7.holds Tryd.pinned (.plain (OpenSpec.ofChange floOrderSpec)) floOrderCard

/-- THE TIED CARD OF 'shoallaw1.FloSigns'. -/
def floSignsCard : Claim7 := { stood := { row := floSignsRow, standIns := [], harness := (true, "f127adfe29a28d7d709e1460905b92bd47de0a8844ef185cda807becdaebcf03"), looks := true }, kinds := [], alts := [], laidByText := true, laidKinds := [.data, .data, .data], laidTests := true, laidLooks := .later }
def FloSignsCardSaid : Prop := Claim7.holds Tryd.pinned (.plain (OpenSpec.ofChange floSignsSpec)) floSignsCard

/-- THE TIED CARD OF 'shoallaw1.FloNext'. -/
def floNextCard : Claim7 := { stood := { row := floNextRow, standIns := [], harness := (true, "f127adfe29a28d7d709e1460905b92bd47de0a8844ef185cda807becdaebcf03"), looks := true }, kinds := [], alts := [], laidByText := true, laidKinds := [.data, .data, .data], laidTests := true, laidLooks := .later }
def FloNextCardSaid : Prop := Claim7.holds Tryd.pinned (.plain (OpenSpec.ofChange floNextSpec)) floNextCard

/-- THE TIED CARD OF 'shoallaw1.FloEnds'. -/
def floEndsCard : Claim7 := { stood := { row := floEndsRow, standIns := [], harness := (true, "f127adfe29a28d7d709e1460905b92bd47de0a8844ef185cda807becdaebcf03"), looks := true }, kinds := [], alts := [], laidByText := true, laidKinds := [.data, .data, .data], laidTests := true, laidLooks := .later }
def FloEndsCardSaid : Prop := Claim7.holds Tryd.pinned (.plain (OpenSpec.ofChange floEndsSpec)) floEndsCard

/-- THE TIED CARD OF 'shoallaw1.FloBack'. -/
def floBackCard : Claim7 := { stood := { row := floBackRow, standIns := [], harness := (true, "f127adfe29a28d7d709e1460905b92bd47de0a8844ef185cda807becdaebcf03"), looks := true }, kinds := [], alts := [], laidByText := true, laidKinds := [.data, .data, .data, .sentinel, .sentinel], laidTests := true, laidLooks := .later }
def FloBackCardSaid : Prop := Claim7.holds Tryd.pinned (.plain (OpenSpec.ofChange floBackSpec)) floBackCard

/-- THE TIED CARD OF 'shoallaw1.FloKnown'. -/
def floKnownCard : Claim7 := { stood := { row := floKnownRow, standIns := [], harness := (true, "f127adfe29a28d7d709e1460905b92bd47de0a8844ef185cda807becdaebcf03"), looks := true }, kinds := [], alts := [], laidByText := true, laidKinds := [.data, .data, .data, .sentinel, .sentinel], laidTests := true, laidLooks := .later }
def FloKnownCardSaid : Prop := Claim7.holds Tryd.pinned (.plain (OpenSpec.ofChange floKnownSpec)) floKnownCard

/-- THE TIED CARD OF 'shoallaw1.FloSays'. -/
def floSaysCard : Claim7 := { stood := { row := floSaysRow, standIns := [], harness := (true, "f127adfe29a28d7d709e1460905b92bd47de0a8844ef185cda807becdaebcf03"), looks := true }, kinds := [], alts := [], laidByText := true, laidKinds := [.data, .data, .data, .sentinel, .sentinel], laidTests := true, laidLooks := .later }
def FloSaysCardSaid : Prop := Claim7.holds Tryd.pinned (.plain (OpenSpec.ofChange floSaysSpec)) floSaysCard

/-- THE SECOND FORM's CARD OF 'shoallaw1.FloOrder'. -/
def floOrderUptoCard : Claim7 := { stood := { row := floOrderUptoRow, standIns := [], harness := (true, "f127adfe29a28d7d709e1460905b92bd47de0a8844ef185cda807becdaebcf03"), looks := true }, kinds := [], alts := [], laidByText := true, laidKinds := [.data, .data, .data], laidTests := true, laidLooks := .later }
def FloOrderUptoCardSaid : Prop := Claim7.holds Tryd.pinned (.plain (OpenSpec.upto floOrderSpec)) floOrderUptoCard

/-- THE SECOND FORM's CARD OF 'shoallaw1.FloSigns'. -/
def floSignsUptoCard : Claim7 := { stood := { row := floSignsUptoRow, standIns := [], harness := (true, "f127adfe29a28d7d709e1460905b92bd47de0a8844ef185cda807becdaebcf03"), looks := true }, kinds := [], alts := [], laidByText := true, laidKinds := [.data, .data, .data], laidTests := true, laidLooks := .later }
def FloSignsUptoCardSaid : Prop := Claim7.holds Tryd.pinned (.plain (OpenSpec.upto floSignsSpec)) floSignsUptoCard

/-- THE SECOND FORM's CARD OF 'shoallaw1.FloNext'. -/
def floNextUptoCard : Claim7 := { stood := { row := floNextUptoRow, standIns := [], harness := (true, "f127adfe29a28d7d709e1460905b92bd47de0a8844ef185cda807becdaebcf03"), looks := true }, kinds := [], alts := [], laidByText := true, laidKinds := [.data, .data, .data], laidTests := true, laidLooks := .later }
def FloNextUptoCardSaid : Prop := Claim7.holds Tryd.pinned (.plain (OpenSpec.upto floNextSpec)) floNextUptoCard

/-- THE SECOND FORM's CARD OF 'shoallaw1.FloEnds'. -/
def floEndsUptoCard : Claim7 := { stood := { row := floEndsUptoRow, standIns := [], harness := (true, "f127adfe29a28d7d709e1460905b92bd47de0a8844ef185cda807becdaebcf03"), looks := true }, kinds := [], alts := [], laidByText := true, laidKinds := [.data, .data, .data], laidTests := true, laidLooks := .later }
def FloEndsUptoCardSaid : Prop := Claim7.holds Tryd.pinned (.plain (OpenSpec.upto floEndsSpec)) floEndsUptoCard

/-- THE SECOND FORM's CARD OF 'shoallaw1.FloBack'. -/
def floBackUptoCard : Claim7 := { stood := { row := floBackUptoRow, standIns := [], harness := (true, "f127adfe29a28d7d709e1460905b92bd47de0a8844ef185cda807becdaebcf03"), looks := true }, kinds := [], alts := [], laidByText := true, laidKinds := [.data, .data, .data, .sentinel, .sentinel], laidTests := true, laidLooks := .later }
def FloBackUptoCardSaid : Prop := Claim7.holds Tryd.pinned (.plain (OpenSpec.upto floBackSpec)) floBackUptoCard

/-- THE SECOND FORM's CARD OF 'shoallaw1.FloKnown'. -/
def floKnownUptoCard : Claim7 := { stood := { row := floKnownUptoRow, standIns := [], harness := (true, "f127adfe29a28d7d709e1460905b92bd47de0a8844ef185cda807becdaebcf03"), looks := true }, kinds := [], alts := [], laidByText := true, laidKinds := [.data, .data, .data, .sentinel, .sentinel], laidTests := true, laidLooks := .later }
def FloKnownUptoCardSaid : Prop := Claim7.holds Tryd.pinned (.plain (OpenSpec.upto floKnownSpec)) floKnownUptoCard

/-- THE SECOND FORM's CARD OF 'shoallaw1.FloSays'. -/
def floSaysUptoCard : Claim7 := { stood := { row := floSaysUptoRow, standIns := [], harness := (true, "f127adfe29a28d7d709e1460905b92bd47de0a8844ef185cda807becdaebcf03"), looks := true }, kinds := [], alts := [], laidByText := true, laidKinds := [.data, .data, .data, .sentinel, .sentinel], laidTests := true, laidLooks := .later }
def FloSaysUptoCardSaid : Prop := Claim7.holds Tryd.pinned (.plain (OpenSpec.upto floSaysSpec)) floSaysUptoCard
end Rows
end Go.Proofs.YtgpjipgbighplaaDoor
