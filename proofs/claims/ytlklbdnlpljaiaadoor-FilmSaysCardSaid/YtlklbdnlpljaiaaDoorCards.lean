/-
  DERIVED. GIVEN WITH THE SEED: THE CARDS: each row of YtlklbdnlpljaiaaDoorRows.lean that lists a variable, with what it lists TIED to the program's text (the seventh form; the later family's looks); each row that meets fmt, with fmt's text TOLD by the authors' own Lean function (tested against real Go, not proved from fmt's source: count such statements apart). THE CARD IS WHAT COUNTS. Prove the row's statement (the work); the ties are given (YtlklbdnlpljaiaaDoorTie.lean); close each card by the builder's one call (the guide's Derived/Test/ToyasCard.lean, 'card_holds'). Laid BY PROGRAM, IN A SANDBOX (cutbox-door.mjs). By AI agents, Wed Nov 11 2026. No macro, syntax, notation, axiom, sorry.
-/
import Derived.Test.YtlklbdnlpljaiaaDoorRows
import GoSem.ClaimSeven
namespace Go.Proofs.YtlklbdnlpljaiaaDoor
namespace Rows

/-- THE TIED CARD OF 'shoallaw24.FilmParts'. -/
def filmPartsCard : Claim7 := { stood := { row := filmPartsRow, standIns := [], harness := (true, "955c1115bc04bfdf62af4806a9c85a6bc5174f9179b1d855f8d610387d41e12f"), looks := false }, kinds := [], alts := [], laidByText := true, laidKinds := [.data, .data, .data], laidTests := true, laidLooks := .later }
def FilmPartsCardSaid : Prop := Claim7.holds Tryd.pinned (.plain (OpenSpec.ofChange filmPartsSpec)) filmPartsCard

/-- THE TIED CARD OF 'shoallaw24.FilmTexts'. -/
def filmTextsCard : Claim7 := { stood := { row := filmTextsRow, standIns := [], harness := (true, "955c1115bc04bfdf62af4806a9c85a6bc5174f9179b1d855f8d610387d41e12f"), looks := false }, kinds := [], alts := [], laidByText := true, laidKinds := [.data, .data, .data], laidTests := true, laidLooks := .later }
def FilmTextsCardSaid : Prop := Claim7.holds Tryd.pinned (.plain (OpenSpec.ofChange filmTextsSpec)) filmTextsCard

/-- THE TIED CARD OF 'shoallaw24.FilmKnown'. -/
def filmKnownCard : Claim7 := { stood := { row := filmKnownRow, standIns := [], harness := (true, "955c1115bc04bfdf62af4806a9c85a6bc5174f9179b1d855f8d610387d41e12f"), looks := false }, kinds := [], alts := [], laidByText := true, laidKinds := [.data, .data, .data], laidTests := true, laidLooks := .later }
def FilmKnownCardSaid : Prop := Claim7.holds Tryd.pinned (.plain (OpenSpec.ofChange filmKnownSpec)) filmKnownCard

/-- THE TIED CARD OF 'shoallaw24.FilmSays'. -/
def filmSaysCard : Claim7 := { stood := { row := filmSaysRow, standIns := [], harness := (true, "955c1115bc04bfdf62af4806a9c85a6bc5174f9179b1d855f8d610387d41e12f"), looks := false }, kinds := [], alts := [], laidByText := true, laidKinds := [.data, .data, .data], laidTests := true, laidLooks := .later }
def FilmSaysCardSaid : Prop := Claim7.holds Tryd.pinned (.plain (OpenSpec.ofChange filmSaysSpec)) filmSaysCard

/-- THE SECOND FORM's CARD OF 'shoallaw24.FilmParts'. -/
def filmPartsUptoCard : Claim7 := { stood := { row := filmPartsUptoRow, standIns := [], harness := (true, "955c1115bc04bfdf62af4806a9c85a6bc5174f9179b1d855f8d610387d41e12f"), looks := false }, kinds := [], alts := [], laidByText := true, laidKinds := [.data, .data, .data], laidTests := true, laidLooks := .later }
def FilmPartsUptoCardSaid : Prop := Claim7.holds Tryd.pinned (.plain (OpenSpec.upto filmPartsSpec)) filmPartsUptoCard

/-- THE SECOND FORM's CARD OF 'shoallaw24.FilmTexts'. -/
def filmTextsUptoCard : Claim7 := { stood := { row := filmTextsUptoRow, standIns := [], harness := (true, "955c1115bc04bfdf62af4806a9c85a6bc5174f9179b1d855f8d610387d41e12f"), looks := false }, kinds := [], alts := [], laidByText := true, laidKinds := [.data, .data, .data], laidTests := true, laidLooks := .later }
def FilmTextsUptoCardSaid : Prop := Claim7.holds Tryd.pinned (.plain (OpenSpec.upto filmTextsSpec)) filmTextsUptoCard

/-- THE SECOND FORM's CARD OF 'shoallaw24.FilmKnown'. -/
def filmKnownUptoCard : Claim7 := { stood := { row := filmKnownUptoRow, standIns := [], harness := (true, "955c1115bc04bfdf62af4806a9c85a6bc5174f9179b1d855f8d610387d41e12f"), looks := false }, kinds := [], alts := [], laidByText := true, laidKinds := [.data, .data, .data], laidTests := true, laidLooks := .later }
def FilmKnownUptoCardSaid : Prop := Claim7.holds Tryd.pinned (.plain (OpenSpec.upto filmKnownSpec)) filmKnownUptoCard

/-- THE SECOND FORM's CARD OF 'shoallaw24.FilmSays'. -/
def filmSaysUptoCard : Claim7 := { stood := { row := filmSaysUptoRow, standIns := [], harness := (true, "955c1115bc04bfdf62af4806a9c85a6bc5174f9179b1d855f8d610387d41e12f"), looks := false }, kinds := [], alts := [], laidByText := true, laidKinds := [.data, .data, .data], laidTests := true, laidLooks := .later }
def FilmSaysUptoCardSaid : Prop := Claim7.holds Tryd.pinned (.plain (OpenSpec.upto filmSaysSpec)) filmSaysUptoCard
end Rows
end Go.Proofs.YtlklbdnlpljaiaaDoor
