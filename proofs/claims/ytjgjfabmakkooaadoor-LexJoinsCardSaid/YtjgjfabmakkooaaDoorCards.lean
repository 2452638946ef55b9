/-
  DERIVED. GIVEN WITH THE SEED: THE CARDS: each row of YtjgjfabmakkooaaDoorRows.lean that lists a variable, with what it lists TIED to the program's text (the seventh form; the later family's looks); each row that meets fmt, with fmt's text TOLD by the authors' own Lean function (tested against real Go, not proved from fmt's source: count such statements apart). THE CARD IS WHAT COUNTS. Prove the row's statement (the work); the ties are given (YtjgjfabmakkooaaDoorTie.lean); close each card by the builder's one call (the guide's Derived/Test/ToyasCard.lean, 'card_holds'). Laid BY PROGRAM, IN A SANDBOX (cutbox-door.mjs). By AI agents, Wed Nov 11 2026. No macro, syntax, notation, axiom, sorry.
-/
import Derived.Test.YtjgjfabmakkooaaDoorRows
import GoSem.ClaimSeven
namespace Go.Proofs.YtjgjfabmakkooaaDoor
namespace Rows

/-- THE TIED CARD OF 'glyphlaw04.LexRunes'. -/
def lexRunesCard : Claim7 := { stood := { row := lexRunesRow, standIns := [], harness := (true, "b43675353c31561ec1881f78ebe1f8a5512cdcf47c0baa9764e28405c774c60a"), looks := false }, kinds := [], alts := [], laidByText := true, laidKinds := [.data, .pinned], laidTests := true, laidLooks := .later }
def LexRunesCardSaid : Prop := Claim7.holds Tryd.pinned (.plain (OpenSpec.ofChange lexRunesSpec)) lexRunesCard

/-- THE TIED CARD OF 'glyphlaw04.LexParts'. -/
def lexPartsCard : Claim7 := { stood := { row := lexPartsRow, standIns := [], harness := (true, "b43675353c31561ec1881f78ebe1f8a5512cdcf47c0baa9764e28405c774c60a"), looks := false }, kinds := [], alts := [], laidByText := true, laidKinds := [.data, .pinned], laidTests := true, laidLooks := .later }
def LexPartsCardSaid : Prop := Claim7.holds Tryd.pinned (.plain (OpenSpec.ofChange lexPartsSpec)) lexPartsCard

/-- THE TIED CARD OF 'glyphlaw04.LexJoins'. -/
def lexJoinsCard : Claim7 := { stood := { row := lexJoinsRow, standIns := [], harness := (true, "b43675353c31561ec1881f78ebe1f8a5512cdcf47c0baa9764e28405c774c60a"), looks := false }, kinds := [], alts := [], laidByText := true, laidKinds := [.data, .pinned], laidTests := true, laidLooks := .later }
def LexJoinsCardSaid : Prop := Claim7.holds Tryd.pinned (.plain (OpenSpec.ofChange lexJoinsSpec)) lexJoinsCard

/-- THE SECOND FORM's CARD OF 'glyphlaw04.LexRunes'. -/
def lexRunesUptoCard : Claim7 := { stood := { row := lexRunesUptoRow, standIns := [], harness := (true, "b43675353c31561ec1881f78ebe1f8a5512cdcf47c0baa9764e28405c774c60a"), looks := false }, kinds := [], alts := [], laidByText := true, laidKinds := [.data, .pinned], laidTests := true, laidLooks := .later }
def LexRunesUptoCardSaid : Prop := Claim7.holds Tryd.pinned (.plain (OpenSpec.upto lexRunesSpec)) lexRunesUptoCard

/-- THE SECOND FORM's CARD OF 'glyphlaw04.LexParts'. -/
def lexPartsUptoCard : Claim7 := { stood := { row := lexPartsUptoRow, standIns := [], harness := (true, "b43675353c31561ec1881f78ebe1f8a5512cdcf47c0baa9764e28405c774c60a"), looks := false }, kinds := [], alts := [], laidByText := true, laidKinds := [.data, .pinned], laidTests := true, laidLooks := .later }
def LexPartsUptoCardSaid : Prop := Claim7.holds Tryd.pinned (.plain (OpenSpec.upto lexPartsSpec)) lexPartsUptoCard

/-- THE SECOND FORM's CARD OF 'glyphlaw04.LexJoins'. -/
def lexJoinsUptoCard : Claim7 := { stood := { row := lexJoinsUptoRow, standIns := [], harness := (true, "b43675353c31561ec1881f78ebe1f8a5512cdcf47c0baa9764e28405c774c60a"), looks := false }, kinds := [], alts := [], laidByText := true, laidKinds := [.data, .pinned], laidTests := true, laidLooks := .later }
def LexJoinsUptoCardSaid : Prop := Claim7.holds Tryd.pinned (.plain (OpenSpec.upto lexJoinsSpec)) lexJoinsUptoCard
end Rows
end Go.Proofs.YtjgjfabmakkooaaDoor
