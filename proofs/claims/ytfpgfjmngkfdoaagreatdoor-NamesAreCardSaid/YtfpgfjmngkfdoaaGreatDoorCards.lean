/-
  DERIVED. GIVEN WITH THE SEED: THE CARDS: each row of YtfpgfjmngkfdoaaGreatDoorRows.lean that lists a variable, with what it lists TIED to the program's text (the seventh form; the later family's looks); each row that meets fmt, with fmt's text TOLD by the authors' own Lean function (tested against real Go, not proved from fmt's source: count such statements apart). THE CARD IS WHAT COUNTS. Prove the row's statement (the work); the ties are given (YtfpgfjmngkfdoaaGreatDoorTie.lean); close each card by the builder's one call (the guide's Derived/Test/ToyasCard.lean, 'card_holds'). Laid BY PROGRAM, IN A SANDBOX (cutbox-door.mjs). By AI agents, Wed Nov 11 2026. No macro, syntax, notation, axiom, sorry.
-/
import Derived.Test.YtfpgfjmngkfdoaaGreatDoorRows
import GoSem.ClaimSeven
namespace Go.Proofs.YtfpgfjmngkfdoaaGreatDoor
namespace Rows

/-- THE TIED CARD OF 'glyphlaw11.NamesAre'. -/
def namesAreCard : Claim7 := { stood := { row := namesAreRow, standIns := [], harness := (true, "241108f25e738733518c1d4efd264ccac985ca4132ddcb4be3630be559af2ec8"), looks := true }, kinds := [], alts := [], laidByText := true, laidKinds := [.data, .pinned], laidTests := true, laidLooks := .later }
def NamesAreCardSaid : Prop := Claim7.holds Tryz.pinned (.plain (OpenSpec.ofChange namesAreSpec)) namesAreCard

/-- THE TIED CARD OF 'glyphlaw11.NamesApart'. -/
def namesApartCard : Claim7 := { stood := { row := namesApartRow, standIns := [], harness := (true, "241108f25e738733518c1d4efd264ccac985ca4132ddcb4be3630be559af2ec8"), looks := true }, kinds := [], alts := [], laidByText := true, laidKinds := [.data, .pinned], laidTests := true, laidLooks := .later }
def NamesApartCardSaid : Prop := Claim7.holds Tryz.pinned (.plain (OpenSpec.ofChange namesApartSpec)) namesApartCard

/-- THE TIED CARD OF 'glyphlaw11.NamesErased'. -/
def namesErasedCard : Claim7 := { stood := { row := namesErasedRow, standIns := [], harness := (true, "241108f25e738733518c1d4efd264ccac985ca4132ddcb4be3630be559af2ec8"), looks := true }, kinds := [], alts := [], laidByText := true, laidKinds := [.data, .pinned], laidTests := true, laidLooks := .later }
def NamesErasedCardSaid : Prop := Claim7.holds Tryz.pinned (.plain (OpenSpec.ofChange namesErasedSpec)) namesErasedCard

/-- THE TIED CARD OF 'glyphlaw11.NamesBack'. -/
def namesBackCard : Claim7 := { stood := { row := namesBackRow, standIns := [], harness := (true, "241108f25e738733518c1d4efd264ccac985ca4132ddcb4be3630be559af2ec8"), looks := true }, kinds := [], alts := [], laidByText := true, laidKinds := [.data, .pinned], laidTests := true, laidLooks := .later }
def NamesBackCardSaid : Prop := Claim7.holds Tryz.pinned (.plain (OpenSpec.ofChange namesBackSpec)) namesBackCard

/-- THE TIED CARD OF 'glyphlaw11.NamesPlays'. -/
def namesPlaysCard : Claim7 := { stood := { row := namesPlaysRow, standIns := [], harness := (true, "241108f25e738733518c1d4efd264ccac985ca4132ddcb4be3630be559af2ec8"), looks := true }, kinds := [], alts := [], laidByText := true, laidKinds := [.data, .pinned], laidTests := true, laidLooks := .later }
def NamesPlaysCardSaid : Prop := Claim7.holds Tryz.pinned (.plain (OpenSpec.ofChange namesPlaysSpec)) namesPlaysCard

/-- THE TIED CARD OF 'glyphlaw12.DefineHeads'. -/
def defineHeadsCard : Claim7 := { stood := { row := defineHeadsRow, standIns := [], harness := (true, "241108f25e738733518c1d4efd264ccac985ca4132ddcb4be3630be559af2ec8"), looks := true }, kinds := [], alts := [], laidByText := true, laidKinds := [.data, .pinned], laidTests := true, laidLooks := .later }
def DefineHeadsCardSaid : Prop := Claim7.holds Tryz.pinned (.plain (OpenSpec.ofChange defineHeadsSpec)) defineHeadsCard

/-- THE TIED CARD OF 'glyphtop.TopLocals'. -/
def topLocalsCard : Claim7 := { stood := { row := topLocalsRow, standIns := [], harness := (true, "241108f25e738733518c1d4efd264ccac985ca4132ddcb4be3630be559af2ec8"), looks := true }, kinds := [], alts := [], laidByText := true, laidKinds := [.data, .pinned], laidTests := true, laidLooks := .later }
def TopLocalsCardSaid : Prop := Claim7.holds Tryz.pinned (.plain (OpenSpec.ofChange topLocalsSpec)) topLocalsCard

/-- THE TIED CARD OF 'glyphlaw12.DefineLabels'. -/
def defineLabelsCard : Claim7 := { stood := { row := defineLabelsRow, standIns := [], harness := (true, "241108f25e738733518c1d4efd264ccac985ca4132ddcb4be3630be559af2ec8"), looks := true }, kinds := [], alts := [], laidByText := true, laidKinds := [.data, .pinned], laidTests := true, laidLooks := .later }
def DefineLabelsCardSaid : Prop := Claim7.holds Tryz.pinned (.plain (OpenSpec.ofChange defineLabelsSpec)) defineLabelsCard

/-- THE TIED CARD OF 'glyphlaw12.DefineTexts'. -/
def defineTextsCard : Claim7 := { stood := { row := defineTextsRow, standIns := [], harness := (true, "241108f25e738733518c1d4efd264ccac985ca4132ddcb4be3630be559af2ec8"), looks := true }, kinds := [], alts := [], laidByText := true, laidKinds := [.data, .pinned], laidTests := true, laidLooks := .later }
def DefineTextsCardSaid : Prop := Claim7.holds Tryz.pinned (.plain (OpenSpec.ofChange defineTextsSpec)) defineTextsCard

/-- THE TIED CARD OF 'glyphlaw10.ParseSystem'. -/
def parseSystemCard : Claim7 := { stood := { row := parseSystemRow, standIns := [], harness := (true, "241108f25e738733518c1d4efd264ccac985ca4132ddcb4be3630be559af2ec8"), looks := true }, kinds := [], alts := [], laidByText := true, laidKinds := [.data, .pinned], laidTests := true, laidLooks := .later }
def ParseSystemCardSaid : Prop := Claim7.holds Tryz.pinned (.plain (OpenSpec.ofChange parseSystemSpec)) parseSystemCard

/-- THE SECOND FORM's CARD OF 'glyphlaw11.NamesAre'. -/
def namesAreUptoCard : Claim7 := { stood := { row := namesAreUptoRow, standIns := [], harness := (true, "241108f25e738733518c1d4efd264ccac985ca4132ddcb4be3630be559af2ec8"), looks := true }, kinds := [], alts := [], laidByText := true, laidKinds := [.data, .pinned], laidTests := true, laidLooks := .later }
def NamesAreUptoCardSaid : Prop := Claim7.holds Tryz.pinned (.plain (OpenSpec.upto namesAreSpec)) namesAreUptoCard

/-- THE SECOND FORM's CARD OF 'glyphlaw11.NamesApart'. -/
def namesApartUptoCard : Claim7 := { stood := { row := namesApartUptoRow, standIns := [], harness := (true, "241108f25e738733518c1d4efd264ccac985ca4132ddcb4be3630be559af2ec8"), looks := true }, kinds := [], alts := [], laidByText := true, laidKinds := [.data, .pinned], laidTests := true, laidLooks := .later }
def NamesApartUptoCardSaid : Prop := Claim7.holds Tryz.pinned (.plain (OpenSpec.upto namesApartSpec)) namesApartUptoCard

/-- THE SECOND FORM's CARD OF 'glyphlaw11.NamesErased'. -/
def namesErasedUptoCard : Claim7 := { stood := { row := namesErasedUptoRow, standIns := [], harness := (true, "241108f25e738733518c1d4efd264ccac985ca4132ddcb4be3630be559af2ec8"), looks := true }, kinds := [], alts := [], laidByText := true, laidKinds := [.data, .pinned], laidTests := true, laidLooks := .later }
def NamesErasedUptoCardSaid : Prop := Claim7.holds Tryz.pinned (.plain (OpenSpec.upto namesErasedSpec)) namesErasedUptoCard

/-- THE SECOND FORM's CARD OF 'glyphlaw11.NamesBack'. -/
def namesBackUptoCard : Claim7 := { stood := { row := namesBackUptoRow, standIns := [], harness := (true, "241108f25e738733518c1d4efd264ccac985ca4132ddcb4be3630be559af2ec8"), looks := true }, kinds := [], alts := [], laidByText := true, laidKinds := [.data, .pinned], laidTests := true, laidLooks := .later }
def NamesBackUptoCardSaid : Prop := Claim7.holds Tryz.pinned (.plain (OpenSpec.upto namesBackSpec)) namesBackUptoCard

/-- THE SECOND FORM's CARD OF 'glyphlaw11.NamesPlays'. -/
def namesPlaysUptoCard : Claim7 := { stood := { row := namesPlaysUptoRow, standIns := [], harness := (true, "241108f25e738733518c1d4efd264ccac985ca4132ddcb4be3630be559af2ec8"), looks := true }, kinds := [], alts := [], laidByText := true, laidKinds := [.data, .pinned], laidTests := true, laidLooks := .later }
def NamesPlaysUptoCardSaid : Prop := Claim7.holds Tryz.pinned (.plain (OpenSpec.upto namesPlaysSpec)) namesPlaysUptoCard

/-- THE SECOND FORM's CARD OF 'glyphlaw12.DefineHeads'. -/
def defineHeadsUptoCard : Claim7 := { stood := { row := defineHeadsUptoRow, standIns := [], harness := (true, "241108f25e738733518c1d4efd264ccac985ca4132ddcb4be3630be559af2ec8"), looks := true }, kinds := [], alts := [], laidByText := true, laidKinds := [.data, .pinned], laidTests := true, laidLooks := .later }
def DefineHeadsUptoCardSaid : Prop := Claim7.holds Tryz.pinned (.plain (OpenSpec.upto defineHeadsSpec)) defineHeadsUptoCard

/-- THE SECOND FORM's CARD OF 'glyphtop.TopLocals'. -/
def topLocalsUptoCard : Claim7 := { stood := { row := topLocalsUptoRow, standIns := [], harness := (true, "241108f25e738733518c1d4efd264ccac985ca4132ddcb4be3630be559af2ec8"), looks := true }, kinds := [], alts := [], laidByText := true, laidKinds := [.data, .pinned], laidTests := true, laidLooks := .later }
def TopLocalsUptoCardSaid : Prop := Claim7.holds Tryz.pinned (.plain (OpenSpec.upto topLocalsSpec)) topLocalsUptoCard

/-- THE SECOND FORM's CARD OF 'glyphlaw12.DefineLabels'. -/
def defineLabelsUptoCard : Claim7 := { stood := { row := defineLabelsUptoRow, standIns := [], harness := (true, "241108f25e738733518c1d4efd264ccac985ca4132ddcb4be3630be559af2ec8"), looks := true }, kinds := [], alts := [], laidByText := true, laidKinds := [.data, .pinned], laidTests := true, laidLooks := .later }
def DefineLabelsUptoCardSaid : Prop := Claim7.holds Tryz.pinned (.plain (OpenSpec.upto defineLabelsSpec)) defineLabelsUptoCard

/-- THE SECOND FORM's CARD OF 'glyphlaw12.DefineTexts'. -/
def defineTextsUptoCard : Claim7 := { stood := { row := defineTextsUptoRow, standIns := [], harness := (true, "241108f25e738733518c1d4efd264ccac985ca4132ddcb4be3630be559af2ec8"), looks := true }, kinds := [], alts := [], laidByText := true, laidKinds := [.data, .pinned], laidTests := true, laidLooks := .later }
def DefineTextsUptoCardSaid : Prop := Claim7.holds Tryz.pinned (.plain (OpenSpec.upto defineTextsSpec)) defineTextsUptoCard

/-- THE SECOND FORM's CARD OF 'glyphlaw10.ParseSystem'. -/
def parseSystemUptoCard : Claim7 := { stood := { row := parseSystemUptoRow, standIns := [], harness := (true, "241108f25e738733518c1d4efd264ccac985ca4132ddcb4be3630be559af2ec8"), looks := true }, kinds := [], alts := [], laidByText := true, laidKinds := [.data, .pinned], laidTests := true, laidLooks := .later }
def ParseSystemUptoCardSaid : Prop := Claim7.holds Tryz.pinned (.plain (OpenSpec.upto parseSystemSpec)) parseSystemUptoCard
end Rows
end Go.Proofs.YtfpgfjmngkfdoaaGreatDoor
