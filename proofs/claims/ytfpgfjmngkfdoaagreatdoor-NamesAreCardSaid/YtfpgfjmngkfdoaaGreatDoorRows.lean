/-
  NARROWER THAN 'FOR EVERY INPUT', by the rows' own cells (each row's printed sentence says how): NamesAre: laid · NamesApart: loops, laid · NamesErased: loops, laid · NamesBack: loops, laid · NamesPlays: loops, laid · DefineHeads: laid · TopLocals: loops, laid · DefineLabels: laid · DefineTexts: laid · ParseSystem: laid.
  DERIVED. THE GIVEN ROWS OF THIS SEAT. 10 by the template 'for every input the law returns true; each argument reads behind the call as it read before'; 0 by the template 'total and deterministic' (their statements: YtfpgfjmngkfdoaaGreatDoorTotals.lean).
  GIVEN WITH THE SEED: the statements are not yours to turn. If you find one false, say at which input.
  Laid BY PROGRAM, IN A SANDBOX (cutbox-rows.mjs): the forced cells as the released guide's own fill.sh prints them over the translation ad01a82fe5e0530b… (all of the seat's roots in one cut). By AI agents, Wed Nov 11 2026. No macro, syntax, notation, axiom, sorry.
-/
import Derived.Test.YtfpgfjmngkfdoaaGreatDoorChecked
import GoSem.PinnedTables
import GoSem.Claim
import GoSem.ClaimJoined
import GoSem.ClaimMapViews
import Derived.JoinedTies
import Derived.KernelRfl
namespace Go.Proofs.YtfpgfjmngkfdoaaGreatDoor
/- THE CELL 'sum', in the pinned program and in every row, IS THE sha256 OF THE DUMP (.gsa) THAT YtfpgfjmngkfdoaaGreatDoorProg.lean LOADS. Nothing in Lean hashes anything: it is a label: what it is worth is what the hold of that sum in a sandbox is worth. -/
noncomputable def Tryz.pinned : Pinned := { name := "ytfpgfjmngkfdoaagreatdoor", sum := "ad01a82fe5e0530bcd562436f73f03635d6e3a2560e0d1b7e2a7570d0d2f5f46", checked := Tryz.checked }
namespace Rows
def none {H : Type} : Left H := { results := [], args := [] }

/- WHAT THE LISTED PACKAGE-LEVEL VARIABLES READ AS WHEN THE CALL BEGINS. Each datum BY PROGRAM (the guide's laid-datum.mjs) off the statement by which the dump's own 'gosem.cut.vars' lays the variable. In a bare row this is a premise. The card (YtfpgfjmngkfdoaaGreatDoorCards.lean) ties it to the program's text. -/
def laid_unicode_utf8_acceptRanges {H : Type} : DataW H := .agg [.agg [.lit (.int .u8 128), .lit (.int .u8 191)], .agg [.lit (.int .u8 160), .lit (.int .u8 191)], .agg [.lit (.int .u8 128), .lit (.int .u8 159)], .agg [.lit (.int .u8 144), .lit (.int .u8 191)], .agg [.lit (.int .u8 128), .lit (.int .u8 143)], .agg [.lit (.int .u8 0), .lit (.int .u8 0)], .agg [.lit (.int .u8 0), .lit (.int .u8 0)], .agg [.lit (.int .u8 0), .lit (.int .u8 0)], .agg [.lit (.int .u8 0), .lit (.int .u8 0)], .agg [.lit (.int .u8 0), .lit (.int .u8 0)], .agg [.lit (.int .u8 0), .lit (.int .u8 0)], .agg [.lit (.int .u8 0), .lit (.int .u8 0)], .agg [.lit (.int .u8 0), .lit (.int .u8 0)], .agg [.lit (.int .u8 0), .lit (.int .u8 0)], .agg [.lit (.int .u8 0), .lit (.int .u8 0)], .agg [.lit (.int .u8 0), .lit (.int .u8 0)]]
/-- One of Go's own tables, pinned by name: the form's constant. -/
def laid_unicode_utf8_first : DataW Unit := Go.Pinned.utf8First

/-- 'glyphlaw11.NamesAre': WHATEVER THE INPUT: true; the input reads as it did. -/
def namesAreSpec : ChangeSpec := { name := "namesAre", fn := fun _ => fun
  | [d] => { results := [.lit (.bool true)], args := [d] }
  | _ => none }
def namesAreRow : OpenClaim := { program := "ytfpgfjmngkfdoaagreatdoor", sum := "ad01a82fe5e0530bcd562436f73f03635d6e3a2560e0d1b7e2a7570d0d2f5f46", func := "glyph/glyphlaw11.NamesAre", spec := "namesAre", unfollowed := true, recurses := true, named := ["math/bits.overflowError", "unicode/utf8.first", "unicode/utf8.acceptRanges"], apart := false, laid := [("unicode/utf8.acceptRanges", laid_unicode_utf8_acceptRanges), ("unicode/utf8.first", laid_unicode_utf8_first)] }
def NamesAreSaid : Prop := namesAreRow.holds Tryz.pinned (OpenSpec.ofChange namesAreSpec)

/-- ITS FALSE NEIGHBOUR: 'it returns false'. Refute it at one input. -/
def namesAreWrong : ChangeSpec := { name := "namesAre", fn := fun _ => fun
  | [d] => { results := [.lit (.bool false)], args := [d] }
  | _ => none }
def NamesAreWrongFalsely : Prop := namesAreRow.holds Tryz.pinned (OpenSpec.ofChange namesAreWrong)

/-- 'glyphlaw11.NamesApart': WHATEVER THE INPUT: true; the input reads as it did. -/
def namesApartSpec : ChangeSpec := { name := "namesApart", fn := fun _ => fun
  | [d1, d2, d3] => { results := [.lit (.bool true)], args := [d1, d2, d3] }
  | _ => none }
def namesApartRow : OpenClaim := { program := "ytfpgfjmngkfdoaagreatdoor", sum := "ad01a82fe5e0530bcd562436f73f03635d6e3a2560e0d1b7e2a7570d0d2f5f46", func := "glyph/glyphlaw11.NamesApart", spec := "namesApart", unfollowed := true, recurses := true, named := ["math/bits.overflowError", "unicode/utf8.first", "unicode/utf8.acceptRanges"], loops := true, apart := false, laid := [("unicode/utf8.acceptRanges", laid_unicode_utf8_acceptRanges), ("unicode/utf8.first", laid_unicode_utf8_first)] }
def NamesApartSaid : Prop := namesApartRow.holds Tryz.pinned (OpenSpec.ofChange namesApartSpec)

/-- ITS FALSE NEIGHBOUR: 'it returns false'. Refute it at one input. -/
def namesApartWrong : ChangeSpec := { name := "namesApart", fn := fun _ => fun
  | [d1, d2, d3] => { results := [.lit (.bool false)], args := [d1, d2, d3] }
  | _ => none }
def NamesApartWrongFalsely : Prop := namesApartRow.holds Tryz.pinned (OpenSpec.ofChange namesApartWrong)

/-- 'glyphlaw11.NamesErased': WHATEVER THE INPUT: true; the input reads as it did. -/
def namesErasedSpec : ChangeSpec := { name := "namesErased", fn := fun _ => fun
  | [d1, d2] => { results := [.lit (.bool true)], args := [d1, d2] }
  | _ => none }
def namesErasedRow : OpenClaim := { program := "ytfpgfjmngkfdoaagreatdoor", sum := "ad01a82fe5e0530bcd562436f73f03635d6e3a2560e0d1b7e2a7570d0d2f5f46", func := "glyph/glyphlaw11.NamesErased", spec := "namesErased", unfollowed := true, recurses := true, named := ["math/bits.overflowError", "unicode/utf8.first", "unicode/utf8.acceptRanges"], loops := true, apart := false, laid := [("unicode/utf8.acceptRanges", laid_unicode_utf8_acceptRanges), ("unicode/utf8.first", laid_unicode_utf8_first)] }
def NamesErasedSaid : Prop := namesErasedRow.holds Tryz.pinned (OpenSpec.ofChange namesErasedSpec)

/-- ITS FALSE NEIGHBOUR: 'it returns false'. Refute it at one input. -/
def namesErasedWrong : ChangeSpec := { name := "namesErased", fn := fun _ => fun
  | [d1, d2] => { results := [.lit (.bool false)], args := [d1, d2] }
  | _ => none }
def NamesErasedWrongFalsely : Prop := namesErasedRow.holds Tryz.pinned (OpenSpec.ofChange namesErasedWrong)

/-- 'glyphlaw11.NamesBack': WHATEVER THE INPUT: true; the input reads as it did. -/
def namesBackSpec : ChangeSpec := { name := "namesBack", fn := fun _ => fun
  | [d1, d2, d3] => { results := [.lit (.bool true)], args := [d1, d2, d3] }
  | _ => none }
def namesBackRow : OpenClaim := { program := "ytfpgfjmngkfdoaagreatdoor", sum := "ad01a82fe5e0530bcd562436f73f03635d6e3a2560e0d1b7e2a7570d0d2f5f46", func := "glyph/glyphlaw11.NamesBack", spec := "namesBack", inPlace := ["maps.clone"], unfollowed := true, recurses := true, named := ["math/bits.overflowError", "unicode/utf8.first", "unicode/utf8.acceptRanges"], loops := true, apart := false, laid := [("unicode/utf8.acceptRanges", laid_unicode_utf8_acceptRanges), ("unicode/utf8.first", laid_unicode_utf8_first)] }
def NamesBackSaid : Prop := namesBackRow.holds Tryz.pinned (OpenSpec.ofChange namesBackSpec)

/-- ITS FALSE NEIGHBOUR: 'it returns false'. Refute it at one input. -/
def namesBackWrong : ChangeSpec := { name := "namesBack", fn := fun _ => fun
  | [d1, d2, d3] => { results := [.lit (.bool false)], args := [d1, d2, d3] }
  | _ => none }
def NamesBackWrongFalsely : Prop := namesBackRow.holds Tryz.pinned (OpenSpec.ofChange namesBackWrong)

/-- 'glyphlaw11.NamesPlays': WHATEVER THE INPUT: true; the input reads as it did. -/
def namesPlaysSpec : ChangeSpec := { name := "namesPlays", fn := fun _ => fun
  | [d1, d2] => { results := [.lit (.bool true)], args := [d1, d2] }
  | _ => none }
def namesPlaysRow : OpenClaim := { program := "ytfpgfjmngkfdoaagreatdoor", sum := "ad01a82fe5e0530bcd562436f73f03635d6e3a2560e0d1b7e2a7570d0d2f5f46", func := "glyph/glyphlaw11.NamesPlays", spec := "namesPlays", inPlace := ["maps.clone"], unfollowed := true, recurses := true, named := ["math/bits.overflowError", "unicode/utf8.first", "unicode/utf8.acceptRanges"], loops := true, apart := false, laid := [("unicode/utf8.acceptRanges", laid_unicode_utf8_acceptRanges), ("unicode/utf8.first", laid_unicode_utf8_first)] }
def NamesPlaysSaid : Prop := namesPlaysRow.holds Tryz.pinned (OpenSpec.ofChange namesPlaysSpec)

/-- ITS FALSE NEIGHBOUR: 'it returns false'. Refute it at one input. -/
def namesPlaysWrong : ChangeSpec := { name := "namesPlays", fn := fun _ => fun
  | [d1, d2] => { results := [.lit (.bool false)], args := [d1, d2] }
  | _ => none }
def NamesPlaysWrongFalsely : Prop := namesPlaysRow.holds Tryz.pinned (OpenSpec.ofChange namesPlaysWrong)

/-- 'glyphlaw12.DefineHeads': WHATEVER THE INPUT: true; the input reads as it did. -/
def defineHeadsSpec : ChangeSpec := { name := "defineHeads", fn := fun _ => fun
  | [d] => { results := [.lit (.bool true)], args := [d] }
  | _ => none }
def defineHeadsRow : OpenClaim := { program := "ytfpgfjmngkfdoaagreatdoor", sum := "ad01a82fe5e0530bcd562436f73f03635d6e3a2560e0d1b7e2a7570d0d2f5f46", func := "glyph/glyphlaw12.DefineHeads", spec := "defineHeads", inPlace := ["internal/bytealg.IndexByteString", "internal/bytealg.IndexString"], unfollowed := true, recurses := true, named := ["math/bits.overflowError", "unicode/utf8.first", "unicode/utf8.acceptRanges", "internal/bytealg.MaxLen"], apart := false, laid := [("unicode/utf8.acceptRanges", laid_unicode_utf8_acceptRanges), ("unicode/utf8.first", laid_unicode_utf8_first)] }
def DefineHeadsSaid : Prop := defineHeadsRow.holds Tryz.pinned (OpenSpec.ofChange defineHeadsSpec)

/-- ITS FALSE NEIGHBOUR: 'it returns false'. Refute it at one input. -/
def defineHeadsWrong : ChangeSpec := { name := "defineHeads", fn := fun _ => fun
  | [d] => { results := [.lit (.bool false)], args := [d] }
  | _ => none }
def DefineHeadsWrongFalsely : Prop := defineHeadsRow.holds Tryz.pinned (OpenSpec.ofChange defineHeadsWrong)

/-- 'glyphtop.TopLocals': WHATEVER THE INPUT: true; the input reads as it did. -/
def topLocalsSpec : ChangeSpec := { name := "topLocals", fn := fun _ => fun
  | [d1, d2] => { results := [.lit (.bool true)], args := [d1, d2] }
  | _ => none }
def topLocalsRow : OpenClaim := { program := "ytfpgfjmngkfdoaagreatdoor", sum := "ad01a82fe5e0530bcd562436f73f03635d6e3a2560e0d1b7e2a7570d0d2f5f46", func := "glyph/glyphtop.TopLocals", spec := "topLocals", inPlace := ["internal/bytealg.IndexByteString", "internal/bytealg.IndexString"], unfollowed := true, recurses := true, named := ["math/bits.overflowError", "unicode/utf8.first", "unicode/utf8.acceptRanges", "internal/bytealg.MaxLen"], loops := true, apart := false, laid := [("unicode/utf8.acceptRanges", laid_unicode_utf8_acceptRanges), ("unicode/utf8.first", laid_unicode_utf8_first)] }
def TopLocalsSaid : Prop := topLocalsRow.holds Tryz.pinned (OpenSpec.ofChange topLocalsSpec)

/-- ITS FALSE NEIGHBOUR: 'it returns false'. Refute it at one input. -/
def topLocalsWrong : ChangeSpec := { name := "topLocals", fn := fun _ => fun
  | [d1, d2] => { results := [.lit (.bool false)], args := [d1, d2] }
  | _ => none }
def TopLocalsWrongFalsely : Prop := topLocalsRow.holds Tryz.pinned (OpenSpec.ofChange topLocalsWrong)

/-- 'glyphlaw12.DefineLabels': WHATEVER THE INPUT: true; the input reads as it did. -/
def defineLabelsSpec : ChangeSpec := { name := "defineLabels", fn := fun _ => fun
  | [d] => { results := [.lit (.bool true)], args := [d] }
  | _ => none }
def defineLabelsRow : OpenClaim := { program := "ytfpgfjmngkfdoaagreatdoor", sum := "ad01a82fe5e0530bcd562436f73f03635d6e3a2560e0d1b7e2a7570d0d2f5f46", func := "glyph/glyphlaw12.DefineLabels", spec := "defineLabels", inPlace := ["internal/bytealg.IndexByteString", "internal/bytealg.IndexString"], unfollowed := true, recurses := true, named := ["math/bits.overflowError", "unicode/utf8.first", "unicode/utf8.acceptRanges", "internal/bytealg.MaxLen"], apart := false, laid := [("unicode/utf8.acceptRanges", laid_unicode_utf8_acceptRanges), ("unicode/utf8.first", laid_unicode_utf8_first)] }
def DefineLabelsSaid : Prop := defineLabelsRow.holds Tryz.pinned (OpenSpec.ofChange defineLabelsSpec)

/-- ITS FALSE NEIGHBOUR: 'it returns false'. Refute it at one input. -/
def defineLabelsWrong : ChangeSpec := { name := "defineLabels", fn := fun _ => fun
  | [d] => { results := [.lit (.bool false)], args := [d] }
  | _ => none }
def DefineLabelsWrongFalsely : Prop := defineLabelsRow.holds Tryz.pinned (OpenSpec.ofChange defineLabelsWrong)

/-- 'glyphlaw12.DefineTexts': WHATEVER THE INPUT: true; the input reads as it did. -/
def defineTextsSpec : ChangeSpec := { name := "defineTexts", fn := fun _ => fun
  | [d] => { results := [.lit (.bool true)], args := [d] }
  | _ => none }
def defineTextsRow : OpenClaim := { program := "ytfpgfjmngkfdoaagreatdoor", sum := "ad01a82fe5e0530bcd562436f73f03635d6e3a2560e0d1b7e2a7570d0d2f5f46", func := "glyph/glyphlaw12.DefineTexts", spec := "defineTexts", inPlace := ["internal/bytealg.IndexByteString", "internal/bytealg.IndexString"], unfollowed := true, recurses := true, named := ["math/bits.overflowError", "unicode/utf8.first", "unicode/utf8.acceptRanges", "internal/bytealg.MaxLen"], apart := false, laid := [("unicode/utf8.acceptRanges", laid_unicode_utf8_acceptRanges), ("unicode/utf8.first", laid_unicode_utf8_first)] }
def DefineTextsSaid : Prop := defineTextsRow.holds Tryz.pinned (OpenSpec.ofChange defineTextsSpec)

/-- ITS FALSE NEIGHBOUR: 'it returns false'. Refute it at one input. -/
def defineTextsWrong : ChangeSpec := { name := "defineTexts", fn := fun _ => fun
  | [d] => { results := [.lit (.bool false)], args := [d] }
  | _ => none }
def DefineTextsWrongFalsely : Prop := defineTextsRow.holds Tryz.pinned (OpenSpec.ofChange defineTextsWrong)

/-- 'glyphlaw10.ParseSystem': WHATEVER THE INPUT: true; the input reads as it did. -/
def parseSystemSpec : ChangeSpec := { name := "parseSystem", fn := fun _ => fun
  | [d] => { results := [.lit (.bool true)], args := [d] }
  | _ => none }
def parseSystemRow : OpenClaim := { program := "ytfpgfjmngkfdoaagreatdoor", sum := "ad01a82fe5e0530bcd562436f73f03635d6e3a2560e0d1b7e2a7570d0d2f5f46", func := "glyph/glyphlaw10.ParseSystem", spec := "parseSystem", inPlace := ["internal/bytealg.CountString", "internal/bytealg.IndexByteString", "internal/bytealg.IndexString", "internal/abi.NoEscape", "internal/bytealg.MakeNoZero"], unfollowed := true, recurses := true, named := ["math/bits.overflowError", "unicode/utf8.first", "unicode/utf8.acceptRanges", "internal/bytealg.MaxLen"], apart := false, laid := [("unicode/utf8.acceptRanges", laid_unicode_utf8_acceptRanges), ("unicode/utf8.first", laid_unicode_utf8_first)] }
def ParseSystemSaid : Prop := parseSystemRow.holds Tryz.pinned (OpenSpec.ofChange parseSystemSpec)

/-- ITS FALSE NEIGHBOUR: 'it returns false'. Refute it at one input. -/
def parseSystemWrong : ChangeSpec := { name := "parseSystem", fn := fun _ => fun
  | [d] => { results := [.lit (.bool false)], args := [d] }
  | _ => none }
def ParseSystemWrongFalsely : Prop := parseSystemRow.holds Tryz.pinned (OpenSpec.ofChange parseSystemWrong)

/- THE SECOND FORM. 'bulk': how many values and letters a reading holds, each counted each time it is reached (what is shared counts as often as it is met; a slice's spare places count too). A statement '..UptoSaid' is the law's where the arguments, and the package variables that the reading takes, are together of bulk at most 1048576: NARROWER than '..Said'. Prove '..Said' where nothing that the law and all that it calls make is longer than what came in: it says more and counts as full. Else prove '..UptoSaid'. A law counts once. -/
mutual
def uptoBulk {H : Type} : DataW H → Nat
  | .lit (.string bytes) => bytes.length + 1
  | .lit _ => 1
  | .nil => 1
  | .ptr d => uptoBulk d + 1
  | .slice elems spare => uptoBulkAll elems + uptoBulkAll spare + 1
  | .agg parts => uptoBulkAll parts + 1
  | .iface _ d => uptoBulk d + 1
  | .map entries => uptoBulkEntries entries + 1
  | .held _ => 1
def uptoBulkAll {H : Type} : List (DataW H) → Nat
  | [] => 0
  | d :: r => uptoBulk d + uptoBulkAll r
def uptoBulkEntries {H : Type} : List (Lit × DataW H) → Nat
  | [] => 0
  | x :: r => uptoBulkEntry x + uptoBulkEntries r
def uptoBulkEntry {H : Type} : Lit × DataW H → Nat
  | (.string bytes, d) => bytes.length + uptoBulk d + 1
  | (_, d) => uptoBulk d + 1
 end
def uptoSmall : (H : Type) → List (DataW H) → Bool := fun _ ds => decide (uptoBulkAll ds ≤ 1048576)
def OpenSpec.upto (s : _root_.Go.ChangeSpec) : _root_.Go.OpenSpec := { _root_.Go.OpenSpec.ofChange s with cond := some uptoSmall }

/-- 'glyphlaw11.NamesAre', WHERE WHAT IT READS IS OF BULK AT MOST 1048576: true; the input reads as it did. -/
def namesAreUptoRow : OpenClaim := { program := "ytfpgfjmngkfdoaagreatdoor", sum := "ad01a82fe5e0530bcd562436f73f03635d6e3a2560e0d1b7e2a7570d0d2f5f46", func := "glyph/glyphlaw11.NamesAre", spec := "namesAre", unfollowed := true, recurses := true, named := ["math/bits.overflowError", "unicode/utf8.first", "unicode/utf8.acceptRanges"], apart := false, laid := [("unicode/utf8.acceptRanges", laid_unicode_utf8_acceptRanges), ("unicode/utf8.first", laid_unicode_utf8_first)], narrowed := true }
def NamesAreUptoSaid : Prop := namesAreUptoRow.holds Tryz.pinned (OpenSpec.upto namesAreSpec)

/-- 'glyphlaw11.NamesApart', WHERE WHAT IT READS IS OF BULK AT MOST 1048576: true; the input reads as it did. -/
def namesApartUptoRow : OpenClaim := { program := "ytfpgfjmngkfdoaagreatdoor", sum := "ad01a82fe5e0530bcd562436f73f03635d6e3a2560e0d1b7e2a7570d0d2f5f46", func := "glyph/glyphlaw11.NamesApart", spec := "namesApart", unfollowed := true, recurses := true, named := ["math/bits.overflowError", "unicode/utf8.first", "unicode/utf8.acceptRanges"], loops := true, apart := false, laid := [("unicode/utf8.acceptRanges", laid_unicode_utf8_acceptRanges), ("unicode/utf8.first", laid_unicode_utf8_first)], narrowed := true }
def NamesApartUptoSaid : Prop := namesApartUptoRow.holds Tryz.pinned (OpenSpec.upto namesApartSpec)

/-- 'glyphlaw11.NamesErased', WHERE WHAT IT READS IS OF BULK AT MOST 1048576: true; the input reads as it did. -/
def namesErasedUptoRow : OpenClaim := { program := "ytfpgfjmngkfdoaagreatdoor", sum := "ad01a82fe5e0530bcd562436f73f03635d6e3a2560e0d1b7e2a7570d0d2f5f46", func := "glyph/glyphlaw11.NamesErased", spec := "namesErased", unfollowed := true, recurses := true, named := ["math/bits.overflowError", "unicode/utf8.first", "unicode/utf8.acceptRanges"], loops := true, apart := false, laid := [("unicode/utf8.acceptRanges", laid_unicode_utf8_acceptRanges), ("unicode/utf8.first", laid_unicode_utf8_first)], narrowed := true }
def NamesErasedUptoSaid : Prop := namesErasedUptoRow.holds Tryz.pinned (OpenSpec.upto namesErasedSpec)

/-- 'glyphlaw11.NamesBack', WHERE WHAT IT READS IS OF BULK AT MOST 1048576: true; the input reads as it did. -/
def namesBackUptoRow : OpenClaim := { program := "ytfpgfjmngkfdoaagreatdoor", sum := "ad01a82fe5e0530bcd562436f73f03635d6e3a2560e0d1b7e2a7570d0d2f5f46", func := "glyph/glyphlaw11.NamesBack", spec := "namesBack", inPlace := ["maps.clone"], unfollowed := true, recurses := true, named := ["math/bits.overflowError", "unicode/utf8.first", "unicode/utf8.acceptRanges"], loops := true, apart := false, laid := [("unicode/utf8.acceptRanges", laid_unicode_utf8_acceptRanges), ("unicode/utf8.first", laid_unicode_utf8_first)], narrowed := true }
def NamesBackUptoSaid : Prop := namesBackUptoRow.holds Tryz.pinned (OpenSpec.upto namesBackSpec)

/-- 'glyphlaw11.NamesPlays', WHERE WHAT IT READS IS OF BULK AT MOST 1048576: true; the input reads as it did. -/
def namesPlaysUptoRow : OpenClaim := { program := "ytfpgfjmngkfdoaagreatdoor", sum := "ad01a82fe5e0530bcd562436f73f03635d6e3a2560e0d1b7e2a7570d0d2f5f46", func := "glyph/glyphlaw11.NamesPlays", spec := "namesPlays", inPlace := ["maps.clone"], unfollowed := true, recurses := true, named := ["math/bits.overflowError", "unicode/utf8.first", "unicode/utf8.acceptRanges"], loops := true, apart := false, laid := [("unicode/utf8.acceptRanges", laid_unicode_utf8_acceptRanges), ("unicode/utf8.first", laid_unicode_utf8_first)], narrowed := true }
def NamesPlaysUptoSaid : Prop := namesPlaysUptoRow.holds Tryz.pinned (OpenSpec.upto namesPlaysSpec)

/-- 'glyphlaw12.DefineHeads', WHERE WHAT IT READS IS OF BULK AT MOST 1048576: true; the input reads as it did. -/
def defineHeadsUptoRow : OpenClaim := { program := "ytfpgfjmngkfdoaagreatdoor", sum := "ad01a82fe5e0530bcd562436f73f03635d6e3a2560e0d1b7e2a7570d0d2f5f46", func := "glyph/glyphlaw12.DefineHeads", spec := "defineHeads", inPlace := ["internal/bytealg.IndexByteString", "internal/bytealg.IndexString"], unfollowed := true, recurses := true, named := ["math/bits.overflowError", "unicode/utf8.first", "unicode/utf8.acceptRanges", "internal/bytealg.MaxLen"], apart := false, laid := [("unicode/utf8.acceptRanges", laid_unicode_utf8_acceptRanges), ("unicode/utf8.first", laid_unicode_utf8_first)], narrowed := true }
def DefineHeadsUptoSaid : Prop := defineHeadsUptoRow.holds Tryz.pinned (OpenSpec.upto defineHeadsSpec)

/-- 'glyphtop.TopLocals', WHERE WHAT IT READS IS OF BULK AT MOST 1048576: true; the input reads as it did. -/
def topLocalsUptoRow : OpenClaim := { program := "ytfpgfjmngkfdoaagreatdoor", sum := "ad01a82fe5e0530bcd562436f73f03635d6e3a2560e0d1b7e2a7570d0d2f5f46", func := "glyph/glyphtop.TopLocals", spec := "topLocals", inPlace := ["internal/bytealg.IndexByteString", "internal/bytealg.IndexString"], unfollowed := true, recurses := true, named := ["math/bits.overflowError", "unicode/utf8.first", "unicode/utf8.acceptRanges", "internal/bytealg.MaxLen"], loops := true, apart := false, laid := [("unicode/utf8.acceptRanges", laid_unicode_utf8_acceptRanges), ("unicode/utf8.first", laid_unicode_utf8_first)], narrowed := true }
def TopLocalsUptoSaid : Prop := topLocalsUptoRow.holds Tryz.pinned (OpenSpec.upto topLocalsSpec)

/-- 'glyphlaw12.DefineLabels', WHERE WHAT IT READS IS OF BULK AT MOST 1048576: true; the input reads as it did. -/
def defineLabelsUptoRow : OpenClaim := { program := "ytfpgfjmngkfdoaagreatdoor", sum := "ad01a82fe5e0530bcd562436f73f03635d6e3a2560e0d1b7e2a7570d0d2f5f46", func := "glyph/glyphlaw12.DefineLabels", spec := "defineLabels", inPlace := ["internal/bytealg.IndexByteString", "internal/bytealg.IndexString"], unfollowed := true, recurses := true, named := ["math/bits.overflowError", "unicode/utf8.first", "unicode/utf8.acceptRanges", "internal/bytealg.MaxLen"], apart := false, laid := [("unicode/utf8.acceptRanges", laid_unicode_utf8_acceptRanges), ("unicode/utf8.first", laid_unicode_utf8_first)], narrowed := true }
def DefineLabelsUptoSaid : Prop := defineLabelsUptoRow.holds Tryz.pinned (OpenSpec.upto defineLabelsSpec)

/-- 'glyphlaw12.DefineTexts', WHERE WHAT IT READS IS OF BULK AT MOST 1048576: true; the input reads as it did. -/
def defineTextsUptoRow : OpenClaim := { program := "ytfpgfjmngkfdoaagreatdoor", sum := "ad01a82fe5e0530bcd562436f73f03635d6e3a2560e0d1b7e2a7570d0d2f5f46", func := "glyph/glyphlaw12.DefineTexts", spec := "defineTexts", inPlace := ["internal/bytealg.IndexByteString", "internal/bytealg.IndexString"], unfollowed := true, recurses := true, named := ["math/bits.overflowError", "unicode/utf8.first", "unicode/utf8.acceptRanges", "internal/bytealg.MaxLen"], apart := false, laid := [("unicode/utf8.acceptRanges", laid_unicode_utf8_acceptRanges), ("unicode/utf8.first", laid_unicode_utf8_first)], narrowed := true }
def DefineTextsUptoSaid : Prop := defineTextsUptoRow.holds Tryz.pinned (OpenSpec.upto defineTextsSpec)

/-- 'glyphlaw10.ParseSystem', WHERE WHAT IT READS IS OF BULK AT MOST 1048576: true; the input reads as it did. -/
def parseSystemUptoRow : OpenClaim := { program := "ytfpgfjmngkfdoaagreatdoor", sum := "ad01a82fe5e0530bcd562436f73f03635d6e3a2560e0d1b7e2a7570d0d2f5f46", func := "glyph/glyphlaw10.ParseSystem", spec := "parseSystem", inPlace := ["internal/bytealg.CountString", "internal/bytealg.IndexByteString", "internal/bytealg.IndexString", "internal/abi.NoEscape", "internal/bytealg.MakeNoZero"], unfollowed := true, recurses := true, named := ["math/bits.overflowError", "unicode/utf8.first", "unicode/utf8.acceptRanges", "internal/bytealg.MaxLen"], apart := false, laid := [("unicode/utf8.acceptRanges", laid_unicode_utf8_acceptRanges), ("unicode/utf8.first", laid_unicode_utf8_first)], narrowed := true }
def ParseSystemUptoSaid : Prop := parseSystemUptoRow.holds Tryz.pinned (OpenSpec.upto parseSystemSpec)

end Rows
end Go.Proofs.YtfpgfjmngkfdoaaGreatDoor
