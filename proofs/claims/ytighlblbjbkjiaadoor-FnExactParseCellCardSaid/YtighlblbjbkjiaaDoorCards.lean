/-
  DERIVED. GIVEN WITH THE SEED: THE CARDS: each row of YtighlblbjbkjiaaDoorRows.lean that lists a variable, with what it lists TIED to the program's text (the seventh form; the later family's looks); each row that meets fmt, with fmt's text TOLD by the authors' own Lean function (tested against real Go, not proved from fmt's source: count such statements apart). THE CARD IS WHAT COUNTS. Prove the row's statement (the work); the ties are given (YtighlblbjbkjiaaDoorTie.lean); close each card by the builder's one call (the guide's Derived/Test/ToyasCard.lean, 'card_holds'). Laid BY PROGRAM, IN A SANDBOX (cutbox-door.mjs). By AI agents, Wed Nov 11 2026. No macro, syntax, notation, axiom, sorry.
-/
import Derived.Test.YtighlblbjbkjiaaDoorRows
import GoSem.ClaimSeven
namespace Go.Proofs.YtighlblbjbkjiaaDoor
namespace Rows

/-- THE TIED CARD OF 'laws.FnExactFormatCell'. -/
def fnExactFormatCellCard : Claim7 := { stood := { row := fnExactFormatCellRow, standIns := [], harness := (true, "1dc42ca199bc7d3f9aef1c99d4026fd3d7b29d264c37f4c050091fa56b6a34f2"), looks := false }, kinds := [], alts := [], laidByText := true, laidKinds := [.data, .data, .data], laidTests := true, laidLooks := .later }
def FnExactFormatCellCardSaid : Prop := Claim7.holds Tryd.pinned (.plain (OpenSpec.ofChange fnExactFormatCellSpec)) fnExactFormatCellCard

/-- THE TIED CARD OF 'laws.FnExactParseCell'. -/
def fnExactParseCellCard : Claim7 := { stood := { row := fnExactParseCellRow, standIns := [], harness := (true, "1dc42ca199bc7d3f9aef1c99d4026fd3d7b29d264c37f4c050091fa56b6a34f2"), looks := false }, kinds := [], alts := [], laidByText := true, laidKinds := [.data, .pinned], laidTests := true, laidLooks := .later }
def FnExactParseCellCardSaid : Prop := Claim7.holds Tryd.pinned (.plain (OpenSpec.ofChange fnExactParseCellSpec)) fnExactParseCellCard

/-- THE TIED CARD OF 'laws.FnCellText'. -/
def fnCellTextCard : Claim7 := { stood := { row := fnCellTextRow, standIns := [], harness := (true, "1dc42ca199bc7d3f9aef1c99d4026fd3d7b29d264c37f4c050091fa56b6a34f2"), looks := false }, kinds := [], alts := [], laidByText := true, laidKinds := [.data, .data, .data, .data, .pinned], laidTests := true, laidLooks := .later }
def FnCellTextCardSaid : Prop := Claim7.holds Tryd.pinned (.plain (OpenSpec.ofChange fnCellTextSpec)) fnCellTextCard

/-- THE SECOND FORM's CARD OF 'laws.FnExactFormatCell'. -/
def fnExactFormatCellUptoCard : Claim7 := { stood := { row := fnExactFormatCellUptoRow, standIns := [], harness := (true, "1dc42ca199bc7d3f9aef1c99d4026fd3d7b29d264c37f4c050091fa56b6a34f2"), looks := false }, kinds := [], alts := [], laidByText := true, laidKinds := [.data, .data, .data], laidTests := true, laidLooks := .later }
def FnExactFormatCellUptoCardSaid : Prop := Claim7.holds Tryd.pinned (.plain (OpenSpec.upto fnExactFormatCellSpec)) fnExactFormatCellUptoCard

/-- THE SECOND FORM's CARD OF 'laws.FnExactParseCell'. -/
def fnExactParseCellUptoCard : Claim7 := { stood := { row := fnExactParseCellUptoRow, standIns := [], harness := (true, "1dc42ca199bc7d3f9aef1c99d4026fd3d7b29d264c37f4c050091fa56b6a34f2"), looks := false }, kinds := [], alts := [], laidByText := true, laidKinds := [.data, .pinned], laidTests := true, laidLooks := .later }
def FnExactParseCellUptoCardSaid : Prop := Claim7.holds Tryd.pinned (.plain (OpenSpec.upto fnExactParseCellSpec)) fnExactParseCellUptoCard

/-- THE SECOND FORM's CARD OF 'laws.FnCellText'. -/
def fnCellTextUptoCard : Claim7 := { stood := { row := fnCellTextUptoRow, standIns := [], harness := (true, "1dc42ca199bc7d3f9aef1c99d4026fd3d7b29d264c37f4c050091fa56b6a34f2"), looks := false }, kinds := [], alts := [], laidByText := true, laidKinds := [.data, .data, .data, .data, .pinned], laidTests := true, laidLooks := .later }
def FnCellTextUptoCardSaid : Prop := Claim7.holds Tryd.pinned (.plain (OpenSpec.upto fnCellTextSpec)) fnCellTextUptoCard
end Rows
end Go.Proofs.YtighlblbjbkjiaaDoor
