/-
  DERIVED. GIVEN WITH THE SEED: THE CARDS: each row of YtdedcablhahbnaaDoorRows.lean that lists a variable, with what it lists TIED to the program's text (the seventh form; the later family's looks); each row that meets fmt, with fmt's text TOLD by the authors' own Lean function (tested against real Go, not proved from fmt's source: count such statements apart). THE CARD IS WHAT COUNTS. Prove the row's statement (the work); the ties are given (YtdedcablhahbnaaDoorTie.lean); close each card by the builder's one call (the guide's Derived/Test/ToyasCard.lean, 'card_holds'). Laid BY PROGRAM, IN A SANDBOX (cutbox-door.mjs). By AI agents, Wed Nov 11 2026. No macro, syntax, notation, axiom, sorry.
-/
import Derived.Test.YtdedcablhahbnaaDoorRows
import GoSem.ClaimSeven
namespace Go.Proofs.YtdedcablhahbnaaDoor
namespace Rows

/-- THE TIED CARD OF 'laws.FnCellText'. -/
def fnCellTextCard : Claim7 := { stood := { row := fnCellTextRow, standIns := [], harness := (true, "d935880446cf56cbdc689d3bf5da2c7071a89f190bdf39432523a24dad87c2d6"), looks := false }, kinds := [], alts := [], laidByText := true, laidKinds := [.data, .data, .data, .data, .pinned], laidTests := true, laidLooks := .later }
def FnCellTextCardSaid : Prop := Claim7.holds Tryd.pinned (.plain (OpenSpec.ofChange fnCellTextSpec)) fnCellTextCard

/-- THE SECOND FORM's CARD OF 'laws.FnCellText'. -/
def fnCellTextUptoCard : Claim7 := { stood := { row := fnCellTextUptoRow, standIns := [], harness := (true, "d935880446cf56cbdc689d3bf5da2c7071a89f190bdf39432523a24dad87c2d6"), looks := false }, kinds := [], alts := [], laidByText := true, laidKinds := [.data, .data, .data, .data, .pinned], laidTests := true, laidLooks := .later }
def FnCellTextUptoCardSaid : Prop := Claim7.holds Tryd.pinned (.plain (OpenSpec.upto fnCellTextSpec)) fnCellTextUptoCard
end Rows
end Go.Proofs.YtdedcablhahbnaaDoor
