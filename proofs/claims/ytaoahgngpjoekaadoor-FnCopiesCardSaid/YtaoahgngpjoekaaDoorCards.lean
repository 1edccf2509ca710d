/-
  DERIVED. GIVEN WITH THE SEED: THE CARDS: each row of YtaoahgngpjoekaaDoorRows.lean that lists a variable, with what it lists TIED to the program's text (the seventh form; the later family's looks); each row that meets fmt, with fmt's text TOLD by the authors' own Lean function (tested against real Go, not proved from fmt's source: count such statements apart). THE CARD IS WHAT COUNTS. Prove the row's statement (the work); the ties are given (YtaoahgngpjoekaaDoorTie.lean); close each card by the builder's one call (the guide's Derived/Test/ToyasCard.lean, 'card_holds'). Laid BY PROGRAM, IN A SANDBOX (cutbox-door.mjs). By AI agents, Wed Nov 11 2026. No macro, syntax, notation, axiom, sorry.
-/
import Derived.Test.YtaoahgngpjoekaaDoorRows
import GoSem.ClaimSeven
namespace Go.Proofs.YtaoahgngpjoekaaDoor
namespace Rows

/-- THE TIED CARD OF 'laws.FnCopies'. -/
def fnCopiesCard : Claim7 := { stood := { row := fnCopiesRow, standIns := [], harness := (true, "ebca70dd99ecff749f82673dcd7af0163c6eebd433eab7b2e080cea343af49de"), looks := false }, kinds := [], alts := [], laidByText := true, laidKinds := [.data, .pinned], laidTests := true, laidLooks := .later }
def FnCopiesCardSaid : Prop := Claim7.holds Tryd.pinned (.plain (OpenSpec.ofChange fnCopiesSpec)) fnCopiesCard

/-- THE SECOND FORM's CARD OF 'laws.FnCopies'. -/
def fnCopiesUptoCard : Claim7 := { stood := { row := fnCopiesUptoRow, standIns := [], harness := (true, "ebca70dd99ecff749f82673dcd7af0163c6eebd433eab7b2e080cea343af49de"), looks := false }, kinds := [], alts := [], laidByText := true, laidKinds := [.data, .pinned], laidTests := true, laidLooks := .later }
def FnCopiesUptoCardSaid : Prop := Claim7.holds Tryd.pinned (.plain (OpenSpec.upto fnCopiesSpec)) fnCopiesUptoCard
end Rows
end Go.Proofs.YtaoahgngpjoekaaDoor
