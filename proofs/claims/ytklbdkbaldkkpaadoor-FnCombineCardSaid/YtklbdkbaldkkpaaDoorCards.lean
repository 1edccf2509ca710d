/-
  DERIVED. GIVEN WITH THE SEED: THE CARDS: each row of YtklbdkbaldkkpaaDoorRows.lean that lists a variable, with what it lists TIED to the program's text (the seventh form; the later family's looks); each row that meets fmt, with fmt's text TOLD by the authors' own Lean function (tested against real Go, not proved from fmt's source: count such statements apart). THE CARD IS WHAT COUNTS. Prove the row's statement (the work); the ties are given (YtklbdkbaldkkpaaDoorTie.lean); close each card by the builder's one call (the guide's Derived/Test/ToyasCard.lean, 'card_holds'). Laid BY PROGRAM, IN A SANDBOX (cutbox-door.mjs). By AI agents, Wed Nov 11 2026. No macro, syntax, notation, axiom, sorry.
-/
import Derived.Test.YtklbdkbaldkkpaaDoorRows
import GoSem.ClaimSeven
namespace Go.Proofs.YtklbdkbaldkkpaaDoor
namespace Rows

/-- THE TIED CARD OF 'laws.FnCombine'. -/
def fnCombineCard : Claim7 := { stood := { row := fnCombineRow, standIns := [], harness := (true, "5ec44ec4404d17d2edc3c31f9f21e73047a7fc5ba9912bb62e2aed529af57d8f"), looks := false }, kinds := [], alts := [], laidByText := true, laidKinds := [.data, .pinned], laidTests := true, laidLooks := .later }
def FnCombineCardSaid : Prop := Claim7.holds Tryd.pinned (.plain (OpenSpec.ofChange fnCombineSpec)) fnCombineCard

/-- THE TIED CARD OF 'laws.FnLost'. -/
def fnLostCard : Claim7 := { stood := { row := fnLostRow, standIns := [], harness := (true, "5ec44ec4404d17d2edc3c31f9f21e73047a7fc5ba9912bb62e2aed529af57d8f"), looks := false }, kinds := [], alts := [], laidByText := true, laidKinds := [.data, .pinned], laidTests := true, laidLooks := .later }
def FnLostCardSaid : Prop := Claim7.holds Tryd.pinned (.plain (OpenSpec.ofChange fnLostSpec)) fnLostCard

/-- THE TIED CARD OF 'laws.FnSendHops'. -/
def fnSendHopsCard : Claim7 := { stood := { row := fnSendHopsRow, standIns := [], harness := (true, "5ec44ec4404d17d2edc3c31f9f21e73047a7fc5ba9912bb62e2aed529af57d8f"), looks := false }, kinds := [], alts := [], laidByText := true, laidKinds := [.data, .pinned], laidTests := true, laidLooks := .later }
def FnSendHopsCardSaid : Prop := Claim7.holds Tryd.pinned (.plain (OpenSpec.ofChange fnSendHopsSpec)) fnSendHopsCard

/-- THE SECOND FORM's CARD OF 'laws.FnCombine'. -/
def fnCombineUptoCard : Claim7 := { stood := { row := fnCombineUptoRow, standIns := [], harness := (true, "5ec44ec4404d17d2edc3c31f9f21e73047a7fc5ba9912bb62e2aed529af57d8f"), looks := false }, kinds := [], alts := [], laidByText := true, laidKinds := [.data, .pinned], laidTests := true, laidLooks := .later }
def FnCombineUptoCardSaid : Prop := Claim7.holds Tryd.pinned (.plain (OpenSpec.upto fnCombineSpec)) fnCombineUptoCard

/-- THE SECOND FORM's CARD OF 'laws.FnLost'. -/
def fnLostUptoCard : Claim7 := { stood := { row := fnLostUptoRow, standIns := [], harness := (true, "5ec44ec4404d17d2edc3c31f9f21e73047a7fc5ba9912bb62e2aed529af57d8f"), looks := false }, kinds := [], alts := [], laidByText := true, laidKinds := [.data, .pinned], laidTests := true, laidLooks := .later }
def FnLostUptoCardSaid : Prop := Claim7.holds Tryd.pinned (.plain (OpenSpec.upto fnLostSpec)) fnLostUptoCard

/-- THE SECOND FORM's CARD OF 'laws.FnSendHops'. -/
def fnSendHopsUptoCard : Claim7 := { stood := { row := fnSendHopsUptoRow, standIns := [], harness := (true, "5ec44ec4404d17d2edc3c31f9f21e73047a7fc5ba9912bb62e2aed529af57d8f"), looks := false }, kinds := [], alts := [], laidByText := true, laidKinds := [.data, .pinned], laidTests := true, laidLooks := .later }
def FnSendHopsUptoCardSaid : Prop := Claim7.holds Tryd.pinned (.plain (OpenSpec.upto fnSendHopsSpec)) fnSendHopsUptoCard
end Rows
end Go.Proofs.YtklbdkbaldkkpaaDoor
