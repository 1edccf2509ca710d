/-
  DERIVED. GIVEN WITH THE SEED: THE CARDS: each row of YtgoimpphimclcaaDoorRows.lean that lists a variable, with what it lists TIED to the program's text (the seventh form; the later family's looks); each row that meets fmt, with fmt's text TOLD by the authors' own Lean function (tested against real Go, not proved from fmt's source: count such statements apart). THE CARD IS WHAT COUNTS. Prove the row's statement (the work); the ties are given (YtgoimpphimclcaaDoorTie.lean); close each card by the builder's one call (the guide's Derived/Test/ToyasCard.lean, 'card_holds'). Laid BY PROGRAM, IN A SANDBOX (cutbox-door.mjs). By AI agents, Wed Nov 11 2026. No macro, syntax, notation, axiom, sorry.
-/
import Derived.Test.YtgoimpphimclcaaDoorRows
import GoSem.ClaimSeven
namespace Go.Proofs.YtgoimpphimclcaaDoor
namespace Rows

/-- THE TIED CARD OF 'laws.FnExactLostBits'. -/
def fnExactLostBitsCard : Claim7 := { stood := { row := fnExactLostBitsRow, standIns := [], harness := (true, "a0f043568dfd1c0ed91f1be1126a178ae9c1aefab42058263372e6b54435501c"), looks := false }, kinds := [], alts := [], laidByText := true, laidKinds := [.data, .pinned], laidTests := true, laidLooks := .later }
def FnExactLostBitsCardSaid : Prop := Claim7.holds Tryd.pinned (.plain (OpenSpec.ofChange fnExactLostBitsSpec)) fnExactLostBitsCard

/-- THE TIED CARD OF 'laws.FnExactCombineCopies'. -/
def fnExactCombineCopiesCard : Claim7 := { stood := { row := fnExactCombineCopiesRow, standIns := [], harness := (true, "a0f043568dfd1c0ed91f1be1126a178ae9c1aefab42058263372e6b54435501c"), looks := false }, kinds := [], alts := [], laidByText := true, laidKinds := [.data, .pinned], laidTests := true, laidLooks := .later }
def FnExactCombineCopiesCardSaid : Prop := Claim7.holds Tryd.pinned (.plain (OpenSpec.ofChange fnExactCombineCopiesSpec)) fnExactCombineCopiesCard

/-- THE TIED CARD OF 'laws.FnExactCopiesNeeded'. -/
def fnExactCopiesNeededCard : Claim7 := { stood := { row := fnExactCopiesNeededRow, standIns := [], harness := (true, "a0f043568dfd1c0ed91f1be1126a178ae9c1aefab42058263372e6b54435501c"), looks := false }, kinds := [], alts := [], laidByText := true, laidKinds := [.data, .pinned], laidTests := true, laidLooks := .later }
def FnExactCopiesNeededCardSaid : Prop := Claim7.holds Tryd.pinned (.plain (OpenSpec.ofChange fnExactCopiesNeededSpec)) fnExactCopiesNeededCard

/-- THE SECOND FORM's CARD OF 'laws.FnExactLostBits'. -/
def fnExactLostBitsUptoCard : Claim7 := { stood := { row := fnExactLostBitsUptoRow, standIns := [], harness := (true, "a0f043568dfd1c0ed91f1be1126a178ae9c1aefab42058263372e6b54435501c"), looks := false }, kinds := [], alts := [], laidByText := true, laidKinds := [.data, .pinned], laidTests := true, laidLooks := .later }
def FnExactLostBitsUptoCardSaid : Prop := Claim7.holds Tryd.pinned (.plain (OpenSpec.upto fnExactLostBitsSpec)) fnExactLostBitsUptoCard

/-- THE SECOND FORM's CARD OF 'laws.FnExactCombineCopies'. -/
def fnExactCombineCopiesUptoCard : Claim7 := { stood := { row := fnExactCombineCopiesUptoRow, standIns := [], harness := (true, "a0f043568dfd1c0ed91f1be1126a178ae9c1aefab42058263372e6b54435501c"), looks := false }, kinds := [], alts := [], laidByText := true, laidKinds := [.data, .pinned], laidTests := true, laidLooks := .later }
def FnExactCombineCopiesUptoCardSaid : Prop := Claim7.holds Tryd.pinned (.plain (OpenSpec.upto fnExactCombineCopiesSpec)) fnExactCombineCopiesUptoCard

/-- THE SECOND FORM's CARD OF 'laws.FnExactCopiesNeeded'. -/
def fnExactCopiesNeededUptoCard : Claim7 := { stood := { row := fnExactCopiesNeededUptoRow, standIns := [], harness := (true, "a0f043568dfd1c0ed91f1be1126a178ae9c1aefab42058263372e6b54435501c"), looks := false }, kinds := [], alts := [], laidByText := true, laidKinds := [.data, .pinned], laidTests := true, laidLooks := .later }
def FnExactCopiesNeededUptoCardSaid : Prop := Claim7.holds Tryd.pinned (.plain (OpenSpec.upto fnExactCopiesNeededSpec)) fnExactCopiesNeededUptoCard
end Rows
end Go.Proofs.YtgoimpphimclcaaDoor
