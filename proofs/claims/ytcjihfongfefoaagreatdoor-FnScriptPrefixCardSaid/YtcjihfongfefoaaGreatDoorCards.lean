/-
  DERIVED. GIVEN WITH THE SEED: THE CARDS: each row of YtcjihfongfefoaaGreatDoorRows.lean that lists a variable, with what it lists TIED to the program's text (the seventh form; the later family's looks); each row that meets fmt, with fmt's text TOLD by the authors' own Lean function (tested against real Go, not proved from fmt's source: count such statements apart). THE CARD IS WHAT COUNTS. Prove the row's statement (the work); the ties are given (YtcjihfongfefoaaGreatDoorTie.lean); close each card by the builder's one call (the guide's Derived/Test/ToyasCard.lean, 'card_holds'). Laid BY PROGRAM, IN A SANDBOX (cutbox-door.mjs). By AI agents, Wed Nov 11 2026. No macro, syntax, notation, axiom, sorry.
-/
import Derived.Test.YtcjihfongfefoaaGreatDoorRows
import GoSem.ClaimSeven
namespace Go.Proofs.YtcjihfongfefoaaGreatDoor
namespace Rows

/-- THE TIED CARD OF 'laws.FnScriptCell'. -/
def fnScriptCellCard : Claim7 := { stood := { row := fnScriptCellRow, standIns := [], harness := (true, "5111a62a6ce459847250542d3812908d26069b192767d26f2024162e5316690b"), looks := false }, kinds := [], alts := [], laidByText := true, laidKinds := [.data, .data, .data, .data, .data, .pinned], laidTests := true, laidLooks := .later }
def FnScriptCellCardSaid : Prop := Claim7.holds Tryz.pinned (.plain (OpenSpec.ofChange fnScriptCellSpec)) fnScriptCellCard

/-- THE TIED CARD OF 'laws.FnExactRunScript'. -/
def fnExactRunScriptCard : Claim7 := { stood := { row := fnExactRunScriptRow, standIns := [], harness := (true, "5111a62a6ce459847250542d3812908d26069b192767d26f2024162e5316690b"), looks := false }, kinds := [], alts := [], laidByText := true, laidKinds := [.data, .data, .data, .data, .data, .pinned], laidTests := true, laidLooks := .later }
def FnExactRunScriptCardSaid : Prop := Claim7.holds Tryz.pinned (.plain (OpenSpec.ofChange fnExactRunScriptSpec)) fnExactRunScriptCard

/-- THE TIED CARD OF 'laws.FnScriptPrefix'. -/
def fnScriptPrefixCard : Claim7 := { stood := { row := fnScriptPrefixRow, standIns := [], harness := (true, "5111a62a6ce459847250542d3812908d26069b192767d26f2024162e5316690b"), looks := false }, kinds := [], alts := [], laidByText := true, laidKinds := [.data, .data, .data, .data, .data, .pinned], laidTests := true, laidLooks := .later }
def FnScriptPrefixCardSaid : Prop := Claim7.holds Tryz.pinned (.plain (OpenSpec.ofChange fnScriptPrefixSpec)) fnScriptPrefixCard

/-- THE TIED CARD OF 'laws.FnScriptRegister'. -/
def fnScriptRegisterCard : Claim7 := { stood := { row := fnScriptRegisterRow, standIns := [], harness := (true, "5111a62a6ce459847250542d3812908d26069b192767d26f2024162e5316690b"), looks := false }, kinds := [], alts := [], laidByText := true, laidKinds := [.data, .data, .data, .data, .data, .pinned], laidTests := true, laidLooks := .later }
def FnScriptRegisterCardSaid : Prop := Claim7.holds Tryz.pinned (.plain (OpenSpec.ofChange fnScriptRegisterSpec)) fnScriptRegisterCard

/-- THE TIED CARD OF 'laws.FnScriptFrame'. -/
def fnScriptFrameCard : Claim7 := { stood := { row := fnScriptFrameRow, standIns := [], harness := (true, "5111a62a6ce459847250542d3812908d26069b192767d26f2024162e5316690b"), looks := false }, kinds := [], alts := [], laidByText := true, laidKinds := [.data, .data, .data, .data, .data, .pinned], laidTests := true, laidLooks := .later }
def FnScriptFrameCardSaid : Prop := Claim7.holds Tryz.pinned (.plain (OpenSpec.ofChange fnScriptFrameSpec)) fnScriptFrameCard

/-- THE TIED CARD OF 'laws.FnScriptSpread'. -/
def fnScriptSpreadCard : Claim7 := { stood := { row := fnScriptSpreadRow, standIns := [], harness := (true, "5111a62a6ce459847250542d3812908d26069b192767d26f2024162e5316690b"), looks := false }, kinds := [], alts := [], laidByText := true, laidKinds := [.data, .data, .data, .data, .data, .pinned], laidTests := true, laidLooks := .later }
def FnScriptSpreadCardSaid : Prop := Claim7.holds Tryz.pinned (.plain (OpenSpec.ofChange fnScriptSpreadSpec)) fnScriptSpreadCard

/-- THE SECOND FORM's CARD OF 'laws.FnScriptCell'. -/
def fnScriptCellUptoCard : Claim7 := { stood := { row := fnScriptCellUptoRow, standIns := [], harness := (true, "5111a62a6ce459847250542d3812908d26069b192767d26f2024162e5316690b"), looks := false }, kinds := [], alts := [], laidByText := true, laidKinds := [.data, .data, .data, .data, .data, .pinned], laidTests := true, laidLooks := .later }
def FnScriptCellUptoCardSaid : Prop := Claim7.holds Tryz.pinned (.plain (OpenSpec.upto fnScriptCellSpec)) fnScriptCellUptoCard

/-- THE SECOND FORM's CARD OF 'laws.FnExactRunScript'. -/
def fnExactRunScriptUptoCard : Claim7 := { stood := { row := fnExactRunScriptUptoRow, standIns := [], harness := (true, "5111a62a6ce459847250542d3812908d26069b192767d26f2024162e5316690b"), looks := false }, kinds := [], alts := [], laidByText := true, laidKinds := [.data, .data, .data, .data, .data, .pinned], laidTests := true, laidLooks := .later }
def FnExactRunScriptUptoCardSaid : Prop := Claim7.holds Tryz.pinned (.plain (OpenSpec.upto fnExactRunScriptSpec)) fnExactRunScriptUptoCard

/-- THE SECOND FORM's CARD OF 'laws.FnScriptPrefix'. -/
def fnScriptPrefixUptoCard : Claim7 := { stood := { row := fnScriptPrefixUptoRow, standIns := [], harness := (true, "5111a62a6ce459847250542d3812908d26069b192767d26f2024162e5316690b"), looks := false }, kinds := [], alts := [], laidByText := true, laidKinds := [.data, .data, .data, .data, .data, .pinned], laidTests := true, laidLooks := .later }
def FnScriptPrefixUptoCardSaid : Prop := Claim7.holds Tryz.pinned (.plain (OpenSpec.upto fnScriptPrefixSpec)) fnScriptPrefixUptoCard

/-- THE SECOND FORM's CARD OF 'laws.FnScriptRegister'. -/
def fnScriptRegisterUptoCard : Claim7 := { stood := { row := fnScriptRegisterUptoRow, standIns := [], harness := (true, "5111a62a6ce459847250542d3812908d26069b192767d26f2024162e5316690b"), looks := false }, kinds := [], alts := [], laidByText := true, laidKinds := [.data, .data, .data, .data, .data, .pinned], laidTests := true, laidLooks := .later }
def FnScriptRegisterUptoCardSaid : Prop := Claim7.holds Tryz.pinned (.plain (OpenSpec.upto fnScriptRegisterSpec)) fnScriptRegisterUptoCard

/-- THE SECOND FORM's CARD OF 'laws.FnScriptFrame'. -/
def fnScriptFrameUptoCard : Claim7 := { stood := { row := fnScriptFrameUptoRow, standIns := [], harness := (true, "5111a62a6ce459847250542d3812908d26069b192767d26f2024162e5316690b"), looks := false }, kinds := [], alts := [], laidByText := true, laidKinds := [.data, .data, .data, .data, .data, .pinned], laidTests := true, laidLooks := .later }
def FnScriptFrameUptoCardSaid : Prop := Claim7.holds Tryz.pinned (.plain (OpenSpec.upto fnScriptFrameSpec)) fnScriptFrameUptoCard

/-- THE SECOND FORM's CARD OF 'laws.FnScriptSpread'. -/
def fnScriptSpreadUptoCard : Claim7 := { stood := { row := fnScriptSpreadUptoRow, standIns := [], harness := (true, "5111a62a6ce459847250542d3812908d26069b192767d26f2024162e5316690b"), looks := false }, kinds := [], alts := [], laidByText := true, laidKinds := [.data, .data, .data, .data, .data, .pinned], laidTests := true, laidLooks := .later }
def FnScriptSpreadUptoCardSaid : Prop := Claim7.holds Tryz.pinned (.plain (OpenSpec.upto fnScriptSpreadSpec)) fnScriptSpreadUptoCard
end Rows
end Go.Proofs.YtcjihfongfefoaaGreatDoor
