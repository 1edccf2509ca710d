/-
  No cell of these rows narrows 'for every input' (looked for: loops, veiled, ifaces, maps, wideKeys, modest, calm, conditions, laid).
  DERIVED. THE GIVEN ROWS OF THIS SEAT. 9 by the template 'for every input the law returns true; each argument reads behind the call as it read before'; 0 by the template 'total and deterministic' (their statements: YtnklnafcbjnmfaaTotals.lean).
  GIVEN WITH THE SEED: the statements are not yours to turn. If you find one false, say at which input.
  Laid BY PROGRAM, IN A SANDBOX (cutbox-rows.mjs): the forced cells as the released guide's own fill.sh prints them over the translation 8af1b5ebe8dbc411… (all of the seat's roots in one cut). By AI agents, Wed Nov 11 2026. No macro, syntax, notation, axiom, sorry.
-/
import Derived.Test.YtnklnafcbjnmfaaChecked
import GoSem.Claim
import GoSem.ClaimJoined
import GoSem.ClaimMapViews
import Derived.JoinedTies
import Derived.KernelRfl
namespace Go.Proofs.Ytnklnafcbjnmfaa
/- THE CELL 'sum', in the pinned program and in every row, IS THE sha256 OF THE DUMP (.gsa) THAT YtnklnafcbjnmfaaProg.lean LOADS. Nothing in Lean hashes anything: it is a label: what it is worth is what the hold of that sum in a sandbox is worth. -/
noncomputable def Try.pinned : Pinned := { name := "ytnklnafcbjnmfaa", sum := "8af1b5ebe8dbc4119133c4c539e940a7e5d16087d3a7208a7d88b346e2e98731", checked := Try.checked }
namespace Rows
def none {H : Type} : Left H := { results := [], args := [] }

/-- 'laws.FnExactSendHops': WHATEVER THE INPUT: true; the input reads as it did. -/
def fnExactSendHopsSpec : ChangeSpec := { name := "fnExactSendHops", fn := fun _ => fun
  | [d1, d2, d3] => { results := [.lit (.bool true)], args := [d1, d2, d3] }
  | _ => none }
def fnExactSendHopsRow : OpenClaim := { program := "ytnklnafcbjnmfaa", sum := "8af1b5ebe8dbc4119133c4c539e940a7e5d16087d3a7208a7d88b346e2e98731", func := "loop.example/spreadspectrum/laws.FnExactSendHops", spec := "fnExactSendHops", apart := false }
def FnExactSendHopsSaid : Prop := fnExactSendHopsRow.holds Try.pinned (OpenSpec.ofChange fnExactSendHopsSpec)

/-- ITS FALSE NEIGHBOUR: 'it returns false'. Refute it at one input. -/
def fnExactSendHopsWrong : ChangeSpec := { name := "fnExactSendHops", fn := fun _ => fun
  | [d1, d2, d3] => { results := [.lit (.bool false)], args := [d1, d2, d3] }
  | _ => none }
def FnExactSendHopsWrongFalsely : Prop := fnExactSendHopsRow.holds Try.pinned (OpenSpec.ofChange fnExactSendHopsWrong)

/-- 'laws.FnExactWorstCollisions': WHATEVER THE INPUT: true; the input reads as it did. -/
def fnExactWorstCollisionsSpec : ChangeSpec := { name := "fnExactWorstCollisions", fn := fun _ => fun
  | [d] => { results := [.lit (.bool true)], args := [d] }
  | _ => none }
def fnExactWorstCollisionsRow : OpenClaim := { program := "ytnklnafcbjnmfaa", sum := "8af1b5ebe8dbc4119133c4c539e940a7e5d16087d3a7208a7d88b346e2e98731", func := "loop.example/spreadspectrum/laws.FnExactWorstCollisions", spec := "fnExactWorstCollisions", apart := false }
def FnExactWorstCollisionsSaid : Prop := fnExactWorstCollisionsRow.holds Try.pinned (OpenSpec.ofChange fnExactWorstCollisionsSpec)

/-- ITS FALSE NEIGHBOUR: 'it returns false'. Refute it at one input. -/
def fnExactWorstCollisionsWrong : ChangeSpec := { name := "fnExactWorstCollisions", fn := fun _ => fun
  | [d] => { results := [.lit (.bool false)], args := [d] }
  | _ => none }
def FnExactWorstCollisionsWrongFalsely : Prop := fnExactWorstCollisionsRow.holds Try.pinned (OpenSpec.ofChange fnExactWorstCollisionsWrong)

/-- 'laws.FnLinearMeet': WHATEVER THE INPUT: true; the input reads as it did. -/
def fnLinearMeetSpec : ChangeSpec := { name := "fnLinearMeet", fn := fun _ => fun
  | [d1, d2] => { results := [.lit (.bool true)], args := [d1, d2] }
  | _ => none }
def fnLinearMeetRow : OpenClaim := { program := "ytnklnafcbjnmfaa", sum := "8af1b5ebe8dbc4119133c4c539e940a7e5d16087d3a7208a7d88b346e2e98731", func := "loop.example/spreadspectrum/laws.FnLinearMeet", spec := "fnLinearMeet", apart := false }
def FnLinearMeetSaid : Prop := fnLinearMeetRow.holds Try.pinned (OpenSpec.ofChange fnLinearMeetSpec)

/-- ITS FALSE NEIGHBOUR: 'it returns false'. Refute it at one input. -/
def fnLinearMeetWrong : ChangeSpec := { name := "fnLinearMeet", fn := fun _ => fun
  | [d1, d2] => { results := [.lit (.bool false)], args := [d1, d2] }
  | _ => none }
def FnLinearMeetWrongFalsely : Prop := fnLinearMeetRow.holds Try.pinned (OpenSpec.ofChange fnLinearMeetWrong)

/-- 'laws.FnJammed': WHATEVER THE INPUT: true; the input reads as it did. -/
def fnJammedSpec : ChangeSpec := { name := "fnJammed", fn := fun _ => fun
  | [d] => { results := [.lit (.bool true)], args := [d] }
  | _ => none }
def fnJammedRow : OpenClaim := { program := "ytnklnafcbjnmfaa", sum := "8af1b5ebe8dbc4119133c4c539e940a7e5d16087d3a7208a7d88b346e2e98731", func := "loop.example/spreadspectrum/laws.FnJammed", spec := "fnJammed", apart := false }
def FnJammedSaid : Prop := fnJammedRow.holds Try.pinned (OpenSpec.ofChange fnJammedSpec)

/-- ITS FALSE NEIGHBOUR: 'it returns false'. Refute it at one input. -/
def fnJammedWrong : ChangeSpec := { name := "fnJammed", fn := fun _ => fun
  | [d] => { results := [.lit (.bool false)], args := [d] }
  | _ => none }
def FnJammedWrongFalsely : Prop := fnJammedRow.holds Try.pinned (OpenSpec.ofChange fnJammedWrong)

/-- 'laws.FnShiftHops': WHATEVER THE INPUT: true; the input reads as it did. -/
def fnShiftHopsSpec : ChangeSpec := { name := "fnShiftHops", fn := fun _ => fun
  | [d1, d2] => { results := [.lit (.bool true)], args := [d1, d2] }
  | _ => none }
def fnShiftHopsRow : OpenClaim := { program := "ytnklnafcbjnmfaa", sum := "8af1b5ebe8dbc4119133c4c539e940a7e5d16087d3a7208a7d88b346e2e98731", func := "loop.example/spreadspectrum/laws.FnShiftHops", spec := "fnShiftHops", apart := false }
def FnShiftHopsSaid : Prop := fnShiftHopsRow.holds Try.pinned (OpenSpec.ofChange fnShiftHopsSpec)

/-- ITS FALSE NEIGHBOUR: 'it returns false'. Refute it at one input. -/
def fnShiftHopsWrong : ChangeSpec := { name := "fnShiftHops", fn := fun _ => fun
  | [d1, d2] => { results := [.lit (.bool false)], args := [d1, d2] }
  | _ => none }
def FnShiftHopsWrongFalsely : Prop := fnShiftHopsRow.holds Try.pinned (OpenSpec.ofChange fnShiftHopsWrong)

/-- 'laws.FnLoad': WHATEVER THE INPUT: true; the input reads as it did. -/
def fnLoadSpec : ChangeSpec := { name := "fnLoad", fn := fun _ => fun
  | [d] => { results := [.lit (.bool true)], args := [d] }
  | _ => none }
def fnLoadRow : OpenClaim := { program := "ytnklnafcbjnmfaa", sum := "8af1b5ebe8dbc4119133c4c539e940a7e5d16087d3a7208a7d88b346e2e98731", func := "loop.example/spreadspectrum/laws.FnLoad", spec := "fnLoad", apart := false }
def FnLoadSaid : Prop := fnLoadRow.holds Try.pinned (OpenSpec.ofChange fnLoadSpec)

/-- ITS FALSE NEIGHBOUR: 'it returns false'. Refute it at one input. -/
def fnLoadWrong : ChangeSpec := { name := "fnLoad", fn := fun _ => fun
  | [d] => { results := [.lit (.bool false)], args := [d] }
  | _ => none }
def FnLoadWrongFalsely : Prop := fnLoadRow.holds Try.pinned (OpenSpec.ofChange fnLoadWrong)

/-- 'laws.FnMoveHops': WHATEVER THE INPUT: true; the input reads as it did. -/
def fnMoveHopsSpec : ChangeSpec := { name := "fnMoveHops", fn := fun _ => fun
  | [d] => { results := [.lit (.bool true)], args := [d] }
  | _ => none }
def fnMoveHopsRow : OpenClaim := { program := "ytnklnafcbjnmfaa", sum := "8af1b5ebe8dbc4119133c4c539e940a7e5d16087d3a7208a7d88b346e2e98731", func := "loop.example/spreadspectrum/laws.FnMoveHops", spec := "fnMoveHops", apart := false }
def FnMoveHopsSaid : Prop := fnMoveHopsRow.holds Try.pinned (OpenSpec.ofChange fnMoveHopsSpec)

/-- ITS FALSE NEIGHBOUR: 'it returns false'. Refute it at one input. -/
def fnMoveHopsWrong : ChangeSpec := { name := "fnMoveHops", fn := fun _ => fun
  | [d] => { results := [.lit (.bool false)], args := [d] }
  | _ => none }
def FnMoveHopsWrongFalsely : Prop := fnMoveHopsRow.holds Try.pinned (OpenSpec.ofChange fnMoveHopsWrong)

/-- 'laws.FnCollisions': WHATEVER THE INPUT: true; the input reads as it did. -/
def fnCollisionsSpec : ChangeSpec := { name := "fnCollisions", fn := fun _ => fun
  | [d] => { results := [.lit (.bool true)], args := [d] }
  | _ => none }
def fnCollisionsRow : OpenClaim := { program := "ytnklnafcbjnmfaa", sum := "8af1b5ebe8dbc4119133c4c539e940a7e5d16087d3a7208a7d88b346e2e98731", func := "loop.example/spreadspectrum/laws.FnCollisions", spec := "fnCollisions", apart := false }
def FnCollisionsSaid : Prop := fnCollisionsRow.holds Try.pinned (OpenSpec.ofChange fnCollisionsSpec)

/-- ITS FALSE NEIGHBOUR: 'it returns false'. Refute it at one input. -/
def fnCollisionsWrong : ChangeSpec := { name := "fnCollisions", fn := fun _ => fun
  | [d] => { results := [.lit (.bool false)], args := [d] }
  | _ => none }
def FnCollisionsWrongFalsely : Prop := fnCollisionsRow.holds Try.pinned (OpenSpec.ofChange fnCollisionsWrong)

/-- 'laws.FnRemap': WHATEVER THE INPUT: true; the input reads as it did. -/
def fnRemapSpec : ChangeSpec := { name := "fnRemap", fn := fun _ => fun
  | [d] => { results := [.lit (.bool true)], args := [d] }
  | _ => none }
def fnRemapRow : OpenClaim := { program := "ytnklnafcbjnmfaa", sum := "8af1b5ebe8dbc4119133c4c539e940a7e5d16087d3a7208a7d88b346e2e98731", func := "loop.example/spreadspectrum/laws.FnRemap", spec := "fnRemap", apart := false }
def FnRemapSaid : Prop := fnRemapRow.holds Try.pinned (OpenSpec.ofChange fnRemapSpec)

/-- ITS FALSE NEIGHBOUR: 'it returns false'. Refute it at one input. -/
def fnRemapWrong : ChangeSpec := { name := "fnRemap", fn := fun _ => fun
  | [d] => { results := [.lit (.bool false)], args := [d] }
  | _ => none }
def FnRemapWrongFalsely : Prop := fnRemapRow.holds Try.pinned (OpenSpec.ofChange fnRemapWrong)

/- THE SECOND FORM. 'bulk': how many values and letters a reading holds, each counted each time it is reached (what is shared counts as often as it is met; a slice's spare places count too). A statement '..UptoSaid' is the law's where the arguments, and the package variables that the reading takes, are together of bulk at most 1048576: NARROWER than '..Said'. Prove '..Said' where nothing that the law and all that it calls make is longer than what came in: it says more and counts as full. Else prove '..UptoSaid'. A law counts once. -/
mutual
def uptoBulk {H : Type} : DataW H → Nat
  | .lit (.string bytes) => bytes.length + 1
  | .lit _ => 1
  | .nil => 1
  | .ptr d => uptoBulk d + 1
  | .slice elems spare => uptoBulkAll elems + uptoBulkAll spare + 1
  | .agg parts => uptoBulkAll parts + 1
  | .iface _ d => uptoBulk d + 1
  | .map entries => uptoBulkEntries entries + 1
  | .held _ => 1
def uptoBulkAll {H : Type} : List (DataW H) → Nat
  | [] => 0
  | d :: r => uptoBulk d + uptoBulkAll r
def uptoBulkEntries {H : Type} : List (Lit × DataW H) → Nat
  | [] => 0
  | x :: r => uptoBulkEntry x + uptoBulkEntries r
def uptoBulkEntry {H : Type} : Lit × DataW H → Nat
  | (.string bytes, d) => bytes.length + uptoBulk d + 1
  | (_, d) => uptoBulk d + 1
 end
def uptoSmall : (H : Type) → List (DataW H) → Bool := fun _ ds => decide (uptoBulkAll ds ≤ 1048576)
def OpenSpec.upto (s : _root_.Go.ChangeSpec) : _root_.Go.OpenSpec := { _root_.Go.OpenSpec.ofChange s with cond := some uptoSmall }

/-- 'laws.FnExactSendHops', WHERE WHAT IT READS IS OF BULK AT MOST 1048576: true; the input reads as it did. -/
def fnExactSendHopsUptoRow : OpenClaim := { program := "ytnklnafcbjnmfaa", sum := "8af1b5ebe8dbc4119133c4c539e940a7e5d16087d3a7208a7d88b346e2e98731", func := "loop.example/spreadspectrum/laws.FnExactSendHops", spec := "fnExactSendHops", apart := false, narrowed := true }
def FnExactSendHopsUptoSaid : Prop := fnExactSendHopsUptoRow.holds Try.pinned (OpenSpec.upto fnExactSendHopsSpec)

/-- 'laws.FnExactWorstCollisions', WHERE WHAT IT READS IS OF BULK AT MOST 1048576: true; the input reads as it did. -/
def fnExactWorstCollisionsUptoRow : OpenClaim := { program := "ytnklnafcbjnmfaa", sum := "8af1b5ebe8dbc4119133c4c539e940a7e5d16087d3a7208a7d88b346e2e98731", func := "loop.example/spreadspectrum/laws.FnExactWorstCollisions", spec := "fnExactWorstCollisions", apart := false, narrowed := true }
def FnExactWorstCollisionsUptoSaid : Prop := fnExactWorstCollisionsUptoRow.holds Try.pinned (OpenSpec.upto fnExactWorstCollisionsSpec)

/-- 'laws.FnLinearMeet', WHERE WHAT IT READS IS OF BULK AT MOST 1048576: true; the input reads as it did. -/
def fnLinearMeetUptoRow : OpenClaim := { program := "ytnklnafcbjnmfaa", sum := "8af1b5ebe8dbc4119133c4c539e940a7e5d16087d3a7208a7d88b346e2e98731", func := "loop.example/spreadspectrum/laws.FnLinearMeet", spec := "fnLinearMeet", apart := false, narrowed := true }
def FnLinearMeetUptoSaid : Prop := fnLinearMeetUptoRow.holds Try.pinned (OpenSpec.upto fnLinearMeetSpec)

/-- 'laws.FnJammed', WHERE WHAT IT READS IS OF BULK AT MOST 1048576: true; the input reads as it did. -/
def fnJammedUptoRow : OpenClaim := { program := "ytnklnafcbjnmfaa", sum := "8af1b5ebe8dbc4119133c4c539e940a7e5d16087d3a7208a7d88b346e2e98731", func := "loop.example/spreadspectrum/laws.FnJammed", spec := "fnJammed", apart := false, narrowed := true }
def FnJammedUptoSaid : Prop := fnJammedUptoRow.holds Try.pinned (OpenSpec.upto fnJammedSpec)

/-- 'laws.FnShiftHops', WHERE WHAT IT READS IS OF BULK AT MOST 1048576: true; the input reads as it did. -/
def fnShiftHopsUptoRow : OpenClaim := { program := "ytnklnafcbjnmfaa", sum := "8af1b5ebe8dbc4119133c4c539e940a7e5d16087d3a7208a7d88b346e2e98731", func := "loop.example/spreadspectrum/laws.FnShiftHops", spec := "fnShiftHops", apart := false, narrowed := true }
def FnShiftHopsUptoSaid : Prop := fnShiftHopsUptoRow.holds Try.pinned (OpenSpec.upto fnShiftHopsSpec)

/-- 'laws.FnLoad', WHERE WHAT IT READS IS OF BULK AT MOST 1048576: true; the input reads as it did. -/
def fnLoadUptoRow : OpenClaim := { program := "ytnklnafcbjnmfaa", sum := "8af1b5ebe8dbc4119133c4c539e940a7e5d16087d3a7208a7d88b346e2e98731", func := "loop.example/spreadspectrum/laws.FnLoad", spec := "fnLoad", apart := false, narrowed := true }
def FnLoadUptoSaid : Prop := fnLoadUptoRow.holds Try.pinned (OpenSpec.upto fnLoadSpec)

/-- 'laws.FnMoveHops', WHERE WHAT IT READS IS OF BULK AT MOST 1048576: true; the input reads as it did. -/
def fnMoveHopsUptoRow : OpenClaim := { program := "ytnklnafcbjnmfaa", sum := "8af1b5ebe8dbc4119133c4c539e940a7e5d16087d3a7208a7d88b346e2e98731", func := "loop.example/spreadspectrum/laws.FnMoveHops", spec := "fnMoveHops", apart := false, narrowed := true }
def FnMoveHopsUptoSaid : Prop := fnMoveHopsUptoRow.holds Try.pinned (OpenSpec.upto fnMoveHopsSpec)

/-- 'laws.FnCollisions', WHERE WHAT IT READS IS OF BULK AT MOST 1048576: true; the input reads as it did. -/
def fnCollisionsUptoRow : OpenClaim := { program := "ytnklnafcbjnmfaa", sum := "8af1b5ebe8dbc4119133c4c539e940a7e5d16087d3a7208a7d88b346e2e98731", func := "loop.example/spreadspectrum/laws.FnCollisions", spec := "fnCollisions", apart := false, narrowed := true }
def FnCollisionsUptoSaid : Prop := fnCollisionsUptoRow.holds Try.pinned (OpenSpec.upto fnCollisionsSpec)

/-- 'laws.FnRemap', WHERE WHAT IT READS IS OF BULK AT MOST 1048576: true; the input reads as it did. -/
def fnRemapUptoRow : OpenClaim := { program := "ytnklnafcbjnmfaa", sum := "8af1b5ebe8dbc4119133c4c539e940a7e5d16087d3a7208a7d88b346e2e98731", func := "loop.example/spreadspectrum/laws.FnRemap", spec := "fnRemap", apart := false, narrowed := true }
def FnRemapUptoSaid : Prop := fnRemapUptoRow.holds Try.pinned (OpenSpec.upto fnRemapSpec)

end Rows
end Go.Proofs.Ytnklnafcbjnmfaa
