/-
  No cell of these rows narrows 'for every input' (looked for: loops, veiled, ifaces, maps, wideKeys, modest, calm, conditions, laid).
  DERIVED. THE GIVEN ROWS OF THIS SEAT. 6 by the template 'for every input the law returns true; each argument reads behind the call as it read before'; 0 by the template 'total and deterministic' (their statements: YtlbpoodjaljmnabTotals.lean).
  GIVEN WITH THE SEED: the statements are not yours to turn. If you find one false, say at which input.
  Laid BY PROGRAM, IN A SANDBOX (cutbox-rows.mjs): the forced cells as the released guide's own fill.sh prints them over the translation d3463de580c8c3fb… (all of the seat's roots in one cut). By AI agents, Wed Nov 11 2026. No macro, syntax, notation, axiom, sorry.
-/
import Derived.Test.YtlbpoodjaljmnabChecked
import GoSem.Claim
import GoSem.ClaimJoined
import GoSem.ClaimMapViews
import Derived.JoinedTies
import Derived.KernelRfl
namespace Go.Proofs.Ytlbpoodjaljmnab
/- THE CELL 'sum', in the pinned program and in every row, IS THE sha256 OF THE DUMP (.gsa) THAT YtlbpoodjaljmnabProg.lean LOADS. Nothing in Lean hashes anything: it is a label: what it is worth is what the hold of that sum in a sandbox is worth. -/
noncomputable def Try.pinned : Pinned := { name := "ytlbpoodjaljmnab", sum := "d3463de580c8c3fb10cc4fdd1c350bc7df8138367dbf8e972bf15d07f5c7d260", checked := Try.checked }
namespace Rows
def none {H : Type} : Left H := { results := [], args := [] }

/-- 'laws.FnExactHopCollisions': WHATEVER THE INPUT: true; the input reads as it did. -/
def fnExactHopCollisionsSpec : ChangeSpec := { name := "fnExactHopCollisions", fn := fun _ => fun
  | [d1, d2, d3] => { results := [.lit (.bool true)], args := [d1, d2, d3] }
  | _ => none }
def fnExactHopCollisionsRow : OpenClaim := { program := "ytlbpoodjaljmnab", sum := "d3463de580c8c3fb10cc4fdd1c350bc7df8138367dbf8e972bf15d07f5c7d260", func := "loop.example/spreadspectrum/laws.FnExactHopCollisions", spec := "fnExactHopCollisions", apart := false }
def FnExactHopCollisionsSaid : Prop := fnExactHopCollisionsRow.holds Try.pinned (OpenSpec.ofChange fnExactHopCollisionsSpec)

/-- ITS FALSE NEIGHBOUR: 'it returns false'. Refute it at one input. -/
def fnExactHopCollisionsWrong : ChangeSpec := { name := "fnExactHopCollisions", fn := fun _ => fun
  | [d1, d2, d3] => { results := [.lit (.bool false)], args := [d1, d2, d3] }
  | _ => none }
def FnExactHopCollisionsWrongFalsely : Prop := fnExactHopCollisionsRow.holds Try.pinned (OpenSpec.ofChange fnExactHopCollisionsWrong)

/-- 'laws.FnExactSendHops': WHATEVER THE INPUT: true; the input reads as it did. -/
def fnExactSendHopsSpec : ChangeSpec := { name := "fnExactSendHops", fn := fun _ => fun
  | [d1, d2, d3] => { results := [.lit (.bool true)], args := [d1, d2, d3] }
  | _ => none }
def fnExactSendHopsRow : OpenClaim := { program := "ytlbpoodjaljmnab", sum := "d3463de580c8c3fb10cc4fdd1c350bc7df8138367dbf8e972bf15d07f5c7d260", func := "loop.example/spreadspectrum/laws.FnExactSendHops", spec := "fnExactSendHops", apart := false }
def FnExactSendHopsSaid : Prop := fnExactSendHopsRow.holds Try.pinned (OpenSpec.ofChange fnExactSendHopsSpec)

/-- ITS FALSE NEIGHBOUR: 'it returns false'. Refute it at one input. -/
def fnExactSendHopsWrong : ChangeSpec := { name := "fnExactSendHops", fn := fun _ => fun
  | [d1, d2, d3] => { results := [.lit (.bool false)], args := [d1, d2, d3] }
  | _ => none }
def FnExactSendHopsWrongFalsely : Prop := fnExactSendHopsRow.holds Try.pinned (OpenSpec.ofChange fnExactSendHopsWrong)

/-- 'laws.FnExactRemapHops': WHATEVER THE INPUT: true; the input reads as it did. -/
def fnExactRemapHopsSpec : ChangeSpec := { name := "fnExactRemapHops", fn := fun _ => fun
  | [d1, d2, d3] => { results := [.lit (.bool true)], args := [d1, d2, d3] }
  | _ => none }
def fnExactRemapHopsRow : OpenClaim := { program := "ytlbpoodjaljmnab", sum := "d3463de580c8c3fb10cc4fdd1c350bc7df8138367dbf8e972bf15d07f5c7d260", func := "loop.example/spreadspectrum/laws.FnExactRemapHops", spec := "fnExactRemapHops", apart := false }
def FnExactRemapHopsSaid : Prop := fnExactRemapHopsRow.holds Try.pinned (OpenSpec.ofChange fnExactRemapHopsSpec)

/-- ITS FALSE NEIGHBOUR: 'it returns false'. Refute it at one input. -/
def fnExactRemapHopsWrong : ChangeSpec := { name := "fnExactRemapHops", fn := fun _ => fun
  | [d1, d2, d3] => { results := [.lit (.bool false)], args := [d1, d2, d3] }
  | _ => none }
def FnExactRemapHopsWrongFalsely : Prop := fnExactRemapHopsRow.holds Try.pinned (OpenSpec.ofChange fnExactRemapHopsWrong)

/-- 'laws.FnExactHopSequence': WHATEVER THE INPUT: true; the input reads as it did. -/
def fnExactHopSequenceSpec : ChangeSpec := { name := "fnExactHopSequence", fn := fun _ => fun
  | [d1, d2, d3] => { results := [.lit (.bool true)], args := [d1, d2, d3] }
  | _ => none }
def fnExactHopSequenceRow : OpenClaim := { program := "ytlbpoodjaljmnab", sum := "d3463de580c8c3fb10cc4fdd1c350bc7df8138367dbf8e972bf15d07f5c7d260", func := "loop.example/spreadspectrum/laws.FnExactHopSequence", spec := "fnExactHopSequence", apart := false }
def FnExactHopSequenceSaid : Prop := fnExactHopSequenceRow.holds Try.pinned (OpenSpec.ofChange fnExactHopSequenceSpec)

/-- ITS FALSE NEIGHBOUR: 'it returns false'. Refute it at one input. -/
def fnExactHopSequenceWrong : ChangeSpec := { name := "fnExactHopSequence", fn := fun _ => fun
  | [d1, d2, d3] => { results := [.lit (.bool false)], args := [d1, d2, d3] }
  | _ => none }
def FnExactHopSequenceWrongFalsely : Prop := fnExactHopSequenceRow.holds Try.pinned (OpenSpec.ofChange fnExactHopSequenceWrong)

/-- 'laws.FnExactWorstCollisions': WHATEVER THE INPUT: true; the input reads as it did. -/
def fnExactWorstCollisionsSpec : ChangeSpec := { name := "fnExactWorstCollisions", fn := fun _ => fun
  | [d] => { results := [.lit (.bool true)], args := [d] }
  | _ => none }
def fnExactWorstCollisionsRow : OpenClaim := { program := "ytlbpoodjaljmnab", sum := "d3463de580c8c3fb10cc4fdd1c350bc7df8138367dbf8e972bf15d07f5c7d260", func := "loop.example/spreadspectrum/laws.FnExactWorstCollisions", spec := "fnExactWorstCollisions", apart := false }
def FnExactWorstCollisionsSaid : Prop := fnExactWorstCollisionsRow.holds Try.pinned (OpenSpec.ofChange fnExactWorstCollisionsSpec)

/-- ITS FALSE NEIGHBOUR: 'it returns false'. Refute it at one input. -/
def fnExactWorstCollisionsWrong : ChangeSpec := { name := "fnExactWorstCollisions", fn := fun _ => fun
  | [d] => { results := [.lit (.bool false)], args := [d] }
  | _ => none }
def FnExactWorstCollisionsWrongFalsely : Prop := fnExactWorstCollisionsRow.holds Try.pinned (OpenSpec.ofChange fnExactWorstCollisionsWrong)

/-- 'laws.FnLinearMeet': WHATEVER THE INPUT: true; the input reads as it did. -/
def fnLinearMeetSpec : ChangeSpec := { name := "fnLinearMeet", fn := fun _ => fun
  | [d1, d2] => { results := [.lit (.bool true)], args := [d1, d2] }
  | _ => none }
def fnLinearMeetRow : OpenClaim := { program := "ytlbpoodjaljmnab", sum := "d3463de580c8c3fb10cc4fdd1c350bc7df8138367dbf8e972bf15d07f5c7d260", func := "loop.example/spreadspectrum/laws.FnLinearMeet", spec := "fnLinearMeet", apart := false }
def FnLinearMeetSaid : Prop := fnLinearMeetRow.holds Try.pinned (OpenSpec.ofChange fnLinearMeetSpec)

/-- ITS FALSE NEIGHBOUR: 'it returns false'. Refute it at one input. -/
def fnLinearMeetWrong : ChangeSpec := { name := "fnLinearMeet", fn := fun _ => fun
  | [d1, d2] => { results := [.lit (.bool false)], args := [d1, d2] }
  | _ => none }
def FnLinearMeetWrongFalsely : Prop := fnLinearMeetRow.holds Try.pinned (OpenSpec.ofChange fnLinearMeetWrong)

/- THE SECOND FORM. 'bulk': how many values and letters a reading holds, each counted each time it is reached (what is shared counts as often as it is met; a slice's spare places count too). A statement '..UptoSaid' is the law's where the arguments, and the package variables that the reading takes, are together of bulk at most 1048576: NARROWER than '..Said'. Prove '..Said' where nothing that the law and all that it calls make is longer than what came in: it says more and counts as full. Else prove '..UptoSaid'. A law counts once. -/
mutual
def uptoBulk {H : Type} : DataW H → Nat
  | .lit (.string bytes) => bytes.length + 1
  | .lit _ => 1
  | .nil => 1
  | .ptr d => uptoBulk d + 1
  | .slice elems spare => uptoBulkAll elems + uptoBulkAll spare + 1
  | .agg parts => uptoBulkAll parts + 1
  | .iface _ d => uptoBulk d + 1
  | .map entries => uptoBulkEntries entries + 1
  | .held _ => 1
def uptoBulkAll {H : Type} : List (DataW H) → Nat
  | [] => 0
  | d :: r => uptoBulk d + uptoBulkAll r
def uptoBulkEntries {H : Type} : List (Lit × DataW H) → Nat
  | [] => 0
  | x :: r => uptoBulkEntry x + uptoBulkEntries r
def uptoBulkEntry {H : Type} : Lit × DataW H → Nat
  | (.string bytes, d) => bytes.length + uptoBulk d + 1
  | (_, d) => uptoBulk d + 1
 end
def uptoSmall : (H : Type) → List (DataW H) → Bool := fun _ ds => decide (uptoBulkAll ds ≤ 1048576)
def OpenSpec.upto (s : _root_.Go.ChangeSpec) : _root_.Go.OpenSpec := { _root_.Go.OpenSpec.ofChange s with cond := some uptoSmall }

/-- 'laws.FnExactHopCollisions', WHERE WHAT IT READS IS OF BULK AT MOST 1048576: true; the input reads as it did. -/
def fnExactHopCollisionsUptoRow : OpenClaim := { program := "ytlbpoodjaljmnab", sum := "d3463de580c8c3fb10cc4fdd1c350bc7df8138367dbf8e972bf15d07f5c7d260", func := "loop.example/spreadspectrum/laws.FnExactHopCollisions", spec := "fnExactHopCollisions", apart := false, narrowed := true }
def FnExactHopCollisionsUptoSaid : Prop := fnExactHopCollisionsUptoRow.holds Try.pinned (OpenSpec.upto fnExactHopCollisionsSpec)

/-- 'laws.FnExactSendHops', WHERE WHAT IT READS IS OF BULK AT MOST 1048576: true; the input reads as it did. -/
def fnExactSendHopsUptoRow : OpenClaim := { program := "ytlbpoodjaljmnab", sum := "d3463de580c8c3fb10cc4fdd1c350bc7df8138367dbf8e972bf15d07f5c7d260", func := "loop.example/spreadspectrum/laws.FnExactSendHops", spec := "fnExactSendHops", apart := false, narrowed := true }
def FnExactSendHopsUptoSaid : Prop := fnExactSendHopsUptoRow.holds Try.pinned (OpenSpec.upto fnExactSendHopsSpec)

/-- 'laws.FnExactRemapHops', WHERE WHAT IT READS IS OF BULK AT MOST 1048576: true; the input reads as it did. -/
def fnExactRemapHopsUptoRow : OpenClaim := { program := "ytlbpoodjaljmnab", sum := "d3463de580c8c3fb10cc4fdd1c350bc7df8138367dbf8e972bf15d07f5c7d260", func := "loop.example/spreadspectrum/laws.FnExactRemapHops", spec := "fnExactRemapHops", apart := false, narrowed := true }
def FnExactRemapHopsUptoSaid : Prop := fnExactRemapHopsUptoRow.holds Try.pinned (OpenSpec.upto fnExactRemapHopsSpec)

/-- 'laws.FnExactHopSequence', WHERE WHAT IT READS IS OF BULK AT MOST 1048576: true; the input reads as it did. -/
def fnExactHopSequenceUptoRow : OpenClaim := { program := "ytlbpoodjaljmnab", sum := "d3463de580c8c3fb10cc4fdd1c350bc7df8138367dbf8e972bf15d07f5c7d260", func := "loop.example/spreadspectrum/laws.FnExactHopSequence", spec := "fnExactHopSequence", apart := false, narrowed := true }
def FnExactHopSequenceUptoSaid : Prop := fnExactHopSequenceUptoRow.holds Try.pinned (OpenSpec.upto fnExactHopSequenceSpec)

/-- 'laws.FnExactWorstCollisions', WHERE WHAT IT READS IS OF BULK AT MOST 1048576: true; the input reads as it did. -/
def fnExactWorstCollisionsUptoRow : OpenClaim := { program := "ytlbpoodjaljmnab", sum := "d3463de580c8c3fb10cc4fdd1c350bc7df8138367dbf8e972bf15d07f5c7d260", func := "loop.example/spreadspectrum/laws.FnExactWorstCollisions", spec := "fnExactWorstCollisions", apart := false, narrowed := true }
def FnExactWorstCollisionsUptoSaid : Prop := fnExactWorstCollisionsUptoRow.holds Try.pinned (OpenSpec.upto fnExactWorstCollisionsSpec)

/-- 'laws.FnLinearMeet', WHERE WHAT IT READS IS OF BULK AT MOST 1048576: true; the input reads as it did. -/
def fnLinearMeetUptoRow : OpenClaim := { program := "ytlbpoodjaljmnab", sum := "d3463de580c8c3fb10cc4fdd1c350bc7df8138367dbf8e972bf15d07f5c7d260", func := "loop.example/spreadspectrum/laws.FnLinearMeet", spec := "fnLinearMeet", apart := false, narrowed := true }
def FnLinearMeetUptoSaid : Prop := fnLinearMeetUptoRow.holds Try.pinned (OpenSpec.upto fnLinearMeetSpec)

end Rows
end Go.Proofs.Ytlbpoodjaljmnab
