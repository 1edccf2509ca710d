/-
  No cell of these rows narrows 'for every input' (looked for: loops, veiled, ifaces, maps, wideKeys, modest, calm, conditions, laid).
  DERIVED. THE GIVEN ROWS OF THIS SEAT. 9 by the template 'for every input the law returns true; each argument reads behind the call as it read before'; 0 by the template 'total and deterministic' (their statements: YtklbdkbaldkkpaaTotals.lean).
  GIVEN WITH THE SEED: the statements are not yours to turn. If you find one false, say at which input.
  Laid BY PROGRAM, IN A SANDBOX (cutbox-rows.mjs): the forced cells as the released guide's own fill.sh prints them over the translation c2ab33811247e444… (all of the seat's roots in one cut). By AI agents, Wed Nov 11 2026. No macro, syntax, notation, axiom, sorry.
-/
import Derived.Test.YtklbdkbaldkkpaaChecked
import GoSem.Claim
import GoSem.ClaimJoined
import GoSem.ClaimMapViews
import Derived.JoinedTies
import Derived.KernelRfl
namespace Go.Proofs.Ytklbdkbaldkkpaa
/- THE CELL 'sum', in the pinned program and in every row, IS THE sha256 OF THE DUMP (.gsa) THAT YtklbdkbaldkkpaaProg.lean LOADS. Nothing in Lean hashes anything: it is a label: what it is worth is what the hold of that sum in a sandbox is worth. -/
noncomputable def Try.pinned : Pinned := { name := "ytklbdkbaldkkpaa", sum := "c2ab33811247e44494350a27a3a1ccb83b50128470891a496fe23970e52a0f14", checked := Try.checked }
namespace Rows
def none {H : Type} : Left H := { results := [], args := [] }

/-- 'laws.FnHopSequence': WHATEVER THE INPUT: true; the input reads as it did. -/
def fnHopSequenceSpec : ChangeSpec := { name := "fnHopSequence", fn := fun _ => fun
  | [d1, d2] => { results := [.lit (.bool true)], args := [d1, d2] }
  | _ => none }
def fnHopSequenceRow : OpenClaim := { program := "ytklbdkbaldkkpaa", sum := "c2ab33811247e44494350a27a3a1ccb83b50128470891a496fe23970e52a0f14", func := "loop.example/spreadspectrum/laws.FnHopSequence", spec := "fnHopSequence", apart := false }
def FnHopSequenceSaid : Prop := fnHopSequenceRow.holds Try.pinned (OpenSpec.ofChange fnHopSequenceSpec)

/-- ITS FALSE NEIGHBOUR: 'it returns false'. Refute it at one input. -/
def fnHopSequenceWrong : ChangeSpec := { name := "fnHopSequence", fn := fun _ => fun
  | [d1, d2] => { results := [.lit (.bool false)], args := [d1, d2] }
  | _ => none }
def FnHopSequenceWrongFalsely : Prop := fnHopSequenceRow.holds Try.pinned (OpenSpec.ofChange fnHopSequenceWrong)

/-- 'laws.FnGoal': WHATEVER THE INPUT: true; the input reads as it did. -/
def fnGoalSpec : ChangeSpec := { name := "fnGoal", fn := fun _ => fun
  | [d] => { results := [.lit (.bool true)], args := [d] }
  | _ => none }
def fnGoalRow : OpenClaim := { program := "ytklbdkbaldkkpaa", sum := "c2ab33811247e44494350a27a3a1ccb83b50128470891a496fe23970e52a0f14", func := "loop.example/spreadspectrum/laws.FnGoal", spec := "fnGoal", recurses := true, apart := false }
def FnGoalSaid : Prop := fnGoalRow.holds Try.pinned (OpenSpec.ofChange fnGoalSpec)

/-- ITS FALSE NEIGHBOUR: 'it returns false'. Refute it at one input. -/
def fnGoalWrong : ChangeSpec := { name := "fnGoal", fn := fun _ => fun
  | [d] => { results := [.lit (.bool false)], args := [d] }
  | _ => none }
def FnGoalWrongFalsely : Prop := fnGoalRow.holds Try.pinned (OpenSpec.ofChange fnGoalWrong)

/-- 'laws.FnSync': WHATEVER THE INPUT: true; the input reads as it did. -/
def fnSyncSpec : ChangeSpec := { name := "fnSync", fn := fun _ => fun
  | [d] => { results := [.lit (.bool true)], args := [d] }
  | _ => none }
def fnSyncRow : OpenClaim := { program := "ytklbdkbaldkkpaa", sum := "c2ab33811247e44494350a27a3a1ccb83b50128470891a496fe23970e52a0f14", func := "loop.example/spreadspectrum/laws.FnSync", spec := "fnSync", apart := false }
def FnSyncSaid : Prop := fnSyncRow.holds Try.pinned (OpenSpec.ofChange fnSyncSpec)

/-- ITS FALSE NEIGHBOUR: 'it returns false'. Refute it at one input. -/
def fnSyncWrong : ChangeSpec := { name := "fnSync", fn := fun _ => fun
  | [d] => { results := [.lit (.bool false)], args := [d] }
  | _ => none }
def FnSyncWrongFalsely : Prop := fnSyncRow.holds Try.pinned (OpenSpec.ofChange fnSyncWrong)

/-- 'laws.FnWorstCollisions': WHATEVER THE INPUT: true; the input reads as it did. -/
def fnWorstCollisionsSpec : ChangeSpec := { name := "fnWorstCollisions", fn := fun _ => fun
  | [d] => { results := [.lit (.bool true)], args := [d] }
  | _ => none }
def fnWorstCollisionsRow : OpenClaim := { program := "ytklbdkbaldkkpaa", sum := "c2ab33811247e44494350a27a3a1ccb83b50128470891a496fe23970e52a0f14", func := "loop.example/spreadspectrum/laws.FnWorstCollisions", spec := "fnWorstCollisions", apart := false }
def FnWorstCollisionsSaid : Prop := fnWorstCollisionsRow.holds Try.pinned (OpenSpec.ofChange fnWorstCollisionsSpec)

/-- ITS FALSE NEIGHBOUR: 'it returns false'. Refute it at one input. -/
def fnWorstCollisionsWrong : ChangeSpec := { name := "fnWorstCollisions", fn := fun _ => fun
  | [d] => { results := [.lit (.bool false)], args := [d] }
  | _ => none }
def FnWorstCollisionsWrongFalsely : Prop := fnWorstCollisionsRow.holds Try.pinned (OpenSpec.ofChange fnWorstCollisionsWrong)

/-- 'laws.FnPowerControl': WHATEVER THE INPUT: true; the input reads as it did. -/
def fnPowerControlSpec : ChangeSpec := { name := "fnPowerControl", fn := fun _ => fun
  | [d] => { results := [.lit (.bool true)], args := [d] }
  | _ => none }
def fnPowerControlRow : OpenClaim := { program := "ytklbdkbaldkkpaa", sum := "c2ab33811247e44494350a27a3a1ccb83b50128470891a496fe23970e52a0f14", func := "loop.example/spreadspectrum/laws.FnPowerControl", spec := "fnPowerControl", recurses := true, apart := false }
def FnPowerControlSaid : Prop := fnPowerControlRow.holds Try.pinned (OpenSpec.ofChange fnPowerControlSpec)

/-- ITS FALSE NEIGHBOUR: 'it returns false'. Refute it at one input. -/
def fnPowerControlWrong : ChangeSpec := { name := "fnPowerControl", fn := fun _ => fun
  | [d] => { results := [.lit (.bool false)], args := [d] }
  | _ => none }
def FnPowerControlWrongFalsely : Prop := fnPowerControlRow.holds Try.pinned (OpenSpec.ofChange fnPowerControlWrong)

/-- 'laws.FnAdmitFull': WHATEVER THE INPUT: true; the input reads as it did. -/
def fnAdmitFullSpec : ChangeSpec := { name := "fnAdmitFull", fn := fun _ => fun
  | [d] => { results := [.lit (.bool true)], args := [d] }
  | _ => none }
def fnAdmitFullRow : OpenClaim := { program := "ytklbdkbaldkkpaa", sum := "c2ab33811247e44494350a27a3a1ccb83b50128470891a496fe23970e52a0f14", func := "loop.example/spreadspectrum/laws.FnAdmitFull", spec := "fnAdmitFull", recurses := true, apart := false }
def FnAdmitFullSaid : Prop := fnAdmitFullRow.holds Try.pinned (OpenSpec.ofChange fnAdmitFullSpec)

/-- ITS FALSE NEIGHBOUR: 'it returns false'. Refute it at one input. -/
def fnAdmitFullWrong : ChangeSpec := { name := "fnAdmitFull", fn := fun _ => fun
  | [d] => { results := [.lit (.bool false)], args := [d] }
  | _ => none }
def FnAdmitFullWrongFalsely : Prop := fnAdmitFullRow.holds Try.pinned (OpenSpec.ofChange fnAdmitFullWrong)

/-- 'laws.FnPowerStep': WHATEVER THE INPUT: true; the input reads as it did. -/
def fnPowerStepSpec : ChangeSpec := { name := "fnPowerStep", fn := fun _ => fun
  | [d] => { results := [.lit (.bool true)], args := [d] }
  | _ => none }
def fnPowerStepRow : OpenClaim := { program := "ytklbdkbaldkkpaa", sum := "c2ab33811247e44494350a27a3a1ccb83b50128470891a496fe23970e52a0f14", func := "loop.example/spreadspectrum/laws.FnPowerStep", spec := "fnPowerStep", recurses := true, apart := false }
def FnPowerStepSaid : Prop := fnPowerStepRow.holds Try.pinned (OpenSpec.ofChange fnPowerStepSpec)

/-- ITS FALSE NEIGHBOUR: 'it returns false'. Refute it at one input. -/
def fnPowerStepWrong : ChangeSpec := { name := "fnPowerStep", fn := fun _ => fun
  | [d] => { results := [.lit (.bool false)], args := [d] }
  | _ => none }
def FnPowerStepWrongFalsely : Prop := fnPowerStepRow.holds Try.pinned (OpenSpec.ofChange fnPowerStepWrong)

/-- 'laws.FnAdmitRelease': WHATEVER THE INPUT: true; the input reads as it did. -/
def fnAdmitReleaseSpec : ChangeSpec := { name := "fnAdmitRelease", fn := fun _ => fun
  | [d] => { results := [.lit (.bool true)], args := [d] }
  | _ => none }
def fnAdmitReleaseRow : OpenClaim := { program := "ytklbdkbaldkkpaa", sum := "c2ab33811247e44494350a27a3a1ccb83b50128470891a496fe23970e52a0f14", func := "loop.example/spreadspectrum/laws.FnAdmitRelease", spec := "fnAdmitRelease", recurses := true, apart := false }
def FnAdmitReleaseSaid : Prop := fnAdmitReleaseRow.holds Try.pinned (OpenSpec.ofChange fnAdmitReleaseSpec)

/-- ITS FALSE NEIGHBOUR: 'it returns false'. Refute it at one input. -/
def fnAdmitReleaseWrong : ChangeSpec := { name := "fnAdmitRelease", fn := fun _ => fun
  | [d] => { results := [.lit (.bool false)], args := [d] }
  | _ => none }
def FnAdmitReleaseWrongFalsely : Prop := fnAdmitReleaseRow.holds Try.pinned (OpenSpec.ofChange fnAdmitReleaseWrong)

/-- 'laws.FnRelease': WHATEVER THE INPUT: true; the input reads as it did. -/
def fnReleaseSpec : ChangeSpec := { name := "fnRelease", fn := fun _ => fun
  | [d1, d2] => { results := [.lit (.bool true)], args := [d1, d2] }
  | _ => none }
def fnReleaseRow : OpenClaim := { program := "ytklbdkbaldkkpaa", sum := "c2ab33811247e44494350a27a3a1ccb83b50128470891a496fe23970e52a0f14", func := "loop.example/spreadspectrum/laws.FnRelease", spec := "fnRelease", recurses := true, apart := false }
def FnReleaseSaid : Prop := fnReleaseRow.holds Try.pinned (OpenSpec.ofChange fnReleaseSpec)

/-- ITS FALSE NEIGHBOUR: 'it returns false'. Refute it at one input. -/
def fnReleaseWrong : ChangeSpec := { name := "fnRelease", fn := fun _ => fun
  | [d1, d2] => { results := [.lit (.bool false)], args := [d1, d2] }
  | _ => none }
def FnReleaseWrongFalsely : Prop := fnReleaseRow.holds Try.pinned (OpenSpec.ofChange fnReleaseWrong)

/- THE SECOND FORM. 'bulk': how many values and letters a reading holds, each counted each time it is reached (what is shared counts as often as it is met; a slice's spare places count too). A statement '..UptoSaid' is the law's where the arguments, and the package variables that the reading takes, are together of bulk at most 1048576: NARROWER than '..Said'. Prove '..Said' where nothing that the law and all that it calls make is longer than what came in: it says more and counts as full. Else prove '..UptoSaid'. A law counts once. -/
mutual
def uptoBulk {H : Type} : DataW H → Nat
  | .lit (.string bytes) => bytes.length + 1
  | .lit _ => 1
  | .nil => 1
  | .ptr d => uptoBulk d + 1
  | .slice elems spare => uptoBulkAll elems + uptoBulkAll spare + 1
  | .agg parts => uptoBulkAll parts + 1
  | .iface _ d => uptoBulk d + 1
  | .map entries => uptoBulkEntries entries + 1
  | .held _ => 1
def uptoBulkAll {H : Type} : List (DataW H) → Nat
  | [] => 0
  | d :: r => uptoBulk d + uptoBulkAll r
def uptoBulkEntries {H : Type} : List (Lit × DataW H) → Nat
  | [] => 0
  | x :: r => uptoBulkEntry x + uptoBulkEntries r
def uptoBulkEntry {H : Type} : Lit × DataW H → Nat
  | (.string bytes, d) => bytes.length + uptoBulk d + 1
  | (_, d) => uptoBulk d + 1
 end
def uptoSmall : (H : Type) → List (DataW H) → Bool := fun _ ds => decide (uptoBulkAll ds ≤ 1048576)
def OpenSpec.upto (s : _root_.Go.ChangeSpec) : _root_.Go.OpenSpec := { _root_.Go.OpenSpec.ofChange s with cond := some uptoSmall }

/-- 'laws.FnHopSequence', WHERE WHAT IT READS IS OF BULK AT MOST 1048576: true; the input reads as it did. -/
def fnHopSequenceUptoRow : OpenClaim := { program := "ytklbdkbaldkkpaa", sum := "c2ab33811247e44494350a27a3a1ccb83b50128470891a496fe23970e52a0f14", func := "loop.example/spreadspectrum/laws.FnHopSequence", spec := "fnHopSequence", apart := false, narrowed := true }
def FnHopSequenceUptoSaid : Prop := fnHopSequenceUptoRow.holds Try.pinned (OpenSpec.upto fnHopSequenceSpec)

/-- 'laws.FnGoal', WHERE WHAT IT READS IS OF BULK AT MOST 1048576: true; the input reads as it did. -/
def fnGoalUptoRow : OpenClaim := { program := "ytklbdkbaldkkpaa", sum := "c2ab33811247e44494350a27a3a1ccb83b50128470891a496fe23970e52a0f14", func := "loop.example/spreadspectrum/laws.FnGoal", spec := "fnGoal", recurses := true, apart := false, narrowed := true }
def FnGoalUptoSaid : Prop := fnGoalUptoRow.holds Try.pinned (OpenSpec.upto fnGoalSpec)

/-- 'laws.FnSync', WHERE WHAT IT READS IS OF BULK AT MOST 1048576: true; the input reads as it did. -/
def fnSyncUptoRow : OpenClaim := { program := "ytklbdkbaldkkpaa", sum := "c2ab33811247e44494350a27a3a1ccb83b50128470891a496fe23970e52a0f14", func := "loop.example/spreadspectrum/laws.FnSync", spec := "fnSync", apart := false, narrowed := true }
def FnSyncUptoSaid : Prop := fnSyncUptoRow.holds Try.pinned (OpenSpec.upto fnSyncSpec)

/-- 'laws.FnWorstCollisions', WHERE WHAT IT READS IS OF BULK AT MOST 1048576: true; the input reads as it did. -/
def fnWorstCollisionsUptoRow : OpenClaim := { program := "ytklbdkbaldkkpaa", sum := "c2ab33811247e44494350a27a3a1ccb83b50128470891a496fe23970e52a0f14", func := "loop.example/spreadspectrum/laws.FnWorstCollisions", spec := "fnWorstCollisions", apart := false, narrowed := true }
def FnWorstCollisionsUptoSaid : Prop := fnWorstCollisionsUptoRow.holds Try.pinned (OpenSpec.upto fnWorstCollisionsSpec)

/-- 'laws.FnPowerControl', WHERE WHAT IT READS IS OF BULK AT MOST 1048576: true; the input reads as it did. -/
def fnPowerControlUptoRow : OpenClaim := { program := "ytklbdkbaldkkpaa", sum := "c2ab33811247e44494350a27a3a1ccb83b50128470891a496fe23970e52a0f14", func := "loop.example/spreadspectrum/laws.FnPowerControl", spec := "fnPowerControl", recurses := true, apart := false, narrowed := true }
def FnPowerControlUptoSaid : Prop := fnPowerControlUptoRow.holds Try.pinned (OpenSpec.upto fnPowerControlSpec)

/-- 'laws.FnAdmitFull', WHERE WHAT IT READS IS OF BULK AT MOST 1048576: true; the input reads as it did. -/
def fnAdmitFullUptoRow : OpenClaim := { program := "ytklbdkbaldkkpaa", sum := "c2ab33811247e44494350a27a3a1ccb83b50128470891a496fe23970e52a0f14", func := "loop.example/spreadspectrum/laws.FnAdmitFull", spec := "fnAdmitFull", recurses := true, apart := false, narrowed := true }
def FnAdmitFullUptoSaid : Prop := fnAdmitFullUptoRow.holds Try.pinned (OpenSpec.upto fnAdmitFullSpec)

/-- 'laws.FnPowerStep', WHERE WHAT IT READS IS OF BULK AT MOST 1048576: true; the input reads as it did. -/
def fnPowerStepUptoRow : OpenClaim := { program := "ytklbdkbaldkkpaa", sum := "c2ab33811247e44494350a27a3a1ccb83b50128470891a496fe23970e52a0f14", func := "loop.example/spreadspectrum/laws.FnPowerStep", spec := "fnPowerStep", recurses := true, apart := false, narrowed := true }
def FnPowerStepUptoSaid : Prop := fnPowerStepUptoRow.holds Try.pinned (OpenSpec.upto fnPowerStepSpec)

/-- 'laws.FnAdmitRelease', WHERE WHAT IT READS IS OF BULK AT MOST 1048576: true; the input reads as it did. -/
def fnAdmitReleaseUptoRow : OpenClaim := { program := "ytklbdkbaldkkpaa", sum := "c2ab33811247e44494350a27a3a1ccb83b50128470891a496fe23970e52a0f14", func := "loop.example/spreadspectrum/laws.FnAdmitRelease", spec := "fnAdmitRelease", recurses := true, apart := false, narrowed := true }
def FnAdmitReleaseUptoSaid : Prop := fnAdmitReleaseUptoRow.holds Try.pinned (OpenSpec.upto fnAdmitReleaseSpec)

/-- 'laws.FnRelease', WHERE WHAT IT READS IS OF BULK AT MOST 1048576: true; the input reads as it did. -/
def fnReleaseUptoRow : OpenClaim := { program := "ytklbdkbaldkkpaa", sum := "c2ab33811247e44494350a27a3a1ccb83b50128470891a496fe23970e52a0f14", func := "loop.example/spreadspectrum/laws.FnRelease", spec := "fnRelease", recurses := true, apart := false, narrowed := true }
def FnReleaseUptoSaid : Prop := fnReleaseUptoRow.holds Try.pinned (OpenSpec.upto fnReleaseSpec)

end Rows
end Go.Proofs.Ytklbdkbaldkkpaa
