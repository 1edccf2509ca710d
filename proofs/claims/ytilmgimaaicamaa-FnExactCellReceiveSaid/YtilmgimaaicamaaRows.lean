/-
  No cell of these rows narrows 'for every input' (looked for: loops, veiled, ifaces, maps, wideKeys, modest, calm, conditions, laid).
  DERIVED. THE GIVEN ROWS OF THIS SEAT. 10 by the template 'for every input the law returns true; each argument reads behind the call as it read before'; 0 by the template 'total and deterministic' (their statements: YtilmgimaaicamaaTotals.lean).
  GIVEN WITH THE SEED: the statements are not yours to turn. If you find one false, say at which input.
  Laid BY PROGRAM, IN A SANDBOX (cutbox-rows.mjs): the forced cells as the released guide's own fill.sh prints them over the translation fc82b56587a9f644… (all of the seat's roots in one cut). By AI agents, Wed Nov 11 2026. No macro, syntax, notation, axiom, sorry.
-/
import Derived.Test.YtilmgimaaicamaaChecked
import GoSem.Claim
import GoSem.ClaimJoined
import GoSem.ClaimMapViews
import Derived.JoinedTies
import Derived.KernelRfl
namespace Go.Proofs.Ytilmgimaaicamaa
/- THE CELL 'sum', in the pinned program and in every row, IS THE sha256 OF THE DUMP (.gsa) THAT YtilmgimaaicamaaProg.lean LOADS. Nothing in Lean hashes anything: it is a label: what it is worth is what the hold of that sum in a sandbox is worth. -/
noncomputable def Try.pinned : Pinned := { name := "ytilmgimaaicamaa", sum := "fc82b56587a9f644e59f22e6a3d2787ec7f275d58e329fe731032d39180871e6", checked := Try.checked }
namespace Rows
def none {H : Type} : Left H := { results := [], args := [] }

/-- 'laws.FnExactStrengthOf': WHATEVER THE INPUT: true; the input reads as it did. -/
def fnExactStrengthOfSpec : ChangeSpec := { name := "fnExactStrengthOf", fn := fun _ => fun
  | [d] => { results := [.lit (.bool true)], args := [d] }
  | _ => none }
def fnExactStrengthOfRow : OpenClaim := { program := "ytilmgimaaicamaa", sum := "fc82b56587a9f644e59f22e6a3d2787ec7f275d58e329fe731032d39180871e6", func := "loop.example/spreadspectrum/laws.FnExactStrengthOf", spec := "fnExactStrengthOf", apart := false }
def FnExactStrengthOfSaid : Prop := fnExactStrengthOfRow.holds Try.pinned (OpenSpec.ofChange fnExactStrengthOfSpec)

/-- ITS FALSE NEIGHBOUR: 'it returns false'. Refute it at one input. -/
def fnExactStrengthOfWrong : ChangeSpec := { name := "fnExactStrengthOf", fn := fun _ => fun
  | [d] => { results := [.lit (.bool false)], args := [d] }
  | _ => none }
def FnExactStrengthOfWrongFalsely : Prop := fnExactStrengthOfRow.holds Try.pinned (OpenSpec.ofChange fnExactStrengthOfWrong)

/-- 'laws.FnExactPowerGoal': WHATEVER THE INPUT: true; the input reads as it did. -/
def fnExactPowerGoalSpec : ChangeSpec := { name := "fnExactPowerGoal", fn := fun _ => fun
  | [d1, d2] => { results := [.lit (.bool true)], args := [d1, d2] }
  | _ => none }
def fnExactPowerGoalRow : OpenClaim := { program := "ytilmgimaaicamaa", sum := "fc82b56587a9f644e59f22e6a3d2787ec7f275d58e329fe731032d39180871e6", func := "loop.example/spreadspectrum/laws.FnExactPowerGoal", spec := "fnExactPowerGoal", apart := false }
def FnExactPowerGoalSaid : Prop := fnExactPowerGoalRow.holds Try.pinned (OpenSpec.ofChange fnExactPowerGoalSpec)

/-- ITS FALSE NEIGHBOUR: 'it returns false'. Refute it at one input. -/
def fnExactPowerGoalWrong : ChangeSpec := { name := "fnExactPowerGoal", fn := fun _ => fun
  | [d1, d2] => { results := [.lit (.bool false)], args := [d1, d2] }
  | _ => none }
def FnExactPowerGoalWrongFalsely : Prop := fnExactPowerGoalRow.holds Try.pinned (OpenSpec.ofChange fnExactPowerGoalWrong)

/-- 'laws.FnExactCellValid': WHATEVER THE INPUT: true; the input reads as it did. -/
def fnExactCellValidSpec : ChangeSpec := { name := "fnExactCellValid", fn := fun _ => fun
  | [d] => { results := [.lit (.bool true)], args := [d] }
  | _ => none }
def fnExactCellValidRow : OpenClaim := { program := "ytilmgimaaicamaa", sum := "fc82b56587a9f644e59f22e6a3d2787ec7f275d58e329fe731032d39180871e6", func := "loop.example/spreadspectrum/laws.FnExactCellValid", spec := "fnExactCellValid", apart := false }
def FnExactCellValidSaid : Prop := fnExactCellValidRow.holds Try.pinned (OpenSpec.ofChange fnExactCellValidSpec)

/-- ITS FALSE NEIGHBOUR: 'it returns false'. Refute it at one input. -/
def fnExactCellValidWrong : ChangeSpec := { name := "fnExactCellValid", fn := fun _ => fun
  | [d] => { results := [.lit (.bool false)], args := [d] }
  | _ => none }
def FnExactCellValidWrongFalsely : Prop := fnExactCellValidRow.holds Try.pinned (OpenSpec.ofChange fnExactCellValidWrong)

/-- 'laws.FnExactPowerTime': WHATEVER THE INPUT: true; the input reads as it did. -/
def fnExactPowerTimeSpec : ChangeSpec := { name := "fnExactPowerTime", fn := fun _ => fun
  | [d1, d2] => { results := [.lit (.bool true)], args := [d1, d2] }
  | _ => none }
def fnExactPowerTimeRow : OpenClaim := { program := "ytilmgimaaicamaa", sum := "fc82b56587a9f644e59f22e6a3d2787ec7f275d58e329fe731032d39180871e6", func := "loop.example/spreadspectrum/laws.FnExactPowerTime", spec := "fnExactPowerTime", apart := false }
def FnExactPowerTimeSaid : Prop := fnExactPowerTimeRow.holds Try.pinned (OpenSpec.ofChange fnExactPowerTimeSpec)

/-- ITS FALSE NEIGHBOUR: 'it returns false'. Refute it at one input. -/
def fnExactPowerTimeWrong : ChangeSpec := { name := "fnExactPowerTime", fn := fun _ => fun
  | [d1, d2] => { results := [.lit (.bool false)], args := [d1, d2] }
  | _ => none }
def FnExactPowerTimeWrongFalsely : Prop := fnExactPowerTimeRow.holds Try.pinned (OpenSpec.ofChange fnExactPowerTimeWrong)

/-- 'laws.FnExactReleaseStation': WHATEVER THE INPUT: true; the input reads as it did. -/
def fnExactReleaseStationSpec : ChangeSpec := { name := "fnExactReleaseStation", fn := fun _ => fun
  | [d1, d2] => { results := [.lit (.bool true)], args := [d1, d2] }
  | _ => none }
def fnExactReleaseStationRow : OpenClaim := { program := "ytilmgimaaicamaa", sum := "fc82b56587a9f644e59f22e6a3d2787ec7f275d58e329fe731032d39180871e6", func := "loop.example/spreadspectrum/laws.FnExactReleaseStation", spec := "fnExactReleaseStation", apart := false }
def FnExactReleaseStationSaid : Prop := fnExactReleaseStationRow.holds Try.pinned (OpenSpec.ofChange fnExactReleaseStationSpec)

/-- ITS FALSE NEIGHBOUR: 'it returns false'. Refute it at one input. -/
def fnExactReleaseStationWrong : ChangeSpec := { name := "fnExactReleaseStation", fn := fun _ => fun
  | [d1, d2] => { results := [.lit (.bool false)], args := [d1, d2] }
  | _ => none }
def FnExactReleaseStationWrongFalsely : Prop := fnExactReleaseStationRow.holds Try.pinned (OpenSpec.ofChange fnExactReleaseStationWrong)

/-- 'laws.FnExactPowerStep': WHATEVER THE INPUT: true; the input reads as it did. -/
def fnExactPowerStepSpec : ChangeSpec := { name := "fnExactPowerStep", fn := fun _ => fun
  | [d1, d2] => { results := [.lit (.bool true)], args := [d1, d2] }
  | _ => none }
def fnExactPowerStepRow : OpenClaim := { program := "ytilmgimaaicamaa", sum := "fc82b56587a9f644e59f22e6a3d2787ec7f275d58e329fe731032d39180871e6", func := "loop.example/spreadspectrum/laws.FnExactPowerStep", spec := "fnExactPowerStep", apart := false }
def FnExactPowerStepSaid : Prop := fnExactPowerStepRow.holds Try.pinned (OpenSpec.ofChange fnExactPowerStepSpec)

/-- ITS FALSE NEIGHBOUR: 'it returns false'. Refute it at one input. -/
def fnExactPowerStepWrong : ChangeSpec := { name := "fnExactPowerStep", fn := fun _ => fun
  | [d1, d2] => { results := [.lit (.bool false)], args := [d1, d2] }
  | _ => none }
def FnExactPowerStepWrongFalsely : Prop := fnExactPowerStepRow.holds Try.pinned (OpenSpec.ofChange fnExactPowerStepWrong)

/-- 'laws.FnExactAdmitStation': WHATEVER THE INPUT: true; the input reads as it did. -/
def fnExactAdmitStationSpec : ChangeSpec := { name := "fnExactAdmitStation", fn := fun _ => fun
  | [d1, d2, d3, d4] => { results := [.lit (.bool true)], args := [d1, d2, d3, d4] }
  | _ => none }
def fnExactAdmitStationRow : OpenClaim := { program := "ytilmgimaaicamaa", sum := "fc82b56587a9f644e59f22e6a3d2787ec7f275d58e329fe731032d39180871e6", func := "loop.example/spreadspectrum/laws.FnExactAdmitStation", spec := "fnExactAdmitStation", recurses := true, apart := false }
def FnExactAdmitStationSaid : Prop := fnExactAdmitStationRow.holds Try.pinned (OpenSpec.ofChange fnExactAdmitStationSpec)

/-- ITS FALSE NEIGHBOUR: 'it returns false'. Refute it at one input. -/
def fnExactAdmitStationWrong : ChangeSpec := { name := "fnExactAdmitStation", fn := fun _ => fun
  | [d1, d2, d3, d4] => { results := [.lit (.bool false)], args := [d1, d2, d3, d4] }
  | _ => none }
def FnExactAdmitStationWrongFalsely : Prop := fnExactAdmitStationRow.holds Try.pinned (OpenSpec.ofChange fnExactAdmitStationWrong)

/-- 'laws.FnExactSyncHops': WHATEVER THE INPUT: true; the input reads as it did. -/
def fnExactSyncHopsSpec : ChangeSpec := { name := "fnExactSyncHops", fn := fun _ => fun
  | [d1, d2, d3, d4] => { results := [.lit (.bool true)], args := [d1, d2, d3, d4] }
  | _ => none }
def fnExactSyncHopsRow : OpenClaim := { program := "ytilmgimaaicamaa", sum := "fc82b56587a9f644e59f22e6a3d2787ec7f275d58e329fe731032d39180871e6", func := "loop.example/spreadspectrum/laws.FnExactSyncHops", spec := "fnExactSyncHops", apart := false }
def FnExactSyncHopsSaid : Prop := fnExactSyncHopsRow.holds Try.pinned (OpenSpec.ofChange fnExactSyncHopsSpec)

/-- ITS FALSE NEIGHBOUR: 'it returns false'. Refute it at one input. -/
def fnExactSyncHopsWrong : ChangeSpec := { name := "fnExactSyncHops", fn := fun _ => fun
  | [d1, d2, d3, d4] => { results := [.lit (.bool false)], args := [d1, d2, d3, d4] }
  | _ => none }
def FnExactSyncHopsWrongFalsely : Prop := fnExactSyncHopsRow.holds Try.pinned (OpenSpec.ofChange fnExactSyncHopsWrong)

/-- 'laws.FnExactCellSignal': WHATEVER THE INPUT: true; the input reads as it did. -/
def fnExactCellSignalSpec : ChangeSpec := { name := "fnExactCellSignal", fn := fun _ => fun
  | [d1, d2] => { results := [.lit (.bool true)], args := [d1, d2] }
  | _ => none }
def fnExactCellSignalRow : OpenClaim := { program := "ytilmgimaaicamaa", sum := "fc82b56587a9f644e59f22e6a3d2787ec7f275d58e329fe731032d39180871e6", func := "loop.example/spreadspectrum/laws.FnExactCellSignal", spec := "fnExactCellSignal", apart := false }
def FnExactCellSignalSaid : Prop := fnExactCellSignalRow.holds Try.pinned (OpenSpec.ofChange fnExactCellSignalSpec)

/-- ITS FALSE NEIGHBOUR: 'it returns false'. Refute it at one input. -/
def fnExactCellSignalWrong : ChangeSpec := { name := "fnExactCellSignal", fn := fun _ => fun
  | [d1, d2] => { results := [.lit (.bool false)], args := [d1, d2] }
  | _ => none }
def FnExactCellSignalWrongFalsely : Prop := fnExactCellSignalRow.holds Try.pinned (OpenSpec.ofChange fnExactCellSignalWrong)

/-- 'laws.FnExactCellReceive': WHATEVER THE INPUT: true; the input reads as it did. -/
def fnExactCellReceiveSpec : ChangeSpec := { name := "fnExactCellReceive", fn := fun _ => fun
  | [d1, d2, d3, d4] => { results := [.lit (.bool true)], args := [d1, d2, d3, d4] }
  | _ => none }
def fnExactCellReceiveRow : OpenClaim := { program := "ytilmgimaaicamaa", sum := "fc82b56587a9f644e59f22e6a3d2787ec7f275d58e329fe731032d39180871e6", func := "loop.example/spreadspectrum/laws.FnExactCellReceive", spec := "fnExactCellReceive", apart := false }
def FnExactCellReceiveSaid : Prop := fnExactCellReceiveRow.holds Try.pinned (OpenSpec.ofChange fnExactCellReceiveSpec)

/-- ITS FALSE NEIGHBOUR: 'it returns false'. Refute it at one input. -/
def fnExactCellReceiveWrong : ChangeSpec := { name := "fnExactCellReceive", fn := fun _ => fun
  | [d1, d2, d3, d4] => { results := [.lit (.bool false)], args := [d1, d2, d3, d4] }
  | _ => none }
def FnExactCellReceiveWrongFalsely : Prop := fnExactCellReceiveRow.holds Try.pinned (OpenSpec.ofChange fnExactCellReceiveWrong)

/- THE SECOND FORM. 'bulk': how many values and letters a reading holds, each counted each time it is reached (what is shared counts as often as it is met; a slice's spare places count too). A statement '..UptoSaid' is the law's where the arguments, and the package variables that the reading takes, are together of bulk at most 1048576: NARROWER than '..Said'. Prove '..Said' where nothing that the law and all that it calls make is longer than what came in: it says more and counts as full. Else prove '..UptoSaid'. A law counts once. -/
mutual
def uptoBulk {H : Type} : DataW H → Nat
  | .lit (.string bytes) => bytes.length + 1
  | .lit _ => 1
  | .nil => 1
  | .ptr d => uptoBulk d + 1
  | .slice elems spare => uptoBulkAll elems + uptoBulkAll spare + 1
  | .agg parts => uptoBulkAll parts + 1
  | .iface _ d => uptoBulk d + 1
  | .map entries => uptoBulkEntries entries + 1
  | .held _ => 1
def uptoBulkAll {H : Type} : List (DataW H) → Nat
  | [] => 0
  | d :: r => uptoBulk d + uptoBulkAll r
def uptoBulkEntries {H : Type} : List (Lit × DataW H) → Nat
  | [] => 0
  | x :: r => uptoBulkEntry x + uptoBulkEntries r
def uptoBulkEntry {H : Type} : Lit × DataW H → Nat
  | (.string bytes, d) => bytes.length + uptoBulk d + 1
  | (_, d) => uptoBulk d + 1
 end
def uptoSmall : (H : Type) → List (DataW H) → Bool := fun _ ds => decide (uptoBulkAll ds ≤ 1048576)
def OpenSpec.upto (s : _root_.Go.ChangeSpec) : _root_.Go.OpenSpec := { _root_.Go.OpenSpec.ofChange s with cond := some uptoSmall }

/-- 'laws.FnExactStrengthOf', WHERE WHAT IT READS IS OF BULK AT MOST 1048576: true; the input reads as it did. -/
def fnExactStrengthOfUptoRow : OpenClaim := { program := "ytilmgimaaicamaa", sum := "fc82b56587a9f644e59f22e6a3d2787ec7f275d58e329fe731032d39180871e6", func := "loop.example/spreadspectrum/laws.FnExactStrengthOf", spec := "fnExactStrengthOf", apart := false, narrowed := true }
def FnExactStrengthOfUptoSaid : Prop := fnExactStrengthOfUptoRow.holds Try.pinned (OpenSpec.upto fnExactStrengthOfSpec)

/-- 'laws.FnExactPowerGoal', WHERE WHAT IT READS IS OF BULK AT MOST 1048576: true; the input reads as it did. -/
def fnExactPowerGoalUptoRow : OpenClaim := { program := "ytilmgimaaicamaa", sum := "fc82b56587a9f644e59f22e6a3d2787ec7f275d58e329fe731032d39180871e6", func := "loop.example/spreadspectrum/laws.FnExactPowerGoal", spec := "fnExactPowerGoal", apart := false, narrowed := true }
def FnExactPowerGoalUptoSaid : Prop := fnExactPowerGoalUptoRow.holds Try.pinned (OpenSpec.upto fnExactPowerGoalSpec)

/-- 'laws.FnExactCellValid', WHERE WHAT IT READS IS OF BULK AT MOST 1048576: true; the input reads as it did. -/
def fnExactCellValidUptoRow : OpenClaim := { program := "ytilmgimaaicamaa", sum := "fc82b56587a9f644e59f22e6a3d2787ec7f275d58e329fe731032d39180871e6", func := "loop.example/spreadspectrum/laws.FnExactCellValid", spec := "fnExactCellValid", apart := false, narrowed := true }
def FnExactCellValidUptoSaid : Prop := fnExactCellValidUptoRow.holds Try.pinned (OpenSpec.upto fnExactCellValidSpec)

/-- 'laws.FnExactPowerTime', WHERE WHAT IT READS IS OF BULK AT MOST 1048576: true; the input reads as it did. -/
def fnExactPowerTimeUptoRow : OpenClaim := { program := "ytilmgimaaicamaa", sum := "fc82b56587a9f644e59f22e6a3d2787ec7f275d58e329fe731032d39180871e6", func := "loop.example/spreadspectrum/laws.FnExactPowerTime", spec := "fnExactPowerTime", apart := false, narrowed := true }
def FnExactPowerTimeUptoSaid : Prop := fnExactPowerTimeUptoRow.holds Try.pinned (OpenSpec.upto fnExactPowerTimeSpec)

/-- 'laws.FnExactReleaseStation', WHERE WHAT IT READS IS OF BULK AT MOST 1048576: true; the input reads as it did. -/
def fnExactReleaseStationUptoRow : OpenClaim := { program := "ytilmgimaaicamaa", sum := "fc82b56587a9f644e59f22e6a3d2787ec7f275d58e329fe731032d39180871e6", func := "loop.example/spreadspectrum/laws.FnExactReleaseStation", spec := "fnExactReleaseStation", apart := false, narrowed := true }
def FnExactReleaseStationUptoSaid : Prop := fnExactReleaseStationUptoRow.holds Try.pinned (OpenSpec.upto fnExactReleaseStationSpec)

/-- 'laws.FnExactPowerStep', WHERE WHAT IT READS IS OF BULK AT MOST 1048576: true; the input reads as it did. -/
def fnExactPowerStepUptoRow : OpenClaim := { program := "ytilmgimaaicamaa", sum := "fc82b56587a9f644e59f22e6a3d2787ec7f275d58e329fe731032d39180871e6", func := "loop.example/spreadspectrum/laws.FnExactPowerStep", spec := "fnExactPowerStep", apart := false, narrowed := true }
def FnExactPowerStepUptoSaid : Prop := fnExactPowerStepUptoRow.holds Try.pinned (OpenSpec.upto fnExactPowerStepSpec)

/-- 'laws.FnExactAdmitStation', WHERE WHAT IT READS IS OF BULK AT MOST 1048576: true; the input reads as it did. -/
def fnExactAdmitStationUptoRow : OpenClaim := { program := "ytilmgimaaicamaa", sum := "fc82b56587a9f644e59f22e6a3d2787ec7f275d58e329fe731032d39180871e6", func := "loop.example/spreadspectrum/laws.FnExactAdmitStation", spec := "fnExactAdmitStation", recurses := true, apart := false, narrowed := true }
def FnExactAdmitStationUptoSaid : Prop := fnExactAdmitStationUptoRow.holds Try.pinned (OpenSpec.upto fnExactAdmitStationSpec)

/-- 'laws.FnExactSyncHops', WHERE WHAT IT READS IS OF BULK AT MOST 1048576: true; the input reads as it did. -/
def fnExactSyncHopsUptoRow : OpenClaim := { program := "ytilmgimaaicamaa", sum := "fc82b56587a9f644e59f22e6a3d2787ec7f275d58e329fe731032d39180871e6", func := "loop.example/spreadspectrum/laws.FnExactSyncHops", spec := "fnExactSyncHops", apart := false, narrowed := true }
def FnExactSyncHopsUptoSaid : Prop := fnExactSyncHopsUptoRow.holds Try.pinned (OpenSpec.upto fnExactSyncHopsSpec)

/-- 'laws.FnExactCellSignal', WHERE WHAT IT READS IS OF BULK AT MOST 1048576: true; the input reads as it did. -/
def fnExactCellSignalUptoRow : OpenClaim := { program := "ytilmgimaaicamaa", sum := "fc82b56587a9f644e59f22e6a3d2787ec7f275d58e329fe731032d39180871e6", func := "loop.example/spreadspectrum/laws.FnExactCellSignal", spec := "fnExactCellSignal", apart := false, narrowed := true }
def FnExactCellSignalUptoSaid : Prop := fnExactCellSignalUptoRow.holds Try.pinned (OpenSpec.upto fnExactCellSignalSpec)

/-- 'laws.FnExactCellReceive', WHERE WHAT IT READS IS OF BULK AT MOST 1048576: true; the input reads as it did. -/
def fnExactCellReceiveUptoRow : OpenClaim := { program := "ytilmgimaaicamaa", sum := "fc82b56587a9f644e59f22e6a3d2787ec7f275d58e329fe731032d39180871e6", func := "loop.example/spreadspectrum/laws.FnExactCellReceive", spec := "fnExactCellReceive", apart := false, narrowed := true }
def FnExactCellReceiveUptoSaid : Prop := fnExactCellReceiveUptoRow.holds Try.pinned (OpenSpec.upto fnExactCellReceiveSpec)

end Rows
end Go.Proofs.Ytilmgimaaicamaa
