/-
  No cell of these rows narrows 'for every input' (looked for: loops, veiled, ifaces, maps, wideKeys, modest, calm, conditions, laid).
  DERIVED. THE GIVEN ROWS OF THIS SEAT. 3 by the template 'for every input the law returns true; each argument reads behind the call as it read before'; 0 by the template 'total and deterministic' (their statements: YtadcckjlcmnhbaaTotals.lean).
  GIVEN WITH THE SEED: the statements are not yours to turn. If you find one false, say at which input.
  Laid BY PROGRAM, IN A SANDBOX (cutbox-rows.mjs): the forced cells as the released guide's own fill.sh prints them over the translation 13efb38b55011078… (all of the seat's roots in one cut). By AI agents, Wed Nov 11 2026. No macro, syntax, notation, axiom, sorry.
-/
import Derived.Test.YtadcckjlcmnhbaaChecked
import GoSem.Claim
import GoSem.ClaimJoined
import GoSem.ClaimMapViews
import Derived.JoinedTies
import Derived.KernelRfl
namespace Go.Proofs.Ytadcckjlcmnhbaa
/- THE CELL 'sum', in the pinned program and in every row, IS THE sha256 OF THE DUMP (.gsa) THAT YtadcckjlcmnhbaaProg.lean LOADS. Nothing in Lean hashes anything: it is a label: what it is worth is what the hold of that sum in a sandbox is worth. -/
noncomputable def Try.pinned : Pinned := { name := "ytadcckjlcmnhbaa", sum := "13efb38b550110785a2f99768d297cbd9bf75fc620ca567e1684d382f317498e", checked := Try.checked }
namespace Rows
def none {H : Type} : Left H := { results := [], args := [] }

/-- 'laws.FnCellHear': WHATEVER THE INPUT: true; the input reads as it did. -/
def fnCellHearSpec : ChangeSpec := { name := "fnCellHear", fn := fun _ => fun
  | [d] => { results := [.lit (.bool true)], args := [d] }
  | _ => none }
def fnCellHearRow : OpenClaim := { program := "ytadcckjlcmnhbaa", sum := "13efb38b550110785a2f99768d297cbd9bf75fc620ca567e1684d382f317498e", func := "loop.example/spreadspectrum/laws.FnCellHear", spec := "fnCellHear", recurses := true, apart := false }
def FnCellHearSaid : Prop := fnCellHearRow.holds Try.pinned (OpenSpec.ofChange fnCellHearSpec)

/-- ITS FALSE NEIGHBOUR: 'it returns false'. Refute it at one input. -/
def fnCellHearWrong : ChangeSpec := { name := "fnCellHear", fn := fun _ => fun
  | [d] => { results := [.lit (.bool false)], args := [d] }
  | _ => none }
def FnCellHearWrongFalsely : Prop := fnCellHearRow.holds Try.pinned (OpenSpec.ofChange fnCellHearWrong)

/-- 'laws.FnBurst': WHATEVER THE INPUT: true; the input reads as it did. -/
def fnBurstSpec : ChangeSpec := { name := "fnBurst", fn := fun _ => fun
  | [d1, d2] => { results := [.lit (.bool true)], args := [d1, d2] }
  | _ => none }
def fnBurstRow : OpenClaim := { program := "ytadcckjlcmnhbaa", sum := "13efb38b550110785a2f99768d297cbd9bf75fc620ca567e1684d382f317498e", func := "loop.example/spreadspectrum/laws.FnBurst", spec := "fnBurst", inPlace := ["internal/abi.NoEscape", "internal/bytealg.MakeNoZero"], recurses := true, apart := false }
def FnBurstSaid : Prop := fnBurstRow.holds Try.pinned (OpenSpec.ofChange fnBurstSpec)

/-- ITS FALSE NEIGHBOUR: 'it returns false'. Refute it at one input. -/
def fnBurstWrong : ChangeSpec := { name := "fnBurst", fn := fun _ => fun
  | [d1, d2] => { results := [.lit (.bool false)], args := [d1, d2] }
  | _ => none }
def FnBurstWrongFalsely : Prop := fnBurstRow.holds Try.pinned (OpenSpec.ofChange fnBurstWrong)

/-- 'laws.FnCellReceive': WHATEVER THE INPUT: true; the input reads as it did. -/
def fnCellReceiveSpec : ChangeSpec := { name := "fnCellReceive", fn := fun _ => fun
  | [d] => { results := [.lit (.bool true)], args := [d] }
  | _ => none }
def fnCellReceiveRow : OpenClaim := { program := "ytadcckjlcmnhbaa", sum := "13efb38b550110785a2f99768d297cbd9bf75fc620ca567e1684d382f317498e", func := "loop.example/spreadspectrum/laws.FnCellReceive", spec := "fnCellReceive", recurses := true, apart := false }
def FnCellReceiveSaid : Prop := fnCellReceiveRow.holds Try.pinned (OpenSpec.ofChange fnCellReceiveSpec)

/-- ITS FALSE NEIGHBOUR: 'it returns false'. Refute it at one input. -/
def fnCellReceiveWrong : ChangeSpec := { name := "fnCellReceive", fn := fun _ => fun
  | [d] => { results := [.lit (.bool false)], args := [d] }
  | _ => none }
def FnCellReceiveWrongFalsely : Prop := fnCellReceiveRow.holds Try.pinned (OpenSpec.ofChange fnCellReceiveWrong)

/- THE SECOND FORM. 'bulk': how many values and letters a reading holds, each counted each time it is reached (what is shared counts as often as it is met; a slice's spare places count too). A statement '..UptoSaid' is the law's where the arguments, and the package variables that the reading takes, are together of bulk at most 1048576: NARROWER than '..Said'. Prove '..Said' where nothing that the law and all that it calls make is longer than what came in: it says more and counts as full. Else prove '..UptoSaid'. A law counts once. -/
mutual
def uptoBulk {H : Type} : DataW H → Nat
  | .lit (.string bytes) => bytes.length + 1
  | .lit _ => 1
  | .nil => 1
  | .ptr d => uptoBulk d + 1
  | .slice elems spare => uptoBulkAll elems + uptoBulkAll spare + 1
  | .agg parts => uptoBulkAll parts + 1
  | .iface _ d => uptoBulk d + 1
  | .map entries => uptoBulkEntries entries + 1
  | .held _ => 1
def uptoBulkAll {H : Type} : List (DataW H) → Nat
  | [] => 0
  | d :: r => uptoBulk d + uptoBulkAll r
def uptoBulkEntries {H : Type} : List (Lit × DataW H) → Nat
  | [] => 0
  | x :: r => uptoBulkEntry x + uptoBulkEntries r
def uptoBulkEntry {H : Type} : Lit × DataW H → Nat
  | (.string bytes, d) => bytes.length + uptoBulk d + 1
  | (_, d) => uptoBulk d + 1
 end
def uptoSmall : (H : Type) → List (DataW H) → Bool := fun _ ds => decide (uptoBulkAll ds ≤ 1048576)
def OpenSpec.upto (s : _root_.Go.ChangeSpec) : _root_.Go.OpenSpec := { _root_.Go.OpenSpec.ofChange s with cond := some uptoSmall }

/-- 'laws.FnCellHear', WHERE WHAT IT READS IS OF BULK AT MOST 1048576: true; the input reads as it did. -/
def fnCellHearUptoRow : OpenClaim := { program := "ytadcckjlcmnhbaa", sum := "13efb38b550110785a2f99768d297cbd9bf75fc620ca567e1684d382f317498e", func := "loop.example/spreadspectrum/laws.FnCellHear", spec := "fnCellHear", recurses := true, apart := false, narrowed := true }
def FnCellHearUptoSaid : Prop := fnCellHearUptoRow.holds Try.pinned (OpenSpec.upto fnCellHearSpec)

/-- 'laws.FnBurst', WHERE WHAT IT READS IS OF BULK AT MOST 1048576: true; the input reads as it did. -/
def fnBurstUptoRow : OpenClaim := { program := "ytadcckjlcmnhbaa", sum := "13efb38b550110785a2f99768d297cbd9bf75fc620ca567e1684d382f317498e", func := "loop.example/spreadspectrum/laws.FnBurst", spec := "fnBurst", inPlace := ["internal/abi.NoEscape", "internal/bytealg.MakeNoZero"], recurses := true, apart := false, narrowed := true }
def FnBurstUptoSaid : Prop := fnBurstUptoRow.holds Try.pinned (OpenSpec.upto fnBurstSpec)

/-- 'laws.FnCellReceive', WHERE WHAT IT READS IS OF BULK AT MOST 1048576: true; the input reads as it did. -/
def fnCellReceiveUptoRow : OpenClaim := { program := "ytadcckjlcmnhbaa", sum := "13efb38b550110785a2f99768d297cbd9bf75fc620ca567e1684d382f317498e", func := "loop.example/spreadspectrum/laws.FnCellReceive", spec := "fnCellReceive", recurses := true, apart := false, narrowed := true }
def FnCellReceiveUptoSaid : Prop := fnCellReceiveUptoRow.holds Try.pinned (OpenSpec.upto fnCellReceiveSpec)

end Rows
end Go.Proofs.Ytadcckjlcmnhbaa
