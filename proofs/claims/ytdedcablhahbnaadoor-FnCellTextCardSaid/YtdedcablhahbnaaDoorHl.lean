/- LinearHops of the program and of the reference come to one Lean function, linHops. No condition. -/
import Derived.Test.YtdedcablhahbnaaDoorHv
namespace Go.Proofs.YtdedcablhahbnaaDoor
open Go.RowKit

def linOk (ch u n : Int) : Bool := chB ch && inB u 0 (ch - 1) && inB n 0 300
def linAt (ch u : Int) (i : Nat) : Int := u * i % ch
def linHops (ch u n : Int) : Option (List Int) := if linOk ch u n = true then some ((List.range n.toNat).map (linAt ch u)) else none
theorem linHops_no {ch u n : Int} (h : linOk ch u n = false) : linHops ch u n = none := by simp [linHops, h]
theorem linHops_yes {ch u n : Int} (h : linOk ch u n = true) : linHops ch u n = some ((List.range n.toNat).map (linAt ch u)) := by simp [linHops, h]

end Go.Proofs.YtdedcablhahbnaaDoor
