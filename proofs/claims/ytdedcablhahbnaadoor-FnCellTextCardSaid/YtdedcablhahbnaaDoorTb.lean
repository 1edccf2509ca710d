/- The post of a function that hands back a text and a bool. -/
import Derived.Test.YtdedcablhahbnaaDoorG
namespace Go.Proofs.YtdedcablhahbnaaDoor
open Go.RowKit

/-- The post of a function that hands back a text and a bool. -/
def RetTB (w : World) (r : Option ByteArray) (e : Ending) (w' : World) : Prop := e = .returned (.tuple #[.string (r.getD ByteArray.empty), .bool r.isSome]) ∧ Below w.heap.size w w'
theorem retTB_none {w w' : World} {r : Option ByteArray} (hr : r = none) (hb : Below w.heap.size w w') : RetTB w r (.returned (.tuple #[.string ⟨#[]⟩, .bool false])) w' := by
  subst hr; exact ⟨rfl, hb⟩
theorem retTB_some {w w' : World} {r : Option ByteArray} {s : ByteArray} (hr : r = some s) (hb : Below w.heap.size w w') : RetTB w r (.returned (.tuple #[.string s, .bool true])) w' := by
  subst hr; exact ⟨rfl, hb⟩

end Go.Proofs.YtdedcablhahbnaaDoor
