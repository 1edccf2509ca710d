/- Mk -/
import Derived.Test.YtcjihfongfefoaaGreatDoorJ03
import Derived.Test.YtcjihfongfefoaaGreatDoorJ04
import Derived.Deep.RegionHeld3
import Derived.IntWalk
namespace Go.Proofs.YtcjihfongfefoaaGreatDoor
open Go.RowKit
theorem Zaji {a b:ByteArray} (h:a=b):Ending.returned (.string a)= .returned (.string b):=by rw[h]
theorem Zgg (v:Int):(text [v]).size=1:=Zaq _
end Go.Proofs.YtcjihfongfefoaaGreatDoor
