/- HopSequence of the program and of the reference. No condition. -/
import Derived.Test.YtdedcablhahbnaaDoorRj
import Derived.Test.YtdedcablhahbnaaDoorHl
namespace Go.Proofs.YtdedcablhahbnaaDoor
open Go.RowKit

end Go.Proofs.YtdedcablhahbnaaDoor
