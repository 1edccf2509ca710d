/- FindFrame of the program and of the reference. No condition beyond lengths. -/
import Derived.Test.YtadcckjlcmnhbaaKe
namespace Go.Proofs.Ytadcckjlcmnhbaa
open Go.RowKit

end Go.Proofs.Ytadcckjlcmnhbaa
