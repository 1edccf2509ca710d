/- ParseFrame of the reference. No condition beyond lengths. -/
import Derived.Test.YtadcckjlcmnhbaaKd
namespace Go.Proofs.Ytadcckjlcmnhbaa
open Go.RowKit

end Go.Proofs.Ytadcckjlcmnhbaa
