/- FindFrame of the program and of the reference. No condition beyond lengths. -/
import Derived.Test.YtbgabjdgbibohaaKe
namespace Go.Proofs.Ytbgabjdgbibohaa
open Go.RowKit

end Go.Proofs.Ytbgabjdgbibohaa
