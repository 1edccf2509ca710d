/- FindFrame of the program and of the reference. No condition beyond lengths. -/
import Derived.Test.YtmoamgmhdeckmaaKe
namespace Go.Proofs.Ytmoamgmhdeckmaa
open Go.RowKit

end Go.Proofs.Ytmoamgmhdeckmaa
