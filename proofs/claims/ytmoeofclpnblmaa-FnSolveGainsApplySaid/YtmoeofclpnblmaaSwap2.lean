/- VisSwap of the program and of the reference; VisGet; drawing and comparing visibilities. -/
import Derived.Test.YtmoeofclpnblmaaSwap
import Derived.Test.YtmoeofclpnblmaaDrawC
import Derived.Test.YtmoeofclpnblmaaMkN
namespace Go.Proofs.Ytmoeofclpnblmaa
open Go.RowKit



end Go.Proofs.Ytmoeofclpnblmaa
