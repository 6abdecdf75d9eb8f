/- VisSwap of the program and of the reference; VisGet; drawing and comparing visibilities. -/
import Derived.Test.YtjpklbkeofjppaaSwap
import Derived.Test.YtjpklbkeofjppaaDrawC
import Derived.Test.YtjpklbkeofjppaaMkN
namespace Go.Proofs.Ytjpklbkeofjppaa
open Go.RowKit



end Go.Proofs.Ytjpklbkeofjppaa
