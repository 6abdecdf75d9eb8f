/- Contracts: the reference's visibilities and closure phases. -/
import Derived.Test.YtjpklbkeofjppaaVisB
namespace Go.Proofs.Ytjpklbkeofjppaa
open Go.RowKit





end Go.Proofs.Ytjpklbkeofjppaa
