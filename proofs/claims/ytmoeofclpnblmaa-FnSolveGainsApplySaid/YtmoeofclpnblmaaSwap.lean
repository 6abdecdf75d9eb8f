/- The program's VisSwap. -/
import Derived.Test.YtmoeofclpnblmaaVisB
import Derived.Test.YtmoeofclpnblmaaSwapM
import Derived.Test.YtmoeofclpnblmaaBases
import Derived.Maps.AppendAt
import Derived.Laws.EntriesVeiled
namespace Go.Proofs.Ytmoeofclpnblmaa
open Go.RowKit Go.Shelf

attribute [local go_sem] Oper.semAt_some


end Go.Proofs.Ytmoeofclpnblmaa
