/- The program's VisSwap. -/
import Derived.Test.YtjpklbkeofjppaaVisB
import Derived.Test.YtjpklbkeofjppaaSwapM
import Derived.Test.YtjpklbkeofjppaaBases
import Derived.Maps.AppendAt
import Derived.Laws.EntriesVeiled
namespace Go.Proofs.Ytjpklbkeofjppaa
open Go.RowKit Go.Shelf

attribute [local go_sem] Oper.semAt_some


end Go.Proofs.Ytjpklbkeofjppaa
