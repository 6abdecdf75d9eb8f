/- The program's VisSwap. -/
import Derived.Test.YtgipjfcmgmbcnaaVisB
import Derived.Test.YtgipjfcmgmbcnaaSwapM
import Derived.Test.YtgipjfcmgmbcnaaBases
import Derived.Maps.AppendAt
import Derived.Laws.EntriesVeiled
namespace Go.Proofs.Ytgipjfcmgmbcnaa
open Go.RowKit Go.Shelf

attribute [local go_sem] Oper.semAt_some


end Go.Proofs.Ytgipjfcmgmbcnaa
