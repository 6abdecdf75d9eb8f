/- The exact laws FnExactClosePhase and FnExactCloseLoop. -/
import Derived.Test.YtmoeofclpnblmaaExactC
namespace Go.Proofs.Ytmoeofclpnblmaa
open Go.RowKit

theorem szR_neg {left : Int} {n : Nat} (h : left < n) : szR left n = -1 := by unfold szR; rw [if_pos (by omega)]
theorem szR_pos {left : Int} {n : Nat} (h : (n : Int) ≤ left) : szR left n = left - n := by unfold szR; rw [if_neg (by omega)]

end Go.Proofs.Ytmoeofclpnblmaa
