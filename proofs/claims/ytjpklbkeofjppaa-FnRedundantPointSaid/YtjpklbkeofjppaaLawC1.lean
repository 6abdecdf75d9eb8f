/- The laws on closure phases of three antennas: FnClosePhase, FnCloseFour, FnCloseLoop. -/
import Derived.Test.YtjpklbkeofjppaaDrawC
namespace Go.Proofs.Ytjpklbkeofjppaa
open Go.RowKit

theorem loopP_bd (n : Int) (L : List (Int × Int)) (l : List Int) : 0 ≤ Vm.loopP n L l ∧ Vm.loopP n L l < 360 := by
  unfold Vm.loopP
  split <;> omega
theorem getD_at (l : List Int) (k : Nat) (h : k < l.length) : l.getD k 0 = l[k] := by simp [h]
theorem pig {i j k : Int} {q : Nat} (h : ∀ r : Nat, r < q → (r : Int) = i ∨ (r : Int) = j ∨ (r : Int) = k) : q ≤ 3 := by
  apply Classical.byContradiction
  intro hq
  have h0 := h 0 (by omega)
  have h1 := h 1 (by omega)
  have h2 := h 2 (by omega)
  have h3 := h 3 (by omega)
  omega
theorem pig_next {i j k : Int} {q : Nat} (h : ∀ r : Nat, r < q → (r : Int) = i ∨ (r : Int) = j ∨ (r : Int) = k) (hq : (q : Int) = i ∨ (q : Int) = j ∨ (q : Int) = k) : ∀ r : Nat, r < q + 1 → (r : Int) = i ∨ (r : Int) = j ∨ (r : Int) = k := by
  intro r hr
  by_cases e : r = q
  · subst e; exact hq
  · exact h r (by omega)

end Go.Proofs.Ytjpklbkeofjppaa
