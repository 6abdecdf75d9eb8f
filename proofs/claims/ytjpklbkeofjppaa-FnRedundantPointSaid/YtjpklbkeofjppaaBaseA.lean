/- Contracts: bases of closure phases that are valid; what the reference reads of a base. -/
import Derived.Test.YtjpklbkeofjppaaVisC
import Derived.Test.YtjpklbkeofjppaaBaseM2
namespace Go.Proofs.Ytjpklbkeofjppaa
open Go.RowKit

theorem cprod_bd {n : Int} (h1 : 3 ≤ n) (h2 : n ≤ 7) : 0 ≤ (n - 1) * (n - 2) ∧ (n - 1) * (n - 2) ≤ 30 := by
  constructor
  · exact Int.mul_nonneg (by omega) (by omega)
  · have : (n - 1) * (n - 2) ≤ 6 * (n - 2) := Int.mul_le_mul_of_nonneg_right (by omega) (by omega)
    omega
theorem cmany_yes {n : Int} (h1 : 3 ≤ n) (h2 : n ≤ 7) : Vm.cmany n = (n - 1) * (n - 2) / 2 := by simp [Vm.cmany, h1, h2]
theorem cmany_no {n : Int} (h : ¬ (3 ≤ n ∧ n ≤ 7)) : Vm.cmany n = 0 := by
  have e : (decide (3 ≤ n) && decide (n ≤ 7)) = false := by
    rw [Bool.eq_false_iff]; intro e; simp at e; exact h e
  rw [Vm.cmany, e]; rfl
theorem cmany_bd (n : Int) : 0 ≤ Vm.cmany n ∧ Vm.cmany n ≤ 15 := by
  by_cases h : 3 ≤ n ∧ n ≤ 7
  · rw [cmany_yes h.1 h.2]
    have := cprod_bd h.1 h.2
    omega
  · rw [cmany_no h]; omega

end Go.Proofs.Ytjpklbkeofjppaa
