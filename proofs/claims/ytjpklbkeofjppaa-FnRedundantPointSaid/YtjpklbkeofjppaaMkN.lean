/- Lists over the first baselines. -/
import Derived.Test.YtjpklbkeofjppaaBases
namespace Go.Proofs.Ytjpklbkeofjppaa
open Go.RowKit

/-- The first k baselines. -/
def mkN (N k : Nat) (f : Int → Int → Int × Int) : List (Int × Int) := ((Vm.basesL N).take k).map fun p => f p.1 p.2
theorem mkN_zero (N : Nat) (f : Int → Int → Int × Int) : mkN N 0 f = [] := rfl
theorem mkN_step {N i j : Nat} (hN : N ≤ 7) (hij : i < j) (hj : j < N) (f : Int → Int → Int × Int) : cp (mkN N (Vm.bt N i (j + 1)) f) = cp (mkN N (Vm.bt N i j) f) ++ [.int .i64 (f i j).1, .int .i64 (f i j).2] ∧ (mkN N (Vm.bt N i (j + 1)) f).length = (mkN N (Vm.bt N i j) f).length + 1 := by
  have e := (take_prefix hN hij hj).2
  unfold mkN
  rw [← e, List.map_append, cp_append, List.length_append]
  exact ⟨rfl, rfl⟩
theorem mkN_len {N : Nat} (hN : N ≤ 7) (k : Nat) (f : Int → Int → Int × Int) : (mkN N k f).length ≤ 21 := by
  unfold mkN
  rw [List.length_map, List.length_take, (Vm.bt_zero_all N (by omega)).2.1]
  have := Vm.many_le N (by omega)
  omega
theorem mkN_all {N : Nat} (hN : N ≤ 7) (f : Int → Int → Int × Int) : mkN N (Vm.bt N N (N + 1)) f = Vm.mk N f := by
  obtain ⟨_, e1, e2⟩ := Vm.bt_zero_all N (by omega)
  unfold mkN Vm.mk
  rw [e2, ← e1, List.take_length]

end Go.Proofs.Ytjpklbkeofjppaa
