/- The program's visibilities of a base. -/
import Derived.Test.YtjpklbkeofjppaaBaseA
import Derived.Test.YtjpklbkeofjppaaBases
import Derived.Maps.AppendAt
import Derived.Laws.EntriesVeiled
namespace Go.Proofs.Ytjpklbkeofjppaa
open Go.RowKit Go.Shelf

attribute [local go_sem] Oper.semAt_some

theorem prefix_at {N : Nat} (h7 : N ≤ 7) {pre : List (Nat × Nat)} {x : Nat × Nat} (h : (pre ++ [x]) <+: Vm.basesL N) : pre.length = Vm.bt N x.1 x.2 ∧ x.1 < x.2 ∧ x.2 < N ∧ pre.length < N * (N - 1) / 2 ∧ pre = (Vm.basesL N).take pre.length := by
  obtain ⟨q, hq⟩ := h
  have hl := (Vm.bt_zero_all N (by omega)).2.1
  have hk : pre.length < N * (N - 1) / 2 := by
    rw [← hl, ← hq]; simp
  have hle := Vm.many_le N (by omega)
  obtain ⟨p, _, hp, h1, h2, h3⟩ := Vm.bt_inv_all N (by omega) pre.length (by omega) hk
  have e : (Vm.basesL N)[pre.length]? = some x := by rw [← hq]; simp
  rw [e] at hp
  obtain rfl : x = p := by simpa using hp
  exact ⟨h3.symm, h1, h2, hk, by rw [← hq]; simp⟩
theorem new_cells' (w : World) (B : Nat) (cs : Array Value) (t : TypeId) (hB : B = w.heap.size) : ∀ j u, cs.toList[j]? = some u → (w.alloc (.cells cs t)).cell? ((⟨B, 0, none⟩ : Addr).add j) = some u := by subst hB; exact new_cells w cs t
theorem own_head {w : World} {base size n : Nat} {e : TypeId} {v : Value} {xs : List Value} (h : w.ownsRow base e size v n xs) (hn : 0 < n) : ∃ g c, v = .slice (some ⟨g, 0, none⟩) n c := by
  rcases h.2 with ⟨_, h0⟩ | ⟨g, cap, cur, rfl, _⟩
  · have := h.1; rw [h0] at this
    rename_i hv
    subst hv
    cases hl : xs <;> simp_all
  · exact ⟨_, _, rfl⟩

end Go.Proofs.Ytjpklbkeofjppaa
