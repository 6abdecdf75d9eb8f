/- A row of integers that a loop over all baselines makes. -/
import Derived.Test.YtjpklbkeofjppaaBases
import Derived.Test.YtjpklbkeofjppaaBaseV
namespace Go.Proofs.Ytjpklbkeofjppaa
open Go.RowKit Go.Shelf

def rowJ (K Bo : Nat) (g : List (Nat × Nat) → List Int) (pre : List (Nat × Nat)) (W : World) : Prop := ∃ v, Boxed W Bo 29 v ∧ W.ownsRow K 3 1 v (g pre).length (ci (g pre)) ∧ True
theorem rowJ_own (B' K Bo : Nat) (g : List (Nat × Nat) → List Int) : OwnFrom B' (rowJ K Bo g) := Own.from (holdsRow_own K Bo 29 3 1 (fun pre : List (Nat × Nat) => (g pre).length) (fun pre : List (Nat × Nat) => ci (g pre)) (fun _ _ => True)) B'
theorem Boxed.past_row {W : World} {B K size k : Nat} {t e : TypeId} {u v : Value} {xs : List Value} (_ : Boxed W B t u) (hB : B < K) (hr : W.ownsRow K e size v k xs) : some B ≠ v.ownBlock := fun e' => by
  have := (hr.lt B e'.symm).1
  omega
theorem row_stepJ {w W w2 w3 : World} {K Bo gg cap : Nat} {L : List Int} {y : Int} {v : Value} {tmp : Obj} (hv : Boxed W Bo 29 v) (hrow : W.ownsRow K 3 1 v L.length (ci L)) (hB : Below w.heap.size w W) (hBo : w.heap.size ≤ Bo) (hK : w.heap.size ≤ K)
    (hb2 : Below W.heap.size W w2) (hown3 : w3.ownsRow K 3 1 (.slice (some ⟨gg, 0, none⟩) (L.length + 1) cap) (L.length + 1) (ci L ++ [.int .i64 y])) (hg3 : (w2.alloc tmp).grownBy w3 v.ownBlock) :
    Boxed w3 Bo 29 v ∧ Boxed (w3.setCell ⟨Bo, 0, none⟩ (.slice (some ⟨gg, 0, none⟩) (L.length + 1) cap)) Bo 29 (.slice (some ⟨gg, 0, none⟩) (L.length + 1) cap) ∧ (w3.setCell ⟨Bo, 0, none⟩ (.slice (some ⟨gg, 0, none⟩) (L.length + 1) cap)).ownsRow K 3 1 (.slice (some ⟨gg, 0, none⟩) (L.length + 1) cap) (L ++ [y]).length (ci (L ++ [y])) ∧
      KeepsOthers W (w3.setCell ⟨Bo, 0, none⟩ (.slice (some ⟨gg, 0, none⟩) (L.length + 1) cap)) ∧ Below w.heap.size w (w3.setCell ⟨Bo, 0, none⟩ (.slice (some ⟨gg, 0, none⟩) (L.length + 1) cap)) ∧
      ∀ B t u, Boxed W B t u → B < K → B ≠ Bo → Boxed w3 B t u ∧ Boxed (w3.setCell ⟨Bo, 0, none⟩ (.slice (some ⟨gg, 0, none⟩) (L.length + 1) cap)) B t u := by
  have hv2 := boxed_of_below hv hb2
  have hr2 := own_after hrow hb2
  have hsz : w.heap.size ≤ w2.heap.size := Nat.le_trans hB.size hb2.size
  obtain ⟨a1, a2, a3, a4, a5⟩ := hv2.appended (by decide) (own_less hr2 hK) hsz hBo (own_less hown3 hK) hg3
  have a3' : (w3.setCell ⟨Bo, 0, none⟩ (.slice (some ⟨gg, 0, none⟩) (L.length + 1) cap)).ownsRow K 3 1 (.slice (some ⟨gg, 0, none⟩) (L.length + 1) cap) (L.length + 1) (ci L ++ [.int .i64 y]) :=
    hown3.kept (grownBy_setCell' w3 Bo _) (.inr (a1.not_row (by decide) hown3).symm)
  refine ⟨a1, a2, by rw [List.length_append, ci_append]; exact a3', (keeps_below hb2).trans a4, (bT hB hb2).trans a5, fun B t u hb hlt hne => ?_⟩
  have h2 := (boxed_of_below hb hb2).alloc tmp
  have h3 : Boxed w3 B t u := h2.kept hg3 (Boxed.past_row h2 hlt (hr2.alloc _))
  exact ⟨h3, h3.other hne _⟩
theorem rowJ_next {K Bo gg cap : Nat} {g : List (Nat × Nat) → List Int} {pre : List (Nat × Nat)} {x : Nat × Nat} {y : Int} {W : World} (e : g (pre ++ [x]) = g pre ++ [y]) (h1 : Boxed W Bo 29 (.slice (some ⟨gg, 0, none⟩) ((g pre).length + 1) cap)) (h2 : W.ownsRow K 3 1 (.slice (some ⟨gg, 0, none⟩) ((g pre).length + 1) cap) (g pre ++ [y]).length (ci (g pre ++ [y]))) : rowJ K Bo g (pre ++ [x]) W :=
  ⟨_, h1, by rw [e]; exact h2, trivial⟩

end Go.Proofs.Ytjpklbkeofjppaa
