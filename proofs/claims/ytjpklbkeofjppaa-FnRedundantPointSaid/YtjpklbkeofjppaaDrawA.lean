/- Contracts: skies and grids that are drawn from a code. -/
import Derived.Test.YtjpklbkeofjppaaPick
namespace Go.Proofs.Ytjpklbkeofjppaa
open Go.RowKit

/-- A slice that stays readable while the reader in block R is asked. -/
def KRd (R : Nat) (w : World) (size : Nat) (A : Option Addr) (n c : Nat) (xs : List Value) : Prop := ∀ w', w.grownBy w' (some R) → Rd w' w'.heap.size size A n c xs
theorem KRd.rd {R : Nat} {w : World} {size : Nat} {A : Option Addr} {n c : Nat} {xs : List Value} (h : KRd R w size A n c xs) : Rd w w.heap.size size A n c xs := h w (World.grownBy.refl w _)
theorem KRd.next {R : Nat} {w w' : World} {size : Nat} {A : Option Addr} {n c : Nat} {xs : List Value} (h : KRd R w size A n c xs) (hg : w.grownBy w' (some R)) : KRd R w' size A n c xs := fun _ hg' => h _ (gTrans hg hg')
theorem KRd.of_own {R : Nat} {w : World} {size base n c : Nat} {e : TypeId} {A : Option Addr} {xs : List Value} (h : w.ownsRow base e size (.slice A n c) n xs) (hR : R < base) : KRd R w size A n c xs :=
  fun _ hg => Rd.of_own (own_g h hg hR)
theorem KRd.of_own_tail {R : Nat} {w : World} {size base n c g : Nat} {e : TypeId} {xs : List Value} (h : w.ownsRow base e size (.slice (some ⟨g, 0, none⟩) n c) n xs) (hR : R < base) (hn : 1 ≤ n) :
    KRd R w size (some ⟨g, size, none⟩) (n - 1) (c - 1) (xs.drop size) := by
  intro w' hg
  have hr := Rd.of_own (own_g h hg hR)
  refine ⟨?_, by have := hr.cap; omega, by have := hr.most; omega, fun _ => ?_⟩
  · rw [List.length_drop, hr.len, Nat.sub_mul, Nat.one_mul]
  · obtain ⟨b, off, e1, hb, hc⟩ := hr.at_ (by omega)
    injection e1 with e1
    injection e1 with e1 e2
    subst e1 e2
    refine ⟨g, size, rfl, hb, fun j u hu => ?_⟩
    rw [List.getElem?_drop] at hu
    have := hc _ u hu
    rwa [Nat.zero_add] at this

def z16 : List Int := List.replicate 16 0
theorem make16I (w : World) : (Instr.makeSlice 29 (.int .i64 16) (.int .i64 16)).run Try.prog w = .ok (.slice (some ⟨w.heap.size, 0, none⟩) 16 16) (w.alloc (.cells (ci z16).toArray 3)) := by kernel_rfl


end Go.Proofs.Ytjpklbkeofjppaa
