/- Contracts: the reference's folding. -/
import Derived.Test.YtdcabfobmkdlmaaFold2
namespace Go.Proofs.Ytdcabfobmkdlmaa
open Go.RowKit

/-- After k whole cells of the first sky and l cells of the second one. -/
def fo3 (a b : Nat → Int) (k l x : Nat) : Int := Sky.foldn k a b x + a k * Sky.shn l b k x
def foM (M : List Int) (a b : Nat → Int) (k l : Nat) : Prop := M.length = 16 ∧ ∀ x, x < 16 → M[x]? = some (fo3 a b k l x)
theorem foM_zero (a b : Nat → Int) : foM z16 a b 0 0 := ⟨by simp [z16], fun x hx => by rw [z16, List.getElem?_replicate, if_pos hx]; simp [fo3, Sky.foldn, Sky.shn, Sky.S]⟩
theorem foM_next {M : List Int} {a b : Nat → Int} {k : Nat} (h : foM M a b k 16) : foM M a b (k + 1) 0 := by
  refine ⟨h.1, fun x hx => ?_⟩
  rw [h.2 x hx]
  simp [fo3, Sky.foldn, Sky.shn, Sky.S]
theorem foM_set {M : List Int} {a b : Nat → Int} {k l : Nat} (h : foM M a b k l) (y : Int) (hy : y = fo3 a b k l (Sky.at2 k l) + a k * b l) : foM (M.set (Sky.at2 k l) y) a b k (l + 1) := by
  refine ⟨by simpa using h.1, fun x hx => ?_⟩
  have hs : Sky.shn (l + 1) b k x = Sky.shn l b k x + if Sky.at2 k l = x then b l else 0 := rfl
  by_cases e : Sky.at2 k l = x
  · rw [← e, List.getElem?_set_self (by rw [h.1]; exact Sky.at2_lt k l), hy]
    rw [← e] at hs
    simp only [fo3, hs, if_pos, Int.mul_add]
    congr 1
    omega
  · rw [List.getElem?_set_ne e, h.2 x hx]
    simp only [fo3, hs, if_neg e, Int.add_zero]
theorem foM_done {M L L' : List Int} {k : Nat} (h : foM M (cells16 L) (cells16 L') k 0) (hk : k = 16) : M = foldL L L' 16 := by
  subst hk
  apply List.ext_getElem?
  intro j
  by_cases hj : j < 16
  · rw [h.2 j hj]; simp [foldL, hj, fo3, Sky.shn, Sky.S]
  · rw [List.getElem?_eq_none (by rw [h.1]; omega), List.getElem?_eq_none (by simp [foldL]; omega)]

end Go.Proofs.Ytdcabfobmkdlmaa
