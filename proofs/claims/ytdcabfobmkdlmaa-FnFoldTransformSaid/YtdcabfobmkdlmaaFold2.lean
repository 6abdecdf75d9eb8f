/- Contracts: SkyFold of the program and of the reference. -/
import Derived.Test.YtdcabfobmkdlmaaFold
namespace Go.Proofs.Ytdcabfobmkdlmaa
open Go.RowKit

def skyFoB (L M : List Int) : Bool := skyB L && skyB M && skyB (foldL L M 16)
def skyFo (L M : List Int) : List Int := if skyFoB L M then foldL L M 16 else []
theorem skyFoB_iff (L M : List Int) : skyFoB L M = true ↔ skyB L = true ∧ skyB M = true ∧ skyB (foldL L M 16) = true := by simp [skyFoB, and_assoc]
theorem foldL_len (L M : List Int) (n : Nat) : (foldL L M n).length = 16 := by simp [foldL]
set_option maxHeartbeats 1000000 in
theorem SkyFold_any (A A' : Option Addr) (n c n' c' : Nat) (L M : List Int) (w : World) (h : Rd w w.heap.size 1 A n c (ci L)) (h' : Rd w w.heap.size 1 A' n' c' (ci M)) :
    Calls Try.prog 18 #[.slice A n c, .slice A' n' c'] w fun e w' => ∃ v, e = .returned (.tuple #[v, .bool (skyFoB L M)]) ∧ w'.ownsRow w.heap.size 3 1 v (skyFo L M).length (ci (skyFo L M)) ∧ Below w.heap.size w w' := by
  cases hs : skyB L
  · have e0 : skyFoB L M = false := by simp [skyFoB, hs]
    have H := Lib.hid (show skyFo L M = [] by simp [skyFo, e0])
    rw [e0]
    clear e0
    go_enter Try.func18, Try.ntmps18
    go_wp2_with (go_at_call 34; refine (SkyValid_any _ _ _ L _ h).mono ?_; rintro e w' ⟨rfl, rfl⟩)
    go_ret2
    exact ⟨_, rfl, by rw [H.out]; exact World.ownsRow_nil _ _ _ _, b0 _⟩
  · cases hs' : skyB M
    · have e0 : skyFoB L M = false := by simp [skyFoB, hs']
      have H := Lib.hid (show skyFo L M = [] by simp [skyFo, e0])
      rw [e0]
      clear e0
      go_enter Try.func18, Try.ntmps18
      go_wp2_with fail
      refine (SkyValid_any _ _ _ L _ h).mono ?_
      rintro e w' ⟨rfl, rfl⟩
      go_wp2_with fail
      refine (SkyValid_any _ _ _ M _ h').mono ?_
      rintro e w' ⟨rfl, rfl⟩
      go_wp2_with fail
      go_ret2
      exact ⟨_, rfl, by rw [H.out]; exact World.ownsRow_nil _ _ _ _, b0 _⟩
    · have hn := h.len
      rw [ci_length, Nat.mul_one, skyB_len hs] at hn
      subst hn
      have hn' := h'.len
      rw [ci_length, Nat.mul_one, skyB_len hs'] at hn'
      subst hn'
      have HS := Lib.hid hs
      have HS' := Lib.hid hs'
      have e0 : skyFoB L M = skyB (foldL L M 16) := by simp [skyFoB, hs, hs']
      have HF := Lib.hid e0
      rw [e0]
      clear e0
      go_enter Try.func18, Try.ntmps18
      go_wp2_with fail
      refine (SkyValid_any _ _ _ L _ h).mono ?_
      rintro e w' ⟨rfl, rfl⟩
      go_wp2_with fail
      refine (SkyValid_any _ _ _ M _ h').mono ?_
      rintro e w' ⟨rfl, rfl⟩
      go_wp2_with fail
      refine (fold_any A A' c c' L M _ h h' HS.out HS'.out).mono ?_
      rintro e w1 ⟨v, rfl, hown, hB⟩
      obtain ⟨A1, c1, rfl⟩ := own_form hown
      go_wp2_with fail
      refine (skyChecked_any _ _ _ (foldL L M 16) _ (Rd.of_own hown)).mono ?_
      rintro e w' ⟨rfl, rfl⟩
      cases hf : skyB (foldL L M 16)
      · have H := Lib.hid (show skyFo L M = [] by simp [skyFo, HF.out, hf])
        go_wp2_with fail
        go_ret2
        exact ⟨.slice none 0 0, by rw [hf]; rfl, by rw [H.out]; exact World.ownsRow_nil _ _ _ _, hB⟩
      · have H := Lib.hid (show skyFo L M = foldL L M 16 by simp [skyFo, HF.out, hf])
        go_wp2_with fail
        go_ret2
        exact ⟨.slice A1 16 c1, by rw [hf]; rfl, by rw [H.out, foldL_len]; exact hown, hB⟩

end Go.Proofs.Ytdcabfobmkdlmaa
