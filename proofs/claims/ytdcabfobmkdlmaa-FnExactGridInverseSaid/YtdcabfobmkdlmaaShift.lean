/- Contracts: a sky that is moved. -/
import Derived.Test.YtdcabfobmkdlmaaSpecA
namespace Go.Proofs.Ytdcabfobmkdlmaa
open Go.RowKit

theorem shn_miss (b : Nat → Int) (k n x : Nat) (h : ∀ l, l < n → Sky.at2 k l ≠ x) : Sky.shn n b k x = 0 := by
  unfold Sky.shn
  rw [Sky.S_congr n _ (fun _ => 0) (fun l hl => by rw [if_neg (h l hl)]), Sky.S_zero]
def shM (M : List Int) (b : Nat → Int) (sh k : Nat) : Prop := M.length = 16 ∧ ∀ x, x < 16 → M[x]? = some (Sky.shn k b sh x)
theorem shM_zero (b : Nat → Int) (sh : Nat) : shM z16 b sh 0 := ⟨by simp [z16], fun x hx => by rw [z16, List.getElem?_replicate, if_pos hx]; rfl⟩
theorem shM_set {M : List Int} {b : Nat → Int} {sh k : Nat} (h : shM M b sh k) (hk : k < 16) : shM (M.set (Sky.at2 sh k) (b k)) b sh (k + 1) := by
  refine ⟨by simpa using h.1, fun x hx => ?_⟩
  have hs : Sky.shn (k + 1) b sh x = Sky.shn k b sh x + if Sky.at2 sh k = x then b k else 0 := rfl
  rw [hs]
  by_cases e : Sky.at2 sh k = x
  · rw [← e, List.getElem?_set_self (by rw [h.1]; exact Sky.at2_lt sh k), if_pos rfl, shn_miss b sh k _ (fun l hl e' => by have := Sky.at2_inj sh l k (by omega) hk e'; omega), Int.zero_add]
  · rw [List.getElem?_set_ne e, h.2 x hx, if_neg e, Int.add_zero]
def shL (L : List Int) (sh : Nat) : List Int := (List.range 16).map (Sky.shn 16 (cells16 L) sh)
theorem shM_done {M L : List Int} {sh k : Nat} (h : shM M (cells16 L) sh k) (hk : k = 16) : M = shL L sh := by
  subst hk
  apply List.ext_getElem?
  intro j
  by_cases hj : j < 16
  · rw [h.2 j hj]; simp [shL, hj]
  · rw [List.getElem?_eq_none (by rw [h.1]; omega), List.getElem?_eq_none (by simp [shL]; omega)]
def shRel (L : List Int) (sh : Nat) (w : World) (v : Value) (wr : World) : Prop :=
  ∃ (k : Nat) (M : List Int), k ≤ 16 ∧ v = .int .i64 k ∧ Hid (shM M (cells16 L) sh k) ∧ wr.ownsRow w.heap.size 3 1 (.slice (some ⟨w.heap.size, 0, none⟩) 16 16) 16 (ci M) ∧ Below w.heap.size w wr
set_option maxHeartbeats 1000000 in
theorem shifted_any (A : Option Addr) (c : Nat) (L : List Int) (a b : Nat) (w : World) (h : Rd w w.heap.size 1 A 16 c (ci L)) (ha : a < 4) (hb : b < 4) :
    Calls Try.prog 43 #[.slice A 16 c, .int .i64 a, .int .i64 b] w fun e w' => ∃ v, e = .returned v ∧ w'.ownsRow w.heap.size 3 1 v 16 (ci (shL L (4 * b + a))) ∧ Below w.heap.size w w' := by
  have hn := h.len
  rw [ci_length, Nat.mul_one] at hn
  have HL := Lib.hid hn
  clear hn
  have hmk := make16I
  go_enter Try.func43, Try.ntmps43
  go_wp2
  go_loopw [15] (fun v wr => shRel L (4 * b + a) w v wr) (fun v _ => 16 - (intOf v).toNat)
  case atStart => exact ⟨0, z16, Nat.zero_le _, rfl, shM_zero _ _, World.ownsRow_lit _ _ 16 (Nat.le_refl _) (by decide) (by decide), bA (b0 w) _⟩
  case round =>
    obtain ⟨k, M, hk, rfl, hM, hown, hB⟩ := hrel
    by_cases hlt : k < 16
    · obtain ⟨bb, off, rfl, hbb, hc⟩ := (h.below hB).int_at (k := k) (by rw [HL.out]; exact hlt)
      obtain ⟨x, hx⟩ : ∃ x, L[k]'(by rw [HL.out]; exact hlt) = x := ⟨_, rfl⟩
      rw [hx] at hc
      have HM := Lib.hid (show shM (M.set (Sky.at2 (4 * b + a) k) x) (cells16 L) (4 * b + a) (k + 1) by
        have := shM_set hM.out hlt
        have e : cells16 L k = x := by rw [← hx]; simp [cells16, HL.out, hlt]
        rwa [e] at this)
      clear hx
      have hat := Sky.at2_lt (4 * b + a) k
      have HA := Lib.hid (show (4 * (((k : Int) / 4 + (b : Int)) % 4) + ((k : Int) % 4 + (a : Int)) % 4) = ((Sky.at2 (4 * b + a) k : Nat) : Int) by unfold Sky.at2; omega)
      obtain ⟨j, hj⟩ : ∃ j, Sky.at2 (4 * b + a) k = j := ⟨_, rfl⟩
      rw [hj] at hat HM HA
      clear hj
      have hml : j < M.length := by rw [hM.out.1]; exact hat
      have hcell := (hown.cellAt j (by omega)).trans (ci_at M j hml)
      have hfr := hown.frozenAt j
      have hown2 := (hown.stored j (.int .i64 x)).1
      rw [← ci_set] at hown2
      go_wp2_with (go_at_call 61; refine (cellAt_any _ _ _ (by omega) (by omega) (by omega) (by omega)).mono ?_; rintro e w' ⟨rfl, rfl⟩; rw [HA.out])
      go_roundw
      case rel => exact ⟨k + 1, _, by omega, by go_num, HM, hown2, bS (p := ⟨w.heap.size, j, none⟩) hB (Nat.le_refl _) _⟩
      case measure => simp [intOf]; omega
    · have HN := Lib.hid (shM_done hM.out (by omega))
      go_wp2
      go_ret
      exact ⟨_, rfl, by rw [← HN.out]; exact hown, hB⟩
set_option maxHeartbeats 1000000 in
theorem SkyShift_ok (A : Option Addr) (c : Nat) (L : List Int) (a b : Nat) (w : World) (h : Rd w w.heap.size 1 A 16 c (ci L)) (ha : a < 4) (hb : b < 4) (hs : skyB L = true) :
    Calls Try.prog 14 #[.slice A 16 c, .int .i64 a, .int .i64 b] w fun e w' => ∃ v, e = .returned (.tuple #[v, .bool true]) ∧ w'.ownsRow w.heap.size 3 1 v 16 (ci (shL L (4 * b + a))) ∧ Below w.heap.size w w' := by
  have s1 : sideB (a : Int) = true := by simp [sideB]; omega
  have s2 : sideB (b : Int) = true := by simp [sideB]; omega
  go_enter Try.func14, Try.ntmps14
  go_wp2_with (first
    | (go_at_call 34; refine (SkyValid_any _ _ _ L _ h).mono ?_; rintro e w' ⟨rfl, rfl⟩)
    | (go_at_call 42; refine (isSide_any _ _).mono ?_; rintro e w' ⟨rfl, rfl⟩))
  refine (shifted_any A c L a b _ h ha hb).mono ?_
  rintro e w1 ⟨v, rfl, hown, hB⟩
  obtain ⟨A1, c1, rfl⟩ := own_form hown
  go_wp2_with fail
  go_ret2
  exact ⟨_, rfl, hown, hB⟩

end Go.Proofs.Ytdcabfobmkdlmaa
