/- Contracts: skies that are folded. -/
import Derived.Test.YtdcabfobmkdlmaaShift
import Derived.RegionTactic
import Derived.BigRegion
namespace Go.Proofs.Ytdcabfobmkdlmaa
open Go.RowKit

theorem shn_or (n : Nat) (b : Nat → Int) (k x : Nat) (hn : n ≤ 16) : Sky.shn n b k x = 0 ∨ ∃ l, l < n ∧ Sky.shn n b k x = b l := by
  by_cases hex : ∃ l, l < n ∧ Sky.at2 k l = x
  · obtain ⟨l, hl, e⟩ := hex
    right
    refine ⟨l, hl, ?_⟩
    unfold Sky.shn
    rw [Sky.S_single n l hl _ (fun j hj hne => by
      rw [if_neg]; intro e'; exact hne (Sky.at2_inj k j l (by omega) (by omega) (e'.trans e.symm))), if_pos e]
  · left
    exact shn_miss _ _ _ _ (fun l hl e => hex ⟨l, hl, e⟩)
theorem shn_bd (n : Nat) (b : Nat → Int) (k x : Nat) (hn : n ≤ 16) (B : Int) (hB : 0 ≤ B) (hb : ∀ l, l < n → -B ≤ b l ∧ b l ≤ B) : -B ≤ Sky.shn n b k x ∧ Sky.shn n b k x ≤ B := by
  rcases shn_or n b k x hn with e | ⟨l, hl, e⟩
  · rw [e]; omega
  · rw [e]; exact hb l hl
theorem cells_bd {L : List Int} (h : skyB L = true) (j : Nat) : -100000 ≤ cells16 L j ∧ cells16 L j ≤ 100000 := by
  by_cases hj : j < L.length
  · have := (inR_iff L[j] 100000).1 (List.all_eq_true.1 (skyB_all h) _ (List.getElem_mem hj))
    simp [cells16, hj]
    omega
  · simp [cells16, hj]
theorem foldn_bd {L M : List Int} (h : skyB L = true) (h' : skyB M = true) (n x : Nat) (hn : n ≤ 16) : -160000000000 ≤ Sky.foldn n (cells16 L) (cells16 M) x ∧ Sky.foldn n (cells16 L) (cells16 M) x ≤ 160000000000 := by
  have := Sky.S_bound n (fun k => cells16 L k * Sky.shn 16 (cells16 M) k x) 10000000000 (fun k _ => by
    have a1 := cells_bd h k
    have a2 := shn_bd 16 (cells16 M) k x (by omega) 100000 (by omega) (fun l _ => cells_bd h' l)
    have := mul_bd a1.1 a1.2 a2.1 a2.2
    simpa using this)
  unfold Sky.foldn
  omega
/-- The first k cells are those of f. -/
def filM (M : List Int) (f : Nat → Int) (k : Nat) : Prop := M.length = 16 ∧ ∀ x, x < k → M[x]? = some (f x)
theorem filM_set {M : List Int} {f : Nat → Int} {k : Nat} (h : filM M f k) (hk : k < 16) (y : Int) (hy : y = f k) : filM (M.set k y) f (k + 1) := by
  refine ⟨by simpa using h.1, fun x hx => ?_⟩
  by_cases e : x = k
  · subst e; rw [List.getElem?_set_self (by rw [h.1]; exact hk), hy]
  · rw [List.getElem?_set_ne (fun e' => e e'.symm)]; exact h.2 x (by omega)
theorem filM_done {M : List Int} {f : Nat → Int} {k : Nat} (h : filM M f k) (hk : k = 16) : M = (List.range 16).map f := by
  subst hk
  apply List.ext_getElem?
  intro j
  by_cases hj : j < 16
  · rw [h.2 j hj]; simp [hj]
  · rw [List.getElem?_eq_none (by rw [h.1]; omega), List.getElem?_eq_none (by simp; omega)]
def filRel (f : Nat → Int) (w : World) (v : Value) (wr : World) : Prop :=
  ∃ (k : Nat) (M : List Int), k ≤ 16 ∧ v = .int .i64 k ∧ Hid (filM M f k) ∧ wr.ownsRow w.heap.size 3 1 (.slice (some ⟨w.heap.size, 0, none⟩) 16 16) 16 (ci M) ∧ Below w.heap.size w wr
set_option maxHeartbeats 1000000 in
theorem addTimes_any (A A' : Option Addr) (c c' : Nat) (L L' : List Int) (t : Int) (w : World) (h : Rd w w.heap.size 1 A 16 c (ci L)) (h' : Rd w w.heap.size 1 A' 16 c' (ci L'))
    (hb : ∀ j, -1000000000000 ≤ cells16 L j ∧ cells16 L j ≤ 1000000000000) (hb' : ∀ j, -1000000 ≤ cells16 L' j ∧ cells16 L' j ≤ 1000000) (ht1 : -1000000 ≤ t) (ht2 : t ≤ 1000000) :
    Calls Try.prog 63 #[.slice A 16 c, .slice A' 16 c', .int .i64 t] w fun e w' => ∃ v, e = .returned v ∧ w'.ownsRow w.heap.size 3 1 v 16 (ci ((List.range 16).map fun x => cells16 L x + t * cells16 L' x)) ∧ Below w.heap.size w w' := by
  have hn := h.len
  rw [ci_length, Nat.mul_one] at hn
  have HL := Lib.hid hn
  clear hn
  have hn := h'.len
  rw [ci_length, Nat.mul_one] at hn
  have HL' := Lib.hid hn
  clear hn
  have HB := Lib.hid hb
  have HB' := Lib.hid hb'
  clear hb hb'
  have hmk := make16I
  go_enter Try.func63, Try.ntmps63
  go_wp2
  go_loopw [14] (fun v wr => filRel (fun x => cells16 L x + t * cells16 L' x) w v wr) (fun v _ => 16 - (intOf v).toNat)
  case atStart => exact ⟨0, z16, Nat.zero_le _, rfl, ⟨by simp [z16], fun x hx => by omega⟩, World.ownsRow_lit _ _ 16 (Nat.le_refl _) (by decide) (by decide), bA (b0 w) _⟩
  case round =>
    obtain ⟨k, M, hk, rfl, hM, hown, hB⟩ := hrel
    by_cases hlt : k < 16
    · have hkl : k < L.length := by rw [HL.out]; exact hlt
      have hkl' : k < L'.length := by rw [HL'.out]; exact hlt
      obtain ⟨b1, o1, rfl, hb1, hc1⟩ := (h.below hB).int_at hkl
      obtain ⟨b2, o2, rfl, hb2, hc2⟩ := (h'.below hB).int_at hkl'
      have x1 := HB.out k
      have x2 := HB'.out k
      have e1 : cells16 L k = L[k] := by simp [cells16, hkl]
      have e2 : cells16 L' k = L'[k] := by simp [cells16, hkl']
      rw [e1] at x1
      rw [e2] at x2
      obtain ⟨x, hx⟩ : ∃ x, L[k] = x := ⟨_, rfl⟩
      obtain ⟨y, hy⟩ : ∃ y, L'[k] = y := ⟨_, rfl⟩
      rw [hx] at hc1 x1 e1
      rw [hy] at hc2 x2 e2
      have HM := Lib.hid (filM_set hM.out hlt (x + t * y) (by rw [e1, e2]))
      clear hx hy e1 e2
      obtain ⟨x11, x12⟩ := x1
      obtain ⟨x21, x22⟩ := x2
      have hp := mul_bd ht1 ht2 x21 x22
      simp only [Int.reduceMul, Int.reduceNeg] at hp
      obtain ⟨hp1, hp2⟩ := hp
      have hml : k < M.length := by rw [hM.out.1]; exact hlt
      have hcell := (hown.cellAt k (by omega)).trans (ci_at M k hml)
      have hfr := hown.frozenAt k
      have hi0 : (0 : Int) ≤ (k : Int) := by omega
      have hi1 : (k : Int) < 16 := by omega
      go_wp2
      go_region
      all_goals
        have hown2 := (hown.stored k (.int .i64 (x + t * y))).1
        rw [← ci_set] at hown2
        go_wp2
        go_roundw
        case rel => exact ⟨k + 1, _, by omega, by go_num, HM, hown2.drew, Below.drew (bS (p := ⟨w.heap.size, k, none⟩) hB (Nat.le_refl _) _)⟩
        case measure => simp [intOf]; omega
    · have HN := Lib.hid (filM_done hM.out (by omega))
      go_wp2
      go_ret
      exact ⟨_, rfl, by rw [← HN.out]; exact hown, hB⟩

def foldL (L M : List Int) (n : Nat) : List Int := (List.range 16).map (Sky.foldn n (cells16 L) (cells16 M))
theorem foldL_cells (L M : List Int) (n j : Nat) : cells16 (foldL L M n) j = if j < 16 then Sky.foldn n (cells16 L) (cells16 M) j else 0 := by
  by_cases hj : j < 16 <;> simp [cells16, foldL, hj]
theorem foldL_step (L M : List Int) (k : Nat) : ((List.range 16).map fun x => cells16 (foldL L M k) x + cells16 L k * cells16 (shL M k) x) = foldL L M (k + 1) := by
  show _ = (List.range 16).map (Sky.foldn (k + 1) (cells16 L) (cells16 M))
  apply List.map_congr_left
  intro x hx
  have hx' : x < 16 := by simpa using hx
  rw [foldL_cells, if_pos hx']
  have : cells16 (shL M k) x = Sky.shn 16 (cells16 M) k x := by simp [cells16, shL, hx']
  rw [this]; rfl
theorem foldL_zero (L M : List Int) : foldL L M 0 = z16 := by
  rfl
theorem shL_bd {M : List Int} (h : skyB M = true) (k j : Nat) : -1000000 ≤ cells16 (shL M k) j ∧ cells16 (shL M k) j ≤ 1000000 := by
  by_cases hj : j < 16
  · have : cells16 (shL M k) j = Sky.shn 16 (cells16 M) k j := by simp [cells16, shL, hj]
    rw [this]
    have := shn_bd 16 (cells16 M) k j (by omega) 100000 (by omega) (fun l _ => cells_bd h l)
    omega
  · simp [cells16, shL, hj]
theorem foldL_bd {L M : List Int} (h : skyB L = true) (h' : skyB M = true) (n j : Nat) (hn : n ≤ 16) : -1000000000000 ≤ cells16 (foldL L M n) j ∧ cells16 (foldL L M n) j ≤ 1000000000000 := by
  rw [foldL_cells]
  have := foldn_bd h h' n j hn
  split <;> omega
set_option maxHeartbeats 1000000 in
theorem fold_any (A A' : Option Addr) (c c' : Nat) (L M : List Int) (w : World) (h : Rd w w.heap.size 1 A 16 c (ci L)) (h' : Rd w w.heap.size 1 A' 16 c' (ci M)) (hs : skyB L = true) (hs' : skyB M = true) :
    Calls Try.prog 48 #[.slice A 16 c, .slice A' 16 c'] w fun e w' => ∃ v, e = .returned v ∧ w'.ownsRow w.heap.size 3 1 v 16 (ci (foldL L M 16)) ∧ Below w.heap.size w w' := by
  have HL := Lib.hid (skyB_len hs)
  have HS := Lib.hid hs
  have HS' := Lib.hid hs'
  clear hs hs'
  have hmk := make16I
  go_enter Try.func48, Try.ntmps48
  go_wp2
  go_loopw [5, 13] (fun vo v wr => ∃ k : Nat, k ≤ 16 ∧ v = .int .i64 k ∧ wr.ownsRow w.heap.size 3 1 vo 16 (ci (foldL L M k)) ∧ Below w.heap.size w wr) (fun _ v _ => 16 - (intOf v).toNat)
  case atStart => exact ⟨0, Nat.zero_le _, rfl, by rw [foldL_zero]; exact World.ownsRow_lit _ _ 16 (Nat.le_refl _) (by decide) (by decide), bA (b0 w) _⟩
  case round =>
    obtain ⟨k, hk, rfl, hown, hB⟩ := hrel
    obtain ⟨A2, c2, rfl⟩ := own_form hown
    by_cases hlt : k < 16
    · have hkl : k < L.length := by rw [HL.out]; exact hlt
      obtain ⟨b1, o1, rfl, hb1, hc1⟩ := (h.below hB).int_at hkl
      have xb := cells_bd HS.out k
      have e1 : cells16 L k = L[k] := by simp [cells16, hkl]
      have HE := Lib.hid (foldL_step L M k)
      rw [e1] at xb HE
      obtain ⟨x, hx⟩ : ∃ x, L[k] = x := ⟨_, rfl⟩
      rw [hx] at hc1 xb HE
      clear hx e1
      have H1 := Lib.hid (show ((k : Int) % 4) = ((k % 4 : Nat) : Int) by omega)
      have H2 := Lib.hid (show ((k : Int) / 4) = ((k / 4 : Nat) : Int) by omega)
      have H3 := Lib.hid (show 4 * (k / 4) + k % 4 = k by omega)
      go_wp2_with fail
      rw [H1.out, H2.out]
      refine (shifted_any A' c' M (k % 4) (k / 4) _ ((h'.below hB).more hB.size) (by omega) (by omega)).mono ?_
      rintro e w1 ⟨v1, rfl, hown1, hB1⟩
      obtain ⟨A1, c1, rfl⟩ := own_form hown1
      rw [H3.out] at hown1
      go_wp2_with fail
      refine (addTimes_any A2 A1 c2 c1 (foldL L M k) (shL M k) x _ ((Rd.of_own hown).after hB1) (Rd.of_own hown1) (fun j => foldL_bd HS.out HS'.out k j (by omega)) (fun j => shL_bd HS'.out k j) (by omega) (by omega)).mono ?_
      rintro e w2 ⟨v2, rfl, hown2, hB2⟩
      rw [HE.out] at hown2
      have hown3 := own_less hown2 (show w.heap.size ≤ w1.heap.size by have := hB.size; have := hB1.size; omega)
      have hB3 := bT (bT hB hB1) hB2
      clear hown hown1 hown2 hB1 hB2
      go_wp2_with fail
      go_roundw
      case rel => exact ⟨k + 1, by omega, by go_num, hown3, hB3⟩
      case measure => simp [intOf]; omega
    · have he : k = 16 := by omega
      subst he
      go_wp2
      go_ret
      exact ⟨_, rfl, hown, hB⟩

end Go.Proofs.Ytdcabfobmkdlmaa
