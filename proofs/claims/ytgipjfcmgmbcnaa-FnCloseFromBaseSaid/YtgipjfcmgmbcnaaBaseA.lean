/- Contracts: bases of closure phases that are valid; what the reference reads of a base. -/
import Derived.Test.YtgipjfcmgmbcnaaVisC
import Derived.Test.YtgipjfcmgmbcnaaBaseM2
namespace Go.Proofs.Ytgipjfcmgmbcnaa
open Go.RowKit

theorem cprod_bd {n : Int} (h1 : 3 ≤ n) (h2 : n ≤ 7) : 0 ≤ (n - 1) * (n - 2) ∧ (n - 1) * (n - 2) ≤ 30 := by
  constructor
  · exact Int.mul_nonneg (by omega) (by omega)
  · have : (n - 1) * (n - 2) ≤ 6 * (n - 2) := Int.mul_le_mul_of_nonneg_right (by omega) (by omega)
    omega
theorem cmany_yes {n : Int} (h1 : 3 ≤ n) (h2 : n ≤ 7) : Vm.cmany n = (n - 1) * (n - 2) / 2 := by simp [Vm.cmany, h1, h2]
theorem cmany_no {n : Int} (h : ¬ (3 ≤ n ∧ n ≤ 7)) : Vm.cmany n = 0 := by
  have e : (decide (3 ≤ n) && decide (n ≤ 7)) = false := by
    rw [Bool.eq_false_iff]; intro e; simp at e; exact h e
  rw [Vm.cmany, e]; rfl
theorem cmany_bd (n : Int) : 0 ≤ Vm.cmany n ∧ Vm.cmany n ≤ 15 := by
  by_cases h : 3 ≤ n ∧ n ≤ 7
  · rw [cmany_yes h.1 h.2]
    have := cprod_bd h.1 h.2
    omega
  · rw [cmany_no h]; omega
set_option maxHeartbeats 400000 in
theorem CloseMany_any (n : Int) (w : World) : Calls Try.prog 38 #[.int .i64 n] w fun e w' => e = .returned (.int .i64 (Vm.cmany n)) ∧ w = w' := by
  by_cases h : 3 ≤ n ∧ n ≤ 7
  · have H := Lib.hid (cmany_yes h.1 h.2)
    obtain ⟨h1, h2⟩ := h
    obtain ⟨p1, p2⟩ := cprod_bd h1 h2
    go_enter Try.func38, Try.ntmps38
    go_wp2
    go_ret
    exact ⟨ret_int H.out.symm, rfl⟩
  · have H := Lib.hid (cmany_no h)
    have hh : n < 3 ∨ (3 ≤ n ∧ 7 < n) := by omega
    clear h
    rcases hh with hh | ⟨hh, hh2⟩
    all_goals
      go_enter Try.func38, Try.ntmps38
      go_wp2
      go_ret
      exact ⟨ret_int H.out.symm, rfl⟩
set_option maxHeartbeats 400000 in
theorem sCloseMany_any (n : Int) (w : World) : Calls Try.prog 77 #[.int .i64 n] w fun e w' => e = .returned (.int .i64 (Vm.cmany n)) ∧ w = w' := by
  by_cases h : 3 ≤ n ∧ n ≤ 7
  · have H := Lib.hid (cmany_yes h.1 h.2)
    have hin : in3 n 3 7 = true := (in3_iff _ _ _).2 h
    obtain ⟨h1, h2⟩ := h
    obtain ⟨p1, p2⟩ := cprod_bd h1 h2
    go_enter Try.func77, Try.ntmps77
    go_wp2_with (go_at_call 79; refine (l6In_any _ _ _ _).mono ?_; rintro e w' ⟨rfl, rfl⟩)
    go_ret
    exact ⟨ret_int H.out.symm, rfl⟩
  · have H := Lib.hid (cmany_no h)
    have hin : in3 n 3 7 = false := by rw [Bool.eq_false_iff]; exact fun e => h ((in3_iff _ _ _).1 e)
    clear h
    go_enter Try.func77, Try.ntmps77
    go_wp2_with (go_at_call 79; refine (l6In_any _ _ _ _).mono ?_; rintro e w' ⟨rfl, rfl⟩)
    go_ret
    exact ⟨ret_int H.out.symm, rfl⟩
set_option maxHeartbeats 400000 in
theorem arePhases_any (A : Option Addr) (n c : Nat) (L : List Int) (w : World) (h : Rd w w.heap.size 1 A n c (ci L)) :
    Calls Try.prog 82 #[.slice A n c] w fun e w' => e = .returned (.bool (L.all Vm.phB)) ∧ w = w' := by
  have hn := h.len
  rw [ci_length, Nat.mul_one] at hn
  have hm := h.most
  have hcap := h.cap
  subst hn
  go_enter Try.func82, Try.ntmps82
  go_wp2
  go_loop [7] (fun i => ∃ k : Nat, k ≤ L.length ∧ i = .int .i64 k ∧ Hid ((L.take k).all Vm.phB = true)) (fun i => L.length - (intOf i).toNat)
  case atStart => exact ⟨0, Nat.zero_le _, rfl, by simp [Hid]⟩
  case round =>
    obtain ⟨k, hk, rfl, hall⟩ := hrel
    by_cases hlt : k < L.length
    · obtain ⟨b, off, rfl, hb, hc⟩ := h.int_at hlt
      cases hin : Vm.phB L[k]
      · have H := Lib.hid (all_false_of Vm.phB L k hlt hin)
        go_wp2_with (go_at_call 86; refine (isPhase_any _ _).mono ?_; rintro e w' ⟨rfl, rfl⟩)
        go_ret
        exact ⟨ret_bool H.out.symm, rfl⟩
      · have H := Lib.hid ((all_take_succ Vm.phB L k hlt).trans (by rw [hall.out, hin]))
        go_wp2_with (go_at_call 86; refine (isPhase_any _ _).mono ?_; rintro e w' ⟨rfl, rfl⟩)
        go_round
        case rel => exact ⟨k + 1, by omega, by go_num, H⟩
        case measure => simp [intOf]; omega
    · have H := Lib.hid (show L.all Vm.phB = true by rw [← List.take_of_length_le (Nat.le_of_not_lt hlt)]; exact hall.out)
      go_wp2
      go_ret
      exact ⟨ret_bool H.out.symm, rfl⟩
set_option maxHeartbeats 800000 in
theorem isBase_any (A : Option Addr) (m c : Nat) (n : Int) (B : List Int) (w : World) (h : Rd w w.heap.size 1 A m c (ci B)) :
    Calls Try.prog 49 #[.int .i64 n, .slice A m c] w fun e w' => e = .returned (.bool (Vm.baseB n B)) ∧ w = w' := by
  have hn := h.len
  rw [ci_length, Nat.mul_one] at hn
  have hm := h.most
  have hcap := h.cap
  subst hn
  by_cases h0 : 0 < Vm.cmany n
  · by_cases hl : (B.length : Int) = Vm.cmany n
    · have H := Lib.hid (show Vm.baseB n B = B.all Vm.phB by simp [Vm.baseB, h0, hl])
      have hd : ((B.length : Int) == Vm.cmany n) = true := by simp [hl]
      have hd0 : decide (0 < Vm.cmany n) = true := by simp [h0]
      clear hl
      go_enter Try.func49, Try.ntmps49
      go_wp2_with (first
        | (go_at_call 38; refine (CloseMany_any _ _).mono ?_; rintro e w' ⟨rfl, rfl⟩)
        | (go_at_call 82; refine (arePhases_any _ _ _ B _ h).mono ?_; rintro e w' ⟨rfl, rfl⟩))
      go_ret
      exact ⟨ret_bool H.out.symm, rfl⟩
    · have H := Lib.hid (show Vm.baseB n B = false by simp [Vm.baseB, hl])
      have hd : ((B.length : Int) == Vm.cmany n) = false := by simp [hl]
      clear hl
      go_enter Try.func49, Try.ntmps49
      go_wp2_with (go_at_call 38; refine (CloseMany_any _ _).mono ?_; rintro e w' ⟨rfl, rfl⟩)
      go_ret
      exact ⟨ret_bool H.out.symm, rfl⟩
  · have H := Lib.hid (show Vm.baseB n B = false by simp [Vm.baseB, h0])
    have hd0 : decide (0 < Vm.cmany n) = false := by simp [h0]
    clear h0
    go_enter Try.func49, Try.ntmps49
    go_wp2_with (go_at_call 38; refine (CloseMany_any _ _).mono ?_; rintro e w' ⟨rfl, rfl⟩)
    go_ret
    exact ⟨ret_bool H.out.symm, rfl⟩
set_option maxHeartbeats 800000 in
theorem l14Ok_any (A : Option Addr) (m c : Nat) (n : Int) (B : List Int) (w : World) (h : Rd w w.heap.size 1 A m c (ci B)) :
    Calls Try.prog 45 #[.int .i64 n, .slice A m c] w fun e w' => e = .returned (.bool (Vm.baseB n B)) ∧ w = w' := by
  have hn := h.len
  rw [ci_length, Nat.mul_one] at hn
  have hm := h.most
  have hcap := h.cap
  subst hn
  have hcb := cmany_bd n
  by_cases h0 : 0 < Vm.cmany n
  · have hz : (Vm.cmany n == 0) = false := by rw [beq_eq_false_iff_ne]; omega
    by_cases hl : (B.length : Int) = Vm.cmany n
    · have H := Lib.hid (show Vm.baseB n B = B.all Vm.phB by simp [Vm.baseB, h0, hl])
      have hd : ((B.length : Int) != Vm.cmany n) = false := by simp [hl]
      clear hl
      go_enter Try.func45, Try.ntmps45
      go_wp2_with (go_at_call 77; refine (sCloseMany_any _ _).mono ?_; rintro e w' ⟨rfl, rfl⟩)
      go_loop [5] (fun i => ∃ k : Nat, k ≤ B.length ∧ i = .int .i64 k ∧ Hid ((B.take k).all Vm.phB = true)) (fun i => B.length - (intOf i).toNat)
      case atStart => exact ⟨0, Nat.zero_le _, rfl, by simp [Hid]⟩
      case round =>
        obtain ⟨k, hk, rfl, hall⟩ := hrel
        by_cases hlt : k < B.length
        · obtain ⟨b, off, rfl, hb, hc⟩ := h.int_at hlt
          cases hin : Vm.phB B[k]
          · have HF := Lib.hid (H.out.trans (all_false_of Vm.phB B k hlt hin))
            go_wp2_with (go_at_call 78; refine (l2Phase_any _ _).mono ?_; rintro e w' ⟨rfl, rfl⟩)
            go_ret
            exact ⟨ret_bool HF.out.symm, rfl⟩
          · have HT := Lib.hid ((all_take_succ Vm.phB B k hlt).trans (by rw [hall.out, hin]))
            go_wp2_with (go_at_call 78; refine (l2Phase_any _ _).mono ?_; rintro e w' ⟨rfl, rfl⟩)
            go_round
            case rel => exact ⟨k + 1, by omega, by go_num, HT⟩
            case measure => simp [intOf]; omega
        · have HF := Lib.hid (show Vm.baseB n B = true by rw [H.out, ← List.take_of_length_le (Nat.le_of_not_lt hlt)]; exact hall.out)
          go_wp2
          go_ret
          exact ⟨ret_bool HF.out.symm, rfl⟩
    · have H := Lib.hid (show Vm.baseB n B = false by simp [Vm.baseB, hl])
      have hd : ((B.length : Int) != Vm.cmany n) = true := by simp [hl]
      clear hl
      go_enter Try.func45, Try.ntmps45
      go_wp2_with (go_at_call 77; refine (sCloseMany_any _ _).mono ?_; rintro e w' ⟨rfl, rfl⟩)
      go_ret
      exact ⟨ret_bool H.out.symm, rfl⟩
  · have H := Lib.hid (show Vm.baseB n B = false by simp [Vm.baseB, h0])
    have hz : (Vm.cmany n == 0) = true := by rw [beq_iff_eq]; omega
    clear h0
    go_enter Try.func45, Try.ntmps45
    go_wp2_with (go_at_call 77; refine (sCloseMany_any _ _).mono ?_; rintro e w' ⟨rfl, rfl⟩)
    go_ret
    exact ⟨ret_bool H.out.symm, rfl⟩

end Go.Proofs.Ytgipjfcmgmbcnaa
