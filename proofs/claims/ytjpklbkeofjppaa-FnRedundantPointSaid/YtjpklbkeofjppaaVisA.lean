/- Contracts: phases, antennas, baselines (numbers alone). -/
import Derived.Test.YtjpklbkeofjppaaLeaf
import Derived.Test.YtjpklbkeofjppaaVisM
namespace Go.Proofs.Ytjpklbkeofjppaa
open Go.RowKit

set_option maxHeartbeats 400000 in
theorem isPhase_any (a : Int) (w : World) : Calls Try.prog 82 #[.int .i64 a] w fun e w' => e = .returned (.bool (Vm.phB a)) ∧ w = w' := by
  by_cases hc : 0 ≤ a
  · go_enter Try.func82, Try.ntmps82
    go_wp2
    go_ret
    exact ⟨by simp [Vm.phB, hc], rfl⟩
  · have H := Lib.hid (show Vm.phB a = false by simp [Vm.phB, hc])
    go_enter Try.func82, Try.ntmps82
    go_wp2
    go_ret
    exact ⟨ret_bool H.out.symm, rfl⟩
set_option maxHeartbeats 400000 in
theorem isMany_any (a : Int) (w : World) : Calls Try.prog 48 #[.int .i64 a] w fun e w' => e = .returned (.bool (Vm.manyB a)) ∧ w = w' := by
  by_cases hc : 2 ≤ a
  · go_enter Try.func48, Try.ntmps48
    go_wp2
    go_ret
    exact ⟨by simp [Vm.manyB, hc], rfl⟩
  · have H := Lib.hid (show Vm.manyB a = false by simp [Vm.manyB, hc])
    go_enter Try.func48, Try.ntmps48
    go_wp2
    go_ret
    exact ⟨ret_bool H.out.symm, rfl⟩
set_option maxHeartbeats 400000 in
theorem isAnt_any (n a : Int) (w : World) : Calls Try.prog 52 #[.int .i64 n, .int .i64 a] w fun e w' => e = .returned (.bool (Vm.antB n a)) ∧ w = w' := by
  by_cases hc : 0 ≤ a
  · go_enter Try.func52, Try.ntmps52
    go_wp2
    go_ret
    exact ⟨by simp [Vm.antB, hc], rfl⟩
  · have H := Lib.hid (show Vm.antB n a = false by simp [Vm.antB, hc])
    go_enter Try.func52, Try.ntmps52
    go_wp2
    go_ret
    exact ⟨ret_bool H.out.symm, rfl⟩
theorem prod_bd {n : Int} (h1 : 2 ≤ n) (h2 : n ≤ 7) : 0 ≤ n * (n - 1) ∧ n * (n - 1) ≤ 42 := by
  constructor
  · exact Int.mul_nonneg (by omega) (by omega)
  · have : n * (n - 1) ≤ 7 * (n - 1) := Int.mul_le_mul_of_nonneg_right (by omega) (by omega)
    omega
set_option maxHeartbeats 400000 in
theorem BaseMany_any (n : Int) (w : World) : Calls Try.prog 24 #[.int .i64 n] w fun e w' => e = .returned (.int .i64 (Vm.bmany n)) ∧ w = w' := by
  cases hm : Vm.manyB n
  · have H := Lib.hid (show Vm.bmany n = 0 by simp [Vm.bmany, hm])
    go_enter Try.func24, Try.ntmps24
    go_wp2_with (go_at_call 48; refine (isMany_any _ _).mono ?_; rintro e w' ⟨rfl, rfl⟩)
    go_ret
    exact ⟨ret_int H.out.symm, rfl⟩
  · have H := Lib.hid (show Vm.bmany n = n * (n - 1) / 2 by simp [Vm.bmany, hm])
    obtain ⟨h1, h2⟩ := (Vm.manyB_iff n).1 hm
    obtain ⟨h3, h4⟩ := prod_bd h1 h2
    go_enter Try.func24, Try.ntmps24
    go_wp2_with (go_at_call 48; refine (isMany_any _ _).mono ?_; rintro e w' ⟨rfl, rfl⟩)
    go_ret
    exact ⟨ret_int H.out.symm, rfl⟩
set_option maxHeartbeats 400000 in
theorem baseAt_any (n i j : Int) (w : World) (hn1 : 2 ≤ n) (hn2 : n ≤ 7) (hi1 : 0 ≤ i) (hi2 : i < n) (hj1 : 0 ≤ j) (hj2 : j < n) : Calls Try.prog 67 #[.int .i64 n, .int .i64 i, .int .i64 j] w fun e w' => e = .returned (.int .i64 (Vm.bidx n i j)) ∧ w = w' := by
  obtain ⟨p1, p2⟩ := Vm.bidx_prod (n := n) (i := i) ⟨hn1, hn2⟩ ⟨hi1, hi2⟩
  obtain ⟨q1, q2⟩ := Vm.bidx_prod (n := n) (i := j) ⟨hn1, hn2⟩ ⟨hj1, hj2⟩
  by_cases h : j < i
  · have H := Lib.hid (show Vm.bidx n i j = j * (2 * n - j - 1) / 2 + i - j - 1 by simp [Vm.bidx, h])
    go_enter Try.func67, Try.ntmps67
    go_wp2
    go_ret
    exact ⟨ret_int H.out.symm, rfl⟩
  · have H := Lib.hid (show Vm.bidx n i j = i * (2 * n - i - 1) / 2 + j - i - 1 by simp [Vm.bidx, h])
    go_enter Try.func67, Try.ntmps67
    go_wp2
    go_ret
    exact ⟨ret_int H.out.symm, rfl⟩
def bix (n i j : Int) : Int := if Vm.manyB n && Vm.antB n i && Vm.antB n j && !(i == j) then Vm.bidx n i j else -1
set_option maxHeartbeats 400000 in
theorem BaseIndex_any (n i j : Int) (w : World) : Calls Try.prog 51 #[.int .i64 n, .int .i64 i, .int .i64 j] w fun e w' => e = .returned (.int .i64 (bix n i j)) ∧ w = w' := by
  obtain ⟨b, hb⟩ : ∃ b, (Vm.manyB n && Vm.antB n i && Vm.antB n j && !(i == j)) = b := ⟨_, rfl⟩
  cases b
  · have H := Lib.hid (show bix n i j = -1 by simp only [bix, hb]; rfl)
    go_enter Try.func51, Try.ntmps51
    go_wp2_with (first
      | (go_at_call 48; refine (isMany_any _ _).mono ?_; rintro e w' ⟨rfl, rfl⟩)
      | (go_at_call 52; refine (isAnt_any _ _ _).mono ?_; rintro e w' ⟨rfl, rfl⟩)
      | (go_at_call 67; exfalso; simp_all))
    all_goals
      go_ret
      exact ⟨ret_int H.out.symm, rfl⟩
  · have H := Lib.hid (show bix n i j = Vm.bidx n i j by simp only [bix, hb]; rfl)
    simp only [Bool.and_eq_true, Bool.not_eq_true'] at hb
    obtain ⟨⟨⟨h1, h2⟩, h3⟩, h4⟩ := hb
    obtain ⟨a1, a2⟩ := (Vm.manyB_iff n).1 h1
    obtain ⟨a3, a4⟩ := (Vm.antB_iff n i).1 h2
    obtain ⟨a5, a6⟩ := (Vm.antB_iff n j).1 h3
    go_enter Try.func51, Try.ntmps51
    go_wp2_with (first
      | (go_at_call 48; refine (isMany_any _ _).mono ?_; rintro e w' ⟨rfl, rfl⟩)
      | (go_at_call 52; refine (isAnt_any _ _ _).mono ?_; rintro e w' ⟨rfl, rfl⟩)
      | (go_at_call 67; refine (baseAt_any _ _ _ _ a1 a2 a3 a4 a5 a6).mono ?_; rintro e w' ⟨rfl, rfl⟩))
    go_ret
    exact ⟨ret_int H.out.symm, rfl⟩
set_option maxHeartbeats 400000 in
theorem sPhaseOf_any (n : Int) (w : World) : Calls Try.prog 72 #[.int .i64 n] w fun e w' => e = .returned (.int .i64 (n % 360)) ∧ w = w' := by
  go_enter Try.func72, Try.ntmps72
  go_wp2_with (go_at_call 80; refine (l1Mod_any _ _ _ (by omega) (by omega)).mono ?_; rintro e w' ⟨rfl, rfl⟩)
  go_ret
  exact ⟨rfl, rfl⟩
theorem in3_phB (a : Int) : in3 a 0 359 = Vm.phB a := by rw [Bool.eq_iff_iff, in3_iff, Vm.phB_iff]; omega
theorem in3_manyB (a : Int) : in3 a 2 7 = Vm.manyB a := rfl
theorem in3_antB (n a : Int) : in3 a 0 (n - 1) = Vm.antB n a := by rw [Bool.eq_iff_iff, in3_iff, Vm.antB_iff]; omega
set_option maxHeartbeats 400000 in
theorem sBaseMany_any (n : Int) (w : World) : Calls Try.prog 40 #[.int .i64 n] w fun e w' => e = .returned (.int .i64 (Vm.bmany n)) ∧ w = w' := by
  cases hm : Vm.manyB n
  · have H := Lib.hid (show Vm.bmany n = 0 by simp [Vm.bmany, hm])
    go_enter Try.func40, Try.ntmps40
    go_wp2_with (go_at_call 59; refine (l6In_any _ _ _ _).mono ?_; rintro e w' ⟨rfl, rfl⟩; rw [in3_manyB])
    go_ret
    exact ⟨ret_int H.out.symm, rfl⟩
  · have H := Lib.hid (show Vm.bmany n = n * (n - 1) / 2 by simp [Vm.bmany, hm])
    obtain ⟨h1, h2⟩ := (Vm.manyB_iff n).1 hm
    obtain ⟨h3, h4⟩ := prod_bd h1 h2
    go_enter Try.func40, Try.ntmps40
    go_wp2_with (go_at_call 59; refine (l6In_any _ _ _ _).mono ?_; rintro e w' ⟨rfl, rfl⟩; rw [in3_manyB])
    go_ret
    exact ⟨ret_int H.out.symm, rfl⟩
theorem bmany_zero (n : Int) : (Vm.bmany n == 0) = !Vm.manyB n := by
  cases hm : Vm.manyB n
  · simp [Vm.bmany, hm]
  · have h := (Vm.manyB_iff n).1 hm
    have h2 : 0 < Vm.bmany n := by
      have := (Vm.bidx_bd (n := n) (i := 0) (j := 1) (by omega) (by omega) (by omega) (by omega))
      omega
    simp; omega
theorem tri_bd {n i : Int} (hn1 : 2 ≤ n) (hn2 : n ≤ 7) (h1 : 0 ≤ i) (h2 : i < n) : (0 ≤ i * n ∧ i * n ≤ 49) ∧ (0 ≤ i * (i + 1) ∧ i * (i + 1) ≤ 56) ∧ i * n - i * (i + 1) / 2 - i = i * (2 * n - i - 1) / 2 - i := by
  have e1 : i * n ≤ 7 * n := Int.mul_le_mul_of_nonneg_right (by omega) (by omega)
  have e2 : i * (i + 1) ≤ 7 * (i + 1) := Int.mul_le_mul_of_nonneg_right (by omega) (by omega)
  have e3 : 0 ≤ i * n := Int.mul_nonneg (by omega) (by omega)
  have e4 : 0 ≤ i * (i + 1) := Int.mul_nonneg (by omega) (by omega)
  have e5 : i * (2 * n - i - 1) = 2 * (i * n) - i * (i + 1) := by grind
  have e6 : i * (i + 1) % 2 = 0 := by
    rcases Int.emod_two_eq i with h | h
    · rw [Int.mul_emod, h]; simp
    · rw [Int.mul_emod, show (i + 1) % 2 = 0 by omega]; simp
  refine ⟨⟨e3, by omega⟩, ⟨e4, by omega⟩, ?_⟩
  rw [e5]; omega
set_option maxHeartbeats 800000 in
theorem sBaseIndex_any (n i j : Int) (w : World) : Calls Try.prog 77 #[.int .i64 n, .int .i64 i, .int .i64 j] w fun e w' => e = .returned (.int .i64 (bix n i j)) ∧ w = w' := by
  obtain ⟨b, hb⟩ : ∃ b, (Vm.manyB n && Vm.antB n i && Vm.antB n j && !(i == j)) = b := ⟨_, rfl⟩
  cases hm : Vm.manyB n
  · have H := Lib.hid (show bix n i j = -1 by simp [bix, hm])
    have hz : (Vm.bmany n == 0) = true := by rw [bmany_zero, hm]; rfl
    clear hb
    go_enter Try.func77, Try.ntmps77
    go_wp2_with (go_at_call 40; refine (sBaseMany_any _ _).mono ?_; rintro e w' ⟨rfl, rfl⟩)
    go_ret
    exact ⟨ret_int H.out.symm, rfl⟩
  · have hz : (Vm.bmany n == 0) = false := by rw [bmany_zero, hm]; rfl
    obtain ⟨n1, n2⟩ := (Vm.manyB_iff n).1 hm
    rw [hm] at hb
    cases b
    · have H := Lib.hid (show bix n i j = -1 by simp only [bix, hm, hb]; rfl)
      simp only [Bool.true_and] at hb
      go_enter Try.func77, Try.ntmps77
      go_wp2_with (first
        | (go_at_call 40; refine (sBaseMany_any _ _).mono ?_; rintro e w' ⟨rfl, rfl⟩)
        | (go_at_call 59; refine (l6In_any _ _ _ _).mono ?_; rintro e w' ⟨rfl, rfl⟩; rw [in3_antB]))
      all_goals
        first
          | (go_ret; exact ⟨ret_int H.out.symm, rfl⟩)
          | (exfalso; simp_all)
    · have H := Lib.hid (show bix n i j = Vm.bidx n i j by simp only [bix, hm, hb]; rfl)
      simp only [Bool.true_and, Bool.and_eq_true, Bool.not_eq_true'] at hb
      obtain ⟨⟨h2, h3⟩, h4⟩ := hb
      obtain ⟨a3, a4⟩ := (Vm.antB_iff n i).1 h2
      obtain ⟨a5, a6⟩ := (Vm.antB_iff n j).1 h3
      obtain ⟨⟨p1, p2⟩, ⟨p3, p4⟩, p5⟩ := tri_bd n1 n2 a3 a4
      obtain ⟨⟨q1, q2⟩, ⟨q3, q4⟩, q5⟩ := tri_bd n1 n2 a5 a6
      have P5 := Lib.hid p5
      have Q5 := Lib.hid q5
      clear p5 q5
      by_cases h : j < i
      · have H2 := Lib.hid (show Vm.bidx n i j = j * (2 * n - j - 1) / 2 + i - j - 1 by simp [Vm.bidx, h])
        go_enter Try.func77, Try.ntmps77
        go_wp2_with (first
          | (go_at_call 40; refine (sBaseMany_any _ _).mono ?_; rintro e w' ⟨rfl, rfl⟩)
          | (go_at_call 59; refine (l6In_any _ _ _ _).mono ?_; rintro e w' ⟨rfl, rfl⟩; rw [in3_antB]))
        go_ret
        exact ⟨ret_int (by rw [H.out, H2.out]; have := Q5.out; omega), rfl⟩
      · have H2 := Lib.hid (show Vm.bidx n i j = i * (2 * n - i - 1) / 2 + j - i - 1 by simp [Vm.bidx, h])
        have hlt : i < j := by have : i ≠ j := by simpa using h4
                               omega
        clear h
        go_enter Try.func77, Try.ntmps77
        go_wp2_with (first
          | (go_at_call 40; refine (sBaseMany_any _ _).mono ?_; rintro e w' ⟨rfl, rfl⟩)
          | (go_at_call 59; refine (l6In_any _ _ _ _).mono ?_; rintro e w' ⟨rfl, rfl⟩; rw [in3_antB]))
        go_ret
        exact ⟨ret_int (by rw [H.out, H2.out]; have := P5.out; omega), rfl⟩

end Go.Proofs.Ytjpklbkeofjppaa
