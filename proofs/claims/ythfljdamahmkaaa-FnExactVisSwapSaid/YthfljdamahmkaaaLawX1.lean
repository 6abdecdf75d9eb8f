/- The exact laws FnExactClosePhase and FnExactCloseLoop. -/
import Derived.Test.YthfljdamahmkaaaExactC
namespace Go.Proofs.Ythfljdamahmkaaa
open Go.RowKit

theorem szR_neg {left : Int} {n : Nat} (h : left < n) : szR left n = -1 := by unfold szR; rw [if_pos (by omega)]
theorem szR_pos {left : Int} {n : Nat} (h : (n : Int) ≤ left) : szR left n = left - n := by unfold szR; rw [if_neg (by omega)]
set_option maxRecDepth 100000 in
set_option maxHeartbeats 2000000 in
theorem law_exactClosePhase (n : Int) (A : Option Addr) (m c : Nat) (L : List (Int × Int)) (i j k : Int) (w : World) (_ : -9223372036854775808 ≤ n) (_ : n ≤ 9223372036854775807) (h : Rd w w.heap.size 2 A m c (cp L))
    (_ : -9223372036854775808 ≤ i) (_ : i ≤ 9223372036854775807) (_ : -9223372036854775808 ≤ j) (_ : j ≤ 9223372036854775807) (_ : -9223372036854775808 ≤ k) (_ : k ≤ 9223372036854775807) :
    Calls Try.prog 4 #[.int .i64 n, .slice A m c, .int .i64 i, .int .i64 j, .int .i64 k] w fun e w' => e = .returned (.bool true) ∧ Below w.heap.size w w' := by
  have hm := h.most
  have hcap := h.cap
  by_cases hl : 1048576 < m
  · have H := Lib.hid (szR_neg (left := 1048576) (n := m) (by omega))
    go_enter Try.func4, Try.ntmps4
    go_wp2_with (go_at_call 22; refine (szVisS_any _ _ _ _ _ (by omega) (by omega) (by omega)).mono ?_; rintro e w' ⟨rfl, rfl⟩; rw [H.out])
    go_ret
    exact ⟨rfl, b0 _⟩
  · have H := Lib.hid (szR_pos (left := 1048576) (n := m) (by omega))
    have hlo : (0 : Int) ≤ 1048576 - (m : Int) := by omega
    have hdd : decide (L = L) = true := by simp
    go_enter Try.func4, Try.ntmps4
    go_wp2_with (go_at_call 22; refine (szVisS_any _ _ _ _ _ (by omega) (by omega) (by omega)).mono ?_; rintro e w' ⟨rfl, rfl⟩; rw [H.out])
    refine (toVisS_any _ _ _ L _ h (by omega)).mono ?_
    rintro e w1 ⟨v1, rfl, ho1, hB1⟩
    obtain ⟨A1, c1, rfl⟩ := own_form ho1
    go_wp2_with fail
    refine (sClosePhase_any _ _ _ n i j k L _ (Rd.of_own ho1)).mono ?_
    rintro e w2 ⟨rfl, hB2⟩
    have hBB := bT hB1 hB2
    have hr2 := h.after hBB
    clear ho1 hB1 hB2
    go_wp2_with fail
    refine (toVisS_any _ _ _ L _ hr2 (by omega)).mono ?_
    rintro e w3 ⟨v3, rfl, ho3, hB3⟩
    obtain ⟨A3, c3, rfl⟩ := own_form ho3
    have hx3 := Rd.of_own ho3
    go_wp2_with fail
    refine (ClosePhase_any _ _ _ n i j k L _ hx3).mono ?_
    rintro e w4 ⟨rfl, hB4⟩
    have hx4 := hx3.after hB4
    have hr4 := (hr2.after hB3).after hB4
    have hB5 := bT (bT hBB hB3) hB4
    clear ho3 hB3 hB4 hx3 hr2 hBB
    obtain ⟨o, ho⟩ : ∃ o, Vm.loopP n L [i, j, k] = o := ⟨_, rfl⟩
    obtain ⟨q, hq⟩ : ∃ o, Vm.loopB n L [i, j, k] = o := ⟨_, rfl⟩
    rw [ho, hq]
    clear ho hq
    have hqq : (q != q) = false := by simp
    go_wp2_with fail
    refine (toVisS_any _ _ _ L _ hr4 (by omega)).mono ?_
    rintro e w5 ⟨v5, rfl, ho5, hB6⟩
    obtain ⟨A5, c5, rfl⟩ := own_form ho5
    go_wp2_with fail
    refine (eqVisS_any _ _ _ _ _ _ L L _ (hx4.after hB6) (Rd.of_own ho5)).mono ?_
    rintro e w6 ⟨rfl, hB7⟩
    go_wp2_with fail
    go_ret
    exact ⟨rfl, bT (bT hB5 hB6) hB7⟩
set_option maxRecDepth 100000 in
set_option maxHeartbeats 4000000 in
theorem law_exactCloseLoop (n : Int) (A : Option Addr) (m c : Nat) (L : List (Int × Int)) (A' : Option Addr) (m' c' : Nat) (l : List Int) (w : World) (_ : -9223372036854775808 ≤ n) (_ : n ≤ 9223372036854775807) (h : Rd w w.heap.size 2 A m c (cp L)) (h' : Rd w w.heap.size 1 A' m' c' (ci l)) :
    Calls Try.prog 5 #[.int .i64 n, .slice A m c, .slice A' m' c'] w fun e w' => e = .returned (.bool true) ∧ Below w.heap.size w w' := by
  have hm := h.most
  have hcap := h.cap
  have hm' := h'.most
  have hcap' := h'.cap
  by_cases hl' : 1048576 < m'
  · go_enter Try.func5, Try.ntmps5
    go_wp2_with fail
    go_ret
    exact ⟨rfl, b0 _⟩
  by_cases hl : 1048576 < m
  · have H := Lib.hid (szR_neg (left := 1048576) (n := m) (by omega))
    go_enter Try.func5, Try.ntmps5
    go_wp2_with (go_at_call 22; refine (szVisS_any _ _ _ _ _ (by omega) (by omega) (by omega)).mono ?_; rintro e w' ⟨rfl, rfl⟩; rw [H.out])
    go_ret
    exact ⟨rfl, b0 _⟩
  · have H := Lib.hid (szR_pos (left := 1048576) (n := m) (by omega))
    have hlo : (0 : Int) ≤ 1048576 - (m : Int) := by omega
    have hdd : decide (L = L) = true := by simp
    have hdd2 : decide (l = l) = true := by simp
    go_enter Try.func5, Try.ntmps5
    go_wp2_with (go_at_call 22; refine (szVisS_any _ _ _ _ _ (by omega) (by omega) (by omega)).mono ?_; rintro e w' ⟨rfl, rfl⟩; rw [H.out])
    refine (toVisS_any _ _ _ L _ h (by omega)).mono ?_
    rintro e w1 ⟨v1, rfl, ho1, hB1⟩
    obtain ⟨A1, c1, rfl⟩ := own_form ho1
    go_wp2_with fail
    refine (toIntS_any _ _ _ l _ (h'.after hB1) (by omega)).mono ?_
    rintro e w1' ⟨v1', rfl, ho1', hB1'⟩
    obtain ⟨A1', c1', rfl⟩ := own_form ho1'
    go_wp2_with fail
    refine (sCloseLoop_any _ _ _ _ _ _ n L l _ ((Rd.of_own ho1).after hB1') (Rd.of_own ho1')).mono ?_
    rintro e w2 ⟨rfl, hB2⟩
    have hBB := bT (bT hB1 hB1') hB2
    have hr2 := h.after hBB
    have hr2' := h'.after hBB
    clear ho1 hB1 hB2 ho1' hB1'
    go_wp2_with fail
    refine (toVisS_any _ _ _ L _ hr2 (by omega)).mono ?_
    rintro e w3 ⟨v3, rfl, ho3, hB3⟩
    obtain ⟨A3, c3, rfl⟩ := own_form ho3
    have hx3 := Rd.of_own ho3
    go_wp2_with fail
    refine (toIntS_any _ _ _ l _ (hr2'.after hB3) (by omega)).mono ?_
    rintro e w3' ⟨v3', rfl, ho3', hB3'⟩
    obtain ⟨A3', c3', rfl⟩ := own_form ho3'
    have hy3 := Rd.of_own ho3'
    have hx3' := hx3.after hB3'
    go_wp2_with fail
    refine (CloseLoop_any _ _ _ _ _ _ n L l _ hx3' hy3).mono ?_
    rintro e w4 ⟨rfl, hB4⟩
    have hx4 := hx3'.after hB4
    have hy4 := hy3.after hB4
    have hBx := bT (bT hB3 hB3') hB4
    have hr4 := hr2.after hBx
    have hr4' := hr2'.after hBx
    have hB5 := bT hBB hBx
    clear ho3 hB3 hB4 hx3 hr2 hBB ho3' hB3' hy3 hx3' hBx hr2'
    obtain ⟨o, ho⟩ : ∃ o, Vm.loopP n L l = o := ⟨_, rfl⟩
    obtain ⟨q, hq⟩ : ∃ o, Vm.loopB n L l = o := ⟨_, rfl⟩
    rw [ho, hq]
    clear ho hq
    have hqq : (q != q) = false := by simp
    go_wp2_with fail
    refine (toVisS_any _ _ _ L _ hr4 (by omega)).mono ?_
    rintro e w5 ⟨v5, rfl, ho5, hB6⟩
    obtain ⟨A5, c5, rfl⟩ := own_form ho5
    go_wp2_with fail
    refine (eqVisS_any _ _ _ _ _ _ L L _ (hx4.after hB6) (Rd.of_own ho5)).mono ?_
    rintro e w6 ⟨rfl, hB7⟩
    have hB8 := bT hB6 hB7
    have hr6' := hr4'.after hB8
    have hy6 := hy4.after hB8
    have hB9 := bT hB5 hB8
    clear hx4 hB6 ho5 hB7 hB8 hy4 hr4 hr4' hB5
    go_wp2_with fail
    refine (toIntS_any _ _ _ l _ hr6' (by omega)).mono ?_
    rintro e w7 ⟨v7, rfl, ho7, hB10⟩
    obtain ⟨A7, c7, rfl⟩ := own_form ho7
    go_wp2_with fail
    refine (eqIntS_any _ _ _ _ _ _ l l _ (hy6.after hB10) (Rd.of_own ho7)).mono ?_
    rintro e w8 ⟨rfl, hB11⟩
    go_wp2_with fail
    go_ret
    exact ⟨rfl, bT (bT hB9 hB10) hB11⟩

end Go.Proofs.Ythfljdamahmkaaa
