/- The exact laws FnExactRedundantMany, FnExactRedundantGroups. Written by lawsB1.py. -/
import Derived.Test.YtjpklbkeofjppaaMarkN
import Derived.Test.YtjpklbkeofjppaaGrpB
namespace Go.Proofs.Ytjpklbkeofjppaa
open Go.RowKit

theorem szR_neg {left : Int} {n : Nat} (h : left < n) : szR left n = -1 := by unfold szR; rw [if_pos (by omega)]
theorem szR_pos {left : Int} {n : Nat} (h : (n : Int) ≤ left) : szR left n = left - n := by unfold szR; rw [if_neg (by omega)]
theorem grpL_len (L : List (Int × Int)) : (Vm.grpL L).length ≤ 1048576 := by
  cases h : Vm.arrB L
  · rw [Vm.grpL_no h]; simp
  · rw [grp_len h]
    have := (vecs_21 h).1
    omega
set_option maxRecDepth 100000 in
set_option maxHeartbeats 8000000 in
theorem law_exactRedundantMany (A0 : Option Addr) (m0 c0 : Nat) (L0 : List (Int × Int)) (w : World) (h0 : Rd w w.heap.size 2 A0 m0 c0 (cp L0)) :
    Calls Try.prog 3 #[.slice A0 m0 c0] w fun e w' => e = .returned (.bool true) ∧ Below w.heap.size w w' := by
  have hm0 := h0.most
  have hcap0 := h0.cap
  have hl0 : L0.length = m0 := by have := h0.len; rw [cp_length] at this; omega
  by_cases hz0 : (1048576 : Int) < m0
  · have HS0 := Lib.hid (szR_neg (left := 1048576) (n := m0) (by omega))
    clear hl0
    go_enter Try.func3, Try.ntmps3
    go_wp2_with fail
    with_reducible refine (szAntS_any A0 m0 c0 (1048576) _ (by omega) (by omega) (by omega)).mono ?_
    rintro e w' ⟨rfl, rfl⟩
    rw [HS0.out]
    go_wp2_with fail
    go_ret
    exact ⟨rfl, b0 _⟩
  have HS0 := Lib.hid (szR_pos (left := 1048576) (n := m0) (by omega))
  have hlo0 : (0 : Int) ≤ 1048576 - (m0 : Int) := by omega
  have hLm0 : L0.length ≤ 1048576 := by omega
  have hmm0 : m0 ≤ 1048576 := by omega
  have hd0 : decide (L0 = L0) = true := by simp
  clear hl0
  go_enter Try.func3, Try.ntmps3
  go_wp2_with fail
  with_reducible refine (szAntS_any A0 m0 c0 (1048576) _ (by omega) (by omega) (by omega)).mono ?_
  rintro e w' ⟨rfl, rfl⟩
  rw [HS0.out]
  go_wp2_with fail
  with_reducible refine (toAntS_any _ _ _ L0 _ h0 (by omega)).mono ?_
  rintro e w1 ⟨v1, rfl, ho1, hb1⟩
  have hs1 := hb1.size
  have hB := hb1
  clear hb1
  obtain ⟨A10, c10, rfl⟩ := own_form ho1
  have HL_ho1 := Lib.hid (show ∀ k, (Value.slice A10 L0.length c10).ownBlock = some k → k < w1.heap.size from fun k hk => (ho1.lt k hk).2)
  go_wp2_with fail
  with_reducible refine (sRedundantMany_any A10 L0.length c10 L0 _ (Rd.of_own ho1)).mono ?_
  rintro e w2 ⟨rfl, hb2⟩
  have hs2 := hb2.size
  replace ho1 := own_after ho1 hb2
  replace hB := bT hB hb2
  clear hb2
  clear ho1
  go_wp2_with fail
  with_reducible refine (toAntS_any _ _ _ L0 _ ((h0.below hB).more hB.size) (by omega)).mono ?_
  rintro e w3 ⟨v3, rfl, ho3, hb3⟩
  have hs3 := hb3.size
  replace hB := bT hB hb3
  clear hb3
  obtain ⟨A30, c30, rfl⟩ := own_form ho3
  have HL_ho3 := Lib.hid (show ∀ k, (Value.slice A30 L0.length c30).ownBlock = some k → k < w3.heap.size from fun k hk => (ho3.lt k hk).2)
  go_wp2_with fail
  with_reducible refine (RedundantMany_any A30 L0.length c30 L0 _ (Rd.of_own ho3)).mono ?_
  rintro e w4 ⟨rfl, hb4⟩
  have hs4 := hb4.size
  replace ho3 := own_after ho3 hb4
  replace hB := bT hB hb4
  clear hb4
  obtain ⟨o, ho⟩ : ∃ o, Vm.redN L0 = o := ⟨_, rfl⟩
  rw [ho]
  clear ho
  go_wp2_with fail
  with_reducible refine (toAntS_any _ _ _ L0 _ ((h0.below hB).more hB.size) (by omega)).mono ?_
  rintro e w5 ⟨v5, rfl, ho5, hb5⟩
  have hs5 := hb5.size
  replace ho3 := own_after ho3 hb5
  replace hB := bT hB hb5
  clear hb5
  obtain ⟨A50, c50, rfl⟩ := own_form ho5
  have HL_ho5 := Lib.hid (show ∀ k, (Value.slice A50 L0.length c50).ownBlock = some k → k < w5.heap.size from fun k hk => (ho5.lt k hk).2)
  go_wp2_with fail
  with_reducible refine (eqAntS_any _ _ _ _ _ _ L0 L0 _ (Rd.of_own ho3) (Rd.of_own ho5)).mono ?_
  rintro e w6 ⟨rfl, hb6⟩
  have hs6 := hb6.size
  replace ho3 := own_after ho3 hb6
  replace ho5 := own_after ho5 hb6
  replace hB := bT hB hb6
  clear hb6
  clear ho5
  go_wp2_with fail
  go_ret
  exact ⟨rfl, hB⟩
set_option maxRecDepth 100000 in
set_option maxHeartbeats 8000000 in
theorem law_exactRedundantGroups (A0 : Option Addr) (m0 c0 : Nat) (L0 : List (Int × Int)) (w : World) (h0 : Rd w w.heap.size 2 A0 m0 c0 (cp L0)) :
    Calls Try.prog 4 #[.slice A0 m0 c0] w fun e w' => e = .returned (.bool true) ∧ Below w.heap.size w w' := by
  have hm0 := h0.most
  have hcap0 := h0.cap
  have hl0 : L0.length = m0 := by have := h0.len; rw [cp_length] at this; omega
  by_cases hz0 : (1048576 : Int) < m0
  · have HS0 := Lib.hid (szR_neg (left := 1048576) (n := m0) (by omega))
    clear hl0
    go_enter Try.func4, Try.ntmps4
    go_wp2_with fail
    with_reducible refine (szAntS_any A0 m0 c0 (1048576) _ (by omega) (by omega) (by omega)).mono ?_
    rintro e w' ⟨rfl, rfl⟩
    rw [HS0.out]
    go_wp2_with fail
    go_ret
    exact ⟨rfl, b0 _⟩
  have HS0 := Lib.hid (szR_pos (left := 1048576) (n := m0) (by omega))
  have hlo0 : (0 : Int) ≤ 1048576 - (m0 : Int) := by omega
  have hLm0 : L0.length ≤ 1048576 := by omega
  have hmm0 : m0 ≤ 1048576 := by omega
  have hd0 : decide (L0 = L0) = true := by simp
  clear hl0
  go_enter Try.func4, Try.ntmps4
  go_wp2_with fail
  with_reducible refine (szAntS_any A0 m0 c0 (1048576) _ (by omega) (by omega) (by omega)).mono ?_
  rintro e w' ⟨rfl, rfl⟩
  rw [HS0.out]
  go_wp2_with fail
  with_reducible refine (toAntS_any _ _ _ L0 _ h0 (by omega)).mono ?_
  rintro e w1 ⟨v1, rfl, ho1, hb1⟩
  have hs1 := hb1.size
  have hB := hb1
  clear hb1
  obtain ⟨A10, c10, rfl⟩ := own_form ho1
  have HL_ho1 := Lib.hid (show ∀ k, (Value.slice A10 L0.length c10).ownBlock = some k → k < w1.heap.size from fun k hk => (ho1.lt k hk).2)
  go_wp2_with fail
  with_reducible refine (sRedundantGroups_any A10 L0.length c10 L0 _ (Rd.of_own ho1)).mono ?_
  rintro e w2 ⟨v2, rfl, ho2, hb2⟩
  have hs2 := hb2.size
  replace ho1 := own_after ho1 hb2
  replace hB := bT hB hb2
  clear hb2
  obtain ⟨A20, c20, rfl⟩ := own_form ho2
  have hW := Rd.of_own ho2
  clear ho2
  clear ho1
  have hM21 := grpL_len L0
  obtain ⟨M, hM⟩ : ∃ M, Vm.grpL L0 = M := ⟨_, rfl⟩
  rw [hM] at hW hM21 ⊢
  have HM := Lib.hid hM
  clear hM
  have hMM : decide (M = M) = true := by simp
  go_wp2_with fail
  with_reducible refine (toAntS_any _ _ _ L0 _ ((h0.below hB).more hB.size) (by omega)).mono ?_
  rintro e w3 ⟨v3, rfl, ho3, hb3⟩
  have hs3 := hb3.size
  replace hW := hW.below (hb3.mono (by omega))
  replace hB := bT hB hb3
  clear hb3
  obtain ⟨A30, c30, rfl⟩ := own_form ho3
  have HL_ho3 := Lib.hid (show ∀ k, (Value.slice A30 L0.length c30).ownBlock = some k → k < w3.heap.size from fun k hk => (ho3.lt k hk).2)
  go_wp2_with fail
  with_reducible refine (RedundantGroups_any A30 L0.length c30 L0 _ (Rd.of_own ho3)).mono ?_
  rintro e w4 ⟨v4, rfl, ho4, hb4⟩
  have hs4 := hb4.size
  replace ho3 := own_after ho3 hb4
  replace hW := hW.below (hb4.mono (by omega))
  replace hB := bT hB hb4
  clear hb4
  rw [HM.out] at ho4
  obtain ⟨A40, c40, rfl⟩ := own_form ho4
  go_wp2_with fail
  with_reducible refine (eqIntS_any _ _ _ _ _ _ M M _ (Rd.of_own ho4) (hW.more (by omega))).mono ?_
  rintro e w5 ⟨rfl, hb5⟩
  have hs5 := hb5.size
  replace ho3 := own_after ho3 hb5
  replace ho4 := own_after ho4 hb5
  replace hW := hW.below (hb5.mono (by omega))
  replace hB := bT hB hb5
  clear hb5
  go_wp2_with fail
  with_reducible refine (toAntS_any _ _ _ L0 _ ((h0.below hB).more hB.size) (by omega)).mono ?_
  rintro e w6 ⟨v6, rfl, ho6, hb6⟩
  have hs6 := hb6.size
  replace ho3 := own_after ho3 hb6
  replace ho4 := own_after ho4 hb6
  replace hW := hW.below (hb6.mono (by omega))
  replace hB := bT hB hb6
  clear hb6
  obtain ⟨A60, c60, rfl⟩ := own_form ho6
  have HL_ho6 := Lib.hid (show ∀ k, (Value.slice A60 L0.length c60).ownBlock = some k → k < w6.heap.size from fun k hk => (ho6.lt k hk).2)
  go_wp2_with fail
  with_reducible refine (eqAntS_any _ _ _ _ _ _ L0 L0 _ (Rd.of_own ho3) (Rd.of_own ho6)).mono ?_
  rintro e w7 ⟨rfl, hb7⟩
  have hs7 := hb7.size
  replace ho3 := own_after ho3 hb7
  replace ho4 := own_after ho4 hb7
  replace ho6 := own_after ho6 hb7
  replace hW := hW.below (hb7.mono (by omega))
  replace hB := bT hB hb7
  clear hb7
  clear ho6
  go_wp2_with fail
  refine (markAntS_any _ _ L0.length L0 (1) _ ho3 (by omega) (by omega) (by omega)).mono ?_
  rintro e w8 ⟨rfl, hn8, hg8⟩
  have hs8 := hg8.size
  replace ho4 := own_past2 ho4 ho3 (fun k hk => Nat.lt_of_lt_of_le (HL_ho3.out k hk) (by omega)) hg8
  replace hW := hW.past ho3 (by omega) (by omega) hg8
  replace hB := own_below hB (own_less ho3 (by omega)) hg8
  clear ho3 hg8
  have ho3 := hn8
  clear hn8
  clear ho3
  go_wp2_with fail
  with_reducible refine (eqIntS_any _ _ _ _ _ _ M M _ (Rd.of_own ho4) (hW.more (by omega))).mono ?_
  rintro e w9 ⟨rfl, hb9⟩
  have hs9 := hb9.size
  replace ho4 := own_after ho4 hb9
  replace hW := hW.below (hb9.mono (by omega))
  replace hB := bT hB hb9
  clear hb9
  go_wp2_with fail
  refine (markIntS_any _ _ M.length M (1) _ ho4 (by omega) (by omega) (by omega)).mono ?_
  rintro e w10 ⟨rfl, hn10, hg10⟩
  have hs10 := hg10.size
  replace hW := hW.past ho4 (by omega) (by omega) hg10
  replace hB := own_below hB (own_less ho4 (by omega)) hg10
  clear ho4 hg10
  have ho4 := hn10
  clear hn10
  go_wp2_with (go_at_call 22; refine (heldIntS_any _ _ _ 1 _ (Rd.of_own ho4) (by omega) (by omega) (by omega)).mono ?_; rintro e w' ⟨rfl, rfl⟩)
  with_reducible refine (toAntS_any _ _ _ L0 _ ((h0.below hB).more hB.size) (by omega)).mono ?_
  rintro e w11 ⟨v11, rfl, ho11, hb11⟩
  have hs11 := hb11.size
  replace ho4 := own_after ho4 hb11
  replace hW := hW.below (hb11.mono (by omega))
  replace hB := bT hB hb11
  clear hb11
  obtain ⟨A110, c110, rfl⟩ := own_form ho11
  have HL_ho11 := Lib.hid (show ∀ k, (Value.slice A110 L0.length c110).ownBlock = some k → k < w11.heap.size from fun k hk => (ho11.lt k hk).2)
  go_wp2_with fail
  with_reducible refine (RedundantGroups_any A110 L0.length c110 L0 _ (Rd.of_own ho11)).mono ?_
  rintro e w12 ⟨v12, rfl, ho12, hb12⟩
  have hs12 := hb12.size
  replace ho4 := own_after ho4 hb12
  replace ho11 := own_after ho11 hb12
  replace hW := hW.below (hb12.mono (by omega))
  replace hB := bT hB hb12
  clear hb12
  rw [HM.out] at ho12
  obtain ⟨A120, c120, rfl⟩ := own_form ho12
  clear ho11
  go_wp2_with fail
  with_reducible refine (eqIntS_any _ _ _ _ _ _ M M _ (Rd.of_own ho12) (hW.more (by omega))).mono ?_
  rintro e w13 ⟨rfl, hb13⟩
  have hs13 := hb13.size
  replace ho4 := own_after ho4 hb13
  replace ho12 := own_after ho12 hb13
  replace hW := hW.below (hb13.mono (by omega))
  replace hB := bT hB hb13
  clear hb13
  clear ho12
  go_wp2_with (go_at_call 22; refine (heldIntS_any _ _ _ 1 _ (Rd.of_own ho4) (by omega) (by omega) (by omega)).mono ?_; rintro e w' ⟨rfl, rfl⟩)
  go_ret
  exact ⟨rfl, hB⟩

end Go.Proofs.Ytjpklbkeofjppaa
