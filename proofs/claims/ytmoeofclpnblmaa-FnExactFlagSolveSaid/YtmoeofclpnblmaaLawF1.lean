/- The exact laws FnExactFlagFind, FnExactSolvePhases, FnExactFlagSolve. Written by lawsF1.py. -/
import Derived.Test.YtmoeofclpnblmaaExactB
import Derived.Test.YtmoeofclpnblmaaLawX1
import Derived.Test.YtmoeofclpnblmaaFlagE
namespace Go.Proofs.Ytmoeofclpnblmaa
open Go.RowKit

theorem flagRes_len {n : Int} {L M : List (Int × Int)} {F : List Bool} {ok : Bool} {P : List Int} (h : Vm.FlagRes n L M F ok P) : P.length ≤ 7 := by
  rcases h with ⟨_, h1, h2⟩ | ⟨_, _, rfl⟩
  · rw [h2.1]
    have := (Vm.manyB_iff _).1 ((Vm.visB_iff _ _).1 h1.1).1
    omega
  · simp
set_option maxRecDepth 100000 in
set_option maxHeartbeats 8000000 in
theorem law_exactFlagFind (x0 : Int) (A1 : Option Addr) (m1 c1 : Nat) (L1 : List (Int × Int)) (A2 : Option Addr) (m2 c2 : Nat) (L2 : List (Int × Int)) (w : World) (_ : -9223372036854775808 ≤ x0) (_ : x0 ≤ 9223372036854775807) (h1 : Rd w w.heap.size 2 A1 m1 c1 (cp L1)) (h2 : Rd w w.heap.size 2 A2 m2 c2 (cp L2)) :
    Calls Try.prog 5 #[.int .i64 x0, .slice A1 m1 c1, .slice A2 m2 c2] w fun e w' => e = .returned (.bool true) ∧ Below w.heap.size w w' := by
  have hm1 := h1.most
  have hcap1 := h1.cap
  have hl1 : L1.length = m1 := by have := h1.len; rw [cp_length] at this; omega
  have hm2 := h2.most
  have hcap2 := h2.cap
  have hl2 : L2.length = m2 := by have := h2.len; rw [cp_length] at this; omega
  by_cases hz1 : (1048576 : Int) < m1
  · have HS1 := Lib.hid (szR_neg (left := 1048576) (n := m1) (by omega))
    clear hl1 hl2
    go_enter Try.func5, Try.ntmps5
    go_wp2_with fail
    with_reducible refine (szVisS_any A1 m1 c1 (1048576) _ (by omega) (by omega) (by omega)).mono ?_
    rintro e w' ⟨rfl, rfl⟩
    rw [HS1.out]
    go_wp2_with fail
    go_ret
    exact ⟨rfl, b0 _⟩
  have HS1 := Lib.hid (szR_pos (left := 1048576) (n := m1) (by omega))
  have hlo1 : (0 : Int) ≤ 1048576 - (m1 : Int) := by omega
  by_cases hz2 : (1048576 - (m1 : Int) : Int) < m2
  · have HS2 := Lib.hid (szR_neg (left := 1048576 - (m1 : Int)) (n := m2) (by omega))
    clear hl1 hl2
    go_enter Try.func5, Try.ntmps5
    go_wp2_with fail
    with_reducible refine (szVisS_any A1 m1 c1 (1048576) _ (by omega) (by omega) (by omega)).mono ?_
    rintro e w' ⟨rfl, rfl⟩
    rw [HS1.out]
    go_wp2_with fail
    with_reducible refine (szVisS_any A2 m2 c2 (1048576 - (m1 : Int)) _ (by omega) (by omega) (by omega)).mono ?_
    rintro e w' ⟨rfl, rfl⟩
    rw [HS2.out]
    go_wp2_with fail
    go_ret
    exact ⟨rfl, b0 _⟩
  have HS2 := Lib.hid (szR_pos (left := 1048576 - (m1 : Int)) (n := m2) (by omega))
  have hlo2 : (0 : Int) ≤ 1048576 - (m1 : Int) - (m2 : Int) := by omega
  have hLm1 : L1.length ≤ 1048576 := by omega
  have hmm1 : m1 ≤ 1048576 := by omega
  have hd1 : decide (L1 = L1) = true := by simp
  clear hl1
  have hLm2 : L2.length ≤ 1048576 := by omega
  have hmm2 : m2 ≤ 1048576 := by omega
  have hd2 : decide (L2 = L2) = true := by simp
  clear hl2
  go_enter Try.func5, Try.ntmps5
  go_wp2_with fail
  with_reducible refine (szVisS_any A1 m1 c1 (1048576) _ (by omega) (by omega) (by omega)).mono ?_
  rintro e w' ⟨rfl, rfl⟩
  rw [HS1.out]
  go_wp2_with fail
  with_reducible refine (szVisS_any A2 m2 c2 (1048576 - (m1 : Int)) _ (by omega) (by omega) (by omega)).mono ?_
  rintro e w' ⟨rfl, rfl⟩
  rw [HS2.out]
  go_wp2_with fail
  with_reducible refine (toVisS_any _ _ _ L1 _ h1 (by omega)).mono ?_
  rintro e w1 ⟨v1, rfl, ho1, hb1⟩
  have hs1 := hb1.size
  have hB := hb1
  clear hb1
  obtain ⟨A10, c10, rfl⟩ := own_form ho1
  have HL_ho1 := Lib.hid (show ∀ k, (Value.slice A10 L1.length c10).ownBlock = some k → k < w1.heap.size from fun k hk => (ho1.lt k hk).2)
  go_wp2_with fail
  with_reducible refine (toVisS_any _ _ _ L2 _ ((h2.below hB).more hB.size) (by omega)).mono ?_
  rintro e w2 ⟨v2, rfl, ho2, hb2⟩
  have hs2 := hb2.size
  replace ho1 := own_after ho1 hb2
  replace hB := bT hB hb2
  clear hb2
  obtain ⟨A20, c20, rfl⟩ := own_form ho2
  have HL_ho2 := Lib.hid (show ∀ k, (Value.slice A20 L2.length c20).ownBlock = some k → k < w2.heap.size from fun k hk => (ho2.lt k hk).2)
  go_wp2_with fail
  with_reducible refine (sFlagFind_any A10 A20 L1.length c10 L2.length c20 x0 L1 L2 _ (Rd.of_own ho1) (Rd.of_own ho2)).mono ?_
  rintro e w3 ⟨ok, x, rfl, hres, hb3⟩
  have hs3 := hb3.size
  replace ho1 := own_after ho1 hb3
  replace ho2 := own_after ho2 hb3
  replace hB := bT hB hb3
  clear hb3
  clear ho1
  clear ho2
  go_wp2_with fail
  with_reducible refine (toVisS_any _ _ _ L1 _ ((h1.below hB).more hB.size) (by omega)).mono ?_
  rintro e w4 ⟨v4, rfl, ho4, hb4⟩
  have hs4 := hb4.size
  replace hB := bT hB hb4
  clear hb4
  obtain ⟨A40, c40, rfl⟩ := own_form ho4
  have HL_ho4 := Lib.hid (show ∀ k, (Value.slice A40 L1.length c40).ownBlock = some k → k < w4.heap.size from fun k hk => (ho4.lt k hk).2)
  go_wp2_with fail
  with_reducible refine (toVisS_any _ _ _ L2 _ ((h2.below hB).more hB.size) (by omega)).mono ?_
  rintro e w5 ⟨v5, rfl, ho5, hb5⟩
  have hs5 := hb5.size
  replace ho4 := own_after ho4 hb5
  replace hB := bT hB hb5
  clear hb5
  obtain ⟨A50, c50, rfl⟩ := own_form ho5
  have HL_ho5 := Lib.hid (show ∀ k, (Value.slice A50 L2.length c50).ownBlock = some k → k < w5.heap.size from fun k hk => (ho5.lt k hk).2)
  go_wp2_with fail
  with_reducible refine (FlagFind_any A40 A50 L1.length c40 L2.length c50 x0 L1 L2 _ (Rd.of_own ho4) (Rd.of_own ho5)).mono ?_
  rintro e w6 ⟨ok2, x2, rfl, hres2, hb6⟩
  have hs6 := hb6.size
  replace ho4 := own_after ho4 hb6
  replace ho5 := own_after ho5 hb6
  replace hB := bT hB hb6
  clear hb6
  obtain ⟨eo, ex⟩ := Vm.find_one hres hres2
  subst eo ex
  clear hres hres2
  have hqq : (ok != ok) = false := by simp
  have hxx : (x != x) = false := by simp
  go_wp2_with fail
  with_reducible refine (toVisS_any _ _ _ L1 _ ((h1.below hB).more hB.size) (by omega)).mono ?_
  rintro e w7 ⟨v7, rfl, ho7, hb7⟩
  have hs7 := hb7.size
  replace ho4 := own_after ho4 hb7
  replace ho5 := own_after ho5 hb7
  replace hB := bT hB hb7
  clear hb7
  obtain ⟨A70, c70, rfl⟩ := own_form ho7
  have HL_ho7 := Lib.hid (show ∀ k, (Value.slice A70 L1.length c70).ownBlock = some k → k < w7.heap.size from fun k hk => (ho7.lt k hk).2)
  go_wp2_with fail
  with_reducible refine (eqVisS_any _ _ _ _ _ _ L1 L1 _ (Rd.of_own ho4) (Rd.of_own ho7)).mono ?_
  rintro e w8 ⟨rfl, hb8⟩
  have hs8 := hb8.size
  replace ho4 := own_after ho4 hb8
  replace ho5 := own_after ho5 hb8
  replace ho7 := own_after ho7 hb8
  replace hB := bT hB hb8
  clear hb8
  clear ho7
  go_wp2_with fail
  with_reducible refine (toVisS_any _ _ _ L2 _ ((h2.below hB).more hB.size) (by omega)).mono ?_
  rintro e w9 ⟨v9, rfl, ho9, hb9⟩
  have hs9 := hb9.size
  replace ho4 := own_after ho4 hb9
  replace ho5 := own_after ho5 hb9
  replace hB := bT hB hb9
  clear hb9
  obtain ⟨A90, c90, rfl⟩ := own_form ho9
  have HL_ho9 := Lib.hid (show ∀ k, (Value.slice A90 L2.length c90).ownBlock = some k → k < w9.heap.size from fun k hk => (ho9.lt k hk).2)
  go_wp2_with fail
  with_reducible refine (eqVisS_any _ _ _ _ _ _ L2 L2 _ (Rd.of_own ho5) (Rd.of_own ho9)).mono ?_
  rintro e w10 ⟨rfl, hb10⟩
  have hs10 := hb10.size
  replace ho4 := own_after ho4 hb10
  replace ho5 := own_after ho5 hb10
  replace ho9 := own_after ho9 hb10
  replace hB := bT hB hb10
  clear hb10
  clear ho9
  go_wp2_with fail
  go_ret
  exact ⟨rfl, hB⟩
set_option maxRecDepth 100000 in
set_option maxHeartbeats 8000000 in
theorem law_exactSolvePhases (x0 : Int) (A1 : Option Addr) (m1 c1 : Nat) (L1 : List (Int × Int)) (A2 : Option Addr) (m2 c2 : Nat) (L2 : List (Int × Int)) (w : World) (_ : -9223372036854775808 ≤ x0) (_ : x0 ≤ 9223372036854775807) (h1 : Rd w w.heap.size 2 A1 m1 c1 (cp L1)) (h2 : Rd w w.heap.size 2 A2 m2 c2 (cp L2)) :
    Calls Try.prog 6 #[.int .i64 x0, .slice A1 m1 c1, .slice A2 m2 c2] w fun e w' => e = .returned (.bool true) ∧ Below w.heap.size w w' := by
  have hm1 := h1.most
  have hcap1 := h1.cap
  have hl1 : L1.length = m1 := by have := h1.len; rw [cp_length] at this; omega
  have hm2 := h2.most
  have hcap2 := h2.cap
  have hl2 : L2.length = m2 := by have := h2.len; rw [cp_length] at this; omega
  by_cases hz1 : (1048576 : Int) < m1
  · have HS1 := Lib.hid (szR_neg (left := 1048576) (n := m1) (by omega))
    clear hl1 hl2
    go_enter Try.func6, Try.ntmps6
    go_wp2_with fail
    with_reducible refine (szVisS_any A1 m1 c1 (1048576) _ (by omega) (by omega) (by omega)).mono ?_
    rintro e w' ⟨rfl, rfl⟩
    rw [HS1.out]
    go_wp2_with fail
    go_ret
    exact ⟨rfl, b0 _⟩
  have HS1 := Lib.hid (szR_pos (left := 1048576) (n := m1) (by omega))
  have hlo1 : (0 : Int) ≤ 1048576 - (m1 : Int) := by omega
  by_cases hz2 : (1048576 - (m1 : Int) : Int) < m2
  · have HS2 := Lib.hid (szR_neg (left := 1048576 - (m1 : Int)) (n := m2) (by omega))
    clear hl1 hl2
    go_enter Try.func6, Try.ntmps6
    go_wp2_with fail
    with_reducible refine (szVisS_any A1 m1 c1 (1048576) _ (by omega) (by omega) (by omega)).mono ?_
    rintro e w' ⟨rfl, rfl⟩
    rw [HS1.out]
    go_wp2_with fail
    with_reducible refine (szVisS_any A2 m2 c2 (1048576 - (m1 : Int)) _ (by omega) (by omega) (by omega)).mono ?_
    rintro e w' ⟨rfl, rfl⟩
    rw [HS2.out]
    go_wp2_with fail
    go_ret
    exact ⟨rfl, b0 _⟩
  have HS2 := Lib.hid (szR_pos (left := 1048576 - (m1 : Int)) (n := m2) (by omega))
  have hlo2 : (0 : Int) ≤ 1048576 - (m1 : Int) - (m2 : Int) := by omega
  have hLm1 : L1.length ≤ 1048576 := by omega
  have hmm1 : m1 ≤ 1048576 := by omega
  have hd1 : decide (L1 = L1) = true := by simp
  clear hl1
  have hLm2 : L2.length ≤ 1048576 := by omega
  have hmm2 : m2 ≤ 1048576 := by omega
  have hd2 : decide (L2 = L2) = true := by simp
  clear hl2
  go_enter Try.func6, Try.ntmps6
  go_wp2_with fail
  with_reducible refine (szVisS_any A1 m1 c1 (1048576) _ (by omega) (by omega) (by omega)).mono ?_
  rintro e w' ⟨rfl, rfl⟩
  rw [HS1.out]
  go_wp2_with fail
  with_reducible refine (szVisS_any A2 m2 c2 (1048576 - (m1 : Int)) _ (by omega) (by omega) (by omega)).mono ?_
  rintro e w' ⟨rfl, rfl⟩
  rw [HS2.out]
  go_wp2_with fail
  with_reducible refine (toVisS_any _ _ _ L1 _ h1 (by omega)).mono ?_
  rintro e w1 ⟨v1, rfl, ho1, hb1⟩
  have hs1 := hb1.size
  have hB := hb1
  clear hb1
  obtain ⟨A10, c10, rfl⟩ := own_form ho1
  have HL_ho1 := Lib.hid (show ∀ k, (Value.slice A10 L1.length c10).ownBlock = some k → k < w1.heap.size from fun k hk => (ho1.lt k hk).2)
  go_wp2_with fail
  with_reducible refine (toVisS_any _ _ _ L2 _ ((h2.below hB).more hB.size) (by omega)).mono ?_
  rintro e w2 ⟨v2, rfl, ho2, hb2⟩
  have hs2 := hb2.size
  replace ho1 := own_after ho1 hb2
  replace hB := bT hB hb2
  clear hb2
  obtain ⟨A20, c20, rfl⟩ := own_form ho2
  have HL_ho2 := Lib.hid (show ∀ k, (Value.slice A20 L2.length c20).ownBlock = some k → k < w2.heap.size from fun k hk => (ho2.lt k hk).2)
  go_wp2_with fail
  with_reducible refine (sSolvePhases_any A10 A20 L1.length c10 L2.length c20 x0 L1 L2 _ (Rd.of_own ho1) (Rd.of_own ho2)).mono ?_
  rintro e w3 ⟨v3, ok, M, rfl, hres, ho3, hb3⟩
  have hs3 := hb3.size
  replace ho1 := own_after ho1 hb3
  replace ho2 := own_after ho2 hb3
  replace hB := bT hB hb3
  clear hb3
  obtain ⟨A30, c30, rfl⟩ := own_form ho3
  have hW := Rd.of_own ho3
  clear ho3
  clear ho1
  clear ho2
  have hM21 : M.length ≤ 1048576 := Nat.le_trans (flagRes_len hres) (by omega)
  have HRES := Lib.hid hres
  clear hres
  have hMM : decide (M = M) = true := by simp
  have hqq : (ok != ok) = false := by simp
  go_wp2_with fail
  with_reducible refine (toVisS_any _ _ _ L1 _ ((h1.below hB).more hB.size) (by omega)).mono ?_
  rintro e w4 ⟨v4, rfl, ho4, hb4⟩
  have hs4 := hb4.size
  replace hW := hW.below (hb4.mono (by omega))
  replace hB := bT hB hb4
  clear hb4
  obtain ⟨A40, c40, rfl⟩ := own_form ho4
  have HL_ho4 := Lib.hid (show ∀ k, (Value.slice A40 L1.length c40).ownBlock = some k → k < w4.heap.size from fun k hk => (ho4.lt k hk).2)
  go_wp2_with fail
  with_reducible refine (toVisS_any _ _ _ L2 _ ((h2.below hB).more hB.size) (by omega)).mono ?_
  rintro e w5 ⟨v5, rfl, ho5, hb5⟩
  have hs5 := hb5.size
  replace ho4 := own_after ho4 hb5
  replace hW := hW.below (hb5.mono (by omega))
  replace hB := bT hB hb5
  clear hb5
  obtain ⟨A50, c50, rfl⟩ := own_form ho5
  have HL_ho5 := Lib.hid (show ∀ k, (Value.slice A50 L2.length c50).ownBlock = some k → k < w5.heap.size from fun k hk => (ho5.lt k hk).2)
  go_wp2_with fail
  with_reducible refine (SolvePhases_any A40 A50 L1.length c40 L2.length c50 x0 L1 L2 _ (Rd.of_own ho4) (Rd.of_own ho5)).mono ?_
  rintro e w6 ⟨v6, ok2, M2, rfl, hres2, ho6, hb6⟩
  have hs6 := hb6.size
  replace ho4 := own_after ho4 hb6
  replace ho5 := own_after ho5 hb6
  replace hW := hW.below (hb6.mono (by omega))
  replace hB := bT hB hb6
  clear hb6
  obtain ⟨eo, eM⟩ := Vm.flag_one HRES.out hres2
  subst eo eM
  clear hres2
  obtain ⟨A60, c60, rfl⟩ := own_form ho6
  go_wp2_with fail
  with_reducible refine (eqIntS_any _ _ _ _ _ _ M M _ (Rd.of_own ho6) (hW.more (by omega))).mono ?_
  rintro e w7 ⟨rfl, hb7⟩
  have hs7 := hb7.size
  replace ho4 := own_after ho4 hb7
  replace ho5 := own_after ho5 hb7
  replace ho6 := own_after ho6 hb7
  replace hW := hW.below (hb7.mono (by omega))
  replace hB := bT hB hb7
  clear hb7
  go_wp2_with fail
  with_reducible refine (toVisS_any _ _ _ L1 _ ((h1.below hB).more hB.size) (by omega)).mono ?_
  rintro e w8 ⟨v8, rfl, ho8, hb8⟩
  have hs8 := hb8.size
  replace ho4 := own_after ho4 hb8
  replace ho5 := own_after ho5 hb8
  replace ho6 := own_after ho6 hb8
  replace hW := hW.below (hb8.mono (by omega))
  replace hB := bT hB hb8
  clear hb8
  obtain ⟨A80, c80, rfl⟩ := own_form ho8
  have HL_ho8 := Lib.hid (show ∀ k, (Value.slice A80 L1.length c80).ownBlock = some k → k < w8.heap.size from fun k hk => (ho8.lt k hk).2)
  go_wp2_with fail
  with_reducible refine (eqVisS_any _ _ _ _ _ _ L1 L1 _ (Rd.of_own ho4) (Rd.of_own ho8)).mono ?_
  rintro e w9 ⟨rfl, hb9⟩
  have hs9 := hb9.size
  replace ho4 := own_after ho4 hb9
  replace ho5 := own_after ho5 hb9
  replace ho6 := own_after ho6 hb9
  replace ho8 := own_after ho8 hb9
  replace hW := hW.below (hb9.mono (by omega))
  replace hB := bT hB hb9
  clear hb9
  clear ho8
  go_wp2_with fail
  with_reducible refine (toVisS_any _ _ _ L2 _ ((h2.below hB).more hB.size) (by omega)).mono ?_
  rintro e w10 ⟨v10, rfl, ho10, hb10⟩
  have hs10 := hb10.size
  replace ho4 := own_after ho4 hb10
  replace ho5 := own_after ho5 hb10
  replace ho6 := own_after ho6 hb10
  replace hW := hW.below (hb10.mono (by omega))
  replace hB := bT hB hb10
  clear hb10
  obtain ⟨A100, c100, rfl⟩ := own_form ho10
  have HL_ho10 := Lib.hid (show ∀ k, (Value.slice A100 L2.length c100).ownBlock = some k → k < w10.heap.size from fun k hk => (ho10.lt k hk).2)
  go_wp2_with fail
  with_reducible refine (eqVisS_any _ _ _ _ _ _ L2 L2 _ (Rd.of_own ho5) (Rd.of_own ho10)).mono ?_
  rintro e w11 ⟨rfl, hb11⟩
  have hs11 := hb11.size
  replace ho4 := own_after ho4 hb11
  replace ho5 := own_after ho5 hb11
  replace ho6 := own_after ho6 hb11
  replace ho10 := own_after ho10 hb11
  replace hW := hW.below (hb11.mono (by omega))
  replace hB := bT hB hb11
  clear hb11
  clear ho10
  go_wp2_with fail
  refine (markVisS_any _ _ L1.length L1 (1) _ ho4 (by omega) (by omega) (by omega)).mono ?_
  rintro e w12 ⟨rfl, hn12, hg12⟩
  have hs12 := hg12.size
  replace ho5 := own_past2 ho5 ho4 (fun k hk => Nat.lt_of_lt_of_le (HL_ho4.out k hk) (by omega)) hg12
  replace ho6 := own_past2 ho6 ho4 (fun k hk => Nat.lt_of_lt_of_le (HL_ho4.out k hk) (by omega)) hg12
  replace hW := hW.past ho4 (by omega) (by omega) hg12
  replace hB := own_below hB (own_less ho4 (by omega)) hg12
  clear ho4 hg12
  have ho4 := hn12
  clear hn12
  clear ho4
  go_wp2_with fail
  refine (markVisS_any _ _ L2.length L2 (1 + 2 * (L1.length : Int)) _ ho5 (by omega) (by omega) (by omega)).mono ?_
  rintro e w13 ⟨rfl, hn13, hg13⟩
  have hs13 := hg13.size
  replace ho6 := own_past2 ho6 ho5 (fun k hk => Nat.lt_of_lt_of_le (HL_ho5.out k hk) (by omega)) hg13
  replace hW := hW.past ho5 (by omega) (by omega) hg13
  replace hB := own_below hB (own_less ho5 (by omega)) hg13
  clear ho5 hg13
  have ho5 := hn13
  clear hn13
  clear ho5
  go_wp2_with fail
  with_reducible refine (eqIntS_any _ _ _ _ _ _ M M _ (Rd.of_own ho6) (hW.more (by omega))).mono ?_
  rintro e w14 ⟨rfl, hb14⟩
  have hs14 := hb14.size
  replace ho6 := own_after ho6 hb14
  replace hW := hW.below (hb14.mono (by omega))
  replace hB := bT hB hb14
  clear hb14
  go_wp2_with fail
  refine (markIntS_any _ _ M.length M (1) _ ho6 (by omega) (by omega) (by omega)).mono ?_
  rintro e w15 ⟨rfl, hn15, hg15⟩
  have hs15 := hg15.size
  replace hW := hW.past ho6 (by omega) (by omega) hg15
  replace hB := own_below hB (own_less ho6 (by omega)) hg15
  clear ho6 hg15
  have ho6 := hn15
  clear hn15
  go_wp2_with (go_at_call 34; refine (heldIntS_any _ _ _ 1 _ (Rd.of_own ho6) (by omega) (by omega) (by omega)).mono ?_; rintro e w' ⟨rfl, rfl⟩)
  with_reducible refine (toVisS_any _ _ _ L1 _ ((h1.below hB).more hB.size) (by omega)).mono ?_
  rintro e w16 ⟨v16, rfl, ho16, hb16⟩
  have hs16 := hb16.size
  replace ho6 := own_after ho6 hb16
  replace hW := hW.below (hb16.mono (by omega))
  replace hB := bT hB hb16
  clear hb16
  obtain ⟨A160, c160, rfl⟩ := own_form ho16
  have HL_ho16 := Lib.hid (show ∀ k, (Value.slice A160 L1.length c160).ownBlock = some k → k < w16.heap.size from fun k hk => (ho16.lt k hk).2)
  go_wp2_with fail
  with_reducible refine (toVisS_any _ _ _ L2 _ ((h2.below hB).more hB.size) (by omega)).mono ?_
  rintro e w17 ⟨v17, rfl, ho17, hb17⟩
  have hs17 := hb17.size
  replace ho6 := own_after ho6 hb17
  replace ho16 := own_after ho16 hb17
  replace hW := hW.below (hb17.mono (by omega))
  replace hB := bT hB hb17
  clear hb17
  obtain ⟨A170, c170, rfl⟩ := own_form ho17
  have HL_ho17 := Lib.hid (show ∀ k, (Value.slice A170 L2.length c170).ownBlock = some k → k < w17.heap.size from fun k hk => (ho17.lt k hk).2)
  go_wp2_with fail
  with_reducible refine (SolvePhases_any A160 A170 L1.length c160 L2.length c170 x0 L1 L2 _ (Rd.of_own ho16) (Rd.of_own ho17)).mono ?_
  rintro e w18 ⟨v18, ok2, M2, rfl, hres2, ho18, hb18⟩
  have hs18 := hb18.size
  replace ho6 := own_after ho6 hb18
  replace ho16 := own_after ho16 hb18
  replace ho17 := own_after ho17 hb18
  replace hW := hW.below (hb18.mono (by omega))
  replace hB := bT hB hb18
  clear hb18
  obtain ⟨eo, eM⟩ := Vm.flag_one HRES.out hres2
  subst eo eM
  clear hres2
  obtain ⟨A180, c180, rfl⟩ := own_form ho18
  clear ho16
  clear ho17
  go_wp2_with fail
  with_reducible refine (eqIntS_any _ _ _ _ _ _ M M _ (Rd.of_own ho18) (hW.more (by omega))).mono ?_
  rintro e w19 ⟨rfl, hb19⟩
  have hs19 := hb19.size
  replace ho6 := own_after ho6 hb19
  replace ho18 := own_after ho18 hb19
  replace hW := hW.below (hb19.mono (by omega))
  replace hB := bT hB hb19
  clear hb19
  clear ho18
  go_wp2_with (go_at_call 34; refine (heldIntS_any _ _ _ 1 _ (Rd.of_own ho6) (by omega) (by omega) (by omega)).mono ?_; rintro e w' ⟨rfl, rfl⟩)
  go_ret
  exact ⟨rfl, hB⟩
set_option maxRecDepth 100000 in
set_option maxHeartbeats 8000000 in
theorem law_exactFlagSolve (x0 : Int) (A1 : Option Addr) (m1 c1 : Nat) (L1 : List (Int × Int)) (A2 : Option Addr) (m2 c2 : Nat) (L2 : List (Int × Int)) (A3 : Option Addr) (m3 c3 : Nat) (L3 : List Bool) (w : World) (_ : -9223372036854775808 ≤ x0) (_ : x0 ≤ 9223372036854775807) (h1 : Rd w w.heap.size 2 A1 m1 c1 (cp L1)) (h2 : Rd w w.heap.size 2 A2 m2 c2 (cp L2)) (h3 : Rd w w.heap.size 1 A3 m3 c3 (cbo L3)) :
    Calls Try.prog 8 #[.int .i64 x0, .slice A1 m1 c1, .slice A2 m2 c2, .slice A3 m3 c3] w fun e w' => e = .returned (.bool true) ∧ Below w.heap.size w w' := by
  have hm1 := h1.most
  have hcap1 := h1.cap
  have hl1 : L1.length = m1 := by have := h1.len; rw [cp_length] at this; omega
  have hm2 := h2.most
  have hcap2 := h2.cap
  have hl2 : L2.length = m2 := by have := h2.len; rw [cp_length] at this; omega
  have hm3 := h3.most
  have hcap3 := h3.cap
  have hl3 : L3.length = m3 := by have := h3.len; rw [cbo_length] at this; omega
  by_cases hz3 : 1048576 < m3
  · clear hl1 hl2 hl3
    go_enter Try.func8, Try.ntmps8
    go_wp2_with fail
    go_ret
    exact ⟨rfl, b0 _⟩
  by_cases hz1 : (1048576 : Int) < m1
  · have HS1 := Lib.hid (szR_neg (left := 1048576) (n := m1) (by omega))
    clear hl1 hl2 hl3
    go_enter Try.func8, Try.ntmps8
    go_wp2_with fail
    with_reducible refine (szVisS_any A1 m1 c1 (1048576) _ (by omega) (by omega) (by omega)).mono ?_
    rintro e w' ⟨rfl, rfl⟩
    rw [HS1.out]
    go_wp2_with fail
    go_ret
    exact ⟨rfl, b0 _⟩
  have HS1 := Lib.hid (szR_pos (left := 1048576) (n := m1) (by omega))
  have hlo1 : (0 : Int) ≤ 1048576 - (m1 : Int) := by omega
  by_cases hz2 : (1048576 - (m1 : Int) : Int) < m2
  · have HS2 := Lib.hid (szR_neg (left := 1048576 - (m1 : Int)) (n := m2) (by omega))
    clear hl1 hl2 hl3
    go_enter Try.func8, Try.ntmps8
    go_wp2_with fail
    with_reducible refine (szVisS_any A1 m1 c1 (1048576) _ (by omega) (by omega) (by omega)).mono ?_
    rintro e w' ⟨rfl, rfl⟩
    rw [HS1.out]
    go_wp2_with fail
    with_reducible refine (szVisS_any A2 m2 c2 (1048576 - (m1 : Int)) _ (by omega) (by omega) (by omega)).mono ?_
    rintro e w' ⟨rfl, rfl⟩
    rw [HS2.out]
    go_wp2_with fail
    go_ret
    exact ⟨rfl, b0 _⟩
  have HS2 := Lib.hid (szR_pos (left := 1048576 - (m1 : Int)) (n := m2) (by omega))
  have hlo2 : (0 : Int) ≤ 1048576 - (m1 : Int) - (m2 : Int) := by omega
  have hLm1 : L1.length ≤ 1048576 := by omega
  have hmm1 : m1 ≤ 1048576 := by omega
  have hd1 : decide (L1 = L1) = true := by simp
  clear hl1
  have hLm2 : L2.length ≤ 1048576 := by omega
  have hmm2 : m2 ≤ 1048576 := by omega
  have hd2 : decide (L2 = L2) = true := by simp
  clear hl2
  have hLm3 : L3.length ≤ 1048576 := by omega
  have hmm3 : m3 ≤ 1048576 := by omega
  have hd3 : decide (L3 = L3) = true := by simp
  clear hl3
  go_enter Try.func8, Try.ntmps8
  go_wp2_with fail
  with_reducible refine (szVisS_any A1 m1 c1 (1048576) _ (by omega) (by omega) (by omega)).mono ?_
  rintro e w' ⟨rfl, rfl⟩
  rw [HS1.out]
  go_wp2_with fail
  with_reducible refine (szVisS_any A2 m2 c2 (1048576 - (m1 : Int)) _ (by omega) (by omega) (by omega)).mono ?_
  rintro e w' ⟨rfl, rfl⟩
  rw [HS2.out]
  go_wp2_with fail
  with_reducible refine (toVisS_any _ _ _ L1 _ h1 (by omega)).mono ?_
  rintro e w1 ⟨v1, rfl, ho1, hb1⟩
  have hs1 := hb1.size
  have hB := hb1
  clear hb1
  obtain ⟨A10, c10, rfl⟩ := own_form ho1
  have HL_ho1 := Lib.hid (show ∀ k, (Value.slice A10 L1.length c10).ownBlock = some k → k < w1.heap.size from fun k hk => (ho1.lt k hk).2)
  go_wp2_with fail
  with_reducible refine (toVisS_any _ _ _ L2 _ ((h2.below hB).more hB.size) (by omega)).mono ?_
  rintro e w2 ⟨v2, rfl, ho2, hb2⟩
  have hs2 := hb2.size
  replace ho1 := own_after ho1 hb2
  replace hB := bT hB hb2
  clear hb2
  obtain ⟨A20, c20, rfl⟩ := own_form ho2
  have HL_ho2 := Lib.hid (show ∀ k, (Value.slice A20 L2.length c20).ownBlock = some k → k < w2.heap.size from fun k hk => (ho2.lt k hk).2)
  go_wp2_with fail
  with_reducible refine (toBoolS_any _ _ _ L3 _ ((h3.below hB).more hB.size) (by omega)).mono ?_
  rintro e w3 ⟨v3, rfl, ho3, hb3⟩
  have hs3 := hb3.size
  replace ho1 := own_after ho1 hb3
  replace ho2 := own_after ho2 hb3
  replace hB := bT hB hb3
  clear hb3
  obtain ⟨A30, c30, rfl⟩ := own_form ho3
  have HL_ho3 := Lib.hid (show ∀ k, (Value.slice A30 L3.length c30).ownBlock = some k → k < w3.heap.size from fun k hk => (ho3.lt k hk).2)
  go_wp2_with fail
  with_reducible refine (sFlagSolve_any A10 A20 A30 L1.length c10 L2.length c20 L3.length c30 x0 L1 L2 L3 _ (Rd.of_own ho1) (Rd.of_own ho2) (Rd.of_own ho3)).mono ?_
  rintro e w4 ⟨v4, ok, M, rfl, hres, ho4, hb4⟩
  have hs4 := hb4.size
  replace ho1 := own_after ho1 hb4
  replace ho2 := own_after ho2 hb4
  replace ho3 := own_after ho3 hb4
  replace hB := bT hB hb4
  clear hb4
  obtain ⟨A40, c40, rfl⟩ := own_form ho4
  have hW := Rd.of_own ho4
  clear ho4
  clear ho1
  clear ho2
  clear ho3
  have hM21 : M.length ≤ 1048576 := Nat.le_trans (flagRes_len hres) (by omega)
  have HRES := Lib.hid hres
  clear hres
  have hMM : decide (M = M) = true := by simp
  have hqq : (ok != ok) = false := by simp
  go_wp2_with fail
  with_reducible refine (toVisS_any _ _ _ L1 _ ((h1.below hB).more hB.size) (by omega)).mono ?_
  rintro e w5 ⟨v5, rfl, ho5, hb5⟩
  have hs5 := hb5.size
  replace hW := hW.below (hb5.mono (by omega))
  replace hB := bT hB hb5
  clear hb5
  obtain ⟨A50, c50, rfl⟩ := own_form ho5
  have HL_ho5 := Lib.hid (show ∀ k, (Value.slice A50 L1.length c50).ownBlock = some k → k < w5.heap.size from fun k hk => (ho5.lt k hk).2)
  go_wp2_with fail
  with_reducible refine (toVisS_any _ _ _ L2 _ ((h2.below hB).more hB.size) (by omega)).mono ?_
  rintro e w6 ⟨v6, rfl, ho6, hb6⟩
  have hs6 := hb6.size
  replace ho5 := own_after ho5 hb6
  replace hW := hW.below (hb6.mono (by omega))
  replace hB := bT hB hb6
  clear hb6
  obtain ⟨A60, c60, rfl⟩ := own_form ho6
  have HL_ho6 := Lib.hid (show ∀ k, (Value.slice A60 L2.length c60).ownBlock = some k → k < w6.heap.size from fun k hk => (ho6.lt k hk).2)
  go_wp2_with fail
  with_reducible refine (toBoolS_any _ _ _ L3 _ ((h3.below hB).more hB.size) (by omega)).mono ?_
  rintro e w7 ⟨v7, rfl, ho7, hb7⟩
  have hs7 := hb7.size
  replace ho5 := own_after ho5 hb7
  replace ho6 := own_after ho6 hb7
  replace hW := hW.below (hb7.mono (by omega))
  replace hB := bT hB hb7
  clear hb7
  obtain ⟨A70, c70, rfl⟩ := own_form ho7
  have HL_ho7 := Lib.hid (show ∀ k, (Value.slice A70 L3.length c70).ownBlock = some k → k < w7.heap.size from fun k hk => (ho7.lt k hk).2)
  go_wp2_with fail
  with_reducible refine (FlagSolve_any A50 A60 A70 L1.length c50 L2.length c60 L3.length c70 x0 L1 L2 L3 _ (Rd.of_own ho5) (Rd.of_own ho6) (Rd.of_own ho7)).mono ?_
  rintro e w8 ⟨v8, ok2, M2, rfl, hres2, ho8, hb8⟩
  have hs8 := hb8.size
  replace ho5 := own_after ho5 hb8
  replace ho6 := own_after ho6 hb8
  replace ho7 := own_after ho7 hb8
  replace hW := hW.below (hb8.mono (by omega))
  replace hB := bT hB hb8
  clear hb8
  obtain ⟨eo, eM⟩ := Vm.flag_one HRES.out hres2
  subst eo eM
  clear hres2
  obtain ⟨A80, c80, rfl⟩ := own_form ho8
  go_wp2_with fail
  with_reducible refine (eqIntS_any _ _ _ _ _ _ M M _ (Rd.of_own ho8) (hW.more (by omega))).mono ?_
  rintro e w9 ⟨rfl, hb9⟩
  have hs9 := hb9.size
  replace ho5 := own_after ho5 hb9
  replace ho6 := own_after ho6 hb9
  replace ho7 := own_after ho7 hb9
  replace ho8 := own_after ho8 hb9
  replace hW := hW.below (hb9.mono (by omega))
  replace hB := bT hB hb9
  clear hb9
  go_wp2_with fail
  with_reducible refine (toVisS_any _ _ _ L1 _ ((h1.below hB).more hB.size) (by omega)).mono ?_
  rintro e w10 ⟨v10, rfl, ho10, hb10⟩
  have hs10 := hb10.size
  replace ho5 := own_after ho5 hb10
  replace ho6 := own_after ho6 hb10
  replace ho7 := own_after ho7 hb10
  replace ho8 := own_after ho8 hb10
  replace hW := hW.below (hb10.mono (by omega))
  replace hB := bT hB hb10
  clear hb10
  obtain ⟨A100, c100, rfl⟩ := own_form ho10
  have HL_ho10 := Lib.hid (show ∀ k, (Value.slice A100 L1.length c100).ownBlock = some k → k < w10.heap.size from fun k hk => (ho10.lt k hk).2)
  go_wp2_with fail
  with_reducible refine (eqVisS_any _ _ _ _ _ _ L1 L1 _ (Rd.of_own ho5) (Rd.of_own ho10)).mono ?_
  rintro e w11 ⟨rfl, hb11⟩
  have hs11 := hb11.size
  replace ho5 := own_after ho5 hb11
  replace ho6 := own_after ho6 hb11
  replace ho7 := own_after ho7 hb11
  replace ho8 := own_after ho8 hb11
  replace ho10 := own_after ho10 hb11
  replace hW := hW.below (hb11.mono (by omega))
  replace hB := bT hB hb11
  clear hb11
  clear ho10
  go_wp2_with fail
  with_reducible refine (toVisS_any _ _ _ L2 _ ((h2.below hB).more hB.size) (by omega)).mono ?_
  rintro e w12 ⟨v12, rfl, ho12, hb12⟩
  have hs12 := hb12.size
  replace ho5 := own_after ho5 hb12
  replace ho6 := own_after ho6 hb12
  replace ho7 := own_after ho7 hb12
  replace ho8 := own_after ho8 hb12
  replace hW := hW.below (hb12.mono (by omega))
  replace hB := bT hB hb12
  clear hb12
  obtain ⟨A120, c120, rfl⟩ := own_form ho12
  have HL_ho12 := Lib.hid (show ∀ k, (Value.slice A120 L2.length c120).ownBlock = some k → k < w12.heap.size from fun k hk => (ho12.lt k hk).2)
  go_wp2_with fail
  with_reducible refine (eqVisS_any _ _ _ _ _ _ L2 L2 _ (Rd.of_own ho6) (Rd.of_own ho12)).mono ?_
  rintro e w13 ⟨rfl, hb13⟩
  have hs13 := hb13.size
  replace ho5 := own_after ho5 hb13
  replace ho6 := own_after ho6 hb13
  replace ho7 := own_after ho7 hb13
  replace ho8 := own_after ho8 hb13
  replace ho12 := own_after ho12 hb13
  replace hW := hW.below (hb13.mono (by omega))
  replace hB := bT hB hb13
  clear hb13
  clear ho12
  go_wp2_with fail
  with_reducible refine (toBoolS_any _ _ _ L3 _ ((h3.below hB).more hB.size) (by omega)).mono ?_
  rintro e w14 ⟨v14, rfl, ho14, hb14⟩
  have hs14 := hb14.size
  replace ho5 := own_after ho5 hb14
  replace ho6 := own_after ho6 hb14
  replace ho7 := own_after ho7 hb14
  replace ho8 := own_after ho8 hb14
  replace hW := hW.below (hb14.mono (by omega))
  replace hB := bT hB hb14
  clear hb14
  obtain ⟨A140, c140, rfl⟩ := own_form ho14
  have HL_ho14 := Lib.hid (show ∀ k, (Value.slice A140 L3.length c140).ownBlock = some k → k < w14.heap.size from fun k hk => (ho14.lt k hk).2)
  go_wp2_with fail
  with_reducible refine (eqBoolS_any _ _ _ _ _ _ L3 L3 _ (Rd.of_own ho7) (Rd.of_own ho14)).mono ?_
  rintro e w15 ⟨rfl, hb15⟩
  have hs15 := hb15.size
  replace ho5 := own_after ho5 hb15
  replace ho6 := own_after ho6 hb15
  replace ho7 := own_after ho7 hb15
  replace ho8 := own_after ho8 hb15
  replace ho14 := own_after ho14 hb15
  replace hW := hW.below (hb15.mono (by omega))
  replace hB := bT hB hb15
  clear hb15
  clear ho14
  go_wp2_with fail
  refine (markVisS_any _ _ L1.length L1 (1) _ ho5 (by omega) (by omega) (by omega)).mono ?_
  rintro e w16 ⟨rfl, hn16, hg16⟩
  have hs16 := hg16.size
  replace ho6 := own_past2 ho6 ho5 (fun k hk => Nat.lt_of_lt_of_le (HL_ho5.out k hk) (by omega)) hg16
  replace ho7 := own_past2 ho7 ho5 (fun k hk => Nat.lt_of_lt_of_le (HL_ho5.out k hk) (by omega)) hg16
  replace ho8 := own_past2 ho8 ho5 (fun k hk => Nat.lt_of_lt_of_le (HL_ho5.out k hk) (by omega)) hg16
  replace hW := hW.past ho5 (by omega) (by omega) hg16
  replace hB := own_below hB (own_less ho5 (by omega)) hg16
  clear ho5 hg16
  have ho5 := hn16
  clear hn16
  clear ho5
  go_wp2_with fail
  refine (markVisS_any _ _ L2.length L2 (1 + 2 * (L1.length : Int)) _ ho6 (by omega) (by omega) (by omega)).mono ?_
  rintro e w17 ⟨rfl, hn17, hg17⟩
  have hs17 := hg17.size
  replace ho7 := own_past2 ho7 ho6 (fun k hk => Nat.lt_of_lt_of_le (HL_ho6.out k hk) (by omega)) hg17
  replace ho8 := own_past2 ho8 ho6 (fun k hk => Nat.lt_of_lt_of_le (HL_ho6.out k hk) (by omega)) hg17
  replace hW := hW.past ho6 (by omega) (by omega) hg17
  replace hB := own_below hB (own_less ho6 (by omega)) hg17
  clear ho6 hg17
  have ho6 := hn17
  clear hn17
  clear ho6
  go_wp2_with fail
  refine (markBoolS_any _ _ L3.length L3 (1 + 2 * (L1.length : Int) + 2 * (L2.length : Int)) _ ho7 (by omega) (by omega) (by omega)).mono ?_
  rintro e w18 ⟨rfl, hn18, hg18⟩
  have hs18 := hg18.size
  replace ho8 := own_past2 ho8 ho7 (fun k hk => Nat.lt_of_lt_of_le (HL_ho7.out k hk) (by omega)) hg18
  replace hW := hW.past ho7 (by omega) (by omega) hg18
  replace hB := own_below hB (own_less ho7 (by omega)) hg18
  clear ho7 hg18
  have ho7 := hn18
  clear hn18
  clear ho7
  go_wp2_with fail
  with_reducible refine (eqIntS_any _ _ _ _ _ _ M M _ (Rd.of_own ho8) (hW.more (by omega))).mono ?_
  rintro e w19 ⟨rfl, hb19⟩
  have hs19 := hb19.size
  replace ho8 := own_after ho8 hb19
  replace hW := hW.below (hb19.mono (by omega))
  replace hB := bT hB hb19
  clear hb19
  go_wp2_with fail
  refine (markIntS_any _ _ M.length M (1) _ ho8 (by omega) (by omega) (by omega)).mono ?_
  rintro e w20 ⟨rfl, hn20, hg20⟩
  have hs20 := hg20.size
  replace hW := hW.past ho8 (by omega) (by omega) hg20
  replace hB := own_below hB (own_less ho8 (by omega)) hg20
  clear ho8 hg20
  have ho8 := hn20
  clear hn20
  go_wp2_with (go_at_call 34; refine (heldIntS_any _ _ _ 1 _ (Rd.of_own ho8) (by omega) (by omega) (by omega)).mono ?_; rintro e w' ⟨rfl, rfl⟩)
  with_reducible refine (toVisS_any _ _ _ L1 _ ((h1.below hB).more hB.size) (by omega)).mono ?_
  rintro e w21 ⟨v21, rfl, ho21, hb21⟩
  have hs21 := hb21.size
  replace ho8 := own_after ho8 hb21
  replace hW := hW.below (hb21.mono (by omega))
  replace hB := bT hB hb21
  clear hb21
  obtain ⟨A210, c210, rfl⟩ := own_form ho21
  have HL_ho21 := Lib.hid (show ∀ k, (Value.slice A210 L1.length c210).ownBlock = some k → k < w21.heap.size from fun k hk => (ho21.lt k hk).2)
  go_wp2_with fail
  with_reducible refine (toVisS_any _ _ _ L2 _ ((h2.below hB).more hB.size) (by omega)).mono ?_
  rintro e w22 ⟨v22, rfl, ho22, hb22⟩
  have hs22 := hb22.size
  replace ho8 := own_after ho8 hb22
  replace ho21 := own_after ho21 hb22
  replace hW := hW.below (hb22.mono (by omega))
  replace hB := bT hB hb22
  clear hb22
  obtain ⟨A220, c220, rfl⟩ := own_form ho22
  have HL_ho22 := Lib.hid (show ∀ k, (Value.slice A220 L2.length c220).ownBlock = some k → k < w22.heap.size from fun k hk => (ho22.lt k hk).2)
  go_wp2_with fail
  with_reducible refine (toBoolS_any _ _ _ L3 _ ((h3.below hB).more hB.size) (by omega)).mono ?_
  rintro e w23 ⟨v23, rfl, ho23, hb23⟩
  have hs23 := hb23.size
  replace ho8 := own_after ho8 hb23
  replace ho21 := own_after ho21 hb23
  replace ho22 := own_after ho22 hb23
  replace hW := hW.below (hb23.mono (by omega))
  replace hB := bT hB hb23
  clear hb23
  obtain ⟨A230, c230, rfl⟩ := own_form ho23
  have HL_ho23 := Lib.hid (show ∀ k, (Value.slice A230 L3.length c230).ownBlock = some k → k < w23.heap.size from fun k hk => (ho23.lt k hk).2)
  go_wp2_with fail
  with_reducible refine (FlagSolve_any A210 A220 A230 L1.length c210 L2.length c220 L3.length c230 x0 L1 L2 L3 _ (Rd.of_own ho21) (Rd.of_own ho22) (Rd.of_own ho23)).mono ?_
  rintro e w24 ⟨v24, ok2, M2, rfl, hres2, ho24, hb24⟩
  have hs24 := hb24.size
  replace ho8 := own_after ho8 hb24
  replace ho21 := own_after ho21 hb24
  replace ho22 := own_after ho22 hb24
  replace ho23 := own_after ho23 hb24
  replace hW := hW.below (hb24.mono (by omega))
  replace hB := bT hB hb24
  clear hb24
  obtain ⟨eo, eM⟩ := Vm.flag_one HRES.out hres2
  subst eo eM
  clear hres2
  obtain ⟨A240, c240, rfl⟩ := own_form ho24
  clear ho21
  clear ho22
  clear ho23
  go_wp2_with fail
  with_reducible refine (eqIntS_any _ _ _ _ _ _ M M _ (Rd.of_own ho24) (hW.more (by omega))).mono ?_
  rintro e w25 ⟨rfl, hb25⟩
  have hs25 := hb25.size
  replace ho8 := own_after ho8 hb25
  replace ho24 := own_after ho24 hb25
  replace hW := hW.below (hb25.mono (by omega))
  replace hB := bT hB hb25
  clear hb25
  clear ho24
  go_wp2_with (go_at_call 34; refine (heldIntS_any _ _ _ 1 _ (Rd.of_own ho8) (by omega) (by omega) (by omega)).mono ?_; rintro e w' ⟨rfl, rfl⟩)
  go_ret
  exact ⟨rfl, hB⟩

end Go.Proofs.Ytmoeofclpnblmaa
