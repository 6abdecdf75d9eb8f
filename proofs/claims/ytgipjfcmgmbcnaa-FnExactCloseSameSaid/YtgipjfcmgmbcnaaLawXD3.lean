/- The exact law FnExactCloseSame. Written by lawsD3.py. -/
import Derived.Test.YtgipjfcmgmbcnaaExactC
import Derived.Test.YtgipjfcmgmbcnaaLawX1
import Derived.Test.YtgipjfcmgmbcnaaAmpS
namespace Go.Proofs.Ytgipjfcmgmbcnaa
open Go.RowKit

set_option maxRecDepth 100000 in
set_option maxHeartbeats 8000000 in
theorem law_exactCloseSame (x0 : Int) (A1 : Option Addr) (m1 c1 : Nat) (L1 : List (Int × Int)) (A2 : Option Addr) (m2 c2 : Nat) (L2 : List (Int × Int)) (w : World) (_ : -9223372036854775808 ≤ x0) (_ : x0 ≤ 9223372036854775807) (h1 : Rd w w.heap.size 2 A1 m1 c1 (cp L1)) (h2 : Rd w w.heap.size 2 A2 m2 c2 (cp L2)) :
    Calls Try.prog 14 #[.int .i64 x0, .slice A1 m1 c1, .slice A2 m2 c2] w fun e w' => e = .returned (.bool true) ∧ Below w.heap.size w w' := by
  have hm1 := h1.most
  have hcap1 := h1.cap
  have hl1 : L1.length = m1 := by have := h1.len; rw [cp_length] at this; omega
  have hm2 := h2.most
  have hcap2 := h2.cap
  have hl2 : L2.length = m2 := by have := h2.len; rw [cp_length] at this; omega
  by_cases hz1 : (1048576 : Int) < m1
  · have HS1 := Lib.hid (szR_neg (left := 1048576) (n := m1) (by omega))
    clear hl1 hl2
    go_enter Try.func14, Try.ntmps14
    go_wp2_with fail
    with_reducible refine (szVisS_any A1 m1 c1 (1048576) _ (by omega) (by omega) (by omega)).mono ?_
    rintro e w' ⟨rfl, rfl⟩
    rw [HS1.out]
    go_wp2_with fail
    go_ret
    exact ⟨rfl, b0 _⟩
  have HS1 := Lib.hid (szR_pos (left := 1048576) (n := m1) (by omega))
  have hlo1 : (0 : Int) ≤ 1048576 - (m1 : Int) := by omega
  by_cases hz2 : (1048576 - (m1 : Int) : Int) < m2
  · have HS2 := Lib.hid (szR_neg (left := 1048576 - (m1 : Int)) (n := m2) (by omega))
    clear hl1 hl2
    go_enter Try.func14, Try.ntmps14
    go_wp2_with fail
    with_reducible refine (szVisS_any A1 m1 c1 (1048576) _ (by omega) (by omega) (by omega)).mono ?_
    rintro e w' ⟨rfl, rfl⟩
    rw [HS1.out]
    go_wp2_with fail
    with_reducible refine (szVisS_any A2 m2 c2 (1048576 - (m1 : Int)) _ (by omega) (by omega) (by omega)).mono ?_
    rintro e w' ⟨rfl, rfl⟩
    rw [HS2.out]
    go_wp2_with fail
    go_ret
    exact ⟨rfl, b0 _⟩
  have HS2 := Lib.hid (szR_pos (left := 1048576 - (m1 : Int)) (n := m2) (by omega))
  have hlo2 : (0 : Int) ≤ 1048576 - (m1 : Int) - (m2 : Int) := by omega
  have hLm1 : L1.length ≤ 1048576 := by omega
  have hmm1 : m1 ≤ 1048576 := by omega
  have hd1 : decide (L1 = L1) = true := by simp
  clear hl1
  have hLm2 : L2.length ≤ 1048576 := by omega
  have hmm2 : m2 ≤ 1048576 := by omega
  have hd2 : decide (L2 = L2) = true := by simp
  clear hl2
  go_enter Try.func14, Try.ntmps14
  go_wp2_with fail
  with_reducible refine (szVisS_any A1 m1 c1 (1048576) _ (by omega) (by omega) (by omega)).mono ?_
  rintro e w' ⟨rfl, rfl⟩
  rw [HS1.out]
  go_wp2_with fail
  with_reducible refine (szVisS_any A2 m2 c2 (1048576 - (m1 : Int)) _ (by omega) (by omega) (by omega)).mono ?_
  rintro e w' ⟨rfl, rfl⟩
  rw [HS2.out]
  go_wp2_with fail
  with_reducible refine (toVisS_any _ _ _ L1 _ h1 (by omega)).mono ?_
  rintro e w1 ⟨v1, rfl, ho1, hb1⟩
  have hs1 := hb1.size
  have hB := hb1
  clear hb1
  obtain ⟨A10, c10, rfl⟩ := own_form ho1
  have HL_ho1 := Lib.hid (show ∀ k, (Value.slice A10 L1.length c10).ownBlock = some k → k < w1.heap.size from fun k hk => (ho1.lt k hk).2)
  go_wp2_with fail
  with_reducible refine (toVisS_any _ _ _ L2 _ ((h2.below hB).more hB.size) (by omega)).mono ?_
  rintro e w2 ⟨v2, rfl, ho2, hb2⟩
  have hs2 := hb2.size
  replace ho1 := own_after ho1 hb2
  replace hB := bT hB hb2
  clear hb2
  obtain ⟨A20, c20, rfl⟩ := own_form ho2
  have HL_ho2 := Lib.hid (show ∀ k, (Value.slice A20 L2.length c20).ownBlock = some k → k < w2.heap.size from fun k hk => (ho2.lt k hk).2)
  go_wp2_with fail
  with_reducible refine (sCloseSame_any A10 A20 L1.length c10 L2.length c20 x0 L1 L2 _ (Rd.of_own ho1) (Rd.of_own ho2)).mono ?_
  rintro e w3 ⟨b1, rfl, hp1, hb3⟩
  have hs3 := hb3.size
  replace ho1 := own_after ho1 hb3
  replace ho2 := own_after ho2 hb3
  replace hB := bT hB hb3
  clear hb3
  clear ho1
  clear ho2
  go_wp2_with fail
  with_reducible refine (toVisS_any _ _ _ L1 _ ((h1.below hB).more hB.size) (by omega)).mono ?_
  rintro e w4 ⟨v4, rfl, ho4, hb4⟩
  have hs4 := hb4.size
  replace hB := bT hB hb4
  clear hb4
  obtain ⟨A40, c40, rfl⟩ := own_form ho4
  have HL_ho4 := Lib.hid (show ∀ k, (Value.slice A40 L1.length c40).ownBlock = some k → k < w4.heap.size from fun k hk => (ho4.lt k hk).2)
  go_wp2_with fail
  with_reducible refine (toVisS_any _ _ _ L2 _ ((h2.below hB).more hB.size) (by omega)).mono ?_
  rintro e w5 ⟨v5, rfl, ho5, hb5⟩
  have hs5 := hb5.size
  replace ho4 := own_after ho4 hb5
  replace hB := bT hB hb5
  clear hb5
  obtain ⟨A50, c50, rfl⟩ := own_form ho5
  have HL_ho5 := Lib.hid (show ∀ k, (Value.slice A50 L2.length c50).ownBlock = some k → k < w5.heap.size from fun k hk => (ho5.lt k hk).2)
  go_wp2_with fail
  with_reducible refine (CloseSame_any A40 A50 L1.length c40 L2.length c50 x0 L1 L2 _ (Rd.of_own ho4) (Rd.of_own ho5)).mono ?_
  rintro e w6 ⟨b2, rfl, hp2, hb6⟩
  have hs6 := hb6.size
  replace ho4 := own_after ho4 hb6
  replace ho5 := own_after ho5 hb6
  replace hB := bT hB hb6
  clear hb6
  obtain rfl : b2 = b1 := by rw [Bool.eq_iff_iff]; exact hp2.trans hp1.symm
  clear hp1 hp2
  have hqq : (b2 != b2) = false := by simp
  go_wp2_with fail
  with_reducible refine (toVisS_any _ _ _ L1 _ ((h1.below hB).more hB.size) (by omega)).mono ?_
  rintro e w7 ⟨v7, rfl, ho7, hb7⟩
  have hs7 := hb7.size
  replace ho4 := own_after ho4 hb7
  replace ho5 := own_after ho5 hb7
  replace hB := bT hB hb7
  clear hb7
  obtain ⟨A70, c70, rfl⟩ := own_form ho7
  have HL_ho7 := Lib.hid (show ∀ k, (Value.slice A70 L1.length c70).ownBlock = some k → k < w7.heap.size from fun k hk => (ho7.lt k hk).2)
  go_wp2_with fail
  with_reducible refine (eqVisS_any _ _ _ _ _ _ L1 L1 _ (Rd.of_own ho4) (Rd.of_own ho7)).mono ?_
  rintro e w8 ⟨rfl, hb8⟩
  have hs8 := hb8.size
  replace ho4 := own_after ho4 hb8
  replace ho5 := own_after ho5 hb8
  replace ho7 := own_after ho7 hb8
  replace hB := bT hB hb8
  clear hb8
  clear ho7
  go_wp2_with fail
  with_reducible refine (toVisS_any _ _ _ L2 _ ((h2.below hB).more hB.size) (by omega)).mono ?_
  rintro e w9 ⟨v9, rfl, ho9, hb9⟩
  have hs9 := hb9.size
  replace ho4 := own_after ho4 hb9
  replace ho5 := own_after ho5 hb9
  replace hB := bT hB hb9
  clear hb9
  obtain ⟨A90, c90, rfl⟩ := own_form ho9
  have HL_ho9 := Lib.hid (show ∀ k, (Value.slice A90 L2.length c90).ownBlock = some k → k < w9.heap.size from fun k hk => (ho9.lt k hk).2)
  go_wp2_with fail
  with_reducible refine (eqVisS_any _ _ _ _ _ _ L2 L2 _ (Rd.of_own ho5) (Rd.of_own ho9)).mono ?_
  rintro e w10 ⟨rfl, hb10⟩
  have hs10 := hb10.size
  replace ho4 := own_after ho4 hb10
  replace ho5 := own_after ho5 hb10
  replace ho9 := own_after ho9 hb10
  replace hB := bT hB hb10
  clear hb10
  clear ho9
  go_wp2_with fail
  go_ret
  exact ⟨rfl, hB⟩

end Go.Proofs.Ytgipjfcmgmbcnaa
