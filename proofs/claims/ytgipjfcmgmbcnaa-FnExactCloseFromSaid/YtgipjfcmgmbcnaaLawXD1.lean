/- The exact law FnExactCloseFrom. Written by lawsXD.py. -/
import Derived.Test.YtgipjfcmgmbcnaaExactC
import Derived.Test.YtgipjfcmgmbcnaaLawX1
import Derived.Test.YtgipjfcmgmbcnaaBaseC
namespace Go.Proofs.Ytgipjfcmgmbcnaa
open Go.RowKit

set_option maxRecDepth 100000 in
set_option maxHeartbeats 8000000 in
theorem law_exactCloseFrom (x0 : Int) (A1 : Option Addr) (m1 c1 : Nat) (L1 : List Int) (x2 : Int) (x3 : Int) (x4 : Int) (w : World) (_ : -9223372036854775808 ≤ x0) (_ : x0 ≤ 9223372036854775807) (h1 : Rd w w.heap.size 1 A1 m1 c1 (ci L1)) (_ : -9223372036854775808 ≤ x2) (_ : x2 ≤ 9223372036854775807) (_ : -9223372036854775808 ≤ x3) (_ : x3 ≤ 9223372036854775807) (_ : -9223372036854775808 ≤ x4) (_ : x4 ≤ 9223372036854775807) :
    Calls Try.prog 3 #[.int .i64 x0, .slice A1 m1 c1, .int .i64 x2, .int .i64 x3, .int .i64 x4] w fun e w' => e = .returned (.bool true) ∧ Below w.heap.size w w' := by
  have hm1 := h1.most
  have hcap1 := h1.cap
  have hl1 : L1.length = m1 := by have := h1.len; rw [ci_length] at this; omega
  by_cases hz1 : 1048576 < m1
  · clear hl1
    go_enter Try.func3, Try.ntmps3
    go_wp2_with fail
    go_ret
    exact ⟨rfl, b0 _⟩
  have hLm1 : L1.length ≤ 1048576 := by omega
  have hmm1 : m1 ≤ 1048576 := by omega
  have hd1 : decide (L1 = L1) = true := by simp
  clear hl1
  go_enter Try.func3, Try.ntmps3
  go_wp2_with fail
  with_reducible refine (toIntS_any _ _ _ L1 _ h1 (by omega)).mono ?_
  rintro e w1 ⟨v1, rfl, ho1, hb1⟩
  have hs1 := hb1.size
  have hB := hb1
  clear hb1
  obtain ⟨A10, c10, rfl⟩ := own_form ho1
  have HL_ho1 := Lib.hid (show ∀ k, (Value.slice A10 L1.length c10).ownBlock = some k → k < w1.heap.size from fun k hk => (ho1.lt k hk).2)
  go_wp2_with fail
  with_reducible refine (sCloseFrom_any A10 L1.length c10 x0 L1 x2 x3 x4 _ (Rd.of_own ho1)).mono ?_
  rintro e w2 ⟨rfl, hb2⟩
  have hs2 := hb2.size
  replace ho1 := own_after ho1 hb2
  replace hB := bT hB hb2
  clear hb2
  clear ho1
  go_wp2_with fail
  with_reducible refine (toIntS_any _ _ _ L1 _ ((h1.below hB).more hB.size) (by omega)).mono ?_
  rintro e w3 ⟨v3, rfl, ho3, hb3⟩
  have hs3 := hb3.size
  replace hB := bT hB hb3
  clear hb3
  obtain ⟨A30, c30, rfl⟩ := own_form ho3
  have HL_ho3 := Lib.hid (show ∀ k, (Value.slice A30 L1.length c30).ownBlock = some k → k < w3.heap.size from fun k hk => (ho3.lt k hk).2)
  go_wp2_with fail
  with_reducible refine (CloseFrom_any A30 L1.length c30 x0 L1 x2 x3 x4 _ (Rd.of_own ho3)).mono ?_
  rintro e w4 ⟨rfl, hb4⟩
  have hs4 := hb4.size
  replace ho3 := own_after ho3 hb4
  replace hB := bT hB hb4
  clear hb4
  obtain ⟨o, ho⟩ : ∃ o, Vm.cfP x0 L1 x2 x3 x4 = o := ⟨_, rfl⟩
  obtain ⟨q, hq⟩ : ∃ o, Vm.cfB x0 L1 x2 x3 x4 = o := ⟨_, rfl⟩
  rw [ho, hq]
  clear ho hq
  have hqq : (q != q) = false := by simp
  go_wp2_with fail
  with_reducible refine (toIntS_any _ _ _ L1 _ ((h1.below hB).more hB.size) (by omega)).mono ?_
  rintro e w5 ⟨v5, rfl, ho5, hb5⟩
  have hs5 := hb5.size
  replace ho3 := own_after ho3 hb5
  replace hB := bT hB hb5
  clear hb5
  obtain ⟨A50, c50, rfl⟩ := own_form ho5
  have HL_ho5 := Lib.hid (show ∀ k, (Value.slice A50 L1.length c50).ownBlock = some k → k < w5.heap.size from fun k hk => (ho5.lt k hk).2)
  go_wp2_with fail
  with_reducible refine (eqIntS_any _ _ _ _ _ _ L1 L1 _ (Rd.of_own ho3) (Rd.of_own ho5)).mono ?_
  rintro e w6 ⟨rfl, hb6⟩
  have hs6 := hb6.size
  replace ho3 := own_after ho3 hb6
  replace ho5 := own_after ho5 hb6
  replace hB := bT hB hb6
  clear hb6
  clear ho5
  go_wp2_with fail
  go_ret
  exact ⟨rfl, hB⟩

end Go.Proofs.Ytgipjfcmgmbcnaa
