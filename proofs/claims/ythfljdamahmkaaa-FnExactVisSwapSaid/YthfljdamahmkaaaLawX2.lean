/- The exact law FnExactVisSwap. -/
import Derived.Test.YthfljdamahmkaaaMarkC
import Derived.Test.YthfljdamahmkaaaSwap2
import Derived.Test.YthfljdamahmkaaaLawX1
namespace Go.Proofs.Ythfljdamahmkaaa
open Go.RowKit

theorem mk_len21 (n : Int) (L : List (Int × Int)) (a b : Int) : (Vm.swapL n L a b).length ≤ 21 := by
  cases h : Vm.swapB n L a b
  · rw [Vm.swapL_no h]; simp
  · obtain ⟨h1, _, _⟩ := (Vm.swapB_iff _ _ _ _).1 h
    obtain ⟨N, rfl, hO⟩ := Vm.Ok.of h1
    rw [(Vm.swap_ok h).len]
    have := Vm.many_le N (by have := hO.hi; omega)
    omega
set_option maxRecDepth 100000 in
set_option maxHeartbeats 8000000 in
theorem law_exactVisSwap (n : Int) (A : Option Addr) (m c : Nat) (L : List (Int × Int)) (a b : Int) (w : World) (_ : -9223372036854775808 ≤ n) (_ : n ≤ 9223372036854775807) (h : Rd w w.heap.size 2 A m c (cp L))
    (_ : -9223372036854775808 ≤ a) (_ : a ≤ 9223372036854775807) (_ : -9223372036854775808 ≤ b) (_ : b ≤ 9223372036854775807) :
    Calls Try.prog 6 #[.int .i64 n, .slice A m c, .int .i64 a, .int .i64 b] w fun e w' => e = .returned (.bool true) ∧ Below w.heap.size w w' := by
  have hm := h.most
  have hcap := h.cap
  have hml : L.length = m := by have := h.len; rw [cp_length] at this; omega
  by_cases hl : 1048576 < m
  · have H := Lib.hid (szR_neg (left := 1048576) (n := m) (by omega))
    clear hml
    go_enter Try.func6, Try.ntmps6
    go_wp2_with (go_at_call 22; refine (szVisS_any _ _ _ _ _ (by omega) (by omega) (by omega)).mono ?_; rintro e w' ⟨rfl, rfl⟩; rw [H.out])
    go_ret
    exact ⟨rfl, b0 _⟩
  · have H := Lib.hid (szR_pos (left := 1048576) (n := m) (by omega))
    have hlo : (0 : Int) ≤ 1048576 - (m : Int) := by omega
    have hdd : decide (L = L) = true := by simp
    have hLm : L.length ≤ 1048576 := by omega
    clear hml
    go_enter Try.func6, Try.ntmps6
    go_wp2_with (go_at_call 22; refine (szVisS_any _ _ _ _ _ (by omega) (by omega) (by omega)).mono ?_; rintro e w' ⟨rfl, rfl⟩; rw [H.out])
    refine (toVisS_any _ _ _ L _ h (by omega)).mono ?_
    rintro e w1 ⟨v1, rfl, ho1, hB1⟩
    obtain ⟨A1, c1, rfl⟩ := own_form ho1
    go_wp2_with fail
    refine (sVisSwap_any _ _ _ n L a b _ (Rd.of_own ho1)).mono ?_
    rintro e w2 ⟨v2, rfl, ho2, hB2⟩
    obtain ⟨A2, c2, rfl⟩ := own_form ho2
    have hW := Rd.of_own ho2
    have hBB := bT hB1 hB2
    have hr2 := h.after hBB
    have hw02 := hBB.size
    clear ho1 ho2 hB1 hB2
    have hM21 := mk_len21 n L a b
    obtain ⟨M, hM⟩ : ∃ M, Vm.swapL n L a b = M := ⟨_, rfl⟩
    obtain ⟨ok, hok⟩ : ∃ ok, Vm.swapB n L a b = ok := ⟨_, rfl⟩
    rw [hM] at hW hM21 ⊢
    rw [hok]
    have HM := Lib.hid hM
    have HOK := Lib.hid hok
    clear hM hok
    have hqq : (ok != ok) = false := by simp
    have hMM : decide (M = M) = true := by simp
    go_wp2_with fail
    refine (toVisS_any _ _ _ L _ hr2 (by omega)).mono ?_
    rintro e w3 ⟨v3, rfl, ho3, hB3⟩
    obtain ⟨A3, c3, rfl⟩ := own_form ho3
    have hW3 := hW.below hB3
    have hs3 := hB3.size
    have hw03 : w.heap.size ≤ w3.heap.size := by omega
    go_wp2_with fail
    refine (VisSwap_any _ _ _ n L a b _ (Rd.of_own ho3)).mono ?_
    rintro e w4 ⟨v4, rfl, ho4, hB4⟩
    rw [HM.out] at ho4
    rw [HOK.out]
    obtain ⟨A4, c4, rfl⟩ := own_form ho4
    have ho34 := own_after ho3 hB4
    have hW4 := hW3.below (hB4.mono (by omega))
    have hr4 := (hr2.after hB3).after hB4
    have hB5 := bT (bT hBB hB3) hB4
    have hs4 := hB4.size
    have hx3lt : ∀ k, (Value.slice A3 L.length c3).ownBlock = some k → k < w3.heap.size := fun k hk => (ho3.lt k hk).2
    have HX := Lib.hid hx3lt
    clear hx3lt ho3 hB3 hB4 hW3 hr2 hBB
    go_wp2_with fail
    refine (eqVisS_any _ _ _ _ _ _ M M _ (Rd.of_own ho4) (hW4.more (by omega))).mono ?_
    rintro e w5 ⟨rfl, hB6⟩
    have ho3' := own_after ho34 hB6
    have ho4' := own_after ho4 hB6
    have hW5 := hW4.below (hB6.mono (by omega))
    have hr5 := hr4.after hB6
    have hB7 := bT hB5 hB6
    have hs5 := hB6.size
    clear ho34 ho4 hW4 hr4 hB5 hB6
    go_wp2_with fail
    refine (toVisS_any _ _ _ L _ hr5 (by omega)).mono ?_
    rintro e w6 ⟨v6, rfl, ho6, hB8⟩
    obtain ⟨A6, c6, rfl⟩ := own_form ho6
    go_wp2_with fail
    refine (eqVisS_any _ _ _ _ _ _ L L _ (Rd.of_own (own_after ho3' hB8)) (Rd.of_own ho6)).mono ?_
    rintro e w7 ⟨rfl, hB9⟩
    have hB10 := bT hB8 hB9
    have ho3a := own_after ho3' hB10
    have ho4a := own_after ho4' hB10
    have hW7 := hW5.below (hB10.mono (by omega))
    have hr7 := hr5.after hB10
    have hB11 := bT hB7 hB10
    have hs7 := hB10.size
    clear ho3' ho4' hW5 hr5 hB7 hB8 hB9 hB10 ho6
    go_wp2_with fail
    refine (markVisS_any _ _ _ L 1 _ ho3a hLm (by omega) (by omega)).mono ?_
    rintro e w8 ⟨rfl, ho3b, hg8⟩
    have ho4b := own_past2 ho4a ho3a HX.out hg8
    have hW8 := hW7.past ho3a (Nat.le_refl _) (by omega) hg8
    have hB12 := own_below hB11 (own_less ho3a hw02) hg8
    have hs8 := hg8.size
    clear ho3a ho4a hW7 hB11 hg8 ho3b
    go_wp2_with fail
    refine (eqVisS_any _ _ _ _ _ _ M M _ (Rd.of_own ho4b) (hW8.more (by omega))).mono ?_
    rintro e w9 ⟨rfl, hB13⟩
    have ho4c := own_after ho4b hB13
    have hW9 := hW8.below (hB13.mono (by omega))
    have hB14 := bT hB12 hB13
    have hs9 := hB13.size
    clear ho4b hW8 hB12 hB13
    go_wp2_with fail
    refine (markVisS_any _ _ _ M 1 _ ho4c (by omega) (by omega) (by omega)).mono ?_
    rintro e w10 ⟨rfl, ho4d, hg10⟩
    have hW10 := hW9.past ho4c (by omega) (by omega) hg10
    have hB15 := own_below hB14 (own_less ho4c hw03) hg10
    have hs10 := hg10.size
    clear ho4c hW9 hB14 hg10
    go_wp2_with (go_at_call 34; refine (heldVisS_any _ _ _ 1 _ (Rd.of_own ho4d) (by omega) (by omega) (by omega)).mono ?_; rintro e w' ⟨rfl, rfl⟩)
    refine (toVisS_any _ _ _ L _ ((h.below hB15).more hB15.size) (by omega)).mono ?_
    rintro e w11 ⟨v11, rfl, ho11, hB16⟩
    obtain ⟨A11, c11, rfl⟩ := own_form ho11
    go_wp2_with fail
    refine (VisSwap_any _ _ _ n L a b _ (Rd.of_own ho11)).mono ?_
    rintro e w12 ⟨v12, rfl, ho12, hB17⟩
    rw [HM.out] at ho12
    rw [HOK.out]
    obtain ⟨A12, c12, rfl⟩ := own_form ho12
    have hB18 := bT hB16 hB17
    have ho4e := own_after ho4d hB18
    have hW12 := hW10.below (hB18.mono (by omega))
    have hB19 := bT hB15 hB18
    have hs12 := hB18.size
    clear ho4d hW10 hB15 hB16 hB17 hB18 ho11
    go_wp2_with fail
    refine (eqVisS_any _ _ _ _ _ _ M M _ (Rd.of_own ho12) (hW12.more (by omega))).mono ?_
    rintro e w13 ⟨rfl, hB20⟩
    have ho4f := own_after ho4e hB20
    have hB21 := bT hB19 hB20
    clear ho4e hW12 hB19 hB20 ho12
    go_wp2_with (go_at_call 34; refine (heldVisS_any _ _ _ 1 _ (Rd.of_own ho4f) (by omega) (by omega) (by omega)).mono ?_; rintro e w' ⟨rfl, rfl⟩)
    go_ret
    exact ⟨rfl, hB21⟩

end Go.Proofs.Ythfljdamahmkaaa
