/- The law FnGroupsTurn. Written by lawsB5.py. -/
import Derived.Test.YtjpklbkeofjppaaLawB4
import Derived.Test.YtjpklbkeofjppaaTurnA
namespace Go.Proofs.Ytjpklbkeofjppaa
open Go.RowKit

set_option maxRecDepth 100000 in
set_option maxHeartbeats 4000000 in
theorem law_groupsTurn (A : Option Addr) (n c : Nat) (bs : List Int) (A' : Option Addr) (n' c' : Nat) (w : World) (h : Rd w w.heap.size 1 A n c (cb bs)) (hx : ∀ x ∈ bs, 0 ≤ x ∧ x ≤ 255) (hn' : n' ≤ 9223372036854775807) :
    Calls Try.prog 9 #[.slice A n c, .slice A' n' c'] w fun e w' => e = .returned (.bool true) ∧ Below w.heap.size w w' := by
  have hm := h.most
  have hcap := h.cap
  have HX := Lib.hid hx
  clear hx
  by_cases hz0 : 1048576 < n
  · have hd0 : decide ((1048576 : Int) < (n : Int)) = true := by simp; omega
    clear hz0
    go_enter Try.func9, Try.ntmps9
    go_wp2
    go_ret
    exact ⟨rfl, b0 _⟩
  have hd0 : decide ((1048576 : Int) < (n : Int)) = false := by simp; omega
  by_cases hz1 : 1048576 < n'
  · have hd1 : decide ((1048576 : Int) < (n' : Int)) = true := by simp; omega
    clear hz0 hz1
    go_enter Try.func9, Try.ntmps9
    go_wp2
    go_ret
    exact ⟨rfl, b0 _⟩
  have hd1 : decide ((1048576 : Int) < (n' : Int)) = false := by simp; omega
  go_enter Try.func9, Try.ntmps9
  go_wp2_with fail
  refine (DrawRedundantGroups_any _ _ _ bs _ h HX.out (by omega)).mono ?_
  rintro e w1 ⟨A1, m1, c1, L, rfl, hr, hB⟩
  have mL : m1 = L.length := by have := hr.len; rw [cp_length] at this; omega
  subst mL
  have hrcap := hr.cap
  have hrmost := hr.most
  go_wp2_with fail
  refine (RedundantGroups_any _ _ _ L _ hr).mono ?_
  rintro e w2 ⟨v2, rfl, ho2, hB2⟩
  obtain ⟨A2, c2, rfl⟩ := own_form ho2
  replace hr := hr.after hB2
  replace hB := bT hB hB2
  clear hB2
  have hx := Rd.of_own ho2
  clear ho2
  go_wp2_with fail
  refine (sRedundantGroups_any _ _ _ L _ hr).mono ?_
  rintro e w3 ⟨v3, rfl, ho3, hB3⟩
  obtain ⟨A3, c3, rfl⟩ := own_form ho3
  replace hr := hr.after hB3
  replace hx := hx.after hB3
  replace hB := bT hB hB3
  clear hB3
  have hy := Rd.of_own ho3
  clear ho3
  cases hok : Vm.arrB L
  ·
    have e1 := Vm.grpL_no hok
    rw [e1] at hx hy ⊢
    simp only [List.length_nil] at hx hy ⊢
    clear hok e1
    go_wp2_with fail
    with_reducible refine (sameInts_self _ _ _ _ _ _ _ _ hx hy).mono ?_
    rintro e w4 ⟨rfl, hB4⟩
    replace hr := hr.after hB4
    replace hx := hx.after hB4
    replace hy := hy.after hB4
    replace hB := bT hB hB4
    clear hB4
    go_wp2_with fail
    with_reducible refine (sameInts_self _ _ _ _ _ _ _ _ hx hy).mono ?_
    rintro e w5 ⟨rfl, hB5⟩
    replace hr := hr.after hB5
    replace hx := hx.after hB5
    replace hy := hy.after hB5
    replace hB := bT hB hB5
    clear hB5
    go_wp2_with fail
    go_ret
    exact ⟨rfl, hB⟩
  ·
    have HK := Lib.hid hok
    have hpos := grp_pos hok
    rw [← grp_len hok] at hpos
    have HT := Lib.hid (Vm.turn_law hok (n' % 4))
    have HS := Lib.hid (Vm.shift_law hok 1 2)
    obtain ⟨G, hG⟩ : ∃ G, Vm.grpL L = G := ⟨_, rfl⟩
    rw [hG] at hx hy hpos HT HS ⊢
    clear hG hok
    have hl0 : (((G.length : Nat) : Int) == 0) = false := by rw [beq_eq_false_iff_ne]; omega
    obtain ⟨k, hk⟩ : ∃ k, n' % 4 = k := ⟨_, rfl⟩
    have hk4 : k < 4 := by rw [← hk]; exact Nat.mod_lt _ (by omega)
    have hk2 : (n' : Int) % 4 = (k : Int) := by rw [← hk]; norm_cast
    have t1 : (n' : Int).tmod 4 = (k : Int) := by rw [Int.tmod_eq_emod_of_nonneg (by omega)]; exact hk2
    rw [hk] at HT
    clear hk hk2
    go_wp2_with fail
    with_reducible refine (sameInts_self _ _ _ _ _ _ _ _ hx hy).mono ?_
    rintro e w4 ⟨rfl, hB4⟩
    replace hr := hr.after hB4
    replace hx := hx.after hB4
    replace hy := hy.after hB4
    replace hB := bT hB hB4
    clear hB4
    clear hy
    go_wp2_with fail
    refine (ArrayTurn_ok _ _ _ L k _ hr HK.out (by omega)).mono ?_
    rintro e w5 ⟨v5, rfl, ho5, hB5⟩
    rw [Vm.turnL_len] at ho5
    obtain ⟨T, hT⟩ : ∃ T, Vm.turnL L k = T := ⟨_, rfl⟩
    rw [hT] at ho5 HT
    clear hT
    obtain ⟨At, ct, rfl⟩ := own_form ho5
    replace hr := hr.after hB5
    replace hx := hx.after hB5
    replace hB := bT hB hB5
    clear hB5
    have ht := Rd.of_own ho5
    clear ho5
    go_wp2_with fail
    refine (ArrayShift_ok _ _ _ L _ hr HK.out).mono ?_
    rintro e ws (⟨rfl, hBs⟩ | ⟨hsv, vs, rfl, hos, hBs⟩)
    ·
      replace hr := hr.after hBs
      replace hx := hx.after hBs
      replace ht := ht.after hBs
      replace hB := bT hB hBs
      clear hBs
      have heq1 := hx
      clear heq1
      go_wp2_with fail
      refine (RedundantGroups_any _ _ _ T _ ht).mono ?_
      rintro e w16 ⟨v16, rfl, ho16, hB16⟩
      rw [HT.out] at ho16
      obtain ⟨A16, c16, rfl⟩ := own_form ho16
      replace hr := hr.after hB16
      replace hx := hx.after hB16
      replace ht := ht.after hB16
      replace hB := bT hB hB16
      clear hB16
      have hu := Rd.of_own ho16
      clear ho16
      go_wp2_with fail
      with_reducible refine (sameInts_self _ _ _ _ _ _ _ _ hu hx).mono ?_
      rintro e w17 ⟨rfl, hB17⟩
      replace hr := hr.after hB17
      replace hx := hx.after hB17
      replace ht := ht.after hB17
      replace hu := hu.after hB17
      replace hB := bT hB hB17
      clear hB17
      go_wp2_with fail
      go_ret
      exact ⟨rfl, hB⟩
    ·
      rw [List.length_map] at hos
      have HSV := Lib.hid (HS.out hsv)
      clear hsv
      obtain ⟨M, hM⟩ : ∃ M, L.map (Vm.shf 1 2) = M := ⟨_, rfl⟩
      rw [hM] at hos HSV
      clear hM
      obtain ⟨As, cs, rfl⟩ := own_form hos
      have hs := Rd.of_own hos
      clear hos
      replace hr := hr.after hBs
      replace hx := hx.after hBs
      replace ht := ht.after hBs
      replace hB := bT hB hBs
      clear hBs
      have heq1 := hx
      clear heq1
      go_wp2_with fail
      refine (RedundantGroups_any _ _ _ T _ ht).mono ?_
      rintro e w16 ⟨v16, rfl, ho16, hB16⟩
      rw [HT.out] at ho16
      obtain ⟨A16, c16, rfl⟩ := own_form ho16
      replace hr := hr.after hB16
      replace hx := hx.after hB16
      replace ht := ht.after hB16
      replace hs := hs.after hB16
      replace hB := bT hB hB16
      clear hB16
      have hu := Rd.of_own ho16
      clear ho16
      go_wp2_with fail
      with_reducible refine (sameInts_self _ _ _ _ _ _ _ _ hu hx).mono ?_
      rintro e w17 ⟨rfl, hB17⟩
      replace hr := hr.after hB17
      replace hx := hx.after hB17
      replace ht := ht.after hB17
      replace hs := hs.after hB17
      replace hu := hu.after hB17
      replace hB := bT hB hB17
      clear hB17
      go_wp2_with fail
      refine (RedundantGroups_any _ _ _ M _ hs).mono ?_
      rintro e w18 ⟨v18, rfl, ho18, hB18⟩
      rw [HSV.out] at ho18
      obtain ⟨A18, c18, rfl⟩ := own_form ho18
      replace hr := hr.after hB18
      replace hx := hx.after hB18
      replace ht := ht.after hB18
      replace hs := hs.after hB18
      replace hu := hu.after hB18
      replace hB := bT hB hB18
      clear hB18
      have hz := Rd.of_own ho18
      clear ho18
      go_wp2_with fail
      with_reducible refine (sameInts_self _ _ _ _ _ _ _ _ hz hx).mono ?_
      rintro e w19 ⟨rfl, hB19⟩
      replace hr := hr.after hB19
      replace hx := hx.after hB19
      replace ht := ht.after hB19
      replace hs := hs.after hB19
      replace hu := hu.after hB19
      replace hz := hz.after hB19
      replace hB := bT hB hB19
      clear hB19
      go_wp2_with fail
      go_ret
      exact ⟨rfl, hB⟩

end Go.Proofs.Ytjpklbkeofjppaa
