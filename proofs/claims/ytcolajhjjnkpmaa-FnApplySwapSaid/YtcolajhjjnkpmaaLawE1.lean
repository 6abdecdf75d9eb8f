/- The laws on gains: FnCloseBaseGain, FnCloseLoopGain, FnClosePhaseGain, FnCloseSameGain. Written by lawsE.py. -/
import Derived.Test.YtcolajhjjnkpmaaGainS
import Derived.Test.YtcolajhjjnkpmaaGainM2
import Derived.Test.YtcolajhjjnkpmaaDrawE
import Derived.Test.YtcolajhjjnkpmaaLawC2
import Derived.Test.YtcolajhjjnkpmaaSameC
import Derived.Test.YtcolajhjjnkpmaaBaseD
import Derived.Test.YtcolajhjjnkpmaaSameV
namespace Go.Proofs.Ytcolajhjjnkpmaa
open Go.RowKit

theorem gap_OK {N : Nat} {L G : List (Int × Int)} (h : Vm.gapB N L G = true) : Vm.OkG N L G := by
  obtain ⟨M, e, hO⟩ := Vm.OkG.of h
  obtain rfl : N = M := by omega
  exact hO
theorem cb_gain {N : Nat} {L G : List (Int × Int)} (h : Vm.OkG N L G) : cbOK N L = decide (2 < N) ∧ cbOK N (Vm.gapL N L G) = decide (2 < N) ∧ cbO N (Vm.gapL N L G) = cbO N L := by
  have h1 : cbOK N L = decide (2 < N) := by simp [cbOK, h.ok.to]; omega
  have h2 : cbOK N (Vm.gapL N L G) = decide (2 < N) := by simp [cbOK, h.out.to]; omega
  refine ⟨h1, h2, ?_⟩
  cases hc : decide (2 < N)
  · rw [cbO_no (h2.trans hc), cbO_no (h1.trans hc)]
  · rw [cbO_yes (h2.trans hc), cbO_yes (h1.trans hc), h.base]
set_option maxRecDepth 100000 in
set_option maxHeartbeats 4000000 in
theorem law_closeBaseGain (A : Option Addr) (n c : Nat) (bs : List Int) (w : World) (h : Rd w w.heap.size 1 A n c (cb bs)) (hx : ∀ x ∈ bs, 0 ≤ x ∧ x ≤ 255) :
    Calls Try.prog 4 #[.slice A n c] w fun e w' => e = .returned (.bool true) ∧ Below w.heap.size w w' := by
  have hm := h.most
  have hcap := h.cap
  have HX := Lib.hid hx
  clear hx
  by_cases hz0 : 1048576 < n
  · have hd0 : decide ((1048576 : Int) < (n : Int)) = true := by simp; omega
    clear hz0
    go_enter Try.func4, Try.ntmps4
    go_wp2
    go_ret
    exact ⟨rfl, b0 _⟩
  have hd0 : decide ((1048576 : Int) < (n : Int)) = false := by simp; omega
  go_enter Try.func4, Try.ntmps4
  go_wp2_with fail
  refine (DrawGainApply_any _ _ _ bs _ h HX.out (by omega)).mono ?_
  rintro e w1 ⟨N, A1, m1, c1, L, A2, m2, c2, G, ⟨n2, n7⟩, rfl, hr, hg, hB⟩
  go_wp2_with fail
  refine (GainApply_any _ _ _ _ _ _ N L G _ hr hg).mono ?_
  rintro e w2 ⟨v2, rfl, ho2, hB2⟩
  obtain ⟨A2, c2, rfl⟩ := own_form ho2
  replace hr := hr.after hB2
  replace hg := hg.after hB2
  replace hB := bT hB hB2
  clear hB2
  have hx := Rd.of_own ho2
  clear ho2
  go_wp2_with fail
  refine (sGainApply_any _ _ _ _ _ _ N L G _ hr hg).mono ?_
  rintro e w3 ⟨v3, rfl, ho3, hB3⟩
  obtain ⟨A3, c3, rfl⟩ := own_form ho3
  replace hr := hr.after hB3
  replace hg := hg.after hB3
  replace hx := hx.after hB3
  replace hB := bT hB hB3
  clear hB3
  have hy := Rd.of_own ho3
  clear ho3
  cases hok : Vm.gapB N L G
  ·
    go_wp2_with fail
    with_reducible refine (sameVis_self _ _ _ _ _ _ _ _ hx hy).mono ?_
    rintro e w4 ⟨rfl, hB4⟩
    replace hr := hr.after hB4
    replace hg := hg.after hB4
    replace hx := hx.after hB4
    replace hy := hy.after hB4
    replace hB := bT hB hB4
    clear hB4
    go_wp2_with fail
    with_reducible refine (sameVis_self _ _ _ _ _ _ _ _ hx hy).mono ?_
    rintro e w5 ⟨rfl, hB5⟩
    replace hr := hr.after hB5
    replace hg := hg.after hB5
    replace hx := hx.after hB5
    replace hy := hy.after hB5
    replace hB := bT hB hB5
    clear hB5
    go_wp2_with fail
    go_ret
    exact ⟨rfl, hB⟩
  · have hO := gap_OK hok
    obtain ⟨e1, e2, e3⟩ := cb_gain hO
    obtain ⟨X, hX⟩ : ∃ X, Vm.gapL N L G = X := ⟨_, rfl⟩
    rw [hX] at hx hy e2 e3 ⊢
    clear hX hok hO
    have E1_ := Lib.hid e1
    have E2_ := Lib.hid e2
    have E3_ := Lib.hid e3
    clear e1 e2 e3
    go_wp2_with fail
    with_reducible refine (sameVis_self _ _ _ _ _ _ _ _ hx hy).mono ?_
    rintro e w4 ⟨rfl, hB4⟩
    replace hr := hr.after hB4
    replace hg := hg.after hB4
    replace hx := hx.after hB4
    replace hy := hy.after hB4
    replace hB := bT hB hB4
    clear hB4
    go_wp2_with fail
    refine (CloseBase_any _ _ _ N L _ hr).mono ?_
    rintro e w5 ⟨v5, rfl, ho5, hB5⟩
    rw [E1_.out]
    obtain ⟨A5, c5, rfl⟩ := own_form ho5
    replace hr := hr.after hB5
    replace hg := hg.after hB5
    replace hx := hx.after hB5
    replace hy := hy.after hB5
    replace hB := bT hB hB5
    clear hB5
    have hb := Rd.of_own ho5
    clear ho5
    go_wp2_with fail
    refine (CloseBase_any _ _ _ N X _ hx).mono ?_
    rintro e w6 ⟨v6, rfl, ho6, hB6⟩
    rw [E3_.out] at ho6
    rw [E2_.out]
    obtain ⟨A6, c6, rfl⟩ := own_form ho6
    replace hr := hr.after hB6
    replace hg := hg.after hB6
    replace hx := hx.after hB6
    replace hy := hy.after hB6
    replace hb := hb.after hB6
    replace hB := bT hB hB6
    clear hB6
    have hc := Rd.of_own ho6
    clear ho6
    by_cases h3 : 2 < N
    · have hdd : decide (2 < N) = true := by simp; omega
      have hde : decide ((2 : Int) < (N : Int)) = true := by simp; omega
      clear h3
      rw [hdd]
      clear hdd
      go_wp2_with fail
      with_reducible refine (sameInts_self _ _ _ _ _ _ _ _ hb hc).mono ?_
      rintro e w7 ⟨rfl, hB7⟩
      replace hr := hr.after hB7
      replace hg := hg.after hB7
      replace hx := hx.after hB7
      replace hy := hy.after hB7
      replace hb := hb.after hB7
      replace hc := hc.after hB7
      replace hB := bT hB hB7
      clear hB7
      go_wp2_with fail
      go_ret
      exact ⟨rfl, hB⟩
    · have hdd : decide (2 < N) = false := by simp; omega
      have hde : decide ((2 : Int) < (N : Int)) = false := by simp; omega
      clear h3
      rw [hdd]
      clear hdd
      go_wp2_with fail
      with_reducible refine (sameInts_self _ _ _ _ _ _ _ _ hb hc).mono ?_
      rintro e w7 ⟨rfl, hB7⟩
      replace hr := hr.after hB7
      replace hg := hg.after hB7
      replace hx := hx.after hB7
      replace hy := hy.after hB7
      replace hb := hb.after hB7
      replace hc := hc.after hB7
      replace hB := bT hB hB7
      clear hB7
      go_wp2_with fail
      go_ret
      exact ⟨rfl, hB⟩
set_option maxRecDepth 100000 in
set_option maxHeartbeats 4000000 in
theorem law_closeSameGain (A : Option Addr) (n c : Nat) (bs : List Int) (w : World) (h : Rd w w.heap.size 1 A n c (cb bs)) (hx : ∀ x ∈ bs, 0 ≤ x ∧ x ≤ 255) :
    Calls Try.prog 7 #[.slice A n c] w fun e w' => e = .returned (.bool true) ∧ Below w.heap.size w w' := by
  have hm := h.most
  have hcap := h.cap
  have HX := Lib.hid hx
  clear hx
  by_cases hz0 : 1048576 < n
  · have hd0 : decide ((1048576 : Int) < (n : Int)) = true := by simp; omega
    clear hz0
    go_enter Try.func7, Try.ntmps7
    go_wp2
    go_ret
    exact ⟨rfl, b0 _⟩
  have hd0 : decide ((1048576 : Int) < (n : Int)) = false := by simp; omega
  go_enter Try.func7, Try.ntmps7
  go_wp2_with fail
  refine (DrawGainApply_any _ _ _ bs _ h HX.out (by omega)).mono ?_
  rintro e w1 ⟨N, A1, m1, c1, L, A2, m2, c2, G, ⟨n2, n7⟩, rfl, hr, hg, hB⟩
  go_wp2_with fail
  refine (GainApply_any _ _ _ _ _ _ N L G _ hr hg).mono ?_
  rintro e w2 ⟨v2, rfl, ho2, hB2⟩
  obtain ⟨A2, c2, rfl⟩ := own_form ho2
  replace hr := hr.after hB2
  replace hg := hg.after hB2
  replace hB := bT hB hB2
  clear hB2
  have hx := Rd.of_own ho2
  clear ho2
  go_wp2_with fail
  refine (sGainApply_any _ _ _ _ _ _ N L G _ hr hg).mono ?_
  rintro e w3 ⟨v3, rfl, ho3, hB3⟩
  obtain ⟨A3, c3, rfl⟩ := own_form ho3
  replace hr := hr.after hB3
  replace hg := hg.after hB3
  replace hx := hx.after hB3
  replace hB := bT hB hB3
  clear hB3
  have hy := Rd.of_own ho3
  clear ho3
  cases hok : Vm.gapB N L G
  ·
    go_wp2_with fail
    with_reducible refine (sameVis_self _ _ _ _ _ _ _ _ hx hy).mono ?_
    rintro e w4 ⟨rfl, hB4⟩
    replace hr := hr.after hB4
    replace hg := hg.after hB4
    replace hx := hx.after hB4
    replace hy := hy.after hB4
    replace hB := bT hB hB4
    clear hB4
    go_wp2_with fail
    with_reducible refine (sameVis_self _ _ _ _ _ _ _ _ hx hy).mono ?_
    rintro e w5 ⟨rfl, hB5⟩
    replace hr := hr.after hB5
    replace hg := hg.after hB5
    replace hx := hx.after hB5
    replace hy := hy.after hB5
    replace hB := bT hB hB5
    clear hB5
    go_wp2_with fail
    go_ret
    exact ⟨rfl, hB⟩
  · have hO := gap_OK hok
    have es := hO.same
    obtain ⟨X, hX⟩ : ∃ X, Vm.gapL N L G = X := ⟨_, rfl⟩
    rw [hX] at hx hy es ⊢
    clear hX hok hO
    have ES_ := Lib.hid es
    clear es
    go_wp2_with fail
    with_reducible refine (sameVis_self _ _ _ _ _ _ _ _ hx hy).mono ?_
    rintro e w4 ⟨rfl, hB4⟩
    replace hr := hr.after hB4
    replace hg := hg.after hB4
    replace hx := hx.after hB4
    replace hy := hy.after hB4
    replace hB := bT hB hB4
    clear hB4
    by_cases h5 : 5 < N
    ·
      go_wp2_with fail
      go_ret
      exact ⟨rfl, hB⟩
    ·
      go_wp2_with fail
      with_reducible refine (CloseSame_any _ _ _ _ _ _ N L X _ hr hx).mono ?_
      rintro e w5 ⟨b, rfl, hb, hB5⟩
      replace hr := hr.after hB5
      replace hg := hg.after hB5
      replace hx := hx.after hB5
      replace hy := hy.after hB5
      replace hB := bT hB hB5
      clear hB5
      obtain rfl : b = true := hb.2 ES_.out
      clear hb
      go_wp2_with fail
      go_ret
      exact ⟨rfl, hB⟩
set_option maxRecDepth 100000 in
set_option maxHeartbeats 4000000 in
theorem law_closePhaseGain (A : Option Addr) (n c : Nat) (bs : List Int) (A' : Option Addr) (n' c' : Nat) (w : World) (h : Rd w w.heap.size 1 A n c (cb bs)) (hx : ∀ x ∈ bs, 0 ≤ x ∧ x ≤ 255) (hn' : n' ≤ 9223372036854775807) :
    Calls Try.prog 6 #[.slice A n c, .slice A' n' c'] w fun e w' => e = .returned (.bool true) ∧ Below w.heap.size w w' := by
  have hm := h.most
  have hcap := h.cap
  have HX := Lib.hid hx
  clear hx
  by_cases hz0 : 1048576 < n
  · have hd0 : decide ((1048576 : Int) < (n : Int)) = true := by simp; omega
    clear hz0
    go_enter Try.func6, Try.ntmps6
    go_wp2
    go_ret
    exact ⟨rfl, b0 _⟩
  have hd0 : decide ((1048576 : Int) < (n : Int)) = false := by simp; omega
  by_cases hz1 : 1048576 < n'
  · have hd1 : decide ((1048576 : Int) < (n' : Int)) = true := by simp; omega
    clear hz0 hz1
    go_enter Try.func6, Try.ntmps6
    go_wp2
    go_ret
    exact ⟨rfl, b0 _⟩
  have hd1 : decide ((1048576 : Int) < (n' : Int)) = false := by simp; omega
  go_enter Try.func6, Try.ntmps6
  go_wp2_with fail
  refine (DrawGainApply_any _ _ _ bs _ h HX.out (by omega)).mono ?_
  rintro e w1 ⟨N, A1, m1, c1, L, A2, m2, c2, G, ⟨n2, n7⟩, rfl, hr, hg, hB⟩
  go_wp2_with fail
  refine (GainApply_any _ _ _ _ _ _ N L G _ hr hg).mono ?_
  rintro e w2 ⟨v2, rfl, ho2, hB2⟩
  obtain ⟨A2, c2, rfl⟩ := own_form ho2
  replace hr := hr.after hB2
  replace hg := hg.after hB2
  replace hB := bT hB hB2
  clear hB2
  have hx := Rd.of_own ho2
  clear ho2
  go_wp2_with fail
  refine (sGainApply_any _ _ _ _ _ _ N L G _ hr hg).mono ?_
  rintro e w3 ⟨v3, rfl, ho3, hB3⟩
  obtain ⟨A3, c3, rfl⟩ := own_form ho3
  replace hr := hr.after hB3
  replace hg := hg.after hB3
  replace hx := hx.after hB3
  replace hB := bT hB hB3
  clear hB3
  have hy := Rd.of_own ho3
  clear ho3
  cases hok : Vm.gapB N L G
  ·
    go_wp2_with fail
    with_reducible refine (sameVis_self _ _ _ _ _ _ _ _ hx hy).mono ?_
    rintro e w4 ⟨rfl, hB4⟩
    replace hr := hr.after hB4
    replace hg := hg.after hB4
    replace hx := hx.after hB4
    replace hy := hy.after hB4
    replace hB := bT hB hB4
    clear hB4
    go_wp2_with fail
    with_reducible refine (sameVis_self _ _ _ _ _ _ _ _ hx hy).mono ?_
    rintro e w5 ⟨rfl, hB5⟩
    replace hr := hr.after hB5
    replace hg := hg.after hB5
    replace hx := hx.after hB5
    replace hy := hy.after hB5
    replace hB := bT hB hB5
    clear hB5
    go_wp2_with fail
    go_ret
    exact ⟨rfl, hB⟩
  · have hO := gap_OK hok
    have i1 := Int.emod_nonneg (n' : Int) (show (N : Int) ≠ 0 by omega)
    have i2 := Int.emod_lt_of_pos (n' : Int) (show (0 : Int) < (N : Int) by omega)
    have r1 := Vm.row_loop hO.ok n'
    have r2 := Vm.row_loop hO.out n'
    have c0 : ((n' % N : Nat) : Int) = (n' : Int) % (N : Int) := by omega
    have c1 : (((n' % N + 1) % N : Nat) : Int) = ((n' : Int) % (N : Int) + 1) % (N : Int) := by rw [← c0]; norm_cast
    have c2 : (((n' % N + 2) % N : Nat) : Int) = ((n' : Int) % (N : Int) + 2) % (N : Int) := by rw [← c0]; norm_cast
    rw [c0, c1, c2] at r1 r2
    obtain ⟨i, hi⟩ : ∃ i, (n' : Int) % (N : Int) = i := ⟨_, rfl⟩
    rw [hi] at r1 r2
    obtain ⟨j, hj⟩ : ∃ j, (i + 1) % (N : Int) = j := ⟨_, rfl⟩
    obtain ⟨k, hk⟩ : ∃ k, (i + 2) % (N : Int) = k := ⟨_, rfl⟩
    rw [hj, hk] at r1 r2
    have es := hO.loop3 i j k
    obtain ⟨o, ho⟩ : ∃ o, Vm.loopP N L [i, j, k] = o := ⟨_, rfl⟩
    rw [ho] at es
    have hj2 : ((n' : Int) + 1) % (N : Int) = j := by rw [← hj, ← hi, Int.emod_add_emod]
    have hk2 : ((n' : Int) + 2) % (N : Int) = k := by rw [← hk, ← hi, Int.emod_add_emod]
    obtain ⟨X, hX⟩ : ∃ X, Vm.gapL N L G = X := ⟨_, rfl⟩
    rw [hX] at hx hy es r2 ⊢
    clear hX hok hO c0 c1 c2
    have R1_ := Lib.hid r1
    have R2_ := Lib.hid r2
    have ES_ := Lib.hid es
    have HI_ := Lib.hid hi
    have HJ_ := Lib.hid hj
    have HK_ := Lib.hid hk
    have HJ2_ := Lib.hid hj2
    have HK2_ := Lib.hid hk2
    have HO_ := Lib.hid ho
    clear r1 r2 es hi hj hk hj2 hk2 ho
    go_wp2_with fail
    with_reducible refine (sameVis_self _ _ _ _ _ _ _ _ hx hy).mono ?_
    rintro e w4 ⟨rfl, hB4⟩
    replace hr := hr.after hB4
    replace hg := hg.after hB4
    replace hx := hx.after hB4
    replace hy := hy.after hB4
    replace hB := bT hB hB4
    clear hB4
    go_wp2_with fail
    rw [HI_.out, HJ_.out, HK_.out, HJ2_.out, HK2_.out]
    with_reducible refine (ClosePhase_any _ _ _ N i j k L _ hr).mono ?_
    rintro e w5 ⟨rfl, hB5⟩
    replace hr := hr.after hB5
    replace hg := hg.after hB5
    replace hx := hx.after hB5
    replace hy := hy.after hB5
    replace hB := bT hB hB5
    clear hB5
    rw [R1_.out, HO_.out]
    go_wp2_with fail
    with_reducible refine (ClosePhase_any _ _ _ N i j k X _ hx).mono ?_
    rintro e w6 ⟨rfl, hB6⟩
    replace hr := hr.after hB6
    replace hg := hg.after hB6
    replace hx := hx.after hB6
    replace hy := hy.after hB6
    replace hB := bT hB hB6
    clear hB6
    rw [R2_.out, ES_.out]
    by_cases h3 : 2 < N
    · have hdd : decide (2 < N) = true := by simp; omega
      have hde : decide ((2 : Int) < (N : Int)) = true := by simp; omega
      clear h3
      rw [hdd]
      clear hdd
      go_wp2_with fail
      go_ret
      exact ⟨rfl, hB⟩
    · have hdd : decide (2 < N) = false := by simp; omega
      have hde : decide ((2 : Int) < (N : Int)) = false := by simp; omega
      clear h3
      rw [hdd]
      clear hdd
      go_wp2_with fail
      go_ret
      exact ⟨rfl, hB⟩
theorem back_take (N m k : Nat) (h : k < N) : (Vm.backL N m).take (k + 1) = (Vm.backL N m).take k ++ [(((k * (N - 1) + m) % N : Nat) : Int)] := by
  have hl : k < (Vm.backL N m).length := by rw [Vm.back_len]; exact h
  rw [List.take_succ_eq_append_getElem hl]
  simp [Vm.backL]
theorem back_val {N m k : Nat} (h : 1 ≤ N) : (((k * (N - 1) + m) % N : Nat) : Int) = ((k : Int) * ((N : Int) - 1) + (m : Int)) % (N : Int) := by
  rw [Int.natCast_emod, Int.natCast_add, Int.natCast_mul, Int.natCast_sub h]; rfl
set_option maxRecDepth 100000 in
set_option maxHeartbeats 4000000 in
theorem law_closeLoopGain (A : Option Addr) (n c : Nat) (bs : List Int) (A' : Option Addr) (n' c' : Nat) (w : World) (h : Rd w w.heap.size 1 A n c (cb bs)) (hx : ∀ x ∈ bs, 0 ≤ x ∧ x ≤ 255) (hn' : n' ≤ 9223372036854775807) :
    Calls Try.prog 5 #[.slice A n c, .slice A' n' c'] w fun e w' => e = .returned (.bool true) ∧ Below w.heap.size w w' := by
  have hm := h.most
  have hcap := h.cap
  have HX := Lib.hid hx
  clear hx
  by_cases hz0 : 1048576 < n
  · have hd0 : decide ((1048576 : Int) < (n : Int)) = true := by simp; omega
    clear hz0
    go_enter Try.func5, Try.ntmps5
    go_wp2
    go_ret
    exact ⟨rfl, b0 _⟩
  have hd0 : decide ((1048576 : Int) < (n : Int)) = false := by simp; omega
  by_cases hz1 : 1048576 < n'
  · have hd1 : decide ((1048576 : Int) < (n' : Int)) = true := by simp; omega
    clear hz0 hz1
    go_enter Try.func5, Try.ntmps5
    go_wp2
    go_ret
    exact ⟨rfl, b0 _⟩
  have hd1 : decide ((1048576 : Int) < (n' : Int)) = false := by simp; omega
  go_enter Try.func5, Try.ntmps5
  go_wp2_with fail
  refine (DrawGainApply_any _ _ _ bs _ h HX.out (by omega)).mono ?_
  rintro e w1 ⟨N, A1, m1, c1, L, A2, m2, c2, G, ⟨n2, n7⟩, rfl, hr, hg, hB⟩
  go_wp2_with fail
  refine (GainApply_any _ _ _ _ _ _ N L G _ hr hg).mono ?_
  rintro e w2 ⟨v2, rfl, ho2, hB2⟩
  obtain ⟨A2, c2, rfl⟩ := own_form ho2
  replace hr := hr.after hB2
  replace hg := hg.after hB2
  replace hB := bT hB hB2
  clear hB2
  have hx := Rd.of_own ho2
  clear ho2
  go_wp2_with fail
  refine (sGainApply_any _ _ _ _ _ _ N L G _ hr hg).mono ?_
  rintro e w3 ⟨v3, rfl, ho3, hB3⟩
  obtain ⟨A3, c3, rfl⟩ := own_form ho3
  replace hr := hr.after hB3
  replace hg := hg.after hB3
  replace hx := hx.after hB3
  replace hB := bT hB hB3
  clear hB3
  have hy := Rd.of_own ho3
  clear ho3
  cases hok : Vm.gapB N L G
  ·
    go_wp2_with fail
    with_reducible refine (sameVis_self _ _ _ _ _ _ _ _ hx hy).mono ?_
    rintro e w4 ⟨rfl, hB4⟩
    replace hr := hr.after hB4
    replace hg := hg.after hB4
    replace hx := hx.after hB4
    replace hy := hy.after hB4
    replace hB := bT hB hB4
    clear hB4
    go_wp2_with fail
    with_reducible refine (sameVis_self _ _ _ _ _ _ _ _ hx hy).mono ?_
    rintro e w5 ⟨rfl, hB5⟩
    replace hr := hr.after hB5
    replace hg := hg.after hB5
    replace hx := hx.after hB5
    replace hy := hy.after hB5
    replace hB := bT hB hB5
    clear hB5
    go_wp2_with fail
    go_ret
    exact ⟨rfl, hB⟩
  · have hO := gap_OK hok
    have r1 := Vm.back_loop hO.ok n'
    have r2 := Vm.back_loop hO.out n'
    have es := hO.loop (Vm.backL N n')
    obtain ⟨o, ho⟩ : ∃ o, Vm.loopP N L (Vm.backL N n') = o := ⟨_, rfl⟩
    rw [ho] at es
    obtain ⟨X, hX⟩ : ∃ X, Vm.gapL N L G = X := ⟨_, rfl⟩
    rw [hX] at hx hy es r2 ⊢
    clear hX hok hO
    have R1_ := Lib.hid r1
    have R2_ := Lib.hid r2
    have ES_ := Lib.hid es
    have HO_ := Lib.hid ho
    clear r1 r2 es ho
    go_wp2_with fail
    with_reducible refine (sameVis_self _ _ _ _ _ _ _ _ hx hy).mono ?_
    rintro e w4 ⟨rfl, hB4⟩
    replace hr := hr.after hB4
    replace hg := hg.after hB4
    replace hx := hx.after hB4
    replace hy := hy.after hB4
    replace hB := bT hB hB4
    clear hB4
    obtain ⟨i0, hi, hz0_, hz1_, hz2_⟩ := info_parts infoInt
    go_wp2_with fail
    go_loopw [12, 13] (fun v i wr => ∃ k : Nat, k ≤ N ∧ i = .int .i64 k ∧ wr.ownsRow w4.heap.size 3 1 v k (ci ((Vm.backL N n').take k)) ∧ Below w4.heap.size w4 wr) (fun _ i _ => N - (intOf i).toNat)
    case atStart => exact ⟨0, Nat.zero_le _, rfl, World.ownsRow_lit w4 #[] 0 (Nat.le_refl _) (by decide) rfl, bA (b0 w4) _⟩
    case round =>
      obtain ⟨k, hk, rfl, hown, hBB⟩ := hrel
      by_cases hlt : k < N
      · have kb1 : 0 ≤ (k : Int) * ((N : Int) - 1) := Int.mul_nonneg (by omega) (by omega)
        have kb2 : (k : Int) * ((N : Int) - 1) ≤ 7 * ((N : Int) - 1) := Int.mul_le_mul_of_nonneg_right (by omega) (by omega)
        have HT := Lib.hid (back_take N n' k hlt)
        have hv := back_val (N := N) (m := n') (k := k) (by omega)
        obtain ⟨y, hy0⟩ : ∃ y, ((k : Int) * ((N : Int) - 1) + (n' : Int)) % (N : Int) = y := ⟨_, rfl⟩
        rw [hy0] at hv
        rw [hv] at HT
        have HY := Lib.hid hy0
        clear hv hy0
        have hown1 := hown.alloc (.cells #[.int .i64 y] 3)
        have hB2 := bA hBB (.cells #[.int .i64 y] 3)
        have hsz := hBB.size
        have kb3 : (k : Int) * ((N : Int) - 1) ≤ 42 := by omega
        have hyv : ∀ T, (Value.int .i64 (((k : Int) * ((N : Int) - 1) + (n' : Int)) % (N : Int)) = T) = (Value.int .i64 y = T) := fun T => by rw [HY.out]
        clear hyv
        have hy1 := HY.out
        clear HY
        go_wp2_with (at_builtin; rw [hy1]; refine wpList_append_own _ rfl _ _ 33 rfl w4.heap.size 3 i0 _ 1 8 Try.underlying33 hi hz0_ hz1_ hz2_ rfl (by decide) _ _ _ rfl hown1 ⟨wr.heap.size, 0, none⟩ 1 1 [.int .i64 y] rfl rfl (new_cells _ _ _) ?c2 ?c3 ?c4 ?c5 ?_)
        case c2 => intro u hu; simp at hu; subst hu; rfl
        case c3 => unfold maxLen; omega
        case c4 => omega
        case c5 => simp; omega
        intro v' w3 hown' hgrow _
        have hB3 := own_below hB2 hown1 hgrow
        clear hown1 hgrow hB2 hBB hy1
        go_wp2_with fail
        go_roundw
        case rel => exact ⟨k + 1, by omega, by go_num, by rw [HT.out, ci_append]; exact hown', hB3⟩
        case measure => simp [intOf]; omega
      · obtain rfl : k = N := by omega
        have eT : (Vm.backL k n').take k = Vm.backL k n' := List.take_of_length_le (by rw [Vm.back_len]; exact Nat.le_refl _)
        rw [eT] at hown
        obtain ⟨A9, c9, rfl⟩ := own_form hown
        have hl := Rd.of_own hown
        replace hr := hr.after hBB
        replace hx := hx.after hBB
        replace hB := bT hB hBB
        clear hown hBB eT
        go_wp2_with fail
        with_reducible refine (CloseLoop_any _ _ _ _ _ _ k L (Vm.backL k n') _ hr hl).mono ?_
        rintro e w5 ⟨rfl, hB5⟩
        replace hr := hr.after hB5
        replace hx := hx.after hB5
        replace hl := hl.after hB5
        replace hB := bT hB hB5
        clear hB5
        rw [R1_.out, HO_.out]
        go_wp2_with fail
        with_reducible refine (CloseLoop_any _ _ _ _ _ _ k X (Vm.backL k n') _ hx hl).mono ?_
        rintro e w6 ⟨rfl, hB6⟩
        replace hr := hr.after hB6
        replace hx := hx.after hB6
        replace hl := hl.after hB6
        replace hB := bT hB hB6
        clear hB6
        rw [R2_.out, ES_.out]
        by_cases h3 : 2 < k
        · have hdd : decide (2 < k) = true := by simp; omega
          have hde : decide ((2 : Int) < (k : Int)) = true := by simp; omega
          clear h3
          rw [hdd]
          clear hdd
          go_wp2_with fail
          go_ret
          exact ⟨rfl, hB⟩
        · have hdd : decide (2 < k) = false := by simp; omega
          have hde : decide ((2 : Int) < (k : Int)) = false := by simp; omega
          clear h3
          rw [hdd]
          clear hdd
          go_wp2_with fail
          go_ret
          exact ⟨rfl, hB⟩

end Go.Proofs.Ytcolajhjjnkpmaa
