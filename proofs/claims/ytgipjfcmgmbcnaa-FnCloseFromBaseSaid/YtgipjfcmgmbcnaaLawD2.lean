/- The laws on bases: FnCloseVis, FnCloseBase, FnCloseVisSame, FnCloseFromBase. Written by lawsD2.py. -/
import Derived.Test.YtgipjfcmgmbcnaaBaseC
import Derived.Test.YtgipjfcmgmbcnaaBaseD
import Derived.Test.YtgipjfcmgmbcnaaDrawD
import Derived.Test.YtgipjfcmgmbcnaaLawC2
import Derived.Test.YtgipjfcmgmbcnaaSameC
import Derived.Test.YtgipjfcmgmbcnaaGainM2
namespace Go.Proofs.Ytgipjfcmgmbcnaa
open Go.RowKit

theorem cb_OkB {N : Nat} {L : List (Int × Int)} (h : cbOK N L = true) : Vm.Ok N L ∧ 3 ≤ N ∧ N ≤ 7 ∧ Vm.OkB N (Vm.cbL N L) ∧ Vm.baseB N (Vm.cbL N L) = true := by
  obtain ⟨h1, h2⟩ := (cbOK_iff _ _).1 h
  obtain ⟨M, e, hO⟩ := Vm.Ok.of h1
  obtain rfl : N = M := by omega
  have hB := Vm.cb_ok (N := N) (by omega) hO.hi L
  exact ⟨hO, by omega, hO.hi, hB, hB.to⟩
theorem bv_OK {N : Nat} {B : List Int} (h : Vm.baseB N B = true) : Vm.OkB N B ∧ cvL N B = Vm.bvL N B ∧ Vm.visB N (Vm.bvL N B) = true ∧ cbOK N (Vm.bvL N B) = true ∧ cbO N (Vm.bvL N B) = B := by
  obtain ⟨M, e, hO⟩ := Vm.OkB.of h
  obtain rfl : N = M := by omega
  have hk : cbOK N (Vm.bvL N B) = true := (cbOK_iff _ _).2 ⟨(Vm.bv_ok hO).to, by have := hO.lo; omega⟩
  exact ⟨hO, cvL_yes h, (Vm.bv_ok hO).to, hk, by rw [cbO_yes hk, Vm.cb_bv hO]⟩
def chk10 : Bool := (List.range 8).all fun n => decide (n < 3) || (decide (Vm.bt n 1 2 = n - 1) && decide (Vm.bt n (n - 2) (n - 1) + 1 = n * (n - 1) / 2) && decide (n - 1 + (n - 1) * (n - 2) / 2 = n * (n - 1) / 2))
theorem chk10_ok : chk10 = true := by decide +kernel
theorem bt_ends {N : Nat} (h3 : 3 ≤ N) (h7 : N ≤ 7) : Vm.bt N 1 2 = N - 1 ∧ Vm.bt N (N - 2) (N - 1) + 1 = N * (N - 1) / 2 ∧ N - 1 + (N - 1) * (N - 2) / 2 = N * (N - 1) / 2 := by
  have h := chk10_ok
  simp only [chk10, List.all_eq_true, List.mem_range] at h
  have h2 := h N (by omega)
  simp only [show ¬ N < 3 by omega, decide_false, Bool.false_or, Bool.and_eq_true, decide_eq_true_eq, and_assoc] at h2
  exact h2
/-- The first and the last phase of a base. -/
theorem cb_ends {N : Nat} {L : List (Int × Int)} (hO : Vm.Ok N L) (h3 : 3 ≤ N) : Vm.loopB N L [0, 1, 2] = true ∧ Vm.loopB N L [0, (N : Int) - 2, (N : Int) - 1] = true ∧ ∃ q : Nat, (Vm.cbL N L).length = q + 1 ∧ ((q + 1 : Nat) : Int) = Vm.cmany N ∧ q < 15 ∧ (Vm.cbL N L)[0]? = some (Vm.loopP N L [0, 1, 2]) ∧ (Vm.cbL N L)[q]? = some (Vm.loopP N L [0, (N : Int) - 2, (N : Int) - 1]) := by
  have h7 := hO.hi
  obtain ⟨e1, e2, e3⟩ := bt_ends h3 h7
  have hl := Vm.cb_len N h3 h7 L
  have hc := Vm.cm_all N h3 h7
  have hm := Vm.cmany_nat N h3 h7
  have c1 := Vm.cb_at h3 h7 L (i := 1) (j := 2) (by omega) (by omega) (by omega)
  have c2 := Vm.cb_at h3 h7 L (i := N - 2) (j := N - 1) (by omega) (by omega) (by omega)
  have l1 := Vm.loop0 hO (i := 1) (j := 2) (by omega) (by omega) (by omega)
  have l2 := Vm.loop0 hO (i := N - 2) (j := N - 1) (by omega) (by omega) (by omega)
  have n1 : ((N - 2 : Nat) : Int) = (N : Int) - 2 := by omega
  have n2 : ((N - 1 : Nat) : Int) = (N : Int) - 1 := by omega
  rw [n1, n2] at c2 l2
  rw [e1, Nat.sub_self] at c1
  rw [show Vm.bt N (N - 2) (N - 1) - (N - 1) = (N - 1) * (N - 2) / 2 - 1 by omega] at c2
  exact ⟨l1, l2, (N - 1) * (N - 2) / 2 - 1, by omega, by omega, by omega, c1, c2⟩
set_option maxRecDepth 100000 in
set_option maxHeartbeats 4000000 in
theorem law_closeVis (A : Option Addr) (n c : Nat) (bs : List Int) (w : World) (h : Rd w w.heap.size 1 A n c (cb bs)) (hx : ∀ x ∈ bs, 0 ≤ x ∧ x ≤ 255) :
    Calls Try.prog 4 #[.slice A n c] w fun e w' => e = .returned (.bool true) ∧ Below w.heap.size w w' := by
  have hm := h.most
  have hcap := h.cap
  have HX := Lib.hid hx
  clear hx
  by_cases hz0 : 1048576 < n
  · have hd0 : decide ((1048576 : Int) < (n : Int)) = true := by simp; omega
    clear hz0
    go_enter Try.func4, Try.ntmps4
    go_wp2
    go_ret
    exact ⟨rfl, b0 _⟩
  have hd0 : decide ((1048576 : Int) < (n : Int)) = false := by simp; omega
  go_enter Try.func4, Try.ntmps4
  go_wp2_with fail
  refine (DrawCloseVis_any _ _ _ bs _ h HX.out (by omega)).mono ?_
  rintro e w1 ⟨N, A1, m1, c1, B, ⟨n3, n6⟩, rfl, hr, hB⟩
  go_wp2_with fail
  refine (CloseVis_any _ _ _ N B _ hr).mono ?_
  rintro e w2 ⟨v2, rfl, ho2, hB2⟩
  obtain ⟨A2, c2, rfl⟩ := own_form ho2
  replace hr := hr.after hB2
  replace hB := bT hB hB2
  clear hB2
  have hx := Rd.of_own ho2
  clear ho2
  go_wp2_with fail
  refine (sCloseVis_any _ _ _ N B _ hr).mono ?_
  rintro e w3 ⟨v3, rfl, ho3, hB3⟩
  obtain ⟨A3, c3, rfl⟩ := own_form ho3
  replace hr := hr.after hB3
  replace hx := hx.after hB3
  replace hB := bT hB hB3
  clear hB3
  have hy := Rd.of_own ho3
  clear ho3
  cases hok : Vm.baseB N B
  ·
    go_wp2_with fail
    with_reducible refine (sameVis_self _ _ _ _ _ _ _ _ hx hy).mono ?_
    rintro e w4 ⟨rfl, hB4⟩
    replace hr := hr.after hB4
    replace hx := hx.after hB4
    replace hy := hy.after hB4
    replace hB := bT hB hB4
    clear hB4
    go_wp2_with fail
    with_reducible refine (sameVis_self _ _ _ _ _ _ _ _ hx hy).mono ?_
    rintro e w5 ⟨rfl, hB5⟩
    replace hr := hr.after hB5
    replace hx := hx.after hB5
    replace hy := hy.after hB5
    replace hB := bT hB hB5
    clear hB5
    go_wp2_with fail
    go_ret
    exact ⟨rfl, hB⟩
  · obtain ⟨hO, e1, e2, e3, e4⟩ := bv_OK hok
    rw [e1] at hx hy ⊢
    have hz := fun (j : Nat) (hj : j < N - 1) => Vm.bv_zero hO j hj
    have hlen := (Vm.bv_ok hO).len
    have hcm := Vm.cm_all N hO.lo hO.hi
    obtain ⟨X, hX⟩ : ∃ X, Vm.bvL N B = X := ⟨_, rfl⟩
    rw [hX] at hx hy e2 e3 e4 hz hlen ⊢
    have hlX : N - 1 ≤ X.length := by omega
    have E2 := Lib.hid e2
    have E3 := Lib.hid e3
    have E4 := Lib.hid e4
    have HZ := Lib.hid hz
    clear e1 e2 e3 e4 hz hX hlen hcm hok hO
    go_wp2_with fail
    with_reducible refine (sameVis_self _ _ _ _ _ _ _ _ hx hy).mono ?_
    rintro e w4 ⟨rfl, hB4⟩
    replace hr := hr.after hB4
    replace hx := hx.after hB4
    replace hy := hy.after hB4
    replace hB := bT hB hB4
    clear hB4
    go_wp2_with fail
    refine (CloseBase_any _ _ _ N X _ hx).mono ?_
    rintro e w5 ⟨v5, rfl, ho5, hB5⟩
    rw [E3.out]
    rw [E4.out] at ho5
    obtain ⟨A5, c5, rfl⟩ := own_form ho5
    replace hr := hr.after hB5
    replace hx := hx.after hB5
    replace hy := hy.after hB5
    replace hB := bT hB hB5
    clear hB5
    have hb := Rd.of_own ho5
    clear ho5
    go_wp2_with fail
    go_loop [11] (fun v => ∃ q : Nat, q + 1 ≤ N ∧ v = .int .i64 q) (fun v => N - (intOf v).toNat)
    case atStart => exact ⟨0, by omega, rfl⟩
    case round =>
      obtain ⟨q, hq, rfl⟩ := hrel
      by_cases hlt : q + 1 < N
      · have hqX : q < X.length := by omega
        obtain ⟨bb, off, eA, hbb, hcx, hcy⟩ := hx.pair_at hqX
        have hv := HZ.out q (by omega)
        have e0 : (X.getD q (0, 0)).2 = X[q].2 := by simp [hqX]
        rw [e0] at hv
        rw [hv] at hcy
        clear e0 hv hcx
        have hml : m1 = m1 := rfl
        have hXl : (q : Int) < (X.length : Int) := by omega
        subst eA
        go_wp2_with fail
        go_round
        case rel => exact ⟨q + 1, by omega, by go_num⟩
        case measure => simp [intOf]; omega
      · have hqe : q + 1 = N := by omega
        have hN1 : (q : Int) = (N : Int) - 1 := by omega
        clear hqe
        go_wp2_with fail
        with_reducible refine (sameInts_self _ _ _ _ _ _ _ _ hb hr).mono ?_
        rintro e w6 ⟨rfl, hB6⟩
        replace hr := hr.after hB6
        replace hx := hx.after hB6
        replace hy := hy.after hB6
        replace hb := hb.after hB6
        replace hB := bT hB hB6
        clear hB6
        go_wp2_with fail
        with_reducible refine (VisValid_any _ _ _ N X _ hx).mono ?_
        rintro e w7 ⟨rfl, hB7⟩
        replace hr := hr.after hB7
        replace hx := hx.after hB7
        replace hy := hy.after hB7
        replace hb := hb.after hB7
        replace hB := bT hB hB7
        clear hB7
        rw [E2.out]
        go_wp2_with fail
        go_ret
        exact ⟨rfl, hB⟩
set_option maxRecDepth 100000 in
set_option maxHeartbeats 4000000 in
theorem law_closeBase (A : Option Addr) (n c : Nat) (bs : List Int) (w : World) (h : Rd w w.heap.size 1 A n c (cb bs)) (hx : ∀ x ∈ bs, 0 ≤ x ∧ x ≤ 255) :
    Calls Try.prog 9 #[.slice A n c] w fun e w' => e = .returned (.bool true) ∧ Below w.heap.size w w' := by
  have hm := h.most
  have hcap := h.cap
  have HX := Lib.hid hx
  clear hx
  by_cases hz0 : 1048576 < n
  · have hd0 : decide ((1048576 : Int) < (n : Int)) = true := by simp; omega
    clear hz0
    go_enter Try.func9, Try.ntmps9
    go_wp2
    go_ret
    exact ⟨rfl, b0 _⟩
  have hd0 : decide ((1048576 : Int) < (n : Int)) = false := by simp; omega
  go_enter Try.func9, Try.ntmps9
  go_wp2_with fail
  refine (DrawCloseBase_any _ _ _ bs _ h HX.out (by omega)).mono ?_
  rintro e w1 ⟨N, A1, m1, c1, L, ⟨n2, n7⟩, rfl, hr, hB⟩
  go_wp2_with fail
  refine (CloseBase_any _ _ _ N L _ hr).mono ?_
  rintro e w2 ⟨v2, rfl, ho2, hB2⟩
  obtain ⟨A2, c2, rfl⟩ := own_form ho2
  replace hr := hr.after hB2
  replace hB := bT hB hB2
  clear hB2
  have hx := Rd.of_own ho2
  clear ho2
  go_wp2_with fail
  refine (sCloseBase_any _ _ _ N L _ hr).mono ?_
  rintro e w3 ⟨v3, rfl, ho3, hB3⟩
  obtain ⟨A3, c3, rfl⟩ := own_form ho3
  replace hr := hr.after hB3
  replace hx := hx.after hB3
  replace hB := bT hB hB3
  clear hB3
  have hy := Rd.of_own ho3
  clear ho3
  cases hok : cbOK N L
  ·
    go_wp2_with fail
    with_reducible refine (sameInts_self _ _ _ _ _ _ _ _ hx hy).mono ?_
    rintro e w4 ⟨rfl, hB4⟩
    replace hr := hr.after hB4
    replace hx := hx.after hB4
    replace hy := hy.after hB4
    replace hB := bT hB hB4
    clear hB4
    go_wp2_with fail
    with_reducible refine (sameInts_self _ _ _ _ _ _ _ _ hx hy).mono ?_
    rintro e w5 ⟨rfl, hB5⟩
    replace hr := hr.after hB5
    replace hx := hx.after hB5
    replace hy := hy.after hB5
    replace hB := bT hB hB5
    clear hB5
    go_wp2_with fail
    go_ret
    exact ⟨rfl, hB⟩
  · obtain ⟨hO, n3, _, _, _⟩ := cb_OkB hok
    obtain ⟨l1, l2, q, q1, q2, q3, c1, c2⟩ := cb_ends hO n3
    have e := cbO_yes hok
    rw [e] at hx hy ⊢
    clear e hok hO
    obtain ⟨X, hX⟩ : ∃ X, Vm.cbL N L = X := ⟨_, rfl⟩
    rw [hX] at hx hy q1 c1 c2 ⊢
    clear hX
    obtain ⟨x, hxx⟩ : ∃ x, Vm.loopP N L [0, 1, 2] = x := ⟨_, rfl⟩
    obtain ⟨y, hyy⟩ : ∃ x, Vm.loopP N L [0, (N : Int) - 2, (N : Int) - 1] = x := ⟨_, rfl⟩
    rw [hxx] at c1
    rw [hyy] at c2
    obtain ⟨z0, z1⟩ := List.getElem?_eq_some_iff.1 c1
    obtain ⟨z2, z3⟩ := List.getElem?_eq_some_iff.1 c2
    have L1 := Lib.hid l1
    have L2 := Lib.hid l2
    have X1 := Lib.hid hxx
    have Y1 := Lib.hid hyy
    have Z1 := Lib.hid z1
    have Z3 := Lib.hid z3
    have hpos : 0 < X.length := by omega
    have Q2 := Lib.hid (show Vm.cmany N = (X.length : Int) by omega)
    have HQ := Lib.hid (show q = X.length - 1 by omega)
    clear l1 l2 hxx hyy z1 z3 c1 c2 q2 q1
    go_wp2_with fail
    with_reducible refine (sameInts_self _ _ _ _ _ _ _ _ hx hy).mono ?_
    rintro e w4 ⟨rfl, hB4⟩
    replace hr := hr.after hB4
    replace hx := hx.after hB4
    replace hy := hy.after hB4
    replace hB := bT hB hB4
    clear hB4
    go_wp2_with fail
    with_reducible refine (ClosePhase_any _ _ _ N 0 1 2 L _ hr).mono ?_
    rintro e w5 ⟨rfl, hB5⟩
    replace hr := hr.after hB5
    replace hx := hx.after hB5
    replace hy := hy.after hB5
    replace hB := bT hB hB5
    clear hB5
    rw [L1.out, X1.out]
    go_wp2_with fail
    with_reducible refine (ClosePhase_any _ _ _ N 0 ((N : Int) - 2) ((N : Int) - 1) L _ hr).mono ?_
    rintro e w6 ⟨rfl, hB6⟩
    replace hr := hr.after hB6
    replace hx := hx.after hB6
    replace hy := hy.after hB6
    replace hB := bT hB hB6
    clear hB6
    rw [L2.out, Y1.out]
    obtain ⟨bb, off, eA, hbb, hca⟩ := hx.int_at z0
    obtain ⟨bb2, off2, eA2, hbb2, hcb⟩ := hx.int_at z2
    rw [eA] at eA2
    injection eA2 with eA2
    injection eA2 with eA2 eA3
    subst eA2 eA3
    rw [Z1.out, Nat.add_zero] at hca
    rw [Z3.out] at hcb
    subst eA
    have hlt0 : (0 : Int) < (X.length : Int) := by omega
    have hl0 : (0 : Int) ≤ (X.length : Int) - 1 := by omega
    have hll : (X.length : Int) - 1 < (X.length : Int) := by omega
    have hX15 : X.length ≤ 15 := by have := HQ.out; omega
    rw [HQ.out] at hcb
    clear Z3 z2
    go_wp2_with (go_at_call 38; refine (CloseMany_any _ _).mono ?_; rintro e w' ⟨rfl, rfl⟩; rw [Q2.out])
    go_ret
    exact ⟨rfl, hB⟩
set_option maxRecDepth 100000 in
set_option maxHeartbeats 4000000 in
theorem law_closeVisSame (A : Option Addr) (n c : Nat) (bs : List Int) (A' : Option Addr) (n' c' : Nat) (w : World) (h : Rd w w.heap.size 1 A n c (cb bs)) (hx : ∀ x ∈ bs, 0 ≤ x ∧ x ≤ 255) (hn' : n' ≤ 9223372036854775807) :
    Calls Try.prog 11 #[.slice A n c, .slice A' n' c'] w fun e w' => e = .returned (.bool true) ∧ Below w.heap.size w w' := by
  have hm := h.most
  have hcap := h.cap
  have HX := Lib.hid hx
  clear hx
  by_cases hz0 : 1048576 < n
  · have hd0 : decide ((1048576 : Int) < (n : Int)) = true := by simp; omega
    clear hz0
    go_enter Try.func11, Try.ntmps11
    go_wp2
    go_ret
    exact ⟨rfl, b0 _⟩
  have hd0 : decide ((1048576 : Int) < (n : Int)) = false := by simp; omega
  by_cases hz1 : 1048576 < n'
  · have hd1 : decide ((1048576 : Int) < (n' : Int)) = true := by simp; omega
    clear hz0 hz1
    go_enter Try.func11, Try.ntmps11
    go_wp2
    go_ret
    exact ⟨rfl, b0 _⟩
  have hd1 : decide ((1048576 : Int) < (n' : Int)) = false := by simp; omega
  go_enter Try.func11, Try.ntmps11
  go_wp2_with fail
  refine (DrawCloseBase_any _ _ _ bs _ h HX.out (by omega)).mono ?_
  rintro e w1 ⟨N, A1, m1, c1, L, ⟨n2, n7⟩, rfl, hr, hB⟩
  go_wp2_with fail
  refine (CloseBase_any _ _ _ N L _ hr).mono ?_
  rintro e w2 ⟨v2, rfl, ho2, hB2⟩
  obtain ⟨A2, c2, rfl⟩ := own_form ho2
  replace hr := hr.after hB2
  replace hB := bT hB hB2
  clear hB2
  have hx := Rd.of_own ho2
  clear ho2
  go_wp2_with fail
  refine (sCloseBase_any _ _ _ N L _ hr).mono ?_
  rintro e w3 ⟨v3, rfl, ho3, hB3⟩
  obtain ⟨A3, c3, rfl⟩ := own_form ho3
  replace hr := hr.after hB3
  replace hx := hx.after hB3
  replace hB := bT hB hB3
  clear hB3
  have hy := Rd.of_own ho3
  clear ho3
  cases hok : cbOK N L
  ·
    go_wp2_with fail
    with_reducible refine (sameInts_self _ _ _ _ _ _ _ _ hx hy).mono ?_
    rintro e w4 ⟨rfl, hB4⟩
    replace hr := hr.after hB4
    replace hx := hx.after hB4
    replace hy := hy.after hB4
    replace hB := bT hB hB4
    clear hB4
    go_wp2_with fail
    with_reducible refine (sameInts_self _ _ _ _ _ _ _ _ hx hy).mono ?_
    rintro e w5 ⟨rfl, hB5⟩
    replace hr := hr.after hB5
    replace hx := hx.after hB5
    replace hy := hy.after hB5
    replace hB := bT hB hB5
    clear hB5
    go_wp2_with fail
    go_ret
    exact ⟨rfl, hB⟩
  · obtain ⟨hO, n3, _, hOB, hbb⟩ := cb_OkB hok
    have e := cbO_yes hok
    rw [e] at hx hy ⊢
    obtain ⟨_, e1, e2, _, _⟩ := bv_OK hbb
    have i1 := Int.emod_nonneg (n' : Int) (show (N : Int) ≠ 0 by omega)
    have i2 := Int.emod_lt_of_pos (n' : Int) (show (0 : Int) < (N : Int) by omega)
    have r1 := Vm.row_loop hO n'
    have r2 := Vm.row_loop (Vm.bv_ok hOB) n'
    rw [decide_eq_true (by omega)] at r1 r2
    have c0 : ((n' % N : Nat) : Int) = (n' : Int) % (N : Int) := by omega
    have c1 : (((n' % N + 1) % N : Nat) : Int) = ((n' : Int) % (N : Int) + 1) % (N : Int) := by rw [← c0]; norm_cast
    have c2 : (((n' % N + 2) % N : Nat) : Int) = ((n' : Int) % (N : Int) + 2) % (N : Int) := by rw [← c0]; norm_cast
    rw [c0, c1, c2] at r1 r2
    obtain ⟨i, hi⟩ : ∃ i, (n' : Int) % (N : Int) = i := ⟨_, rfl⟩
    rw [hi] at r1 r2
    obtain ⟨j, hj⟩ : ∃ j, (i + 1) % (N : Int) = j := ⟨_, rfl⟩
    obtain ⟨k, hk⟩ : ∃ k, (i + 2) % (N : Int) = k := ⟨_, rfl⟩
    rw [hj, hk] at r1 r2
    have es : Vm.loopP N (Vm.bvL N (Vm.cbL N L)) [i, j, k] = Vm.loopP N L [i, j, k] := by rw [Vm.cf_loopP hOB]; exact (Vm.cf_cb hO n3 i j k).2
    obtain ⟨o, ho⟩ : ∃ o, Vm.loopP N L [i, j, k] = o := ⟨_, rfl⟩
    rw [ho] at es
    obtain ⟨Y, hY⟩ : ∃ Y, Vm.bvL N (Vm.cbL N L) = Y := ⟨_, rfl⟩
    rw [hY] at e1 e2 r2 es
    obtain ⟨X, hX⟩ : ∃ X, Vm.cbL N L = X := ⟨_, rfl⟩
    rw [hX] at hx hy hbb e1 ⊢
    have R1 := Lib.hid r1
    have R2 := Lib.hid r2
    have ES := Lib.hid es
    have HI := Lib.hid hi
    have HJ := Lib.hid hj
    have HK := Lib.hid hk
    have HJ2 := Lib.hid (show ((n' : Int) + 1) % (N : Int) = j by rw [← hj, ← hi, Int.emod_add_emod])
    have HK2 := Lib.hid (show ((n' : Int) + 2) % (N : Int) = k by rw [← hk, ← hi, Int.emod_add_emod])
    have HOo := Lib.hid ho
    have HBB := Lib.hid hbb
    have E1 := Lib.hid e1
    clear e r1 r2 es hi hj hk ho hbb e1 e2 hX hY hOB hok c0 c1 c2 hO
    go_wp2_with fail
    with_reducible refine (sameInts_self _ _ _ _ _ _ _ _ hx hy).mono ?_
    rintro e w4 ⟨rfl, hB4⟩
    replace hr := hr.after hB4
    replace hx := hx.after hB4
    replace hy := hy.after hB4
    replace hB := bT hB hB4
    clear hB4
    go_wp2_with fail
    refine (CloseVis_any _ _ _ N X _ hx).mono ?_
    rintro e w5 ⟨v5, rfl, ho5, hB5⟩
    rw [HBB.out]
    rw [E1.out] at ho5
    obtain ⟨A5, c5, rfl⟩ := own_form ho5
    replace hr := hr.after hB5
    replace hx := hx.after hB5
    replace hy := hy.after hB5
    replace hB := bT hB hB5
    clear hB5
    have hv := Rd.of_own ho5
    clear ho5
    go_wp2_with fail
    rw [HI.out, HJ.out, HK.out, HJ2.out, HK2.out]
    with_reducible refine (ClosePhase_any _ _ _ N i j k Y _ hv).mono ?_
    rintro e w6 ⟨rfl, hB6⟩
    replace hr := hr.after hB6
    replace hx := hx.after hB6
    replace hy := hy.after hB6
    replace hv := hv.after hB6
    replace hB := bT hB hB6
    clear hB6
    rw [R2.out, ES.out]
    go_wp2_with fail
    with_reducible refine (ClosePhase_any _ _ _ N i j k L _ hr).mono ?_
    rintro e w7 ⟨rfl, hB7⟩
    replace hr := hr.after hB7
    replace hx := hx.after hB7
    replace hy := hy.after hB7
    replace hv := hv.after hB7
    replace hB := bT hB hB7
    clear hB7
    rw [R1.out, HOo.out]
    go_wp2_with fail
    go_ret
    exact ⟨rfl, hB⟩
theorem mod_two {x N : Int} (h0 : 0 ≤ x) (h1 : x < 2 * N) : (x < N ∧ x % N = x) ∨ (N ≤ x ∧ x % N = x - N) := by
  by_cases h : x < N
  · exact .inl ⟨h, Int.emod_eq_of_lt h0 h⟩
  · right
    refine ⟨by omega, ?_⟩
    have e : x = (x - N) + N := by omega
    rw [e, Int.add_emod_right, Int.emod_eq_of_lt (by omega) (by omega)]; omega
theorem loop_apart {N : Nat} {L : List (Int × Int)} (hO : Vm.Ok N L) {i j k : Int} (hi : 0 ≤ i ∧ i < N) (hj : 0 ≤ j ∧ j < N) (hk : 0 ≤ k ∧ k < N) (hij : i ≠ j) : Vm.loopB N L [i, j, k] = ((k != i) && (k != j)) := by
  rw [Bool.eq_iff_iff, Vm.loopB_iff, Vm.apB_nodup]
  simp only [bne_iff_ne, Bool.and_eq_true]
  constructor
  · rintro ⟨_, _, _, h⟩
    simp at h
    omega
  · rintro ⟨h1, h2⟩
    refine ⟨hO.to, by simp, fun x hx => ?_, ?_⟩
    · simp at hx
      rcases hx with rfl | rfl | rfl <;> assumption
    · simp; omega
set_option maxRecDepth 100000 in
set_option maxHeartbeats 4000000 in
theorem law_closeFromBase (A : Option Addr) (n c : Nat) (bs : List Int) (A' : Option Addr) (n' c' : Nat) (w : World) (h : Rd w w.heap.size 1 A n c (cb bs)) (hx : ∀ x ∈ bs, 0 ≤ x ∧ x ≤ 255) (hn' : n' ≤ 9223372036854775807) :
    Calls Try.prog 12 #[.slice A n c, .slice A' n' c'] w fun e w' => e = .returned (.bool true) ∧ Below w.heap.size w w' := by
  have hm := h.most
  have hcap := h.cap
  have HX := Lib.hid hx
  clear hx
  by_cases hz0 : 1048576 < n
  · have hd0 : decide ((1048576 : Int) < (n : Int)) = true := by simp; omega
    clear hz0
    go_enter Try.func12, Try.ntmps12
    go_wp2
    go_ret
    exact ⟨rfl, b0 _⟩
  have hd0 : decide ((1048576 : Int) < (n : Int)) = false := by simp; omega
  by_cases hz1 : 1048576 < n'
  · have hd1 : decide ((1048576 : Int) < (n' : Int)) = true := by simp; omega
    clear hz0 hz1
    go_enter Try.func12, Try.ntmps12
    go_wp2
    go_ret
    exact ⟨rfl, b0 _⟩
  have hd1 : decide ((1048576 : Int) < (n' : Int)) = false := by simp; omega
  go_enter Try.func12, Try.ntmps12
  go_wp2_with fail
  refine (DrawCloseBase_any _ _ _ bs _ h HX.out (by omega)).mono ?_
  rintro e w1 ⟨N, A1, m1, c1, L, ⟨n2, n7⟩, rfl, hr, hB⟩
  go_wp2_with fail
  refine (CloseBase_any _ _ _ N L _ hr).mono ?_
  rintro e w2 ⟨v2, rfl, ho2, hB2⟩
  obtain ⟨A2, c2, rfl⟩ := own_form ho2
  replace hr := hr.after hB2
  replace hB := bT hB hB2
  clear hB2
  have hx := Rd.of_own ho2
  clear ho2
  go_wp2_with fail
  refine (sCloseBase_any _ _ _ N L _ hr).mono ?_
  rintro e w3 ⟨v3, rfl, ho3, hB3⟩
  obtain ⟨A3, c3, rfl⟩ := own_form ho3
  replace hr := hr.after hB3
  replace hx := hx.after hB3
  replace hB := bT hB hB3
  clear hB3
  have hy := Rd.of_own ho3
  clear ho3
  cases hok : cbOK N L
  ·
    go_wp2_with fail
    with_reducible refine (sameInts_self _ _ _ _ _ _ _ _ hx hy).mono ?_
    rintro e w4 ⟨rfl, hB4⟩
    replace hr := hr.after hB4
    replace hx := hx.after hB4
    replace hy := hy.after hB4
    replace hB := bT hB hB4
    clear hB4
    go_wp2_with fail
    with_reducible refine (sameInts_self _ _ _ _ _ _ _ _ hx hy).mono ?_
    rintro e w5 ⟨rfl, hB5⟩
    replace hr := hr.after hB5
    replace hx := hx.after hB5
    replace hy := hy.after hB5
    replace hB := bT hB hB5
    clear hB5
    go_wp2_with fail
    go_ret
    exact ⟨rfl, hB⟩
  · obtain ⟨hO, n3, _, hOB, hbb⟩ := cb_OkB hok
    have e := cbO_yes hok
    rw [e] at hx hy ⊢
    have i1 := Int.emod_nonneg (n' : Int) (show (N : Int) ≠ 0 by omega)
    have i2 := Int.emod_lt_of_pos (n' : Int) (show (0 : Int) < (N : Int) by omega)
    have d1 : (0 : Int) ≤ (n' : Int) / (N : Int) := Int.ediv_nonneg (by omega) (by omega)
    have d2 : (n' : Int) / (N : Int) ≤ 9223372036854775807 := Int.le_trans (Int.ediv_le_self _ (by omega)) (by omega)
    have t1 := Int.emod_nonneg ((n' : Int) / (N : Int)) (show (N : Int) - 1 ≠ 0 by omega)
    have t2 := Int.emod_lt_of_pos ((n' : Int) / (N : Int)) (show (0 : Int) < (N : Int) - 1 by omega)
    have k1 := Int.emod_nonneg ((n' : Int) / 50) (show (N : Int) ≠ 0 by omega)
    have k2 := Int.emod_lt_of_pos ((n' : Int) / 50) (show (0 : Int) < (N : Int) by omega)
    have j0 := mod_two (x := (n' : Int) % (N : Int) + 1 + (n' : Int) / (N : Int) % ((N : Int) - 1)) (N := (N : Int)) (by omega) (by omega)
    obtain ⟨i, hi⟩ : ∃ i, (n' : Int) % (N : Int) = i := ⟨_, rfl⟩
    obtain ⟨k, hk⟩ : ∃ k, (n' : Int) / 50 % (N : Int) = k := ⟨_, rfl⟩
    obtain ⟨j, hj⟩ : ∃ j, ((n' : Int) % (N : Int) + 1 + (n' : Int) / (N : Int) % ((N : Int) - 1)) % (N : Int) = j := ⟨_, rfl⟩
    rw [hj] at j0
    have hij : (0 ≤ i ∧ i < N) ∧ (0 ≤ j ∧ j < N) ∧ (0 ≤ k ∧ k < N) ∧ i ≠ j := by omega
    clear j0
    obtain ⟨ri, rj, rk, hne⟩ := hij
    have hl := loop_apart hO ri rj rk hne
    obtain ⟨cf1, cf2⟩ := Vm.cf_cb hO n3 i j k
    rw [hl] at cf1
    obtain ⟨o, ho⟩ : ∃ o, Vm.loopP N L [i, j, k] = o := ⟨_, rfl⟩
    rw [ho] at cf2
    obtain ⟨X, hX⟩ : ∃ X, Vm.cbL N L = X := ⟨_, rfl⟩
    rw [hX] at hx hy cf1 cf2 ⊢
    have HL := Lib.hid hl
    have CF1 := Lib.hid cf1
    have CF2 := Lib.hid cf2
    have HI := Lib.hid hi
    have HJ := Lib.hid hj
    have HK := Lib.hid hk
    have HOo := Lib.hid ho
    clear e hl cf1 cf2 hi hj hk ho hX hOB hbb hok hO ri rj rk hne
    go_wp2_with fail
    with_reducible refine (sameInts_self _ _ _ _ _ _ _ _ hx hy).mono ?_
    rintro e w4 ⟨rfl, hB4⟩
    replace hr := hr.after hB4
    replace hx := hx.after hB4
    replace hy := hy.after hB4
    replace hB := bT hB hB4
    clear hB4
    go_wp2_with fail
    rw [HK.out, HJ.out, HI.out]
    with_reducible refine (CloseFrom_any _ _ _ N X i j k _ hx).mono ?_
    rintro e w5 ⟨rfl, hB5⟩
    replace hr := hr.after hB5
    replace hx := hx.after hB5
    replace hy := hy.after hB5
    replace hB := bT hB hB5
    clear hB5
    rw [CF1.out, CF2.out]
    go_wp2_with fail
    with_reducible refine (ClosePhase_any _ _ _ N i j k L _ hr).mono ?_
    rintro e w6 ⟨rfl, hB6⟩
    replace hr := hr.after hB6
    replace hx := hx.after hB6
    replace hy := hy.after hB6
    replace hB := bT hB hB6
    clear hB6
    rw [HL.out, HOo.out]
    cases hc1 : k != i <;> cases hc2 : k != j
    all_goals
      go_wp2_with fail
      go_ret
      exact ⟨rfl, hB⟩

end Go.Proofs.Ytgipjfcmgmbcnaa
