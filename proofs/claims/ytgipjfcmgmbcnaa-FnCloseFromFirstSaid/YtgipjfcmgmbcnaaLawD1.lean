/- The laws on closure phases that follow from a base: FnCloseFrom, FnCloseFromFour, FnCloseFromFirst, FnCloseFromVis. Written by lawsD.py. -/
import Derived.Test.YtgipjfcmgmbcnaaBaseC
import Derived.Test.YtgipjfcmgmbcnaaDrawD
import Derived.Test.YtgipjfcmgmbcnaaLawC1
namespace Go.Proofs.Ytgipjfcmgmbcnaa
open Go.RowKit

theorem cfP_bd (n : Int) (B : List Int) (i j k : Int) : 0 ≤ Vm.cfP n B i j k ∧ Vm.cfP n B i j k < 360 := by
  unfold Vm.cfP
  split <;> omega
theorem cf_okB {n : Int} {B : List Int} {i j k : Int} (h : Vm.cfB n B i j k = true) : ∃ N : Nat, n = N ∧ Vm.OkB N B := Vm.OkB.of ((Vm.cfB_iff _ _ _ _ _).1 h).1
/-- Six orders of a closure phase that follows. -/
theorem cf_six {n : Int} {B : List Int} {i j k : Int} (h : Vm.cfB n B i j k = true) : Vm.cfB n B j k i = true ∧ Vm.cfB n B j i k = true ∧ Vm.cfP n B j k i = Vm.cfP n B i j k ∧ Vm.cfP n B j i k = (0 - Vm.cfP n B i j k) % 360 := by
  obtain ⟨N, rfl, hO⟩ := cf_okB h
  have := Vm.six (n := N) (L := Vm.bvL N B) (i := i) (j := j) (k := k) (by rw [Vm.cf_loopB hO]; exact h)
  simp only [Vm.cf_loopB hO, Vm.cf_loopP hO] at this
  exact this
theorem cf_four {N : Nat} {B : List Int} {i j k l : Int} (h : Vm.cfB N B i j k = true) (hl : l ≠ i ∧ l ≠ j ∧ l ≠ k) (h0 : 0 ≤ l) (hn : l < N) :
    Vm.cfB N B i k l = true ∧ Vm.cfB N B i j l = true ∧ Vm.cfB N B j k l = true ∧ (Vm.cfP N B i j k + Vm.cfP N B i k l) % 360 = (Vm.cfP N B i j l + Vm.cfP N B j k l) % 360 := by
  obtain ⟨M, e, hO⟩ := cf_okB h
  obtain rfl : N = M := by omega
  have := Vm.four (n := N) (L := Vm.bvL N B) (i := i) (j := j) (k := k) (by rw [Vm.cf_loopB hO]; exact h) hl h0 hn
  simp only [Vm.cf_loopB hO, Vm.cf_loopP hO] at this
  exact this
theorem cf_none {N : Nat} {B : List Int} {i j l : Int} (hn : (N : Int) ≤ l) : Vm.cfB N B i j l = false := by
  rw [Bool.eq_false_iff]
  intro h
  have := ((Vm.apB_nodup _ _).1 ((Vm.cfB_iff _ _ _ _ _).1 h).2).1 l (by simp)
  omega
set_option maxRecDepth 100000 in
set_option maxHeartbeats 2000000 in
theorem law_closeFrom (A : Option Addr) (n c : Nat) (bs : List Int) (w : World) (h : Rd w w.heap.size 1 A n c (cb bs)) (hx : ∀ x ∈ bs, 0 ≤ x ∧ x ≤ 255) :
    Calls Try.prog 6 #[.slice A n c] w fun e w' => e = .returned (.bool true) ∧ Below w.heap.size w w' := by
  have hm := h.most
  have hcap := h.cap
  have HX := Lib.hid hx
  clear hx
  by_cases hz0 : 1048576 < n
  · have hd0 : decide ((1048576 : Int) < (n : Int)) = true := by simp; omega
    clear hz0
    go_enter Try.func6, Try.ntmps6
    go_wp2
    go_ret
    exact ⟨rfl, b0 _⟩
  have hd0 : decide ((1048576 : Int) < (n : Int)) = false := by simp; omega
  go_enter Try.func6, Try.ntmps6
  go_wp2_with fail
  refine (DrawCloseFrom_any _ _ _ bs _ h HX.out (by omega)).mono ?_
  rintro e w1 ⟨N, A1, m1, c1, B, i, j, k, ⟨n3, n6⟩, rfl, hr, hB⟩
  go_wp2_with fail
  refine (CloseFrom_any _ _ _ N B i j k _ hr).mono ?_
  rintro e w2 ⟨rfl, hB2⟩
  replace hr := hr.after hB2
  replace hB := bT hB hB2
  clear hB2
  go_wp2_with fail
  refine (sCloseFrom_any _ _ _ N B i j k _ hr).mono ?_
  rintro e w3 ⟨rfl, hB3⟩
  replace hr := hr.after hB3
  replace hB := bT hB hB3
  clear hB3
  have ob := cfP_bd N B i j k
  have hsix := @cf_six N B i j k
  obtain ⟨o, ho⟩ : ∃ o, Vm.cfP N B i j k = o := ⟨_, rfl⟩
  rw [ho] at ob hsix ⊢
  clear ho
  obtain ⟨o1, o2⟩ := ob
  cases hok : Vm.cfB N B i j k
  · clear hsix
    go_wp2_with fail
    go_ret
    exact ⟨rfl, hB⟩
  · have HS := Lib.hid (hsix hok)
    clear hsix hok
    go_wp2_with fail
    refine (CloseFrom_any _ _ _ N B j k i _ hr).mono ?_
    rintro e w4 ⟨rfl, hB4⟩
    replace hr := hr.after hB4
    replace hB := bT hB hB4
    clear hB4
    rw [HS.out.1, HS.out.2.2.1]
    go_wp2_with fail
    refine (CloseFrom_any _ _ _ N B j i k _ hr).mono ?_
    rintro e w5 ⟨rfl, hB5⟩
    replace hr := hr.after hB5
    replace hB := bT hB hB5
    clear hB5
    rw [HS.out.2.1, HS.out.2.2.2]
    go_wp2_with (go_at_call 34; refine (PhaseOf_any _ _).mono ?_; rintro e w' ⟨rfl, rfl⟩)
    go_ret
    exact ⟨rfl, hB⟩
set_option maxRecDepth 100000 in
set_option maxHeartbeats 4000000 in
theorem law_closeFromFour (A : Option Addr) (n c : Nat) (bs : List Int) (w : World) (h : Rd w w.heap.size 1 A n c (cb bs)) (hx : ∀ x ∈ bs, 0 ≤ x ∧ x ≤ 255) :
    Calls Try.prog 7 #[.slice A n c] w fun e w' => e = .returned (.bool true) ∧ Below w.heap.size w w' := by
  have hm := h.most
  have hcap := h.cap
  have HX := Lib.hid hx
  clear hx
  by_cases hz0 : 1048576 < n
  · have hd0 : decide ((1048576 : Int) < (n : Int)) = true := by simp; omega
    clear hz0
    go_enter Try.func7, Try.ntmps7
    go_wp2
    go_ret
    exact ⟨rfl, b0 _⟩
  have hd0 : decide ((1048576 : Int) < (n : Int)) = false := by simp; omega
  go_enter Try.func7, Try.ntmps7
  go_wp2_with fail
  refine (DrawCloseFrom_any _ _ _ bs _ h HX.out (by omega)).mono ?_
  rintro e w1 ⟨N, A1, m1, c1, B, i, j, k, ⟨n3, n6⟩, rfl, hr, hB⟩
  go_wp2_with fail
  refine (CloseFrom_any _ _ _ N B i j k _ hr).mono ?_
  rintro e w2 ⟨rfl, hB2⟩
  replace hr := hr.after hB2
  replace hB := bT hB hB2
  clear hB2
  go_wp2_with fail
  refine (sCloseFrom_any _ _ _ N B i j k _ hr).mono ?_
  rintro e w3 ⟨rfl, hB3⟩
  replace hr := hr.after hB3
  replace hB := bT hB hB3
  clear hB3
  have ob := cfP_bd N B i j k
  have hfour := fun l => @cf_four N B i j k l
  obtain ⟨o, ho⟩ : ∃ o, Vm.cfP N B i j k = o := ⟨_, rfl⟩
  rw [ho] at ob ⊢
  obtain ⟨o1, o2⟩ := ob
  cases hok : Vm.cfB N B i j k
  · clear hfour ho
    go_wp2_with fail
    go_ret
    exact ⟨rfl, hB⟩
  · have HO := Lib.hid ho
    have HS := Lib.hid (fun l => hfour l hok)
    clear hfour hok ho
    go_wp2_with fail
    go_loop [12] (fun v => ∃ q : Nat, v = .int .i64 q ∧ Hid (∀ r : Nat, r < q → (r : Int) = i ∨ (r : Int) = j ∨ (r : Int) = k)) (fun v => 3 - (intOf v).toNat)
    case atStart => exact ⟨0, rfl, fun r hr => by omega⟩
    case round =>
      obtain ⟨q, rfl, hq⟩ := hrel
      have q3 := pig hq.out
      by_cases hin : (q : Int) = i ∨ (q : Int) = j ∨ (q : Int) = k
      · have H := Lib.hid (pig_next hq.out hin)
        have q4 := pig H.out
        have hin2 : ((q : Int) == i) = true ∨ (((q : Int) == i) = false ∧ ((q : Int) == j) = true) ∨ (((q : Int) == i) = false ∧ ((q : Int) == j) = false ∧ ((q : Int) == k) = true) := by
          simp only [beq_iff_eq, beq_eq_false_iff_ne]; omega
        clear hin
        rcases hin2 with h1 | ⟨h1, h2⟩ | ⟨h1, h2, h3⟩
        all_goals
          go_wp2_with fail
          go_round
          case rel => exact ⟨q + 1, by go_num, H⟩
          case measure => simp [intOf]; omega
      · have h1 : ((q : Int) == i) = false := by simp only [beq_eq_false_iff_ne]; omega
        have h2 : ((q : Int) == j) = false := by simp only [beq_eq_false_iff_ne]; omega
        have h3 : ((q : Int) == k) = false := by simp only [beq_eq_false_iff_ne]; omega
        have HI := Lib.hid hin
        clear hin
        have p1 := cfP_bd N B i k q
        obtain ⟨x1, hx1⟩ : ∃ o, Vm.cfP N B i k q = o := ⟨_, rfl⟩
        rw [hx1] at p1
        obtain ⟨p11, p12⟩ := p1
        have H1 := Lib.hid hx1
        clear hx1
        have p2 := cfP_bd N B i j q
        obtain ⟨x2, hx2⟩ : ∃ o, Vm.cfP N B i j q = o := ⟨_, rfl⟩
        rw [hx2] at p2
        obtain ⟨p21, p22⟩ := p2
        have H2 := Lib.hid hx2
        clear hx2
        have p3 := cfP_bd N B j k q
        obtain ⟨x3, hx3⟩ : ∃ o, Vm.cfP N B j k q = o := ⟨_, rfl⟩
        rw [hx3] at p3
        obtain ⟨p31, p32⟩ := p3
        have H3 := Lib.hid hx3
        clear hx3
        by_cases hql : (N : Int) ≤ q
        · have B1 := Lib.hid (cf_none (B := B) (i := i) (j := k) hql)
          have B2 := Lib.hid (cf_none (B := B) (i := i) (j := j) hql)
          have B3 := Lib.hid (cf_none (B := B) (i := j) (j := k) hql)
          have hqn : N ≤ q := by omega
          go_wp2_with fail
          refine (CloseFrom_any _ _ _ N B i k q _ hr).mono ?_
          rintro e w4 ⟨rfl, hB4⟩
          replace hr := hr.after hB4
          replace hB := bT hB hB4
          clear hB4
          rw [B1.out]
          go_wp2_with fail
          refine (CloseFrom_any _ _ _ N B i j q _ hr).mono ?_
          rintro e w5 ⟨rfl, hB5⟩
          replace hr := hr.after hB5
          replace hB := bT hB hB5
          clear hB5
          rw [B2.out]
          go_wp2_with fail
          refine (CloseFrom_any _ _ _ N B j k q _ hr).mono ?_
          rintro e w6 ⟨rfl, hB6⟩
          replace hr := hr.after hB6
          replace hB := bT hB hB6
          clear hB6
          rw [B3.out]
          go_wp2_with fail
          go_ret
          exact ⟨rfl, hB⟩
        · have hqn : q < N := by omega
          obtain ⟨g1, g2, g3, g4⟩ := HS.out q (by have := HI.out; omega) (by omega) (by omega)
          have B1 := Lib.hid g1
          have B2 := Lib.hid g2
          have B3 := Lib.hid g3
          have B4 := Lib.hid (show ((o + x1) % 360 == (x2 + x3) % 360) = true by rw [beq_iff_eq, ← HO.out, ← H1.out, ← H2.out, ← H3.out]; exact g4)
          clear g1 g2 g3 g4
          go_wp2_with fail
          refine (CloseFrom_any _ _ _ N B i k q _ hr).mono ?_
          rintro e w4 ⟨rfl, hB4⟩
          replace hr := hr.after hB4
          replace hB := bT hB hB4
          clear hB4
          rw [B1.out, H1.out]
          go_wp2_with fail
          refine (CloseFrom_any _ _ _ N B i j q _ hr).mono ?_
          rintro e w5 ⟨rfl, hB5⟩
          replace hr := hr.after hB5
          replace hB := bT hB hB5
          clear hB5
          rw [B2.out, H2.out]
          go_wp2_with fail
          refine (CloseFrom_any _ _ _ N B j k q _ hr).mono ?_
          rintro e w6 ⟨rfl, hB6⟩
          replace hr := hr.after hB6
          replace hB := bT hB hB6
          clear hB6
          rw [B3.out, H3.out]
          go_wp2_with (go_at_call 34; refine (PhaseOf_any _ _).mono ?_; rintro e w' ⟨rfl, rfl⟩)
          go_ret
          exact ⟨ret_bool B4.out, hB⟩
set_option maxRecDepth 100000 in
set_option maxHeartbeats 2000000 in
theorem law_closeFromVis (A : Option Addr) (n c : Nat) (bs : List Int) (w : World) (h : Rd w w.heap.size 1 A n c (cb bs)) (hx : ∀ x ∈ bs, 0 ≤ x ∧ x ≤ 255) :
    Calls Try.prog 10 #[.slice A n c] w fun e w' => e = .returned (.bool true) ∧ Below w.heap.size w w' := by
  have hm := h.most
  have hcap := h.cap
  have HX := Lib.hid hx
  clear hx
  by_cases hz0 : 1048576 < n
  · have hd0 : decide ((1048576 : Int) < (n : Int)) = true := by simp; omega
    clear hz0
    go_enter Try.func10, Try.ntmps10
    go_wp2
    go_ret
    exact ⟨rfl, b0 _⟩
  have hd0 : decide ((1048576 : Int) < (n : Int)) = false := by simp; omega
  go_enter Try.func10, Try.ntmps10
  go_wp2_with fail
  refine (DrawCloseFrom_any _ _ _ bs _ h HX.out (by omega)).mono ?_
  rintro e w1 ⟨N, A1, m1, c1, B, i, j, k, ⟨n3, n6⟩, rfl, hr, hB⟩
  go_wp2_with fail
  refine (CloseFrom_any _ _ _ N B i j k _ hr).mono ?_
  rintro e w2 ⟨rfl, hB2⟩
  replace hr := hr.after hB2
  replace hB := bT hB hB2
  clear hB2
  go_wp2_with fail
  refine (sCloseFrom_any _ _ _ N B i j k _ hr).mono ?_
  rintro e w3 ⟨rfl, hB3⟩
  replace hr := hr.after hB3
  replace hB := bT hB hB3
  clear hB3
  have ob := cfP_bd N B i j k
  have hv := fun (h : Vm.cfB N B i j k = true) => (show Vm.baseB N B = true ∧ Vm.loopB N (cvL N B) [i, j, k] = true ∧ Vm.loopP N (cvL N B) [i, j, k] = Vm.cfP N B i j k from by
      have hb := ((Vm.cfB_iff _ _ _ _ _).1 h).1
      obtain ⟨M, e, hO⟩ := cf_okB h
      obtain rfl : N = M := by omega
      rw [cvL_yes hb, Vm.cf_loopB hO, Vm.cf_loopP hO]
      exact ⟨hb, h, rfl⟩)
  obtain ⟨o, ho⟩ : ∃ o, Vm.cfP N B i j k = o := ⟨_, rfl⟩
  rw [ho] at ob hv ⊢
  clear ho
  obtain ⟨o1, o2⟩ := ob
  cases hok : Vm.cfB N B i j k
  · clear hv
    go_wp2_with fail
    go_ret
    exact ⟨rfl, hB⟩
  · have HS := Lib.hid (hv hok)
    clear hv hok
    go_wp2_with fail
    refine (CloseVis_any _ _ _ N B _ hr).mono ?_
    rintro e w4 ⟨v4, rfl, ho4, hB4⟩
    rw [HS.out.1]
    obtain ⟨A4, c4, rfl⟩ := own_form ho4
    replace hr := hr.after hB4
    replace hB := bT hB hB4
    clear hB4
    have hr2 := Rd.of_own ho4
    clear ho4
    go_wp2_with fail
    refine (ClosePhase_any _ _ _ N i j k (cvL N B) _ hr2).mono ?_
    rintro e w5 ⟨rfl, hB5⟩
    replace hr := hr.after hB5
    replace hr2 := hr2.after hB5
    replace hB := bT hB hB5
    clear hB5
    rw [HS.out.2.1, HS.out.2.2]
    go_wp2_with fail
    go_ret
    exact ⟨rfl, hB⟩
set_option maxRecDepth 100000 in
set_option maxHeartbeats 2000000 in
theorem law_closeFromFirst (A : Option Addr) (n c : Nat) (bs : List Int) (A' : Option Addr) (n' c' : Nat) (w : World) (h : Rd w w.heap.size 1 A n c (cb bs)) (hx : ∀ x ∈ bs, 0 ≤ x ∧ x ≤ 255) (hn' : n' ≤ 9223372036854775807) :
    Calls Try.prog 8 #[.slice A n c, .slice A' n' c'] w fun e w' => e = .returned (.bool true) ∧ Below w.heap.size w w' := by
  have hm := h.most
  have hcap := h.cap
  have HX := Lib.hid hx
  clear hx
  by_cases hz0 : 1048576 < n
  · have hd0 : decide ((1048576 : Int) < (n : Int)) = true := by simp; omega
    clear hz0
    go_enter Try.func8, Try.ntmps8
    go_wp2
    go_ret
    exact ⟨rfl, b0 _⟩
  have hd0 : decide ((1048576 : Int) < (n : Int)) = false := by simp; omega
  by_cases hz1 : 1048576 < n'
  · have hd1 : decide ((1048576 : Int) < (n' : Int)) = true := by simp; omega
    clear hz0 hz1
    go_enter Try.func8, Try.ntmps8
    go_wp2
    go_ret
    exact ⟨rfl, b0 _⟩
  have hd1 : decide ((1048576 : Int) < (n' : Int)) = false := by simp; omega
  go_enter Try.func8, Try.ntmps8
  go_wp2_with fail
  refine (DrawCloseFrom_any _ _ _ bs _ h HX.out (by omega)).mono ?_
  rintro e w1 ⟨N, A1, m1, c1, B, i, j, k, ⟨n3, n6⟩, rfl, hr, hB⟩
  go_wp2_with fail
  refine (CloseFrom_any _ _ _ N B i j k _ hr).mono ?_
  rintro e w2 ⟨rfl, hB2⟩
  replace hr := hr.after hB2
  replace hB := bT hB hB2
  clear hB2
  go_wp2_with fail
  refine (sCloseFrom_any _ _ _ N B i j k _ hr).mono ?_
  rintro e w3 ⟨rfl, hB3⟩
  replace hr := hr.after hB3
  replace hB := bT hB hB3
  clear hB3
  have ob := cfP_bd N B i j k
  obtain ⟨o, ho⟩ : ∃ o, Vm.cfP N B i j k = o := ⟨_, rfl⟩
  rw [ho] at ob ⊢
  clear ho
  obtain ⟨o1, o2⟩ := ob
  cases hok : Vm.cfB N B i j k
  ·
    go_wp2_with fail
    go_ret
    exact ⟨rfl, hB⟩
  · have hb := ((Vm.cfB_iff _ _ _ _ _).1 hok).1
    obtain ⟨M, e, hO⟩ := cf_okB hok
    obtain rfl : N = M := by omega
    clear e hok hb
    have a1 := Int.emod_nonneg (n' : Int) (show (N : Int) - 2 ≠ 0 by omega)
    have a2 := Int.emod_lt_of_pos (n' : Int) (show (0 : Int) < (N : Int) - 2 by omega)
    have d1 : (0 : Int) ≤ (n' : Int) / (N : Int) := Int.ediv_nonneg (by omega) (by omega)
    have d2 : (n' : Int) / (N : Int) ≤ 9223372036854775807 := Int.le_trans (Int.ediv_le_self _ (by omega)) (by omega)
    obtain ⟨a, ha⟩ := Vm.nat_of (i := 1 + (n' : Int) % ((N : Int) - 2)) (by omega)
    have b1 := Int.emod_nonneg ((n' : Int) / (N : Int)) (show (N : Int) - 1 - (a : Int) ≠ 0 by omega)
    have b2 := Int.emod_lt_of_pos ((n' : Int) / (N : Int)) (show (0 : Int) < (N : Int) - 1 - (a : Int) by omega)
    obtain ⟨b, hb⟩ := Vm.nat_of (i := (a : Int) + 1 + (n' : Int) / (N : Int) % ((N : Int) - 1 - (a : Int))) (by omega)
    have z1 : 0 < a := by omega
    have z2 : a < b := by omega
    have z3 : b < N := by omega
    obtain ⟨f1, f2⟩ := Vm.cf_first hO z1 z2 z3
    obtain ⟨_, _, _, f4⟩ := hO.get z2 z3
    obtain ⟨_, f5⟩ := f4 z1
    have f6 := (bix_eq (n := (N : Int) - 1) (i := (a : Int) - 1) (j := (b : Int) - 1) (by omega) (by omega) (by omega) (by omega)).trans (Vm.bt_base N a b hO.lo hO.hi z1 z2 z3).1
    obtain ⟨q, hq⟩ : ∃ q, Vm.bt N a b - (N - 1) = q := ⟨_, rfl⟩
    rw [hq] at f2 f5 f6
    have e1 : B.getD q 0 = B[q] := by simp [f5]
    rw [e1] at f2
    obtain ⟨y, hy⟩ : ∃ y, B[q] = y := ⟨_, rfl⟩
    rw [hy] at f2
    have hql : q < m1 := by have := hr.len; rw [ci_length] at this; omega
    have F1 := Lib.hid f1
    have F2 := Lib.hid f2
    have F6 := Lib.hid f6
    have HA := Lib.hid ha
    have HB := Lib.hid hb
    have HY := Lib.hid hy
    clear f1 f2 f6 ha hb hy e1 hq f4 hO
    go_wp2_with fail
    rw [HA.out, HB.out, show wrap64 (b : Int) = b from IntWalk.wrap64_in _ (by omega)]
    refine (CloseFrom_any _ _ _ N B 0 a b _ hr).mono ?_
    rintro e w4 ⟨rfl, hB4⟩
    replace hr := hr.after hB4
    replace hB := bT hB hB4
    clear hB4
    rw [F1.out, F2.out]
    obtain ⟨bb, off, eA, hbb, hcell⟩ := hr.int_at f5
    rw [HY.out] at hcell
    subst eA
    go_wp2_with (go_at_call 35; refine (BaseIndex_any _ _ _ _).mono ?_; rintro e w' ⟨rfl, rfl⟩; rw [F6.out])
    go_ret
    exact ⟨rfl, hB⟩

end Go.Proofs.Ytgipjfcmgmbcnaa
