/- The laws on closure phases of three antennas: FnClosePhase, FnCloseFour, FnCloseLoop. -/
import Derived.Test.YthfljdamahmkaaaDrawC
namespace Go.Proofs.Ythfljdamahmkaaa
open Go.RowKit

theorem loopP_bd (n : Int) (L : List (Int × Int)) (l : List Int) : 0 ≤ Vm.loopP n L l ∧ Vm.loopP n L l < 360 := by
  unfold Vm.loopP
  split <;> omega
theorem getD_at (l : List Int) (k : Nat) (h : k < l.length) : l.getD k 0 = l[k] := by simp [h]
set_option maxRecDepth 100000 in
set_option maxHeartbeats 2000000 in
theorem law_closePhase (A : Option Addr) (n c : Nat) (bs : List Int) (w : World) (h : Rd w w.heap.size 1 A n c (cb bs)) (hx : ∀ x ∈ bs, 0 ≤ x ∧ x ≤ 255) :
    Calls Try.prog 12 #[.slice A n c] w fun e w' => e = .returned (.bool true) ∧ Below w.heap.size w w' := by
  have hm := h.most
  have hcap := h.cap
  have HX := Lib.hid hx
  clear hx
  by_cases hn : 1048576 < n
  · have hd : decide ((1048576 : Int) < (n : Int)) = true := by simp; omega
    go_enter Try.func12, Try.ntmps12
    go_wp2
    go_ret
    exact ⟨rfl, b0 _⟩
  have hd : decide ((1048576 : Int) < (n : Int)) = false := by simp; omega
  go_enter Try.func12, Try.ntmps12
  go_wp2_with fail
  refine (DrawClosePhase_any _ _ _ bs _ h HX.out (by omega)).mono ?_
  rintro e w1 ⟨N, A1, m1, c1, L, i, j, k, rfl, hr, hB1⟩
  go_wp2_with fail
  refine (ClosePhase_any _ _ _ N i j k L _ hr).mono ?_
  rintro e w2 ⟨rfl, hB2⟩
  go_wp2_with fail
  refine (sClosePhase_any _ _ _ N i j k L _ (hr.after hB2)).mono ?_
  rintro e w3 ⟨rfl, hB3⟩
  have hr3 := (hr.after hB2).after hB3
  have hB := bT (bT hB1 hB2) hB3
  clear hr hB1 hB2 hB3
  have ob := loopP_bd N L [i, j, k]
  have hsix := @Vm.six N L i j k
  obtain ⟨o, ho⟩ : ∃ o, Vm.loopP N L [i, j, k] = o := ⟨_, rfl⟩
  rw [ho] at ob hsix ⊢
  clear ho
  obtain ⟨o1, o2⟩ := ob
  cases hok : Vm.loopB N L [i, j, k]
  · clear hsix
    go_wp2_with fail
    go_ret
    exact ⟨rfl, hB⟩
  · have HS := Lib.hid (hsix hok)
    clear hsix hok
    go_wp2_with fail
    refine (ClosePhase_any _ _ _ N j k i L _ hr3).mono ?_
    rintro e w4 ⟨rfl, hB4⟩
    rw [HS.out.1, HS.out.2.2.1]
    go_wp2_with fail
    refine (ClosePhase_any _ _ _ N j i k L _ (hr3.after hB4)).mono ?_
    rintro e w5 ⟨rfl, hB5⟩
    rw [HS.out.2.1, HS.out.2.2.2]
    go_wp2_with (go_at_call 39; refine (PhaseOf_any _ _).mono ?_; rintro e w' ⟨rfl, rfl⟩)
    go_ret
    exact ⟨rfl, bT (bT hB hB4) hB5⟩
theorem pig {i j k : Int} {q : Nat} (h : ∀ r : Nat, r < q → (r : Int) = i ∨ (r : Int) = j ∨ (r : Int) = k) : q ≤ 3 := by
  apply Classical.byContradiction
  intro hq
  have h0 := h 0 (by omega)
  have h1 := h 1 (by omega)
  have h2 := h 2 (by omega)
  have h3 := h 3 (by omega)
  omega
theorem pig_next {i j k : Int} {q : Nat} (h : ∀ r : Nat, r < q → (r : Int) = i ∨ (r : Int) = j ∨ (r : Int) = k) (hq : (q : Int) = i ∨ (q : Int) = j ∨ (q : Int) = k) : ∀ r : Nat, r < q + 1 → (r : Int) = i ∨ (r : Int) = j ∨ (r : Int) = k := by
  intro r hr
  by_cases e : r = q
  · subst e; exact hq
  · exact h r (by omega)
set_option maxRecDepth 100000 in
set_option maxHeartbeats 4000000 in
theorem law_closeFour (A : Option Addr) (n c : Nat) (bs : List Int) (w : World) (h : Rd w w.heap.size 1 A n c (cb bs)) (hx : ∀ x ∈ bs, 0 ≤ x ∧ x ≤ 255) :
    Calls Try.prog 11 #[.slice A n c] w fun e w' => e = .returned (.bool true) ∧ Below w.heap.size w w' := by
  have hm := h.most
  have hcap := h.cap
  have HX := Lib.hid hx
  clear hx
  by_cases hn : 1048576 < n
  · have hd : decide ((1048576 : Int) < (n : Int)) = true := by simp; omega
    go_enter Try.func11, Try.ntmps11
    go_wp2
    go_ret
    exact ⟨rfl, b0 _⟩
  have hd : decide ((1048576 : Int) < (n : Int)) = false := by simp; omega
  go_enter Try.func11, Try.ntmps11
  go_wp2_with fail
  refine (DrawClosePhase_any _ _ _ bs _ h HX.out (by omega)).mono ?_
  rintro e w1 ⟨N, A1, m1, c1, L, i, j, k, rfl, hr, hB1⟩
  go_wp2_with fail
  refine (ClosePhase_any _ _ _ N i j k L _ hr).mono ?_
  rintro e w2 ⟨rfl, hB2⟩
  go_wp2_with fail
  refine (sClosePhase_any _ _ _ N i j k L _ (hr.after hB2)).mono ?_
  rintro e w3 ⟨rfl, hB3⟩
  have hr3 := (hr.after hB2).after hB3
  have hB := bT (bT hB1 hB2) hB3
  clear hr hB1 hB2 hB3
  have ob := loopP_bd N L [i, j, k]
  have hfour := fun l => @Vm.four N L i j k l
  obtain ⟨o, ho⟩ : ∃ o, Vm.loopP N L [i, j, k] = o := ⟨_, rfl⟩
  rw [ho] at ob ⊢
  obtain ⟨o1, o2⟩ := ob
  cases hok : Vm.loopB N L [i, j, k]
  · clear hfour ho
    go_wp2_with fail
    go_ret
    exact ⟨rfl, hB⟩
  · have HO := Lib.hid ho
    have HS := Lib.hid (fun l => hfour l hok)
    clear hfour hok ho
    go_wp2_with fail
    go_loop [12] (fun v => ∃ q : Nat, v = .int .i64 q ∧ Hid (∀ r : Nat, r < q → (r : Int) = i ∨ (r : Int) = j ∨ (r : Int) = k)) (fun v => 3 - (intOf v).toNat)
    case atStart => exact ⟨0, rfl, fun r hr => by omega⟩
    case round =>
      obtain ⟨q, rfl, hq⟩ := hrel
      have q3 := pig hq.out
      by_cases hin : (q : Int) = i ∨ (q : Int) = j ∨ (q : Int) = k
      · have H := Lib.hid (pig_next hq.out hin)
        have q4 := pig H.out
        have hin2 : ((q : Int) == i) = true ∨ (((q : Int) == i) = false ∧ ((q : Int) == j) = true) ∨ (((q : Int) == i) = false ∧ ((q : Int) == j) = false ∧ ((q : Int) == k) = true) := by
          simp only [beq_iff_eq, beq_eq_false_iff_ne]; omega
        clear hin
        rcases hin2 with h1 | ⟨h1, h2⟩ | ⟨h1, h2, h3⟩
        all_goals
          go_wp2_with fail
          go_round
          case rel => exact ⟨q + 1, by go_num, H⟩
          case measure => simp [intOf]; omega
      · have h1 : ((q : Int) == i) = false := by simp only [beq_eq_false_iff_ne]; omega
        have h2 : ((q : Int) == j) = false := by simp only [beq_eq_false_iff_ne]; omega
        have h3 : ((q : Int) == k) = false := by simp only [beq_eq_false_iff_ne]; omega
        have HI := Lib.hid hin
        clear hin
        have p1 := loopP_bd N L [i, k, q]
        have p2 := loopP_bd N L [i, j, q]
        have p3 := loopP_bd N L [j, k, q]
        obtain ⟨x1, hx1⟩ : ∃ o, Vm.loopP N L [i, k, q] = o := ⟨_, rfl⟩
        obtain ⟨x2, hx2⟩ : ∃ o, Vm.loopP N L [i, j, q] = o := ⟨_, rfl⟩
        obtain ⟨x3, hx3⟩ : ∃ o, Vm.loopP N L [j, k, q] = o := ⟨_, rfl⟩
        rw [hx1] at p1
        rw [hx2] at p2
        rw [hx3] at p3
        obtain ⟨p11, p12⟩ := p1
        obtain ⟨p21, p22⟩ := p2
        obtain ⟨p31, p32⟩ := p3
        have H1 := Lib.hid hx1
        have H2 := Lib.hid hx2
        have H3 := Lib.hid hx3
        clear hx1 hx2 hx3
        by_cases hql : (N : Int) ≤ q
        · have B1 := Lib.hid (Vm.four_no (L := L) (i := i) (j := k) hql)
          have B2 := Lib.hid (Vm.four_no (L := L) (i := i) (j := j) hql)
          have B3 := Lib.hid (Vm.four_no (L := L) (i := j) (j := k) hql)
          have hqn : N ≤ q := by omega
          go_wp2_with fail
          refine (ClosePhase_any _ _ _ N i k q L _ hr3).mono ?_
          rintro e w4 ⟨rfl, hB4⟩
          rw [B1.out]
          go_wp2_with fail
          refine (ClosePhase_any _ _ _ N i j q L _ (hr3.after hB4)).mono ?_
          rintro e w5 ⟨rfl, hB5⟩
          rw [B2.out]
          go_wp2_with fail
          refine (ClosePhase_any _ _ _ N j k q L _ ((hr3.after hB4).after hB5)).mono ?_
          rintro e w6 ⟨rfl, hB6⟩
          rw [B3.out]
          go_wp2_with fail
          go_ret
          exact ⟨rfl, bT (bT (bT hB hB4) hB5) hB6⟩
        · have hqn : q < N := by omega
          obtain ⟨g1, g2, g3, g4⟩ := HS.out q (by have := HI.out; omega) (by omega) (by omega)
          have B1 := Lib.hid g1
          have B2 := Lib.hid g2
          have B3 := Lib.hid g3
          have B4 := Lib.hid (show ((o + x1) % 360 == (x2 + x3) % 360) = true by rw [beq_iff_eq, ← HO.out, ← H1.out, ← H2.out, ← H3.out]; exact g4)
          clear g1 g2 g3 g4
          go_wp2_with fail
          refine (ClosePhase_any _ _ _ N i k q L _ hr3).mono ?_
          rintro e w4 ⟨rfl, hB4⟩
          rw [B1.out, H1.out]
          go_wp2_with fail
          refine (ClosePhase_any _ _ _ N i j q L _ (hr3.after hB4)).mono ?_
          rintro e w5 ⟨rfl, hB5⟩
          rw [B2.out, H2.out]
          go_wp2_with fail
          refine (ClosePhase_any _ _ _ N j k q L _ ((hr3.after hB4).after hB5)).mono ?_
          rintro e w6 ⟨rfl, hB6⟩
          rw [B3.out, H3.out]
          go_wp2_with (go_at_call 39; refine (PhaseOf_any _ _).mono ?_; rintro e w' ⟨rfl, rfl⟩)
          go_ret
          exact ⟨ret_bool B4.out, bT (bT (bT hB hB4) hB5) hB6⟩
def triS (n : Int) (L : List (Int × Int)) (l : List Int) (q : Nat) : Int := Vm.sumN q fun k => Vm.loopP n L [l.getD 0 0, l.getD (k + 1) 0, l.getD (k + 2) 0]
theorem tri_bd2 (n : Int) (L : List (Int × Int)) (l : List Int) (q : Nat) : 0 ≤ triS n L l q ∧ triS n L l q ≤ q * 359 :=
  Vm.sumN_bd q _ 359 fun k _ => by have := loopP_bd n L [l.getD 0 0, l.getD (k + 1) 0, l.getD (k + 2) 0]; omega
set_option maxRecDepth 100000 in
set_option maxHeartbeats 4000000 in
theorem law_closeLoop (A : Option Addr) (n c : Nat) (bs : List Int) (w : World) (h : Rd w w.heap.size 1 A n c (cb bs)) (hx : ∀ x ∈ bs, 0 ≤ x ∧ x ≤ 255) :
    Calls Try.prog 13 #[.slice A n c] w fun e w' => e = .returned (.bool true) ∧ Below w.heap.size w w' := by
  have hm := h.most
  have hcap := h.cap
  have HX := Lib.hid hx
  clear hx
  by_cases hn : 1048576 < n
  · have hd : decide ((1048576 : Int) < (n : Int)) = true := by simp; omega
    go_enter Try.func13, Try.ntmps13
    go_wp2
    go_ret
    exact ⟨rfl, b0 _⟩
  have hd : decide ((1048576 : Int) < (n : Int)) = false := by simp; omega
  go_enter Try.func13, Try.ntmps13
  go_wp2_with fail
  refine (DrawCloseLoop_any _ _ _ bs _ h HX.out (by omega)).mono ?_
  rintro e w1 ⟨N, A1, m1, c1, L, A2, m2, c2, l, rfl, hr, hr', hB1⟩
  have hl := hr'.len
  rw [ci_length, Nat.mul_one] at hl
  subst hl
  go_wp2_with fail
  refine (CloseLoop_any _ _ _ _ _ _ N L l _ hr hr').mono ?_
  rintro e w2 ⟨rfl, hB2⟩
  go_wp2_with fail
  refine (sCloseLoop_any _ _ _ _ _ _ N L l _ (hr.after hB2) (hr'.after hB2)).mono ?_
  rintro e w3 ⟨rfl, hB3⟩
  have hr3 := (hr.after hB2).after hB3
  have hr3' := (hr'.after hB2).after hB3
  have hB := bT (bT hB1 hB2) hB3
  clear hr hr' hB1 hB2 hB3
  have htri := @Vm.tri N L l
  have htok := @Vm.tri_ok N L l
  have hlen := @Vm.loop_len N L l
  obtain ⟨o, ho⟩ : ∃ o, Vm.loopP N L l = o := ⟨_, rfl⟩
  rw [ho] at htri ⊢
  clear ho
  cases hok : Vm.loopB N L l
  · clear htri htok hlen
    go_wp2_with fail
    go_ret
    exact ⟨rfl, hB⟩
  · have HT := Lib.hid (htri hok)
    have HK := Lib.hid (htok hok)
    obtain ⟨l3, l7⟩ := hlen hok
    clear htri htok hlen hok
    have hmost := hr3'.most
    have hcap' := hr3'.cap
    go_wp2_with fail
    go_loopw [10, 11] (fun s v wr => ∃ q : Nat, q + 2 ≤ l.length ∧ v = .int .i64 ((q : Int) + 1) ∧ s = .int .i64 (triS N L l q) ∧ Below w3.heap.size w3 wr) (fun _ v _ => l.length - (intOf v).toNat)
    case atStart => exact ⟨0, by omega, rfl, rfl, b0 _⟩
    case round =>
      obtain ⟨q, hq, rfl, rfl, hBr⟩ := hrel
      have sb := tri_bd2 N L l q
      have HQ := Lib.hid (show triS N L l (q + 1) = (triS N L l q) + Vm.loopP N L [l.getD 0 0, l.getD (q + 1) 0, l.getD (q + 2) 0] from rfl)
      have HE := Lib.hid (show q + 2 = l.length → (triS N L l q) % 360 = o from fun e => by rw [← HT.out, ← e]; rfl)
      obtain ⟨s, hs⟩ : ∃ s, (triS N L l q) = s := ⟨_, rfl⟩
      rw [hs] at sb HQ HE ⊢
      clear hs
      obtain ⟨sb1, sb2⟩ := sb
      have sb3 : (q : Int) * 359 ≤ 3000 := by omega
      by_cases hlt : q + 2 < l.length
      · obtain ⟨b, off, rfl, hb, hc0⟩ := (hr3'.below hBr).int_at (k := 0) (by omega)
        obtain ⟨b2, off2, e2, hb2, hc1⟩ := (hr3'.below hBr).int_at (k := q + 1) (by omega)
        injection e2 with e2
        injection e2 with e2 e3
        subst e2 e3
        obtain ⟨b2, off2, e2, hb2', hc2⟩ := (hr3'.below hBr).int_at (k := q + 2) (by omega)
        injection e2 with e2
        injection e2 with e2 e3
        subst e2 e3
        have hk := HK.out (q + 1) (by omega) (by omega)
        have g0 : l.getD 0 0 = l[0] := getD_at l 0 _
        have g1 : l.getD (q + 1) 0 = l[q + 1] := getD_at l _ _
        have g2 : l.getD (q + 2) 0 = l[q + 2] := getD_at l _ _
        rw [show q + 1 + 1 = q + 2 from rfl] at hk
        rw [g0, g1, g2] at hk
        rw [g0, g1, g2] at HQ
        clear g0 g1 g2
        obtain ⟨x0, hx0⟩ : ∃ x, l[0] = x := ⟨_, rfl⟩
        obtain ⟨x1, hx1⟩ : ∃ x, l[q + 1] = x := ⟨_, rfl⟩
        obtain ⟨x2, hx2⟩ : ∃ x, l[q + 2] = x := ⟨_, rfl⟩
        rw [hx0, hx1, hx2] at hk HQ
        rw [hx0, Nat.add_zero] at hc0
        rw [hx1] at hc1
        rw [hx2] at hc2
        clear hx0 hx1 hx2
        have pb := loopP_bd N L [x0, x1, x2]
        obtain ⟨p, hp⟩ : ∃ p, Vm.loopP N L [x0, x1, x2] = p := ⟨_, rfl⟩
        rw [hp] at pb HQ
        have HP := Lib.hid hp
        have HKK := Lib.hid hk
        clear hp hk
        obtain ⟨pb1, pb2⟩ := pb
        have hz0 : 0 < l.length := by omega
        have hi0 : (0 : Int) < (l.length : Int) := by omega
        have hi1 : (q : Int) + 1 < (l.length : Int) := by omega
        have hi2 : (q : Int) + 2 < (l.length : Int) := by omega
        have hi3 : (0 : Int) ≤ (q : Int) + 1 := by omega
        have hi4 : (0 : Int) ≤ (q : Int) + 2 := by omega
        have hn1 : ((q : Int) + 1).toNat = q + 1 := by omega
        have hn2 : ((q : Int) + 2).toNat = q + 2 := by omega
        have hw1 : IntKind.i64.wrap ((q : Int) + 1 + 1) = (q : Int) + 2 := by rw [IntWalk.i64_in _ (by omega)]; omega
        go_wp2_with fail
        go_region_with ((go_at_call 25; refine (ClosePhase_any _ _ _ N x0 x1 x2 L _ ((hr3.after hBr).after (Below.drew (b0 _)))).mono ?_; rintro e w4 ⟨rfl, hB4⟩; rw [HP.out, HKK.out]))
        all_goals
          clear hn1 hn2 hw1
          go_wp2_with fail
          go_roundw
          case rel => exact ⟨q + 1, by omega, by go_num, by rw [HQ.out], bT (Below.drew hBr) hB4⟩
          case measure => simp [intOf]; omega
      · have H := Lib.hid (HE.out (by omega))
        go_wp2_with (go_at_call 39; refine (PhaseOf_any _ _).mono ?_; rintro e w' ⟨rfl, rfl⟩; rw [H.out])
        go_ret
        exact ⟨rfl, bT hB hBr⟩

end Go.Proofs.Ythfljdamahmkaaa
