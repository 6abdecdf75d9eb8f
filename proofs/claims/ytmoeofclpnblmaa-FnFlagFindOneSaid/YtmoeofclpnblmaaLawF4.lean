/- The law FnSolveApply. Written by lawsF4.py. -/
import Derived.Test.YtmoeofclpnblmaaLawF2
import Derived.Test.YtmoeofclpnblmaaLawC2
namespace Go.Proofs.Ytmoeofclpnblmaa
open Go.RowKit

theorem gap_OK2 {N : Nat} {L G : List (Int × Int)} (h : Vm.gapB N L G = true) : Vm.OkG N L G := by
  obtain ⟨M, e, hO⟩ := Vm.OkG.of h
  obtain rfl : N = M := by omega
  exact hO
set_option maxRecDepth 100000 in
set_option maxHeartbeats 8000000 in
theorem law_solveApply (A : Option Addr) (n c : Nat) (bs : List Int) (w : World) (h : Rd w w.heap.size 1 A n c (cb bs)) (hx : ∀ x ∈ bs, 0 ≤ x ∧ x ≤ 255) :
    Calls Try.prog 7 #[.slice A n c] w fun e w' => e = .returned (.bool true) ∧ Below w.heap.size w w' := by
  have hm := h.most
  have hcap := h.cap
  have HX := Lib.hid hx
  clear hx
  by_cases hz0 : 1048576 < n
  · have hd0 : decide ((1048576 : Int) < (n : Int)) = true := by simp; omega
    clear hz0
    go_enter Try.func7, Try.ntmps7
    go_wp2
    go_ret
    exact ⟨rfl, b0 _⟩
  have hd0 : decide ((1048576 : Int) < (n : Int)) = false := by simp; omega
  go_enter Try.func7, Try.ntmps7
  go_wp2_with fail
  refine (DrawGainApply_any _ _ _ bs _ h HX.out (by omega)).mono ?_
  rintro e w1 ⟨N, A1, m1, c1, L, AG, mg, cg, G, ⟨n2, n7⟩, rfl, hr, hg, hB⟩
  go_wp2_with fail
  refine (GainApply_any _ _ _ _ _ _ N L G _ hr hg).mono ?_
  rintro e w2 ⟨v2, rfl, ho2, hB2⟩
  obtain ⟨A2, c2, rfl⟩ := own_form ho2
  replace hr := hr.after hB2
  replace hg := hg.after hB2
  replace hB := bT hB hB2
  clear hB2
  have hx := Rd.of_own ho2
  clear ho2
  go_wp2_with fail
  refine (sGainApply_any _ _ _ _ _ _ N L G _ hr hg).mono ?_
  rintro e w3 ⟨v3, rfl, ho3, hB3⟩
  obtain ⟨A3, c3, rfl⟩ := own_form ho3
  replace hr := hr.after hB3
  replace hg := hg.after hB3
  replace hx := hx.after hB3
  replace hB := bT hB hB3
  clear hB3
  have hy := Rd.of_own ho3
  clear ho3
  cases hok : Vm.gapB N L G
  ·
    go_wp2_with fail
    with_reducible refine (sameVis_self _ _ _ _ _ _ _ _ hx hy).mono ?_
    rintro e w4 ⟨rfl, hB4⟩
    replace hr := hr.after hB4
    replace hg := hg.after hB4
    replace hx := hx.after hB4
    replace hy := hy.after hB4
    replace hB := bT hB hB4
    clear hB4
    go_wp2_with fail
    with_reducible refine (sameVis_self _ _ _ _ _ _ _ _ hx hy).mono ?_
    rintro e w5 ⟨rfl, hB5⟩
    replace hr := hr.after hB5
    replace hg := hg.after hB5
    replace hx := hx.after hB5
    replace hy := hy.after hB5
    replace hB := bT hB hB5
    clear hB5
    go_wp2_with fail
    go_ret
    exact ⟨rfl, hB⟩
  · have hO := gap_OK2 hok
    have hG := ((Vm.gainB_iff _ _).1 hO.gain).2.1
    have HG := Lib.hid hO.gain
    have hbm := Vm.bmany_nat N ((Vm.manyB_iff _).2 (by omega))
    have HO := Lib.hid hO
    obtain ⟨X, hX⟩ : ∃ X, Vm.gapL N L G = X := ⟨_, rfl⟩
    rw [hX] at hx hy ⊢
    have HXX := Lib.hid hX
    have HBM := Lib.hid hbm
    clear hX hbm hok hO
    go_wp2_with fail
    with_reducible refine (sameVis_self _ _ _ _ _ _ _ _ hx hy).mono ?_
    rintro e w4 ⟨rfl, hB4⟩
    replace hr := hr.after hB4
    replace hg := hg.after hB4
    replace hx := hx.after hB4
    replace hy := hy.after hB4
    replace hB := bT hB hB4
    clear hB4
    go_wp2_with fail
    refine (SolvePhases_any _ _ _ _ _ _ N X L _ hx hr).mono ?_
    rintro e w5 ⟨v5, ok, P, rfl, hres, ho5, hB5⟩
    rw [HBM.out, Int.toNat_natCast, ← HXX.out] at hres
    obtain ⟨e0, hPl, hPv⟩ := HO.out.solve hres
    subst e0
    clear hres
    have HPl := Lib.hid hPl
    have HPv := Lib.hid hPv
    clear hPl hPv
    obtain ⟨A5, c5, rfl⟩ := own_form ho5
    replace hr := hr.after hB5
    replace hg := hg.after hB5
    replace hx := hx.after hB5
    replace hy := hy.after hB5
    replace hB := bT hB hB5
    clear hB5
    have hp := Rd.of_own ho5
    clear ho5
    go_wp2_with fail
    go_loopw [12] (fun v wr => ∃ i : Nat, i ≤ N ∧ v = .int .i64 i ∧ Below w5.heap.size w5 wr) (fun v _ => N - (intOf v).toNat)
    case atStart => exact ⟨0, by omega, rfl, b0 _⟩
    case round =>
      obtain ⟨i, hi, rfl, hW⟩ := hrel
      have hp2 := hp.after hW
      have hg2 := hg.after hW
      have hB2 := bT hB hW
      clear hr hg hx hy hp hB
      by_cases hiN : i < N
      · have hPi : i < P.length := by rw [HPl.out]; exact hiN
        have hGi : i < G.length := by omega
        have hG0 : 0 < G.length := by omega
        have hcp := hp2.cap
        have hmp := hp2.most
        have hcg := hg2.cap
        have hmg := hg2.most
        have hml := hg2.len
        rw [cp_length] at hml
        obtain rfl : mg = N := by omega
        obtain ⟨b1, o1, eA, _, cP⟩ := hp2.int_at hPi
        obtain ⟨b2, o2, eB, _, _, cG⟩ := hg2.pair_at hGi
        obtain ⟨b3, o3, eC, _, _, cH⟩ := hg2.pair_at hG0
        rw [eB] at eC
        injection eC with eC
        injection eC with e1 e2
        subst e1 e2
        subst eA eB
        have rg := Vm.gat_rng HG.out (i := (i : Int)) (by omega)
        have r0 := Vm.gat_rng HG.out (i := 0) (by omega)
        have ei : Vm.gat G (i : Int) = G[i] := by simp [Vm.gat, hGi]
        have e0 : Vm.gat G 0 = G[0] := by simp [Vm.gat, hG0]
        have eP : P[i] = (G[i].2 - G[0].2) % 360 := by have := HPv.out i hiN; rw [ei, e0] at this; rw [← this]; simp [hPi]
        rw [ei] at rg
        rw [e0] at r0
        obtain ⟨p, hp⟩ : ∃ p, G[i] = p := ⟨_, rfl⟩
        obtain ⟨q, hq⟩ : ∃ p, G[0] = p := ⟨_, rfl⟩
        rw [hp, hq] at eP
        rw [eP] at cP
        rw [hp] at cG rg
        rw [hq] at cH r0
        obtain ⟨_, p1, p2⟩ := rg
        obtain ⟨_, q1, q2⟩ := r0
        obtain ⟨x, hx⟩ : ∃ x, (p.2 - q.2) % 360 = x := ⟨_, rfl⟩
        rw [hx] at cP
        have HXX2 := Lib.hid hx
        have hpl0 : ((P.length : Int) != (mg : Int)) = false := by simp [HPl.out]
        have hw : IntKind.i64.wrap (p.2 - q.2) = p.2 - q.2 := IntWalk.i64_in _ (by omega)
        have hxx : (x != x) = false := by simp
        rw [Nat.zero_mul, Nat.add_zero] at cH
        clear hx hp hq eP ei e0 hG hml hp2 hg2
        have hPi2 : (i : Int) < (P.length : Int) := by omega
        go_wp2_with fail
        go_quiet ((go_at_call 24; exact Calls.quiet_of_same ((PhaseOf_any _ _).mono (fun _ _ ⟨h1, h2⟩ => ⟨by rw [h1, HXX2.out], h2.symm⟩))))
        clear cP cG cH
        go_wp2_with fail
        go_roundw
        case rel => exact ⟨i + 1, by omega, by go_num, bT hW (bD (b0 _) _)⟩
        case measure => simp [intOf]; omega
      · have hie : i = N := by omega
        subst hie
        go_wp2_with fail
        go_ret
        exact ⟨rfl, hB2⟩

end Go.Proofs.Ytmoeofclpnblmaa
