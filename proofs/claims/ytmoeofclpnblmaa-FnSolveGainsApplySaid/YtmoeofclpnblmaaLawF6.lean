/- The law FnSolveGainsApply. Written by lawsF6.py. -/
import Derived.Test.YtmoeofclpnblmaaSampS
import Derived.Test.YtmoeofclpnblmaaDrawE
import Derived.Test.YtmoeofclpnblmaaGainS
import Derived.Test.YtmoeofclpnblmaaSameC
import Derived.Test.YtmoeofclpnblmaaLawC2
namespace Go.Proofs.Ytmoeofclpnblmaa
open Go.RowKit

theorem gap_OK3 {N : Nat} {L G : List (Int × Int)} (h : Vm.gapB N L G = true) : Vm.OkG N L G := by
  obtain ⟨M, e, hO⟩ := Vm.OkG.of h
  obtain rfl : N = M := by omega
  exact hO
set_option maxRecDepth 100000 in
set_option maxHeartbeats 8000000 in
theorem law_solveGainsApply (A : Option Addr) (n c : Nat) (bs : List Int) (w : World) (h : Rd w w.heap.size 1 A n c (cb bs)) (hx : ∀ x ∈ bs, 0 ≤ x ∧ x ≤ 255) :
    Calls Try.prog 4 #[.slice A n c] w fun e w' => e = .returned (.bool true) ∧ Below w.heap.size w w' := by
  have hm := h.most
  have hcap := h.cap
  have HX := Lib.hid hx
  clear hx
  by_cases hz0 : 1048576 < n
  · have hd0 : decide ((1048576 : Int) < (n : Int)) = true := by simp; omega
    clear hz0
    go_enter Try.func4, Try.ntmps4
    go_wp2
    go_ret
    exact ⟨rfl, b0 _⟩
  have hd0 : decide ((1048576 : Int) < (n : Int)) = false := by simp; omega
  go_enter Try.func4, Try.ntmps4
  go_wp2_with fail
  refine (DrawGainApply_any _ _ _ bs _ h HX.out (by omega)).mono ?_
  rintro e w1 ⟨N, A1, m1, c1, L, AG, mg, cg, G, ⟨n2, n7⟩, rfl, hr, hg, hB⟩
  go_wp2_with fail
  refine (GainApply_any _ _ _ _ _ _ N L G _ hr hg).mono ?_
  rintro e w2 ⟨v2, rfl, ho2, hB2⟩
  obtain ⟨A2, c2, rfl⟩ := own_form ho2
  replace hr := hr.after hB2
  replace hg := hg.after hB2
  replace hB := bT hB hB2
  clear hB2
  have hx := Rd.of_own ho2
  clear ho2
  go_wp2_with fail
  refine (sGainApply_any _ _ _ _ _ _ N L G _ hr hg).mono ?_
  rintro e w3 ⟨v3, rfl, ho3, hB3⟩
  obtain ⟨A3, c3, rfl⟩ := own_form ho3
  replace hr := hr.after hB3
  replace hg := hg.after hB3
  replace hx := hx.after hB3
  replace hB := bT hB hB3
  clear hB3
  have hy := Rd.of_own ho3
  clear ho3
  cases hok : Vm.gapB N L G
  ·
    go_wp2_with fail
    with_reducible refine (sameVis_self _ _ _ _ _ _ _ _ hx hy).mono ?_
    rintro e w4 ⟨rfl, hB4⟩
    replace hr := hr.after hB4
    replace hg := hg.after hB4
    replace hx := hx.after hB4
    replace hy := hy.after hB4
    replace hB := bT hB hB4
    clear hB4
    go_wp2_with fail
    with_reducible refine (sameVis_self _ _ _ _ _ _ _ _ hx hy).mono ?_
    rintro e w5 ⟨rfl, hB5⟩
    replace hr := hr.after hB5
    replace hg := hg.after hB5
    replace hx := hx.after hB5
    replace hy := hy.after hB5
    replace hB := bT hB hB5
    clear hB5
    go_wp2_with fail
    go_ret
    exact ⟨rfl, hB⟩
  · have hO := gap_OK3 hok
    have HO := Lib.hid hO
    have HS := Lib.hid (Vm.turn_solv hO)
    have hl : G.length = N := by have := ((Vm.gainB_iff _ _).1 hO.gain).2.1; omega
    have HL := Lib.hid hl
    have mg : mg = N := by have := hg.len; rw [cp_length] at this; omega
    subst mg
    have hgc := hg.cap
    have hgm := hg.most
    have G1 := Lib.hid hO.gain
    have rg := Vm.gat_rng hO.gain (i := 0) (by omega)
    have e0 : Vm.gat G 0 = G[0]'(by omega) := by simp [Vm.gat, show 0 < G.length by omega]
    rw [e0] at HS rg
    obtain ⟨q, hq⟩ : ∃ q, G[0]'(by omega) = q := ⟨_, rfl⟩
    rw [hq] at HS rg
    have HQ := Lib.hid hq
    clear e0 hq hok hO
    obtain ⟨-, r1, r2⟩ := rg
    rw [Int.zero_sub] at HS
    obtain ⟨z, hz⟩ : ∃ z, (-q.2) % 360 = z := ⟨_, rfl⟩
    have z1 : 0 ≤ z ∧ z < 360 := by omega
    obtain ⟨z1, z2⟩ := z1
    rw [hz] at HS
    have HZ := Lib.hid hz
    clear hz
    go_wp2_with fail
    with_reducible refine (sameVis_self _ _ _ _ _ _ _ _ hx hy).mono ?_
    rintro e w4 ⟨rfl, hB4⟩
    replace hr := hr.after hB4
    replace hg := hg.after hB4
    replace hx := hx.after hB4
    replace hy := hy.after hB4
    replace hB := bT hB hB4
    clear hB4
    go_wp2_with fail
    refine (SolveGains_ok _ _ _ _ _ _ mg L G _ hx hr HO.out).mono ?_
    rintro e wa (⟨n3, rfl, hBa⟩ | ⟨n3, va, rfl, hown, hBa⟩)
    ·
      replace hg := hg.after hBa
      replace hB := bT hB hBa
      clear hBa
      obtain ⟨b, off, rfl, hb, -, hc⟩ := hg.pair_at (k := 0) (by rw [HL.out]; omega)
      rw [HQ.out, Nat.zero_mul, Nat.add_zero] at hc
      have hwr : IntKind.i64.wrap (0 - q.2) = 0 - q.2 := IntWalk.i64_in _ (by omega)
      have hn0 : (0 : Int) < (mg : Int) := by omega
      go_wp2_with fail
      refine (PhaseOf_any _ _).mono ?_
      rintro e w' ⟨rfl, rfl⟩
      rw [HZ.out]
      clear hc hwr
      go_wp2_with fail
      refine (GainTurn_ok _ _ _ mg G z _ hg G1.out z1 z2).mono ?_
      rintro e wb ⟨vb, rfl, hownb, hBb⟩
      obtain ⟨Ab, cb, rfl⟩ := own_form hownb
      replace hB := bT hB hBb
      clear hBb hownb hg
      have hd : decide ((mg : Int) < 3) = true := by simp; omega
      go_wp2_with fail
      go_ret
      exact ⟨rfl, hB⟩
    ·
      obtain ⟨Aa, ca, rfl⟩ := own_form hown
      have hs := Rd.of_own hown
      clear hown
      replace hg := hg.after hBa
      replace hB := bT hB hBa
      clear hBa
      obtain ⟨b, off, rfl, hb, -, hc⟩ := hg.pair_at (k := 0) (by rw [HL.out]; omega)
      rw [HQ.out, Nat.zero_mul, Nat.add_zero] at hc
      have hwr : IntKind.i64.wrap (0 - q.2) = 0 - q.2 := IntWalk.i64_in _ (by omega)
      have hn0 : (0 : Int) < (mg : Int) := by omega
      go_wp2_with fail
      refine (PhaseOf_any _ _).mono ?_
      rintro e w' ⟨rfl, rfl⟩
      rw [HZ.out]
      clear hc hwr
      go_wp2_with fail
      refine (GainTurn_ok _ _ _ mg G z _ hg G1.out z1 z2).mono ?_
      rintro e wb ⟨vb, rfl, hownb, hBb⟩
      obtain ⟨Ab, cb, rfl⟩ := own_form hownb
      rw [HS.out] at hownb
      have ht := Rd.of_own hownb
      replace hs := hs.after hBb
      replace hB := bT hB hBb
      clear hBb hownb hg
      have hd : decide ((mg : Int) < 3) = false := by simp; omega
      clear hx hy hr
      go_wp2_with fail
      with_reducible refine (sameVis_self _ _ _ _ _ _ _ _ hs ht).mono ?_
      rintro e w51 ⟨rfl, hB51⟩
      replace hB := bT hB hB51
      clear hB51
      go_wp2_with fail
      go_ret
      exact ⟨rfl, hB⟩

end Go.Proofs.Ytmoeofclpnblmaa
