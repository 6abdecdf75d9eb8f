/- Contracts: closure amplitudes of the program; lists with the same closures. -/
import Derived.Test.YtcolajhjjnkpmaaVisB
import Derived.Test.YtcolajhjjnkpmaaAmpM
import Derived.BigQuiet
namespace Go.Proofs.Ytcolajhjjnkpmaa
open Go.RowKit

theorem drewN_below (w : World) (n : Nat) : Below w.heap.size w (w.drewN n) := bD (b0 _) _
theorem gcd_nat (x y : Nat) : Vm.gcdI x y = (Nat.gcd x y : Nat) := by simp [Vm.gcdI]
def gcdRel (x y : Nat) (w : World) (a b : Value) (wr : World) : Prop := ∃ p q : Nat, a = .int .i64 p ∧ b = .int .i64 q ∧ p ≤ 4000000000000 ∧ q ≤ 4000000000000 ∧ Hid (Nat.gcd p q = Nat.gcd x y) ∧ ∃ nq, wr = w.drewN nq
def GcdPost (x y : Nat) (w : World) (e : Ending) (w' : World) : Prop := e = .returned (.int .i64 ((Nat.gcd x y : Nat) : Int)) ∧ ∃ nq, w' = w.drewN nq
set_option maxHeartbeats 1000000 in
theorem gcd_any (x y : Nat) (w : World) (h1 : x ≤ 4000000000000) (h2 : y ≤ 4000000000000) : Calls Try.prog 55 #[.int .i64 x, .int .i64 y] w (GcdPost x y w) := by
  go_enter Try.func55, Try.ntmps55
  go_wp2
  go_loopw [0, 1] (fun a b wr => gcdRel x y w a b wr) (fun _ b _ => (intOf b).toNat)
  case atStart => exact ⟨x, y, rfl, rfl, h1, h2, rfl, 0, rfl⟩
  case round =>
    obtain ⟨p, q, rfl, rfl, hp, hq, hg, nq, rfl⟩ := hrel
    by_cases hq0 : q = 0
    · have H : GcdPost x y w (.returned (.int .i64 p)) (w.drewN nq) := by
        have e := hg.out
        rw [hq0, Nat.gcd_zero_right] at e
        exact ⟨by rw [e], nq, rfl⟩
      have hd : ((q : Int) != 0) = false := by simp [hq0]
      clear hq0
      go_wp2
      go_ret
      exact H
    · have hd : ((q : Int) != 0) = true := by simp [hq0]
      have hd2 : ((q : Int) == 0) = false := by simp [hq0]
      have hlt := Nat.mod_lt p (show 0 < q by omega)
      have HG := Lib.hid ((Vm.gcd_step p q).trans hg.out)
      have ht : (p : Int).tmod (q : Int) = ((p % q : Nat) : Int) := by rw [Int.tmod_eq_emod_of_nonneg (by omega)]; norm_cast
      obtain ⟨r, hr⟩ : ∃ r, p % q = r := ⟨_, rfl⟩
      rw [hr] at ht hlt HG
      clear hr hq0 hg
      go_wp2
      go_quiet (fail)
      clear ht hd hd2
      go_wp2
      go_roundw
      case rel => exact ⟨q, r, rfl, rfl, hq, by omega, HG, drewN2 _ _ _⟩
      case measure => simp [intOf]; omega

/-- What a closure amplitude comes to. -/
def AmpPost (n : Int) (L : List (Int × Int)) (i j k l : Int) (w : World) (e : Ending) (w' : World) : Prop := e = .returned (.tuple #[.int .i64 (Vm.ampP n L i j k l), .int .i64 (Vm.ampQ n L i j k l), .bool (Vm.ampB n L i j k l)]) ∧ Below w.heap.size w w'
theorem AmpPost.no {n : Int} {L : List (Int × Int)} {i j k l : Int} {w w' : World} (h : Vm.ampB n L i j k l = false) (hB : Below w.heap.size w w') : AmpPost n L i j k l w (.returned (.tuple #[.int .i64 0, .int .i64 0, .bool false])) w' := ⟨by rw [Vm.ampP_no h, Vm.ampQ_no h, h], hB⟩
theorem AmpPost.yes {n : Int} {L : List (Int × Int)} {i j k l : Int} {w w' : World} (h : Vm.ampB n L i j k l = true) {x y : Int} (hx : x = Vm.ampP n L i j k l) (hy : y = Vm.ampQ n L i j k l) (hB : Below w.heap.size w w') : AmpPost n L i j k l w (.returned (.tuple #[.int .i64 x, .int .i64 y, .bool true])) w' := ⟨by rw [h, hx, hy], hB⟩
theorem amp_no1 {n : Int} {L : List (Int × Int)} {i j k l : Int} (h : Vm.visB n L = false) : Vm.ampB n L i j k l = false := by simp [Vm.ampB, h]
theorem amp_no2 {n : Int} {L : List (Int × Int)} {i j k l : Int} (h : Vm.apB n [i, j, k, l] = false) : Vm.ampB n L i j k l = false := by simp [Vm.ampB, h]
theorem amp_yes {n : Int} {L : List (Int × Int)} {i j k l : Int} (h1 : Vm.visB n L = true) (h2 : Vm.apB n [i, j, k, l] = true) : Vm.ampB n L i j k l = true := (Vm.ampB_iff _ _ _ _ _ _).2 ⟨h1, h2⟩
theorem rd4 (w : World) (i j k l : Int) (T : TypeId) : Rd (w.alloc (.cells #[.int .i64 i, .int .i64 j, .int .i64 k, .int .i64 l] T)) (w.heap.size + 1) 1 (some ⟨w.heap.size, 0, none⟩) 4 4 (ci [i, j, k, l]) := by
  refine ⟨by simp [ci], by omega, by omega, fun _ => ⟨_, _, rfl, by omega, fun q u hu => ?_⟩⟩
  have hq : q < 4 := by
    have := (List.getElem?_eq_some_iff.1 hu).1
    simpa [ci] using this
  rw [Nat.zero_add, World.cell?_alloc_at _ _ _ q rfl]
  simpa [ci] using hu
/-- The numbers of a closure amplitude. -/
theorem amp_parts {n : Int} {L : List (Int × Int)} {i j k l : Int} (h : Vm.ampB n L i j k l = true) :
    ∃ a b c d g x y : Int, Vm.am n L i j = a ∧ Vm.am n L k l = b ∧ Vm.am n L i k = c ∧ Vm.am n L j l = d ∧ (1 ≤ a * b ∧ a * b ≤ 1000000000000) ∧ (1 ≤ c * d ∧ c * d ≤ 1000000000000) ∧ ((Nat.gcd (a * b).toNat (c * d).toNat : Nat) : Int) = g ∧ 1 ≤ g ∧ (a * b) / g = x ∧ (c * d) / g = y ∧ x = Vm.ampP n L i j k l ∧ y = Vm.ampQ n L i j k l := by
  obtain ⟨t, b⟩ := Vm.amp_rng h
  refine ⟨_, _, _, _, _, _, _, rfl, rfl, rfl, rfl, t, b, rfl, Vm.gcd_pos t.1, rfl, rfl, ?_, ?_⟩
  · rw [Vm.ampP_yes h]; rfl
  · rw [Vm.ampQ_yes h]; rfl
set_option maxHeartbeats 1000000 in
theorem amp1_any (A : Option Addr) (m c : Nat) (n i j : Int) (L : List (Int × Int)) (Bl Bn : Nat) (w : World) (h : Rd w w.heap.size 2 A m c (cp L)) (hv : Vm.visB n L = true) (hi : 0 ≤ i ∧ i < n) (hj : 0 ≤ j ∧ j < n) (hne : i ≠ j)
    (hA : w.cell? ⟨Bl, 0, none⟩ = some (.slice A m c)) (hB : w.cell? ⟨Bn, 0, none⟩ = some (.int .i64 n)) :
    Calls Try.prog 53 #[.int .i64 i, .int .i64 j, .pointer (some ⟨Bl, 0, none⟩), .pointer (some ⟨Bn, 0, none⟩)] w fun e w' => e = .returned (.int .i64 (Vm.am n L i j)) ∧ ∃ nq, w' = w.drewN nq := by
  have hn := h.len
  rw [cp_length] at hn
  have hm := h.most
  have hcap := h.cap
  obtain rfl : L.length = m := by omega
  clear hn
  obtain ⟨⟨n1, n2⟩, k, hk, hkk, hk21, hgd, hp1, hp2⟩ := vis_at hv hi hj hne
  obtain ⟨i1, i2⟩ := hi
  obtain ⟨j1, j2⟩ := hj
  obtain ⟨b, off, rfl, hb, hc1, hc2⟩ := h.pair_at hk
  have HA := Lib.hid (show Vm.am n L i j = L[k].1 by
    unfold Vm.am Vm.vget
    rw [hkk, Int.toNat_natCast, hgd]
    split <;> rfl)
  obtain ⟨v, hvv⟩ : ∃ v, L[k] = v := ⟨_, rfl⟩
  rw [hvv] at hc1 HA
  have HK := Lib.hid hkk
  have hkl : (k : Int) < (L.length : Int) := by omega
  have hk0 : (0 : Int) ≤ (k : Int) := by omega
  clear hvv hgd hkk hv hp1 hp2 hc2 hne
  go_enter Try.func53, Try.ntmps53
  go_wp2
  go_quiet ((go_at_call 54; exact Calls.quiet_of_same ((baseAt_any n i j _ n1 n2 i1 i2 j1 j2).mono (fun _ _ ⟨h1, h2⟩ => ⟨by rw [h1, HK.out], h2.symm⟩))))
  go_wp2
  go_ret
  exact ⟨ret_int HA.out.symm, _, rfl⟩
set_option maxHeartbeats 4000000 in
theorem CloseAmp_any (A : Option Addr) (m c : Nat) (n : Int) (L : List (Int × Int)) (i j k l : Int) (w : World) (h : Rd w w.heap.size 2 A m c (cp L)) :
    Calls Try.prog 24 #[.int .i64 n, .slice A m c, .int .i64 i, .int .i64 j, .int .i64 k, .int .i64 l] w (AmpPost n L i j k l w) := by
  have hbb : ∀ w1, Below ((w.alloc (.cells #[.int .i64 n] 3)).alloc (.cells #[.slice A m c] 23)).heap.size ((w.alloc (.cells #[.int .i64 n] 3)).alloc (.cells #[.slice A m c] 23)) w1 →
      w1.cell? ⟨w.heap.size, 0, none⟩ = some (.int .i64 n) ∧ w1.cell? ⟨w.heap.size + 1, 0, none⟩ = some (.slice A m c) ∧ w.heap.size < w1.heap.size ∧ w.heap.size + 1 < w1.heap.size := fun w1 hB1 => by
    obtain ⟨q1, _⟩ := bcell hB1
    have hsz := hB1.size
    simp at hsz
    exact ⟨(q1 _ _ (by simp; omega)).trans (by simp [go_sem]), (q1 _ _ (by simp)).trans (by simp [go_sem]), by omega, by omega⟩
  have HBB := Lib.hid hbb
  have hr2 := h.after (bA (bA (b0 w) (.cells #[.int .i64 n] 3)) (.cells #[.slice A m c] 23))
  clear hbb
  cases hv : Vm.visB n L
  · have H := Lib.hid (amp_no1 (i := i) (j := j) (k := k) (l := l) hv)
    go_enter Try.func24, Try.ntmps24
    go_wp2_with fail
    refine (VisValid_any _ _ _ n L _ hr2).mono ?_
    rintro e w1 ⟨rfl, hB1⟩
    rw [hv]
    obtain ⟨k0, k1, z0, z1⟩ := HBB.out w1 hB1
    go_wp2_with fail
    go_ret3
    exact AmpPost.no H.out (bT (bA (bA (b0 _) _) _) hB1)
  · have HV := Lib.hid hv
    cases ha : Vm.apB n [i, j, k, l]
    · have H := Lib.hid (amp_no2 (L := L) ha)
      have HA := Lib.hid ha
      clear ha hv
      go_enter Try.func24, Try.ntmps24
      go_wp2_with fail
      refine (VisValid_any _ _ _ n L _ hr2).mono ?_
      rintro e w1 ⟨rfl, hB1⟩
      rw [HV.out]
      obtain ⟨k0, k1, z0, z1⟩ := HBB.out w1 hB1
      go_wp2_with fail
      refine (differentAnts_any _ _ _ n [i, j, k, l] _ ((rd4 w1 i j k l _).more (by simp))).mono ?_
      rintro e w2 ⟨rfl, rfl⟩
      rw [HA.out]
      go_wp2_with fail
      go_ret3
      exact AmpPost.no H.out (bA (bT (bA (bA (b0 _) _) _) hB1) _)
    · have hok := amp_yes hv ha
      obtain ⟨ri, rj, rk, rl, d1, d2, d3, d4, d5, d6⟩ := Vm.ap4 ha
      obtain ⟨a, b, cc, d, g, x, y, e1, e2, e3, e4, ⟨p1, p2⟩, ⟨p3, p4⟩, e5, p5, e6, e7, e8, e9⟩ := amp_parts hok
      have H := Lib.hid hok
      have HA := Lib.hid ha
      have E1 := Lib.hid e1
      have E2 := Lib.hid e2
      have E3 := Lib.hid e3
      have E4 := Lib.hid e4
      have E8 := Lib.hid e8
      have E9 := Lib.hid e9
      obtain ⟨X, hX⟩ := Vm.nat_of (i := a * b) (by omega)
      obtain ⟨Y, hY⟩ := Vm.nat_of (i := cc * d) (by omega)
      rw [hX, hY, Int.toNat_natCast, Int.toNat_natCast] at e5
      rw [hX] at e6
      rw [hY] at e7
      have HX := Lib.hid hX
      have HY := Lib.hid hY
      have E5 := Lib.hid e5
      have hX2 : X ≤ 4000000000000 := by omega
      have hY2 : Y ≤ 4000000000000 := by omega
      clear hok ha hv e1 e2 e3 e4 e5 e8 e9 hX hY
      go_enter Try.func24, Try.ntmps24
      go_wp2_with fail
      refine (VisValid_any _ _ _ n L _ hr2).mono ?_
      rintro e w1 ⟨rfl, hB1⟩
      rw [HV.out]
      obtain ⟨k0, k1, z0, z1⟩ := HBB.out w1 hB1
      have hB2 := bA (bT (bA (bA (b0 w) _) _) hB1) (.cells #[.int .i64 i, .int .i64 j, .int .i64 k, .int .i64 l] 3)
      have hr3 := (h.below hB2).more hB2.size
      go_wp2_with fail
      refine (differentAnts_any _ _ _ n [i, j, k, l] _ ((rd4 w1 i j k l _).more (by simp))).mono ?_
      rintro e w2 ⟨rfl, rfl⟩
      rw [HA.out]
      go_wp2_with fail
      refine (amp1_any A m c n i j L (w.heap.size + 1) w.heap.size _ hr3 HV.out ri rj d1 (by simp [go_sem, k1, z1]) (by simp [go_sem, k0, z0])).mono ?_
      rintro e w3 ⟨rfl, n3, rfl⟩
      rw [E1.out]
      go_wp2_with fail
      refine (amp1_any A m c n k l L (w.heap.size + 1) w.heap.size _ (hr3.after (drewN_below _ _)) HV.out rk rl d6 (by simp [go_sem, k1, z1]) (by simp [go_sem, k0, z0])).mono ?_
      rintro e w4 ⟨rfl, n4, rfl⟩
      rw [E2.out]
      go_wp2_with fail
      refine (amp1_any A m c n i k L (w.heap.size + 1) w.heap.size _ (hr3.after (drewN_below _ _)) HV.out ri rk d2 (by simp [go_sem, k1, z1]) (by simp [go_sem, k0, z0])).mono ?_
      rintro e w5 ⟨rfl, n5, rfl⟩
      rw [E3.out]
      go_wp2_with fail
      refine (amp1_any A m c n j l L (w.heap.size + 1) w.heap.size _ (hr3.after (drewN_below _ _)) HV.out rj rl d5 (by simp [go_sem, k1, z1]) (by simp [go_sem, k0, z0])).mono ?_
      rintro e w6 ⟨rfl, n6, rfl⟩
      rw [E4.out]
      go_wp2_with fail
      rw [HX.out, HY.out]
      refine (gcd_any X Y _ hX2 hY2).mono ?_
      rintro e w7 ⟨rfl, n7, rfl⟩
      rw [E5.out]
      have hg0 : (g == 0) = false := by rw [beq_eq_false_iff_ne]; omega
      have t1 : (X : Int).tdiv g = x := by rw [Int.tdiv_eq_ediv_of_nonneg (by omega)]; exact e6
      have t2 : (Y : Int).tdiv g = y := by rw [Int.tdiv_eq_ediv_of_nonneg (by omega)]; exact e7
      have x1 : 0 ≤ x := by rw [← e6]; exact Int.ediv_nonneg (by omega) (by omega)
      have x2 : x ≤ X := by rw [← e6]; exact Int.ediv_le_self _ (by omega)
      have y1 : 0 ≤ y := by rw [← e7]; exact Int.ediv_nonneg (by omega) (by omega)
      have y2 : y ≤ Y := by rw [← e7]; exact Int.ediv_le_self _ (by omega)
      clear e6 e7
      go_wp2_with fail
      go_quiet (fail)
      go_wp2_with fail
      go_ret3
      exact AmpPost.yes H.out E8.out E9.out (bD (bD hB2 _) _)

end Go.Proofs.Ytcolajhjjnkpmaa
