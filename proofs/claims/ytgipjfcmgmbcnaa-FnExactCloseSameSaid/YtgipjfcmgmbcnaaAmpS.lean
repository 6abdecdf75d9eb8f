/- Contracts: closure amplitudes of the reference; its CloseSame. Written by ampsgen.py. -/
import Derived.Test.YtgipjfcmgmbcnaaSameV
import Derived.Test.YtgipjfcmgmbcnaaVisC
import Derived.Deep.RegionHeld
namespace Go.Proofs.Ytgipjfcmgmbcnaa
open Go.RowKit

set_option maxHeartbeats 4000000 in
theorem sCloseAmp_any (A : Option Addr) (m c : Nat) (n : Int) (L : List (Int × Int)) (i j k l : Int) (w : World) (h : Rd w w.heap.size 2 A m c (cp L)) :
    Calls Try.prog 41 #[.int .i64 n, .slice A m c, .int .i64 i, .int .i64 j, .int .i64 k, .int .i64 l] w (AmpPost n L i j k l w) := by
  cases hv : Vm.visB n L
  · have H := Lib.hid (amp_no1 (i := i) (j := j) (k := k) (l := l) hv)
    go_enter Try.func41, Try.ntmps41
    go_wp2_with (go_at_call 59; refine (sVisValid_any _ _ _ n L _ h).mono ?_; rintro e w' ⟨rfl, rfl⟩)
    go_ret3
    exact AmpPost.no H.out (b0 _)
  · have HV := Lib.hid hv
    have hn7 := (Vm.manyB_iff _).1 ((Vm.visB_iff _ _).1 hv).1
    obtain ⟨nn2, nn7⟩ := hn7
    cases ha : Vm.apB n [i, j, k, l]
    · have H := Lib.hid (amp_no2 (L := L) ha)
      have HA := Lib.hid ha
      clear ha hv
      go_enter Try.func41, Try.ntmps41
      go_wp2_with (go_at_call 59; refine (sVisValid_any _ _ _ n L _ h).mono ?_; rintro e w' ⟨rfl, rfl⟩; rw [HV.out])
      refine (l13Apart_any _ _ _ n [i, j, k, l] _ ((rd4 w i j k l _).more (by simp)) (by omega) (by omega)).mono ?_
      rintro e w2 ⟨rfl, nq, rfl⟩
      rw [HA.out]
      go_wp2_with fail
      go_ret3
      exact AmpPost.no H.out (bD (bA (b0 _) _) _)
    · have hok := amp_yes hv ha
      obtain ⟨ri, rj, rk, rl, d1, d2, d3, d4, d5, d6⟩ := Vm.ap4 ha
      obtain ⟨a, b, cc, d, g, x, y, e1, e2, e3, e4, ⟨p1, p2⟩, ⟨p3, p4⟩, e5, p5, e6, e7, e8, e9⟩ := amp_parts hok
      have H := Lib.hid hok
      have HA := Lib.hid ha
      have E1 : Hid ((Vm.vget n L i j).1 = a) := e1
      have E2 : Hid ((Vm.vget n L k l).1 = b) := e2
      have E3 : Hid ((Vm.vget n L i k).1 = cc) := e3
      have E4 : Hid ((Vm.vget n L j l).1 = d) := e4
      have E8 := Lib.hid e8
      have E9 := Lib.hid e9
      obtain ⟨X, hX⟩ := Vm.nat_of (i := a * b) (by omega)
      obtain ⟨Y, hY⟩ := Vm.nat_of (i := cc * d) (by omega)
      rw [hX, hY, Int.toNat_natCast, Int.toNat_natCast] at e5
      rw [hX] at e6
      rw [hY] at e7
      have HX := Lib.hid hX
      have HY := Lib.hid hY
      have E5 := Lib.hid e5
      have hX2 : X ≤ 4000000000000 := by omega
      have hY2 : Y ≤ 4000000000000 := by omega
      clear hok ha hv e1 e2 e3 e4 e5 e8 e9 hX hY
      have hfd := field0
      go_enter Try.func41, Try.ntmps41
      go_wp2_with (go_at_call 59; refine (sVisValid_any _ _ _ n L _ h).mono ?_; rintro e w' ⟨rfl, rfl⟩; rw [HV.out])
      refine (l13Apart_any _ _ _ n [i, j, k, l] _ ((rd4 w i j k l _).more (by simp)) (by omega) (by omega)).mono ?_
      rintro e w2 ⟨rfl, nq, rfl⟩
      rw [HA.out]
      have hB0 := bD (bA (b0 w) (.cells #[.int .i64 i, .int .i64 j, .int .i64 k, .int .i64 l] 3)) nq
      go_wp2_with fail
      refine (l11Get_any A m c n i j L _ ((h.below hB0).more hB0.size) HV.out ri rj d1).mono ?_
      rintro e w3 ⟨rfl, hB3⟩
      have hB4 := bT hB0 hB3
      unfold gv
      rw [E1.out]
      go_wp2_with fail
      refine (l11Get_any A m c n k l L _ ((h.below hB4).more hB4.size) HV.out rk rl d6).mono ?_
      rintro e w4 ⟨rfl, hB5⟩
      have hB6 := bT hB4 hB5
      unfold gv
      rw [E2.out]
      go_wp2_with fail
      refine (l11Get_any A m c n i k L _ ((h.below hB6).more hB6.size) HV.out ri rk d2).mono ?_
      rintro e w5 ⟨rfl, hB7⟩
      have hB8 := bT hB6 hB7
      unfold gv
      rw [E3.out]
      go_wp2_with fail
      refine (l11Get_any A m c n j l L _ ((h.below hB8).more hB8.size) HV.out rj rl d5).mono ?_
      rintro e w6 ⟨rfl, hB9⟩
      have hB10 := bT hB8 hB9
      unfold gv
      rw [E4.out]
      clear hB0 hB3 hB4 hB5 hB6 hB7 hB8 hB9
      go_wp2_with fail
      rw [HX.out, HY.out]
      refine (l13Gcd_any X Y _ hX2 hY2).mono ?_
      rintro e w7 ⟨rfl, n7, rfl⟩
      rw [E5.out]
      have hg0 : (g == 0) = false := by rw [beq_eq_false_iff_ne]; omega
      have t1 : (X : Int).tdiv g = x := by rw [Int.tdiv_eq_ediv_of_nonneg (by omega)]; exact e6
      have t2 : (Y : Int).tdiv g = y := by rw [Int.tdiv_eq_ediv_of_nonneg (by omega)]; exact e7
      have x1 : 0 ≤ x := by rw [← e6]; exact Int.ediv_nonneg (by omega) (by omega)
      have x2 : x ≤ X := by rw [← e6]; exact Int.ediv_le_self _ (by omega)
      have y1 : 0 ≤ y := by rw [← e7]; exact Int.ediv_nonneg (by omega) (by omega)
      have y2 : y ≤ Y := by rw [← e7]; exact Int.ediv_le_self _ (by omega)
      clear e6 e7 hfd
      go_wp2_with fail
      go_quiet (fail)
      go_wp2_with fail
      go_ret3
      exact AmpPost.yes H.out E8.out E9.out (bD (bD hB10 _) _)
theorem four_at {w : World} {B n c : Nat} {A : Option Addr} {i j k l : Int} (h : Rd w B 1 A n c (ci [i, j, k, l])) : n = 4 ∧ ∃ b off, A = some ⟨b, off, none⟩ ∧ b < B ∧ w.cell? ⟨b, off, none⟩ = some (.int .i64 i) ∧ w.cell? ⟨b, off + 1, none⟩ = some (.int .i64 j) ∧ w.cell? ⟨b, off + 2, none⟩ = some (.int .i64 k) ∧ w.cell? ⟨b, off + 3, none⟩ = some (.int .i64 l) := by
  have hn := h.len
  rw [ci_length] at hn
  simp at hn
  obtain ⟨b, off, e, hb, hc⟩ := h.at_ (by omega)
  exact ⟨hn.symm, b, off, e, hb, hc 0 _ rfl, hc 1 _ rfl, hc 2 _ rfl, hc 3 _ rfl⟩
set_option maxHeartbeats 4000000 in
theorem l13Four_any (A A' A4 : Option Addr) (m c m' c' m4 c4 N : Nat) (L M : List (Int × Int)) (i j k l : Int) (w : World) (h : Rd w w.heap.size 2 A m c (cp L)) (h' : Rd w w.heap.size 2 A' m' c' (cp M)) (h4 : Rd w w.heap.size 1 A4 m4 c4 (ci [i, j, k, l]))
    (hv : Vm.visB N L = true) (hv' : Vm.visB N M = true) :
    Calls Try.prog 75 #[.int .i64 N, .slice A m c, .slice A' m' c', .slice A4 m4 c4] w (BoolPost (ampE N L M i j k l) w) := by
  obtain ⟨rfl, b, off, rfl, hbl, q0, q1, q2, q3⟩ := four_at h4
  have hcap4 := h4.cap
  have hmost4 := h4.most
  have hab : Vm.ampB N M i j k l = Vm.ampB N L i j k l := by simp [Vm.ampB, hv, hv']
  obtain ⟨⟨a1, a2⟩, a3, a4⟩ := ampQ_rng N L i j k l
  obtain ⟨⟨b1, b2⟩, b3, b4⟩ := ampQ_rng N M i j k l
  obtain ⟨ok, hok⟩ : ∃ ok, Vm.ampB N L i j k l = ok := ⟨_, rfl⟩
  rw [hok] at hab
  have hz : ok = false → Vm.ampP N L i j k l = 0 ∧ Vm.ampQ N L i j k l = 0 ∧ Vm.ampP N M i j k l = 0 ∧ Vm.ampQ N M i j k l = 0 := fun e => by
    subst e
    exact ⟨Vm.ampP_no hok, Vm.ampQ_no hok, Vm.ampP_no hab, Vm.ampQ_no hab⟩
  obtain ⟨y1, hy1⟩ : ∃ x, Vm.ampP N L i j k l = x := ⟨_, rfl⟩
  obtain ⟨y2, hy2⟩ : ∃ x, Vm.ampQ N L i j k l = x := ⟨_, rfl⟩
  obtain ⟨z1, hz1⟩ : ∃ x, Vm.ampP N M i j k l = x := ⟨_, rfl⟩
  obtain ⟨z2, hz2⟩ : ∃ x, Vm.ampQ N M i j k l = x := ⟨_, rfl⟩
  have hE : ampE N L M i j k l ↔ y1 = z1 ∧ y2 = z2 := by unfold ampE; rw [hy1, hy2, hz1, hz2]
  rw [hy1] at a1 a2 hz
  rw [hy2] at a3 a4 hz
  rw [hz1] at b1 b2 hz
  rw [hz2] at b3 b4 hz
  have L1 := Lib.hid hy1
  have L2 := Lib.hid hy2
  have L3 := Lib.hid hok
  have M1 := Lib.hid hz1
  have M2 := Lib.hid hz2
  have M3 := Lib.hid hab
  have hpart : (ok = false ∧ (y1 = z1 ∧ y2 = z2)) ∨ (ok = true ∧ (y1 == z1) = true ∧ (y2 == z2) = true) ∨ (ok = true ∧ (y1 == z1) = false) ∨ (ok = true ∧ (y1 == z1) = true ∧ (y2 == z2) = false) := by
    cases ok
    · left; have := hz rfl; exact ⟨rfl, by omega⟩
    · right
      by_cases f1 : y1 = z1
      · by_cases f2 : y2 = z2
        · left; simp [f1, f2]
        · right; right; simp [f1, f2]
      · right; left; simp [f1]
  clear hy1 hy2 hz1 hz2 hok hab hz
  rcases hpart with ⟨f0, f1⟩ | ⟨f0, f1, f2⟩ | ⟨f0, f1⟩ | ⟨f0, f1, f2⟩
  · have HE := Lib.hid (hE.2 f1)
    clear hE f1
    subst f0
    go_enter Try.func75, Try.ntmps75
    go_wp2_with fail
    refine wp_region_held_drew (S := fun W' => W'.cell? ⟨b, off, none⟩ = some (.int .i64 i) ∧ W'.cell? ⟨b, off + 1, none⟩ = some (.int .i64 j) ∧ W'.cell? ⟨b, off + 2, none⟩ = some (.int .i64 k) ∧ W'.cell? ⟨b, off + 3, none⟩ = some (.int .i64 l)) (by kernel_rfl) ⟨q0, q1, q2, q3⟩ (fun hS => ?_)
    refine wpAnyH_take (i := 0) (v := .int .i64 N) rfl (by kernel_rfl) (by kernel_rfl) (by kernel_rfl) (fun _ _ _ h => h) (Or.inl ⟨by rfl, fun ww hSw => ?_⟩) hS ?_
    · obtain ⟨s0, s1, s2, s3⟩ := hSw; go_simp
    refine wpAnyH_take (i := 1) (v := .slice A m c) rfl (by kernel_rfl) (by kernel_rfl) (by kernel_rfl) (fun _ _ _ h => h) (Or.inl ⟨by rfl, fun ww hSw => ?_⟩) hS ?_
    · obtain ⟨s0, s1, s2, s3⟩ := hSw; go_simp
    refine wpAnyH_take (i := 2) (v := .slice (some ⟨b, off, none⟩) 4 c4) rfl (by kernel_rfl) (by kernel_rfl) (by kernel_rfl) (fun _ _ _ h => h) (Or.inl ⟨by rfl, fun ww hSw => ?_⟩) hS ?_
    · obtain ⟨s0, s1, s2, s3⟩ := hSw; go_simp
    refine wpAnyH_take (i := 3) (v := .pointer (some ⟨b, off, none⟩)) rfl (by kernel_rfl) (by kernel_rfl) (by kernel_rfl) (fun _ _ _ h => h) (Or.inl ⟨by rfl, fun ww hSw => ?_⟩) hS ?_
    · obtain ⟨s0, s1, s2, s3⟩ := hSw; go_simp
    refine wpAnyH_take (i := 4) (v := .int .i64 i) rfl (by kernel_rfl) (by kernel_rfl) (by kernel_rfl) (fun _ _ _ h => h) (Or.inl ⟨by rfl, fun ww hSw => ?_⟩) hS ?_
    · obtain ⟨s0, s1, s2, s3⟩ := hSw; go_simp
    refine wpAnyH_take (i := 5) (v := .slice (some ⟨b, off, none⟩) 4 c4) rfl (by kernel_rfl) (by kernel_rfl) (by kernel_rfl) (fun _ _ _ h => h) (Or.inl ⟨by rfl, fun ww hSw => ?_⟩) hS ?_
    · obtain ⟨s0, s1, s2, s3⟩ := hSw; go_simp
    refine wpAnyH_take (i := 6) (v := .pointer (some ⟨b, off + 1, none⟩)) rfl (by kernel_rfl) (by kernel_rfl) (by kernel_rfl) (fun _ _ _ h => h) (Or.inl ⟨by rfl, fun ww hSw => ?_⟩) hS ?_
    · obtain ⟨s0, s1, s2, s3⟩ := hSw; go_simp
    refine wpAnyH_take (i := 7) (v := .int .i64 j) rfl (by kernel_rfl) (by kernel_rfl) (by kernel_rfl) (fun _ _ _ h => h) (Or.inl ⟨by rfl, fun ww hSw => ?_⟩) hS ?_
    · obtain ⟨s0, s1, s2, s3⟩ := hSw; go_simp
    refine wpAnyH_take (i := 8) (v := .slice (some ⟨b, off, none⟩) 4 c4) rfl (by kernel_rfl) (by kernel_rfl) (by kernel_rfl) (fun _ _ _ h => h) (Or.inl ⟨by rfl, fun ww hSw => ?_⟩) hS ?_
    · obtain ⟨s0, s1, s2, s3⟩ := hSw; go_simp
    refine wpAnyH_take (i := 9) (v := .pointer (some ⟨b, off + 2, none⟩)) rfl (by kernel_rfl) (by kernel_rfl) (by kernel_rfl) (fun _ _ _ h => h) (Or.inl ⟨by rfl, fun ww hSw => ?_⟩) hS ?_
    · obtain ⟨s0, s1, s2, s3⟩ := hSw; go_simp
    refine wpAnyH_take (i := 10) (v := .int .i64 k) rfl (by kernel_rfl) (by kernel_rfl) (by kernel_rfl) (fun _ _ _ h => h) (Or.inl ⟨by rfl, fun ww hSw => ?_⟩) hS ?_
    · obtain ⟨s0, s1, s2, s3⟩ := hSw; go_simp
    refine wpAnyH_take (i := 11) (v := .slice (some ⟨b, off, none⟩) 4 c4) rfl (by kernel_rfl) (by kernel_rfl) (by kernel_rfl) (fun _ _ _ h => h) (Or.inl ⟨by rfl, fun ww hSw => ?_⟩) hS ?_
    · obtain ⟨s0, s1, s2, s3⟩ := hSw; go_simp
    refine wpAnyH_take (i := 12) (v := .pointer (some ⟨b, off + 3, none⟩)) rfl (by kernel_rfl) (by kernel_rfl) (by kernel_rfl) (fun _ _ _ h => h) (Or.inl ⟨by rfl, fun ww hSw => ?_⟩) hS ?_
    · obtain ⟨s0, s1, s2, s3⟩ := hSw; go_simp
    refine wpAnyH_take (i := 13) (v := .int .i64 l) rfl (by kernel_rfl) (by kernel_rfl) (by kernel_rfl) (fun _ _ _ h => h) (Or.inl ⟨by rfl, fun ww hSw => ?_⟩) hS ?_
    · obtain ⟨s0, s1, s2, s3⟩ := hSw; go_simp
    refine wpAnyH_ready (rs := [14]) (by kernel_rfl) (by simp) ?_
    refine AllReadyH.cons rfl (fun K hK => ?_) AllReadyH.nil
    go_simp
    refine (sCloseAmp_any A m c N L i j k l _ (h.after (Below.drew (b0 w)))).mono ?_
    rintro e w1 ⟨rfl, hb1⟩
    rw [L1.out, L2.out, L3.out]
    refine hK.out _ _ ⟨((bT (Below.drew (b0 w)) hb1).cell (p := ⟨b, off, none⟩) hbl).trans q0, ((bT (Below.drew (b0 w)) hb1).cell (p := ⟨b, off + 1, none⟩) hbl).trans q1, ((bT (Below.drew (b0 w)) hb1).cell (p := ⟨b, off + 2, none⟩) hbl).trans q2, ((bT (Below.drew (b0 w)) hb1).cell (p := ⟨b, off + 3, none⟩) hbl).trans q3⟩ (fun hS => ?_)
    clear hK K
    refine wpAnyH_take (i := 15) (v := .tuple #[.int .i64 y1, .int .i64 y2, .bool false]) rfl (by kernel_rfl) (by kernel_rfl) (by kernel_rfl) (fun _ _ _ h => h) (Or.inl ⟨by rfl, fun ww hSw => ?_⟩) hS ?_
    · obtain ⟨s0, s1, s2, s3⟩ := hSw; go_simp
    refine wpAnyH_take (i := 16) (v := .int .i64 y1) rfl (by kernel_rfl) (by kernel_rfl) (by kernel_rfl) (fun _ _ _ h => h) (Or.inl ⟨by rfl, fun ww hSw => ?_⟩) hS ?_
    · obtain ⟨s0, s1, s2, s3⟩ := hSw; go_simp
    refine wpAnyH_take (i := 17) (v := .int .i64 y2) rfl (by kernel_rfl) (by kernel_rfl) (by kernel_rfl) (fun _ _ _ h => h) (Or.inl ⟨by rfl, fun ww hSw => ?_⟩) hS ?_
    · obtain ⟨s0, s1, s2, s3⟩ := hSw; go_simp
    refine wpAnyH_take (i := 18) (v := .bool false) rfl (by kernel_rfl) (by kernel_rfl) (by kernel_rfl) (fun _ _ _ h => h) (Or.inl ⟨by rfl, fun ww hSw => ?_⟩) hS ?_
    · obtain ⟨s0, s1, s2, s3⟩ := hSw; go_simp
    refine wpAnyH_take (i := 19) (v := .int .i64 y1) rfl (by kernel_rfl) (by kernel_rfl) (by kernel_rfl) (fun _ _ _ h => h) (Or.inl ⟨by rfl, fun ww hSw => ?_⟩) hS ?_
    · obtain ⟨s0, s1, s2, s3⟩ := hSw; go_simp
    refine wpAnyH_take (i := 20) (v := .int .i64 y2) rfl (by kernel_rfl) (by kernel_rfl) (by kernel_rfl) (fun _ _ _ h => h) (Or.inl ⟨by rfl, fun ww hSw => ?_⟩) hS ?_
    · obtain ⟨s0, s1, s2, s3⟩ := hSw; go_simp
    refine wpAnyH_take (i := 21) (v := .bool false) rfl (by kernel_rfl) (by kernel_rfl) (by kernel_rfl) (fun _ _ _ h => h) (Or.inl ⟨by rfl, fun ww hSw => ?_⟩) hS ?_
    · obtain ⟨s0, s1, s2, s3⟩ := hSw; go_simp
    refine ⟨by kernel_rfl, ?_⟩
    clear hS
    have hB1 : Below w.heap.size w w1 := bT (Below.drew (b0 w)) hb1
    have hrM := h'.after hB1
    have r0' := (hB1.cell (p := ⟨b, off, none⟩) hbl).trans q0
    have r1' := (hB1.cell (p := ⟨b, off + 1, none⟩) hbl).trans q1
    have r2' := (hB1.cell (p := ⟨b, off + 2, none⟩) hbl).trans q2
    have r3' := (hB1.cell (p := ⟨b, off + 3, none⟩) hbl).trans q3
    have hbl2 : b < w1.heap.size := Nat.lt_of_lt_of_le hbl hB1.size
    clear q0 q1 q2 q3
    go_wp2_with fail
    refine wp_region_held_drew (S := fun W' => W'.cell? ⟨b, off, none⟩ = some (.int .i64 i) ∧ W'.cell? ⟨b, off + 1, none⟩ = some (.int .i64 j) ∧ W'.cell? ⟨b, off + 2, none⟩ = some (.int .i64 k) ∧ W'.cell? ⟨b, off + 3, none⟩ = some (.int .i64 l)) (by kernel_rfl) ⟨r0', r1', r2', r3'⟩ (fun hS => ?_)
    refine wpAnyH_take (i := 0) (v := .int .i64 N) rfl (by kernel_rfl) (by kernel_rfl) (by kernel_rfl) (fun _ _ _ h => h) (Or.inl ⟨by rfl, fun ww hSw => ?_⟩) hS ?_
    · obtain ⟨s0, s1, s2, s3⟩ := hSw; go_simp
    refine wpAnyH_take (i := 1) (v := .slice A' m' c') rfl (by kernel_rfl) (by kernel_rfl) (by kernel_rfl) (fun _ _ _ h => h) (Or.inl ⟨by rfl, fun ww hSw => ?_⟩) hS ?_
    · obtain ⟨s0, s1, s2, s3⟩ := hSw; go_simp
    refine wpAnyH_take (i := 2) (v := .slice (some ⟨b, off, none⟩) 4 c4) rfl (by kernel_rfl) (by kernel_rfl) (by kernel_rfl) (fun _ _ _ h => h) (Or.inl ⟨by rfl, fun ww hSw => ?_⟩) hS ?_
    · obtain ⟨s0, s1, s2, s3⟩ := hSw; go_simp
    refine wpAnyH_take (i := 3) (v := .pointer (some ⟨b, off, none⟩)) rfl (by kernel_rfl) (by kernel_rfl) (by kernel_rfl) (fun _ _ _ h => h) (Or.inl ⟨by rfl, fun ww hSw => ?_⟩) hS ?_
    · obtain ⟨s0, s1, s2, s3⟩ := hSw; go_simp
    refine wpAnyH_take (i := 4) (v := .int .i64 i) rfl (by kernel_rfl) (by kernel_rfl) (by kernel_rfl) (fun _ _ _ h => h) (Or.inl ⟨by rfl, fun ww hSw => ?_⟩) hS ?_
    · obtain ⟨s0, s1, s2, s3⟩ := hSw; go_simp
    refine wpAnyH_take (i := 5) (v := .slice (some ⟨b, off, none⟩) 4 c4) rfl (by kernel_rfl) (by kernel_rfl) (by kernel_rfl) (fun _ _ _ h => h) (Or.inl ⟨by rfl, fun ww hSw => ?_⟩) hS ?_
    · obtain ⟨s0, s1, s2, s3⟩ := hSw; go_simp
    refine wpAnyH_take (i := 6) (v := .pointer (some ⟨b, off + 1, none⟩)) rfl (by kernel_rfl) (by kernel_rfl) (by kernel_rfl) (fun _ _ _ h => h) (Or.inl ⟨by rfl, fun ww hSw => ?_⟩) hS ?_
    · obtain ⟨s0, s1, s2, s3⟩ := hSw; go_simp
    refine wpAnyH_take (i := 7) (v := .int .i64 j) rfl (by kernel_rfl) (by kernel_rfl) (by kernel_rfl) (fun _ _ _ h => h) (Or.inl ⟨by rfl, fun ww hSw => ?_⟩) hS ?_
    · obtain ⟨s0, s1, s2, s3⟩ := hSw; go_simp
    refine wpAnyH_take (i := 8) (v := .slice (some ⟨b, off, none⟩) 4 c4) rfl (by kernel_rfl) (by kernel_rfl) (by kernel_rfl) (fun _ _ _ h => h) (Or.inl ⟨by rfl, fun ww hSw => ?_⟩) hS ?_
    · obtain ⟨s0, s1, s2, s3⟩ := hSw; go_simp
    refine wpAnyH_take (i := 9) (v := .pointer (some ⟨b, off + 2, none⟩)) rfl (by kernel_rfl) (by kernel_rfl) (by kernel_rfl) (fun _ _ _ h => h) (Or.inl ⟨by rfl, fun ww hSw => ?_⟩) hS ?_
    · obtain ⟨s0, s1, s2, s3⟩ := hSw; go_simp
    refine wpAnyH_take (i := 10) (v := .int .i64 k) rfl (by kernel_rfl) (by kernel_rfl) (by kernel_rfl) (fun _ _ _ h => h) (Or.inl ⟨by rfl, fun ww hSw => ?_⟩) hS ?_
    · obtain ⟨s0, s1, s2, s3⟩ := hSw; go_simp
    refine wpAnyH_take (i := 11) (v := .slice (some ⟨b, off, none⟩) 4 c4) rfl (by kernel_rfl) (by kernel_rfl) (by kernel_rfl) (fun _ _ _ h => h) (Or.inl ⟨by rfl, fun ww hSw => ?_⟩) hS ?_
    · obtain ⟨s0, s1, s2, s3⟩ := hSw; go_simp
    refine wpAnyH_take (i := 12) (v := .pointer (some ⟨b, off + 3, none⟩)) rfl (by kernel_rfl) (by kernel_rfl) (by kernel_rfl) (fun _ _ _ h => h) (Or.inl ⟨by rfl, fun ww hSw => ?_⟩) hS ?_
    · obtain ⟨s0, s1, s2, s3⟩ := hSw; go_simp
    refine wpAnyH_take (i := 13) (v := .int .i64 l) rfl (by kernel_rfl) (by kernel_rfl) (by kernel_rfl) (fun _ _ _ h => h) (Or.inl ⟨by rfl, fun ww hSw => ?_⟩) hS ?_
    · obtain ⟨s0, s1, s2, s3⟩ := hSw; go_simp
    refine wpAnyH_ready (rs := [14]) (by kernel_rfl) (by simp) ?_
    refine AllReadyH.cons rfl (fun K hK => ?_) AllReadyH.nil
    go_simp
    refine (sCloseAmp_any A' m' c' N M i j k l _ (hrM.after (Below.drew (b0 w1)))).mono ?_
    rintro e w2 ⟨rfl, hb2⟩
    rw [M1.out, M2.out, M3.out]
    refine hK.out _ _ ⟨((bT (Below.drew (b0 w1)) hb2).cell (p := ⟨b, off, none⟩) hbl2).trans r0', ((bT (Below.drew (b0 w1)) hb2).cell (p := ⟨b, off + 1, none⟩) hbl2).trans r1', ((bT (Below.drew (b0 w1)) hb2).cell (p := ⟨b, off + 2, none⟩) hbl2).trans r2', ((bT (Below.drew (b0 w1)) hb2).cell (p := ⟨b, off + 3, none⟩) hbl2).trans r3'⟩ (fun hS => ?_)
    clear hK K
    refine wpAnyH_take (i := 15) (v := .tuple #[.int .i64 z1, .int .i64 z2, .bool false]) rfl (by kernel_rfl) (by kernel_rfl) (by kernel_rfl) (fun _ _ _ h => h) (Or.inl ⟨by rfl, fun ww hSw => ?_⟩) hS ?_
    · obtain ⟨s0, s1, s2, s3⟩ := hSw; go_simp
    refine wpAnyH_take (i := 16) (v := .int .i64 z1) rfl (by kernel_rfl) (by kernel_rfl) (by kernel_rfl) (fun _ _ _ h => h) (Or.inl ⟨by rfl, fun ww hSw => ?_⟩) hS ?_
    · obtain ⟨s0, s1, s2, s3⟩ := hSw; go_simp
    refine wpAnyH_take (i := 17) (v := .int .i64 z2) rfl (by kernel_rfl) (by kernel_rfl) (by kernel_rfl) (fun _ _ _ h => h) (Or.inl ⟨by rfl, fun ww hSw => ?_⟩) hS ?_
    · obtain ⟨s0, s1, s2, s3⟩ := hSw; go_simp
    refine wpAnyH_take (i := 18) (v := .bool false) rfl (by kernel_rfl) (by kernel_rfl) (by kernel_rfl) (fun _ _ _ h => h) (Or.inl ⟨by rfl, fun ww hSw => ?_⟩) hS ?_
    · obtain ⟨s0, s1, s2, s3⟩ := hSw; go_simp
    refine wpAnyH_take (i := 19) (v := .int .i64 z1) rfl (by kernel_rfl) (by kernel_rfl) (by kernel_rfl) (fun _ _ _ h => h) (Or.inl ⟨by rfl, fun ww hSw => ?_⟩) hS ?_
    · obtain ⟨s0, s1, s2, s3⟩ := hSw; go_simp
    refine wpAnyH_take (i := 20) (v := .int .i64 z2) rfl (by kernel_rfl) (by kernel_rfl) (by kernel_rfl) (fun _ _ _ h => h) (Or.inl ⟨by rfl, fun ww hSw => ?_⟩) hS ?_
    · obtain ⟨s0, s1, s2, s3⟩ := hSw; go_simp
    refine wpAnyH_take (i := 21) (v := .bool false) rfl (by kernel_rfl) (by kernel_rfl) (by kernel_rfl) (fun _ _ _ h => h) (Or.inl ⟨by rfl, fun ww hSw => ?_⟩) hS ?_
    · obtain ⟨s0, s1, s2, s3⟩ := hSw; go_simp
    refine ⟨by kernel_rfl, ?_⟩
    clear hS
    go_wp2_with fail
    go_ret
    exact BoolPost.yes HE.out (bT hB1 (bT (Below.drew (b0 w1)) hb2))
  · have HE := Lib.hid (hE.2 ⟨by simpa using f1, by simpa using f2⟩)
    clear hE
    subst f0
    go_enter Try.func75, Try.ntmps75
    go_wp2_with fail
    refine wp_region_held_drew (S := fun W' => W'.cell? ⟨b, off, none⟩ = some (.int .i64 i) ∧ W'.cell? ⟨b, off + 1, none⟩ = some (.int .i64 j) ∧ W'.cell? ⟨b, off + 2, none⟩ = some (.int .i64 k) ∧ W'.cell? ⟨b, off + 3, none⟩ = some (.int .i64 l)) (by kernel_rfl) ⟨q0, q1, q2, q3⟩ (fun hS => ?_)
    refine wpAnyH_take (i := 0) (v := .int .i64 N) rfl (by kernel_rfl) (by kernel_rfl) (by kernel_rfl) (fun _ _ _ h => h) (Or.inl ⟨by rfl, fun ww hSw => ?_⟩) hS ?_
    · obtain ⟨s0, s1, s2, s3⟩ := hSw; go_simp
    refine wpAnyH_take (i := 1) (v := .slice A m c) rfl (by kernel_rfl) (by kernel_rfl) (by kernel_rfl) (fun _ _ _ h => h) (Or.inl ⟨by rfl, fun ww hSw => ?_⟩) hS ?_
    · obtain ⟨s0, s1, s2, s3⟩ := hSw; go_simp
    refine wpAnyH_take (i := 2) (v := .slice (some ⟨b, off, none⟩) 4 c4) rfl (by kernel_rfl) (by kernel_rfl) (by kernel_rfl) (fun _ _ _ h => h) (Or.inl ⟨by rfl, fun ww hSw => ?_⟩) hS ?_
    · obtain ⟨s0, s1, s2, s3⟩ := hSw; go_simp
    refine wpAnyH_take (i := 3) (v := .pointer (some ⟨b, off, none⟩)) rfl (by kernel_rfl) (by kernel_rfl) (by kernel_rfl) (fun _ _ _ h => h) (Or.inl ⟨by rfl, fun ww hSw => ?_⟩) hS ?_
    · obtain ⟨s0, s1, s2, s3⟩ := hSw; go_simp
    refine wpAnyH_take (i := 4) (v := .int .i64 i) rfl (by kernel_rfl) (by kernel_rfl) (by kernel_rfl) (fun _ _ _ h => h) (Or.inl ⟨by rfl, fun ww hSw => ?_⟩) hS ?_
    · obtain ⟨s0, s1, s2, s3⟩ := hSw; go_simp
    refine wpAnyH_take (i := 5) (v := .slice (some ⟨b, off, none⟩) 4 c4) rfl (by kernel_rfl) (by kernel_rfl) (by kernel_rfl) (fun _ _ _ h => h) (Or.inl ⟨by rfl, fun ww hSw => ?_⟩) hS ?_
    · obtain ⟨s0, s1, s2, s3⟩ := hSw; go_simp
    refine wpAnyH_take (i := 6) (v := .pointer (some ⟨b, off + 1, none⟩)) rfl (by kernel_rfl) (by kernel_rfl) (by kernel_rfl) (fun _ _ _ h => h) (Or.inl ⟨by rfl, fun ww hSw => ?_⟩) hS ?_
    · obtain ⟨s0, s1, s2, s3⟩ := hSw; go_simp
    refine wpAnyH_take (i := 7) (v := .int .i64 j) rfl (by kernel_rfl) (by kernel_rfl) (by kernel_rfl) (fun _ _ _ h => h) (Or.inl ⟨by rfl, fun ww hSw => ?_⟩) hS ?_
    · obtain ⟨s0, s1, s2, s3⟩ := hSw; go_simp
    refine wpAnyH_take (i := 8) (v := .slice (some ⟨b, off, none⟩) 4 c4) rfl (by kernel_rfl) (by kernel_rfl) (by kernel_rfl) (fun _ _ _ h => h) (Or.inl ⟨by rfl, fun ww hSw => ?_⟩) hS ?_
    · obtain ⟨s0, s1, s2, s3⟩ := hSw; go_simp
    refine wpAnyH_take (i := 9) (v := .pointer (some ⟨b, off + 2, none⟩)) rfl (by kernel_rfl) (by kernel_rfl) (by kernel_rfl) (fun _ _ _ h => h) (Or.inl ⟨by rfl, fun ww hSw => ?_⟩) hS ?_
    · obtain ⟨s0, s1, s2, s3⟩ := hSw; go_simp
    refine wpAnyH_take (i := 10) (v := .int .i64 k) rfl (by kernel_rfl) (by kernel_rfl) (by kernel_rfl) (fun _ _ _ h => h) (Or.inl ⟨by rfl, fun ww hSw => ?_⟩) hS ?_
    · obtain ⟨s0, s1, s2, s3⟩ := hSw; go_simp
    refine wpAnyH_take (i := 11) (v := .slice (some ⟨b, off, none⟩) 4 c4) rfl (by kernel_rfl) (by kernel_rfl) (by kernel_rfl) (fun _ _ _ h => h) (Or.inl ⟨by rfl, fun ww hSw => ?_⟩) hS ?_
    · obtain ⟨s0, s1, s2, s3⟩ := hSw; go_simp
    refine wpAnyH_take (i := 12) (v := .pointer (some ⟨b, off + 3, none⟩)) rfl (by kernel_rfl) (by kernel_rfl) (by kernel_rfl) (fun _ _ _ h => h) (Or.inl ⟨by rfl, fun ww hSw => ?_⟩) hS ?_
    · obtain ⟨s0, s1, s2, s3⟩ := hSw; go_simp
    refine wpAnyH_take (i := 13) (v := .int .i64 l) rfl (by kernel_rfl) (by kernel_rfl) (by kernel_rfl) (fun _ _ _ h => h) (Or.inl ⟨by rfl, fun ww hSw => ?_⟩) hS ?_
    · obtain ⟨s0, s1, s2, s3⟩ := hSw; go_simp
    refine wpAnyH_ready (rs := [14]) (by kernel_rfl) (by simp) ?_
    refine AllReadyH.cons rfl (fun K hK => ?_) AllReadyH.nil
    go_simp
    refine (sCloseAmp_any A m c N L i j k l _ (h.after (Below.drew (b0 w)))).mono ?_
    rintro e w1 ⟨rfl, hb1⟩
    rw [L1.out, L2.out, L3.out]
    refine hK.out _ _ ⟨((bT (Below.drew (b0 w)) hb1).cell (p := ⟨b, off, none⟩) hbl).trans q0, ((bT (Below.drew (b0 w)) hb1).cell (p := ⟨b, off + 1, none⟩) hbl).trans q1, ((bT (Below.drew (b0 w)) hb1).cell (p := ⟨b, off + 2, none⟩) hbl).trans q2, ((bT (Below.drew (b0 w)) hb1).cell (p := ⟨b, off + 3, none⟩) hbl).trans q3⟩ (fun hS => ?_)
    clear hK K
    refine wpAnyH_take (i := 15) (v := .tuple #[.int .i64 y1, .int .i64 y2, .bool true]) rfl (by kernel_rfl) (by kernel_rfl) (by kernel_rfl) (fun _ _ _ h => h) (Or.inl ⟨by rfl, fun ww hSw => ?_⟩) hS ?_
    · obtain ⟨s0, s1, s2, s3⟩ := hSw; go_simp
    refine wpAnyH_take (i := 16) (v := .int .i64 y1) rfl (by kernel_rfl) (by kernel_rfl) (by kernel_rfl) (fun _ _ _ h => h) (Or.inl ⟨by rfl, fun ww hSw => ?_⟩) hS ?_
    · obtain ⟨s0, s1, s2, s3⟩ := hSw; go_simp
    refine wpAnyH_take (i := 17) (v := .int .i64 y2) rfl (by kernel_rfl) (by kernel_rfl) (by kernel_rfl) (fun _ _ _ h => h) (Or.inl ⟨by rfl, fun ww hSw => ?_⟩) hS ?_
    · obtain ⟨s0, s1, s2, s3⟩ := hSw; go_simp
    refine wpAnyH_take (i := 18) (v := .bool true) rfl (by kernel_rfl) (by kernel_rfl) (by kernel_rfl) (fun _ _ _ h => h) (Or.inl ⟨by rfl, fun ww hSw => ?_⟩) hS ?_
    · obtain ⟨s0, s1, s2, s3⟩ := hSw; go_simp
    refine wpAnyH_take (i := 19) (v := .int .i64 y1) rfl (by kernel_rfl) (by kernel_rfl) (by kernel_rfl) (fun _ _ _ h => h) (Or.inl ⟨by rfl, fun ww hSw => ?_⟩) hS ?_
    · obtain ⟨s0, s1, s2, s3⟩ := hSw; go_simp
    refine wpAnyH_take (i := 20) (v := .int .i64 y2) rfl (by kernel_rfl) (by kernel_rfl) (by kernel_rfl) (fun _ _ _ h => h) (Or.inl ⟨by rfl, fun ww hSw => ?_⟩) hS ?_
    · obtain ⟨s0, s1, s2, s3⟩ := hSw; go_simp
    refine wpAnyH_take (i := 21) (v := .bool true) rfl (by kernel_rfl) (by kernel_rfl) (by kernel_rfl) (fun _ _ _ h => h) (Or.inl ⟨by rfl, fun ww hSw => ?_⟩) hS ?_
    · obtain ⟨s0, s1, s2, s3⟩ := hSw; go_simp
    refine ⟨by kernel_rfl, ?_⟩
    clear hS
    have hB1 : Below w.heap.size w w1 := bT (Below.drew (b0 w)) hb1
    have hrM := h'.after hB1
    have r0' := (hB1.cell (p := ⟨b, off, none⟩) hbl).trans q0
    have r1' := (hB1.cell (p := ⟨b, off + 1, none⟩) hbl).trans q1
    have r2' := (hB1.cell (p := ⟨b, off + 2, none⟩) hbl).trans q2
    have r3' := (hB1.cell (p := ⟨b, off + 3, none⟩) hbl).trans q3
    have hbl2 : b < w1.heap.size := Nat.lt_of_lt_of_le hbl hB1.size
    clear q0 q1 q2 q3
    go_wp2_with fail
    refine wp_region_held_drew (S := fun W' => W'.cell? ⟨b, off, none⟩ = some (.int .i64 i) ∧ W'.cell? ⟨b, off + 1, none⟩ = some (.int .i64 j) ∧ W'.cell? ⟨b, off + 2, none⟩ = some (.int .i64 k) ∧ W'.cell? ⟨b, off + 3, none⟩ = some (.int .i64 l)) (by kernel_rfl) ⟨r0', r1', r2', r3'⟩ (fun hS => ?_)
    refine wpAnyH_take (i := 0) (v := .int .i64 N) rfl (by kernel_rfl) (by kernel_rfl) (by kernel_rfl) (fun _ _ _ h => h) (Or.inl ⟨by rfl, fun ww hSw => ?_⟩) hS ?_
    · obtain ⟨s0, s1, s2, s3⟩ := hSw; go_simp
    refine wpAnyH_take (i := 1) (v := .slice A' m' c') rfl (by kernel_rfl) (by kernel_rfl) (by kernel_rfl) (fun _ _ _ h => h) (Or.inl ⟨by rfl, fun ww hSw => ?_⟩) hS ?_
    · obtain ⟨s0, s1, s2, s3⟩ := hSw; go_simp
    refine wpAnyH_take (i := 2) (v := .slice (some ⟨b, off, none⟩) 4 c4) rfl (by kernel_rfl) (by kernel_rfl) (by kernel_rfl) (fun _ _ _ h => h) (Or.inl ⟨by rfl, fun ww hSw => ?_⟩) hS ?_
    · obtain ⟨s0, s1, s2, s3⟩ := hSw; go_simp
    refine wpAnyH_take (i := 3) (v := .pointer (some ⟨b, off, none⟩)) rfl (by kernel_rfl) (by kernel_rfl) (by kernel_rfl) (fun _ _ _ h => h) (Or.inl ⟨by rfl, fun ww hSw => ?_⟩) hS ?_
    · obtain ⟨s0, s1, s2, s3⟩ := hSw; go_simp
    refine wpAnyH_take (i := 4) (v := .int .i64 i) rfl (by kernel_rfl) (by kernel_rfl) (by kernel_rfl) (fun _ _ _ h => h) (Or.inl ⟨by rfl, fun ww hSw => ?_⟩) hS ?_
    · obtain ⟨s0, s1, s2, s3⟩ := hSw; go_simp
    refine wpAnyH_take (i := 5) (v := .slice (some ⟨b, off, none⟩) 4 c4) rfl (by kernel_rfl) (by kernel_rfl) (by kernel_rfl) (fun _ _ _ h => h) (Or.inl ⟨by rfl, fun ww hSw => ?_⟩) hS ?_
    · obtain ⟨s0, s1, s2, s3⟩ := hSw; go_simp
    refine wpAnyH_take (i := 6) (v := .pointer (some ⟨b, off + 1, none⟩)) rfl (by kernel_rfl) (by kernel_rfl) (by kernel_rfl) (fun _ _ _ h => h) (Or.inl ⟨by rfl, fun ww hSw => ?_⟩) hS ?_
    · obtain ⟨s0, s1, s2, s3⟩ := hSw; go_simp
    refine wpAnyH_take (i := 7) (v := .int .i64 j) rfl (by kernel_rfl) (by kernel_rfl) (by kernel_rfl) (fun _ _ _ h => h) (Or.inl ⟨by rfl, fun ww hSw => ?_⟩) hS ?_
    · obtain ⟨s0, s1, s2, s3⟩ := hSw; go_simp
    refine wpAnyH_take (i := 8) (v := .slice (some ⟨b, off, none⟩) 4 c4) rfl (by kernel_rfl) (by kernel_rfl) (by kernel_rfl) (fun _ _ _ h => h) (Or.inl ⟨by rfl, fun ww hSw => ?_⟩) hS ?_
    · obtain ⟨s0, s1, s2, s3⟩ := hSw; go_simp
    refine wpAnyH_take (i := 9) (v := .pointer (some ⟨b, off + 2, none⟩)) rfl (by kernel_rfl) (by kernel_rfl) (by kernel_rfl) (fun _ _ _ h => h) (Or.inl ⟨by rfl, fun ww hSw => ?_⟩) hS ?_
    · obtain ⟨s0, s1, s2, s3⟩ := hSw; go_simp
    refine wpAnyH_take (i := 10) (v := .int .i64 k) rfl (by kernel_rfl) (by kernel_rfl) (by kernel_rfl) (fun _ _ _ h => h) (Or.inl ⟨by rfl, fun ww hSw => ?_⟩) hS ?_
    · obtain ⟨s0, s1, s2, s3⟩ := hSw; go_simp
    refine wpAnyH_take (i := 11) (v := .slice (some ⟨b, off, none⟩) 4 c4) rfl (by kernel_rfl) (by kernel_rfl) (by kernel_rfl) (fun _ _ _ h => h) (Or.inl ⟨by rfl, fun ww hSw => ?_⟩) hS ?_
    · obtain ⟨s0, s1, s2, s3⟩ := hSw; go_simp
    refine wpAnyH_take (i := 12) (v := .pointer (some ⟨b, off + 3, none⟩)) rfl (by kernel_rfl) (by kernel_rfl) (by kernel_rfl) (fun _ _ _ h => h) (Or.inl ⟨by rfl, fun ww hSw => ?_⟩) hS ?_
    · obtain ⟨s0, s1, s2, s3⟩ := hSw; go_simp
    refine wpAnyH_take (i := 13) (v := .int .i64 l) rfl (by kernel_rfl) (by kernel_rfl) (by kernel_rfl) (fun _ _ _ h => h) (Or.inl ⟨by rfl, fun ww hSw => ?_⟩) hS ?_
    · obtain ⟨s0, s1, s2, s3⟩ := hSw; go_simp
    refine wpAnyH_ready (rs := [14]) (by kernel_rfl) (by simp) ?_
    refine AllReadyH.cons rfl (fun K hK => ?_) AllReadyH.nil
    go_simp
    refine (sCloseAmp_any A' m' c' N M i j k l _ (hrM.after (Below.drew (b0 w1)))).mono ?_
    rintro e w2 ⟨rfl, hb2⟩
    rw [M1.out, M2.out, M3.out]
    refine hK.out _ _ ⟨((bT (Below.drew (b0 w1)) hb2).cell (p := ⟨b, off, none⟩) hbl2).trans r0', ((bT (Below.drew (b0 w1)) hb2).cell (p := ⟨b, off + 1, none⟩) hbl2).trans r1', ((bT (Below.drew (b0 w1)) hb2).cell (p := ⟨b, off + 2, none⟩) hbl2).trans r2', ((bT (Below.drew (b0 w1)) hb2).cell (p := ⟨b, off + 3, none⟩) hbl2).trans r3'⟩ (fun hS => ?_)
    clear hK K
    refine wpAnyH_take (i := 15) (v := .tuple #[.int .i64 z1, .int .i64 z2, .bool true]) rfl (by kernel_rfl) (by kernel_rfl) (by kernel_rfl) (fun _ _ _ h => h) (Or.inl ⟨by rfl, fun ww hSw => ?_⟩) hS ?_
    · obtain ⟨s0, s1, s2, s3⟩ := hSw; go_simp
    refine wpAnyH_take (i := 16) (v := .int .i64 z1) rfl (by kernel_rfl) (by kernel_rfl) (by kernel_rfl) (fun _ _ _ h => h) (Or.inl ⟨by rfl, fun ww hSw => ?_⟩) hS ?_
    · obtain ⟨s0, s1, s2, s3⟩ := hSw; go_simp
    refine wpAnyH_take (i := 17) (v := .int .i64 z2) rfl (by kernel_rfl) (by kernel_rfl) (by kernel_rfl) (fun _ _ _ h => h) (Or.inl ⟨by rfl, fun ww hSw => ?_⟩) hS ?_
    · obtain ⟨s0, s1, s2, s3⟩ := hSw; go_simp
    refine wpAnyH_take (i := 18) (v := .bool true) rfl (by kernel_rfl) (by kernel_rfl) (by kernel_rfl) (fun _ _ _ h => h) (Or.inl ⟨by rfl, fun ww hSw => ?_⟩) hS ?_
    · obtain ⟨s0, s1, s2, s3⟩ := hSw; go_simp
    refine wpAnyH_take (i := 19) (v := .int .i64 z1) rfl (by kernel_rfl) (by kernel_rfl) (by kernel_rfl) (fun _ _ _ h => h) (Or.inl ⟨by rfl, fun ww hSw => ?_⟩) hS ?_
    · obtain ⟨s0, s1, s2, s3⟩ := hSw; go_simp
    refine wpAnyH_take (i := 20) (v := .int .i64 z2) rfl (by kernel_rfl) (by kernel_rfl) (by kernel_rfl) (fun _ _ _ h => h) (Or.inl ⟨by rfl, fun ww hSw => ?_⟩) hS ?_
    · obtain ⟨s0, s1, s2, s3⟩ := hSw; go_simp
    refine wpAnyH_take (i := 21) (v := .bool true) rfl (by kernel_rfl) (by kernel_rfl) (by kernel_rfl) (fun _ _ _ h => h) (Or.inl ⟨by rfl, fun ww hSw => ?_⟩) hS ?_
    · obtain ⟨s0, s1, s2, s3⟩ := hSw; go_simp
    refine ⟨by kernel_rfl, ?_⟩
    clear hS
    go_wp2_with fail
    go_ret
    exact BoolPost.yes HE.out (bT hB1 (bT (Below.drew (b0 w1)) hb2))
  · have HE := Lib.hid (show ¬ ampE N L M i j k l from fun hc => by have := (hE.1 hc).1; simp at f1; exact f1 this)
    clear hE
    subst f0
    go_enter Try.func75, Try.ntmps75
    go_wp2_with fail
    refine wp_region_held_drew (S := fun W' => W'.cell? ⟨b, off, none⟩ = some (.int .i64 i) ∧ W'.cell? ⟨b, off + 1, none⟩ = some (.int .i64 j) ∧ W'.cell? ⟨b, off + 2, none⟩ = some (.int .i64 k) ∧ W'.cell? ⟨b, off + 3, none⟩ = some (.int .i64 l)) (by kernel_rfl) ⟨q0, q1, q2, q3⟩ (fun hS => ?_)
    refine wpAnyH_take (i := 0) (v := .int .i64 N) rfl (by kernel_rfl) (by kernel_rfl) (by kernel_rfl) (fun _ _ _ h => h) (Or.inl ⟨by rfl, fun ww hSw => ?_⟩) hS ?_
    · obtain ⟨s0, s1, s2, s3⟩ := hSw; go_simp
    refine wpAnyH_take (i := 1) (v := .slice A m c) rfl (by kernel_rfl) (by kernel_rfl) (by kernel_rfl) (fun _ _ _ h => h) (Or.inl ⟨by rfl, fun ww hSw => ?_⟩) hS ?_
    · obtain ⟨s0, s1, s2, s3⟩ := hSw; go_simp
    refine wpAnyH_take (i := 2) (v := .slice (some ⟨b, off, none⟩) 4 c4) rfl (by kernel_rfl) (by kernel_rfl) (by kernel_rfl) (fun _ _ _ h => h) (Or.inl ⟨by rfl, fun ww hSw => ?_⟩) hS ?_
    · obtain ⟨s0, s1, s2, s3⟩ := hSw; go_simp
    refine wpAnyH_take (i := 3) (v := .pointer (some ⟨b, off, none⟩)) rfl (by kernel_rfl) (by kernel_rfl) (by kernel_rfl) (fun _ _ _ h => h) (Or.inl ⟨by rfl, fun ww hSw => ?_⟩) hS ?_
    · obtain ⟨s0, s1, s2, s3⟩ := hSw; go_simp
    refine wpAnyH_take (i := 4) (v := .int .i64 i) rfl (by kernel_rfl) (by kernel_rfl) (by kernel_rfl) (fun _ _ _ h => h) (Or.inl ⟨by rfl, fun ww hSw => ?_⟩) hS ?_
    · obtain ⟨s0, s1, s2, s3⟩ := hSw; go_simp
    refine wpAnyH_take (i := 5) (v := .slice (some ⟨b, off, none⟩) 4 c4) rfl (by kernel_rfl) (by kernel_rfl) (by kernel_rfl) (fun _ _ _ h => h) (Or.inl ⟨by rfl, fun ww hSw => ?_⟩) hS ?_
    · obtain ⟨s0, s1, s2, s3⟩ := hSw; go_simp
    refine wpAnyH_take (i := 6) (v := .pointer (some ⟨b, off + 1, none⟩)) rfl (by kernel_rfl) (by kernel_rfl) (by kernel_rfl) (fun _ _ _ h => h) (Or.inl ⟨by rfl, fun ww hSw => ?_⟩) hS ?_
    · obtain ⟨s0, s1, s2, s3⟩ := hSw; go_simp
    refine wpAnyH_take (i := 7) (v := .int .i64 j) rfl (by kernel_rfl) (by kernel_rfl) (by kernel_rfl) (fun _ _ _ h => h) (Or.inl ⟨by rfl, fun ww hSw => ?_⟩) hS ?_
    · obtain ⟨s0, s1, s2, s3⟩ := hSw; go_simp
    refine wpAnyH_take (i := 8) (v := .slice (some ⟨b, off, none⟩) 4 c4) rfl (by kernel_rfl) (by kernel_rfl) (by kernel_rfl) (fun _ _ _ h => h) (Or.inl ⟨by rfl, fun ww hSw => ?_⟩) hS ?_
    · obtain ⟨s0, s1, s2, s3⟩ := hSw; go_simp
    refine wpAnyH_take (i := 9) (v := .pointer (some ⟨b, off + 2, none⟩)) rfl (by kernel_rfl) (by kernel_rfl) (by kernel_rfl) (fun _ _ _ h => h) (Or.inl ⟨by rfl, fun ww hSw => ?_⟩) hS ?_
    · obtain ⟨s0, s1, s2, s3⟩ := hSw; go_simp
    refine wpAnyH_take (i := 10) (v := .int .i64 k) rfl (by kernel_rfl) (by kernel_rfl) (by kernel_rfl) (fun _ _ _ h => h) (Or.inl ⟨by rfl, fun ww hSw => ?_⟩) hS ?_
    · obtain ⟨s0, s1, s2, s3⟩ := hSw; go_simp
    refine wpAnyH_take (i := 11) (v := .slice (some ⟨b, off, none⟩) 4 c4) rfl (by kernel_rfl) (by kernel_rfl) (by kernel_rfl) (fun _ _ _ h => h) (Or.inl ⟨by rfl, fun ww hSw => ?_⟩) hS ?_
    · obtain ⟨s0, s1, s2, s3⟩ := hSw; go_simp
    refine wpAnyH_take (i := 12) (v := .pointer (some ⟨b, off + 3, none⟩)) rfl (by kernel_rfl) (by kernel_rfl) (by kernel_rfl) (fun _ _ _ h => h) (Or.inl ⟨by rfl, fun ww hSw => ?_⟩) hS ?_
    · obtain ⟨s0, s1, s2, s3⟩ := hSw; go_simp
    refine wpAnyH_take (i := 13) (v := .int .i64 l) rfl (by kernel_rfl) (by kernel_rfl) (by kernel_rfl) (fun _ _ _ h => h) (Or.inl ⟨by rfl, fun ww hSw => ?_⟩) hS ?_
    · obtain ⟨s0, s1, s2, s3⟩ := hSw; go_simp
    refine wpAnyH_ready (rs := [14]) (by kernel_rfl) (by simp) ?_
    refine AllReadyH.cons rfl (fun K hK => ?_) AllReadyH.nil
    go_simp
    refine (sCloseAmp_any A m c N L i j k l _ (h.after (Below.drew (b0 w)))).mono ?_
    rintro e w1 ⟨rfl, hb1⟩
    rw [L1.out, L2.out, L3.out]
    refine hK.out _ _ ⟨((bT (Below.drew (b0 w)) hb1).cell (p := ⟨b, off, none⟩) hbl).trans q0, ((bT (Below.drew (b0 w)) hb1).cell (p := ⟨b, off + 1, none⟩) hbl).trans q1, ((bT (Below.drew (b0 w)) hb1).cell (p := ⟨b, off + 2, none⟩) hbl).trans q2, ((bT (Below.drew (b0 w)) hb1).cell (p := ⟨b, off + 3, none⟩) hbl).trans q3⟩ (fun hS => ?_)
    clear hK K
    refine wpAnyH_take (i := 15) (v := .tuple #[.int .i64 y1, .int .i64 y2, .bool true]) rfl (by kernel_rfl) (by kernel_rfl) (by kernel_rfl) (fun _ _ _ h => h) (Or.inl ⟨by rfl, fun ww hSw => ?_⟩) hS ?_
    · obtain ⟨s0, s1, s2, s3⟩ := hSw; go_simp
    refine wpAnyH_take (i := 16) (v := .int .i64 y1) rfl (by kernel_rfl) (by kernel_rfl) (by kernel_rfl) (fun _ _ _ h => h) (Or.inl ⟨by rfl, fun ww hSw => ?_⟩) hS ?_
    · obtain ⟨s0, s1, s2, s3⟩ := hSw; go_simp
    refine wpAnyH_take (i := 17) (v := .int .i64 y2) rfl (by kernel_rfl) (by kernel_rfl) (by kernel_rfl) (fun _ _ _ h => h) (Or.inl ⟨by rfl, fun ww hSw => ?_⟩) hS ?_
    · obtain ⟨s0, s1, s2, s3⟩ := hSw; go_simp
    refine wpAnyH_take (i := 18) (v := .bool true) rfl (by kernel_rfl) (by kernel_rfl) (by kernel_rfl) (fun _ _ _ h => h) (Or.inl ⟨by rfl, fun ww hSw => ?_⟩) hS ?_
    · obtain ⟨s0, s1, s2, s3⟩ := hSw; go_simp
    refine wpAnyH_take (i := 19) (v := .int .i64 y1) rfl (by kernel_rfl) (by kernel_rfl) (by kernel_rfl) (fun _ _ _ h => h) (Or.inl ⟨by rfl, fun ww hSw => ?_⟩) hS ?_
    · obtain ⟨s0, s1, s2, s3⟩ := hSw; go_simp
    refine wpAnyH_take (i := 20) (v := .int .i64 y2) rfl (by kernel_rfl) (by kernel_rfl) (by kernel_rfl) (fun _ _ _ h => h) (Or.inl ⟨by rfl, fun ww hSw => ?_⟩) hS ?_
    · obtain ⟨s0, s1, s2, s3⟩ := hSw; go_simp
    refine wpAnyH_take (i := 21) (v := .bool true) rfl (by kernel_rfl) (by kernel_rfl) (by kernel_rfl) (fun _ _ _ h => h) (Or.inl ⟨by rfl, fun ww hSw => ?_⟩) hS ?_
    · obtain ⟨s0, s1, s2, s3⟩ := hSw; go_simp
    refine ⟨by kernel_rfl, ?_⟩
    clear hS
    have hB1 : Below w.heap.size w w1 := bT (Below.drew (b0 w)) hb1
    have hrM := h'.after hB1
    have r0' := (hB1.cell (p := ⟨b, off, none⟩) hbl).trans q0
    have r1' := (hB1.cell (p := ⟨b, off + 1, none⟩) hbl).trans q1
    have r2' := (hB1.cell (p := ⟨b, off + 2, none⟩) hbl).trans q2
    have r3' := (hB1.cell (p := ⟨b, off + 3, none⟩) hbl).trans q3
    have hbl2 : b < w1.heap.size := Nat.lt_of_lt_of_le hbl hB1.size
    clear q0 q1 q2 q3
    go_wp2_with fail
    refine wp_region_held_drew (S := fun W' => W'.cell? ⟨b, off, none⟩ = some (.int .i64 i) ∧ W'.cell? ⟨b, off + 1, none⟩ = some (.int .i64 j) ∧ W'.cell? ⟨b, off + 2, none⟩ = some (.int .i64 k) ∧ W'.cell? ⟨b, off + 3, none⟩ = some (.int .i64 l)) (by kernel_rfl) ⟨r0', r1', r2', r3'⟩ (fun hS => ?_)
    refine wpAnyH_take (i := 0) (v := .int .i64 N) rfl (by kernel_rfl) (by kernel_rfl) (by kernel_rfl) (fun _ _ _ h => h) (Or.inl ⟨by rfl, fun ww hSw => ?_⟩) hS ?_
    · obtain ⟨s0, s1, s2, s3⟩ := hSw; go_simp
    refine wpAnyH_take (i := 1) (v := .slice A' m' c') rfl (by kernel_rfl) (by kernel_rfl) (by kernel_rfl) (fun _ _ _ h => h) (Or.inl ⟨by rfl, fun ww hSw => ?_⟩) hS ?_
    · obtain ⟨s0, s1, s2, s3⟩ := hSw; go_simp
    refine wpAnyH_take (i := 2) (v := .slice (some ⟨b, off, none⟩) 4 c4) rfl (by kernel_rfl) (by kernel_rfl) (by kernel_rfl) (fun _ _ _ h => h) (Or.inl ⟨by rfl, fun ww hSw => ?_⟩) hS ?_
    · obtain ⟨s0, s1, s2, s3⟩ := hSw; go_simp
    refine wpAnyH_take (i := 3) (v := .pointer (some ⟨b, off, none⟩)) rfl (by kernel_rfl) (by kernel_rfl) (by kernel_rfl) (fun _ _ _ h => h) (Or.inl ⟨by rfl, fun ww hSw => ?_⟩) hS ?_
    · obtain ⟨s0, s1, s2, s3⟩ := hSw; go_simp
    refine wpAnyH_take (i := 4) (v := .int .i64 i) rfl (by kernel_rfl) (by kernel_rfl) (by kernel_rfl) (fun _ _ _ h => h) (Or.inl ⟨by rfl, fun ww hSw => ?_⟩) hS ?_
    · obtain ⟨s0, s1, s2, s3⟩ := hSw; go_simp
    refine wpAnyH_take (i := 5) (v := .slice (some ⟨b, off, none⟩) 4 c4) rfl (by kernel_rfl) (by kernel_rfl) (by kernel_rfl) (fun _ _ _ h => h) (Or.inl ⟨by rfl, fun ww hSw => ?_⟩) hS ?_
    · obtain ⟨s0, s1, s2, s3⟩ := hSw; go_simp
    refine wpAnyH_take (i := 6) (v := .pointer (some ⟨b, off + 1, none⟩)) rfl (by kernel_rfl) (by kernel_rfl) (by kernel_rfl) (fun _ _ _ h => h) (Or.inl ⟨by rfl, fun ww hSw => ?_⟩) hS ?_
    · obtain ⟨s0, s1, s2, s3⟩ := hSw; go_simp
    refine wpAnyH_take (i := 7) (v := .int .i64 j) rfl (by kernel_rfl) (by kernel_rfl) (by kernel_rfl) (fun _ _ _ h => h) (Or.inl ⟨by rfl, fun ww hSw => ?_⟩) hS ?_
    · obtain ⟨s0, s1, s2, s3⟩ := hSw; go_simp
    refine wpAnyH_take (i := 8) (v := .slice (some ⟨b, off, none⟩) 4 c4) rfl (by kernel_rfl) (by kernel_rfl) (by kernel_rfl) (fun _ _ _ h => h) (Or.inl ⟨by rfl, fun ww hSw => ?_⟩) hS ?_
    · obtain ⟨s0, s1, s2, s3⟩ := hSw; go_simp
    refine wpAnyH_take (i := 9) (v := .pointer (some ⟨b, off + 2, none⟩)) rfl (by kernel_rfl) (by kernel_rfl) (by kernel_rfl) (fun _ _ _ h => h) (Or.inl ⟨by rfl, fun ww hSw => ?_⟩) hS ?_
    · obtain ⟨s0, s1, s2, s3⟩ := hSw; go_simp
    refine wpAnyH_take (i := 10) (v := .int .i64 k) rfl (by kernel_rfl) (by kernel_rfl) (by kernel_rfl) (fun _ _ _ h => h) (Or.inl ⟨by rfl, fun ww hSw => ?_⟩) hS ?_
    · obtain ⟨s0, s1, s2, s3⟩ := hSw; go_simp
    refine wpAnyH_take (i := 11) (v := .slice (some ⟨b, off, none⟩) 4 c4) rfl (by kernel_rfl) (by kernel_rfl) (by kernel_rfl) (fun _ _ _ h => h) (Or.inl ⟨by rfl, fun ww hSw => ?_⟩) hS ?_
    · obtain ⟨s0, s1, s2, s3⟩ := hSw; go_simp
    refine wpAnyH_take (i := 12) (v := .pointer (some ⟨b, off + 3, none⟩)) rfl (by kernel_rfl) (by kernel_rfl) (by kernel_rfl) (fun _ _ _ h => h) (Or.inl ⟨by rfl, fun ww hSw => ?_⟩) hS ?_
    · obtain ⟨s0, s1, s2, s3⟩ := hSw; go_simp
    refine wpAnyH_take (i := 13) (v := .int .i64 l) rfl (by kernel_rfl) (by kernel_rfl) (by kernel_rfl) (fun _ _ _ h => h) (Or.inl ⟨by rfl, fun ww hSw => ?_⟩) hS ?_
    · obtain ⟨s0, s1, s2, s3⟩ := hSw; go_simp
    refine wpAnyH_ready (rs := [14]) (by kernel_rfl) (by simp) ?_
    refine AllReadyH.cons rfl (fun K hK => ?_) AllReadyH.nil
    go_simp
    refine (sCloseAmp_any A' m' c' N M i j k l _ (hrM.after (Below.drew (b0 w1)))).mono ?_
    rintro e w2 ⟨rfl, hb2⟩
    rw [M1.out, M2.out, M3.out]
    refine hK.out _ _ ⟨((bT (Below.drew (b0 w1)) hb2).cell (p := ⟨b, off, none⟩) hbl2).trans r0', ((bT (Below.drew (b0 w1)) hb2).cell (p := ⟨b, off + 1, none⟩) hbl2).trans r1', ((bT (Below.drew (b0 w1)) hb2).cell (p := ⟨b, off + 2, none⟩) hbl2).trans r2', ((bT (Below.drew (b0 w1)) hb2).cell (p := ⟨b, off + 3, none⟩) hbl2).trans r3'⟩ (fun hS => ?_)
    clear hK K
    refine wpAnyH_take (i := 15) (v := .tuple #[.int .i64 z1, .int .i64 z2, .bool true]) rfl (by kernel_rfl) (by kernel_rfl) (by kernel_rfl) (fun _ _ _ h => h) (Or.inl ⟨by rfl, fun ww hSw => ?_⟩) hS ?_
    · obtain ⟨s0, s1, s2, s3⟩ := hSw; go_simp
    refine wpAnyH_take (i := 16) (v := .int .i64 z1) rfl (by kernel_rfl) (by kernel_rfl) (by kernel_rfl) (fun _ _ _ h => h) (Or.inl ⟨by rfl, fun ww hSw => ?_⟩) hS ?_
    · obtain ⟨s0, s1, s2, s3⟩ := hSw; go_simp
    refine wpAnyH_take (i := 17) (v := .int .i64 z2) rfl (by kernel_rfl) (by kernel_rfl) (by kernel_rfl) (fun _ _ _ h => h) (Or.inl ⟨by rfl, fun ww hSw => ?_⟩) hS ?_
    · obtain ⟨s0, s1, s2, s3⟩ := hSw; go_simp
    refine wpAnyH_take (i := 18) (v := .bool true) rfl (by kernel_rfl) (by kernel_rfl) (by kernel_rfl) (fun _ _ _ h => h) (Or.inl ⟨by rfl, fun ww hSw => ?_⟩) hS ?_
    · obtain ⟨s0, s1, s2, s3⟩ := hSw; go_simp
    refine wpAnyH_take (i := 19) (v := .int .i64 z1) rfl (by kernel_rfl) (by kernel_rfl) (by kernel_rfl) (fun _ _ _ h => h) (Or.inl ⟨by rfl, fun ww hSw => ?_⟩) hS ?_
    · obtain ⟨s0, s1, s2, s3⟩ := hSw; go_simp
    refine wpAnyH_take (i := 20) (v := .int .i64 z2) rfl (by kernel_rfl) (by kernel_rfl) (by kernel_rfl) (fun _ _ _ h => h) (Or.inl ⟨by rfl, fun ww hSw => ?_⟩) hS ?_
    · obtain ⟨s0, s1, s2, s3⟩ := hSw; go_simp
    refine wpAnyH_take (i := 21) (v := .bool true) rfl (by kernel_rfl) (by kernel_rfl) (by kernel_rfl) (fun _ _ _ h => h) (Or.inl ⟨by rfl, fun ww hSw => ?_⟩) hS ?_
    · obtain ⟨s0, s1, s2, s3⟩ := hSw; go_simp
    refine ⟨by kernel_rfl, ?_⟩
    clear hS
    go_wp2_with fail
    go_ret
    exact BoolPost.no HE.out (bT hB1 (bT (Below.drew (b0 w1)) hb2))
  · have HE := Lib.hid (show ¬ ampE N L M i j k l from fun hc => by have := (hE.1 hc).2; simp at f2; exact f2 this)
    clear hE
    subst f0
    go_enter Try.func75, Try.ntmps75
    go_wp2_with fail
    refine wp_region_held_drew (S := fun W' => W'.cell? ⟨b, off, none⟩ = some (.int .i64 i) ∧ W'.cell? ⟨b, off + 1, none⟩ = some (.int .i64 j) ∧ W'.cell? ⟨b, off + 2, none⟩ = some (.int .i64 k) ∧ W'.cell? ⟨b, off + 3, none⟩ = some (.int .i64 l)) (by kernel_rfl) ⟨q0, q1, q2, q3⟩ (fun hS => ?_)
    refine wpAnyH_take (i := 0) (v := .int .i64 N) rfl (by kernel_rfl) (by kernel_rfl) (by kernel_rfl) (fun _ _ _ h => h) (Or.inl ⟨by rfl, fun ww hSw => ?_⟩) hS ?_
    · obtain ⟨s0, s1, s2, s3⟩ := hSw; go_simp
    refine wpAnyH_take (i := 1) (v := .slice A m c) rfl (by kernel_rfl) (by kernel_rfl) (by kernel_rfl) (fun _ _ _ h => h) (Or.inl ⟨by rfl, fun ww hSw => ?_⟩) hS ?_
    · obtain ⟨s0, s1, s2, s3⟩ := hSw; go_simp
    refine wpAnyH_take (i := 2) (v := .slice (some ⟨b, off, none⟩) 4 c4) rfl (by kernel_rfl) (by kernel_rfl) (by kernel_rfl) (fun _ _ _ h => h) (Or.inl ⟨by rfl, fun ww hSw => ?_⟩) hS ?_
    · obtain ⟨s0, s1, s2, s3⟩ := hSw; go_simp
    refine wpAnyH_take (i := 3) (v := .pointer (some ⟨b, off, none⟩)) rfl (by kernel_rfl) (by kernel_rfl) (by kernel_rfl) (fun _ _ _ h => h) (Or.inl ⟨by rfl, fun ww hSw => ?_⟩) hS ?_
    · obtain ⟨s0, s1, s2, s3⟩ := hSw; go_simp
    refine wpAnyH_take (i := 4) (v := .int .i64 i) rfl (by kernel_rfl) (by kernel_rfl) (by kernel_rfl) (fun _ _ _ h => h) (Or.inl ⟨by rfl, fun ww hSw => ?_⟩) hS ?_
    · obtain ⟨s0, s1, s2, s3⟩ := hSw; go_simp
    refine wpAnyH_take (i := 5) (v := .slice (some ⟨b, off, none⟩) 4 c4) rfl (by kernel_rfl) (by kernel_rfl) (by kernel_rfl) (fun _ _ _ h => h) (Or.inl ⟨by rfl, fun ww hSw => ?_⟩) hS ?_
    · obtain ⟨s0, s1, s2, s3⟩ := hSw; go_simp
    refine wpAnyH_take (i := 6) (v := .pointer (some ⟨b, off + 1, none⟩)) rfl (by kernel_rfl) (by kernel_rfl) (by kernel_rfl) (fun _ _ _ h => h) (Or.inl ⟨by rfl, fun ww hSw => ?_⟩) hS ?_
    · obtain ⟨s0, s1, s2, s3⟩ := hSw; go_simp
    refine wpAnyH_take (i := 7) (v := .int .i64 j) rfl (by kernel_rfl) (by kernel_rfl) (by kernel_rfl) (fun _ _ _ h => h) (Or.inl ⟨by rfl, fun ww hSw => ?_⟩) hS ?_
    · obtain ⟨s0, s1, s2, s3⟩ := hSw; go_simp
    refine wpAnyH_take (i := 8) (v := .slice (some ⟨b, off, none⟩) 4 c4) rfl (by kernel_rfl) (by kernel_rfl) (by kernel_rfl) (fun _ _ _ h => h) (Or.inl ⟨by rfl, fun ww hSw => ?_⟩) hS ?_
    · obtain ⟨s0, s1, s2, s3⟩ := hSw; go_simp
    refine wpAnyH_take (i := 9) (v := .pointer (some ⟨b, off + 2, none⟩)) rfl (by kernel_rfl) (by kernel_rfl) (by kernel_rfl) (fun _ _ _ h => h) (Or.inl ⟨by rfl, fun ww hSw => ?_⟩) hS ?_
    · obtain ⟨s0, s1, s2, s3⟩ := hSw; go_simp
    refine wpAnyH_take (i := 10) (v := .int .i64 k) rfl (by kernel_rfl) (by kernel_rfl) (by kernel_rfl) (fun _ _ _ h => h) (Or.inl ⟨by rfl, fun ww hSw => ?_⟩) hS ?_
    · obtain ⟨s0, s1, s2, s3⟩ := hSw; go_simp
    refine wpAnyH_take (i := 11) (v := .slice (some ⟨b, off, none⟩) 4 c4) rfl (by kernel_rfl) (by kernel_rfl) (by kernel_rfl) (fun _ _ _ h => h) (Or.inl ⟨by rfl, fun ww hSw => ?_⟩) hS ?_
    · obtain ⟨s0, s1, s2, s3⟩ := hSw; go_simp
    refine wpAnyH_take (i := 12) (v := .pointer (some ⟨b, off + 3, none⟩)) rfl (by kernel_rfl) (by kernel_rfl) (by kernel_rfl) (fun _ _ _ h => h) (Or.inl ⟨by rfl, fun ww hSw => ?_⟩) hS ?_
    · obtain ⟨s0, s1, s2, s3⟩ := hSw; go_simp
    refine wpAnyH_take (i := 13) (v := .int .i64 l) rfl (by kernel_rfl) (by kernel_rfl) (by kernel_rfl) (fun _ _ _ h => h) (Or.inl ⟨by rfl, fun ww hSw => ?_⟩) hS ?_
    · obtain ⟨s0, s1, s2, s3⟩ := hSw; go_simp
    refine wpAnyH_ready (rs := [14]) (by kernel_rfl) (by simp) ?_
    refine AllReadyH.cons rfl (fun K hK => ?_) AllReadyH.nil
    go_simp
    refine (sCloseAmp_any A m c N L i j k l _ (h.after (Below.drew (b0 w)))).mono ?_
    rintro e w1 ⟨rfl, hb1⟩
    rw [L1.out, L2.out, L3.out]
    refine hK.out _ _ ⟨((bT (Below.drew (b0 w)) hb1).cell (p := ⟨b, off, none⟩) hbl).trans q0, ((bT (Below.drew (b0 w)) hb1).cell (p := ⟨b, off + 1, none⟩) hbl).trans q1, ((bT (Below.drew (b0 w)) hb1).cell (p := ⟨b, off + 2, none⟩) hbl).trans q2, ((bT (Below.drew (b0 w)) hb1).cell (p := ⟨b, off + 3, none⟩) hbl).trans q3⟩ (fun hS => ?_)
    clear hK K
    refine wpAnyH_take (i := 15) (v := .tuple #[.int .i64 y1, .int .i64 y2, .bool true]) rfl (by kernel_rfl) (by kernel_rfl) (by kernel_rfl) (fun _ _ _ h => h) (Or.inl ⟨by rfl, fun ww hSw => ?_⟩) hS ?_
    · obtain ⟨s0, s1, s2, s3⟩ := hSw; go_simp
    refine wpAnyH_take (i := 16) (v := .int .i64 y1) rfl (by kernel_rfl) (by kernel_rfl) (by kernel_rfl) (fun _ _ _ h => h) (Or.inl ⟨by rfl, fun ww hSw => ?_⟩) hS ?_
    · obtain ⟨s0, s1, s2, s3⟩ := hSw; go_simp
    refine wpAnyH_take (i := 17) (v := .int .i64 y2) rfl (by kernel_rfl) (by kernel_rfl) (by kernel_rfl) (fun _ _ _ h => h) (Or.inl ⟨by rfl, fun ww hSw => ?_⟩) hS ?_
    · obtain ⟨s0, s1, s2, s3⟩ := hSw; go_simp
    refine wpAnyH_take (i := 18) (v := .bool true) rfl (by kernel_rfl) (by kernel_rfl) (by kernel_rfl) (fun _ _ _ h => h) (Or.inl ⟨by rfl, fun ww hSw => ?_⟩) hS ?_
    · obtain ⟨s0, s1, s2, s3⟩ := hSw; go_simp
    refine wpAnyH_take (i := 19) (v := .int .i64 y1) rfl (by kernel_rfl) (by kernel_rfl) (by kernel_rfl) (fun _ _ _ h => h) (Or.inl ⟨by rfl, fun ww hSw => ?_⟩) hS ?_
    · obtain ⟨s0, s1, s2, s3⟩ := hSw; go_simp
    refine wpAnyH_take (i := 20) (v := .int .i64 y2) rfl (by kernel_rfl) (by kernel_rfl) (by kernel_rfl) (fun _ _ _ h => h) (Or.inl ⟨by rfl, fun ww hSw => ?_⟩) hS ?_
    · obtain ⟨s0, s1, s2, s3⟩ := hSw; go_simp
    refine wpAnyH_take (i := 21) (v := .bool true) rfl (by kernel_rfl) (by kernel_rfl) (by kernel_rfl) (fun _ _ _ h => h) (Or.inl ⟨by rfl, fun ww hSw => ?_⟩) hS ?_
    · obtain ⟨s0, s1, s2, s3⟩ := hSw; go_simp
    refine ⟨by kernel_rfl, ?_⟩
    clear hS
    have hB1 : Below w.heap.size w w1 := bT (Below.drew (b0 w)) hb1
    have hrM := h'.after hB1
    have r0' := (hB1.cell (p := ⟨b, off, none⟩) hbl).trans q0
    have r1' := (hB1.cell (p := ⟨b, off + 1, none⟩) hbl).trans q1
    have r2' := (hB1.cell (p := ⟨b, off + 2, none⟩) hbl).trans q2
    have r3' := (hB1.cell (p := ⟨b, off + 3, none⟩) hbl).trans q3
    have hbl2 : b < w1.heap.size := Nat.lt_of_lt_of_le hbl hB1.size
    clear q0 q1 q2 q3
    go_wp2_with fail
    refine wp_region_held_drew (S := fun W' => W'.cell? ⟨b, off, none⟩ = some (.int .i64 i) ∧ W'.cell? ⟨b, off + 1, none⟩ = some (.int .i64 j) ∧ W'.cell? ⟨b, off + 2, none⟩ = some (.int .i64 k) ∧ W'.cell? ⟨b, off + 3, none⟩ = some (.int .i64 l)) (by kernel_rfl) ⟨r0', r1', r2', r3'⟩ (fun hS => ?_)
    refine wpAnyH_take (i := 0) (v := .int .i64 N) rfl (by kernel_rfl) (by kernel_rfl) (by kernel_rfl) (fun _ _ _ h => h) (Or.inl ⟨by rfl, fun ww hSw => ?_⟩) hS ?_
    · obtain ⟨s0, s1, s2, s3⟩ := hSw; go_simp
    refine wpAnyH_take (i := 1) (v := .slice A' m' c') rfl (by kernel_rfl) (by kernel_rfl) (by kernel_rfl) (fun _ _ _ h => h) (Or.inl ⟨by rfl, fun ww hSw => ?_⟩) hS ?_
    · obtain ⟨s0, s1, s2, s3⟩ := hSw; go_simp
    refine wpAnyH_take (i := 2) (v := .slice (some ⟨b, off, none⟩) 4 c4) rfl (by kernel_rfl) (by kernel_rfl) (by kernel_rfl) (fun _ _ _ h => h) (Or.inl ⟨by rfl, fun ww hSw => ?_⟩) hS ?_
    · obtain ⟨s0, s1, s2, s3⟩ := hSw; go_simp
    refine wpAnyH_take (i := 3) (v := .pointer (some ⟨b, off, none⟩)) rfl (by kernel_rfl) (by kernel_rfl) (by kernel_rfl) (fun _ _ _ h => h) (Or.inl ⟨by rfl, fun ww hSw => ?_⟩) hS ?_
    · obtain ⟨s0, s1, s2, s3⟩ := hSw; go_simp
    refine wpAnyH_take (i := 4) (v := .int .i64 i) rfl (by kernel_rfl) (by kernel_rfl) (by kernel_rfl) (fun _ _ _ h => h) (Or.inl ⟨by rfl, fun ww hSw => ?_⟩) hS ?_
    · obtain ⟨s0, s1, s2, s3⟩ := hSw; go_simp
    refine wpAnyH_take (i := 5) (v := .slice (some ⟨b, off, none⟩) 4 c4) rfl (by kernel_rfl) (by kernel_rfl) (by kernel_rfl) (fun _ _ _ h => h) (Or.inl ⟨by rfl, fun ww hSw => ?_⟩) hS ?_
    · obtain ⟨s0, s1, s2, s3⟩ := hSw; go_simp
    refine wpAnyH_take (i := 6) (v := .pointer (some ⟨b, off + 1, none⟩)) rfl (by kernel_rfl) (by kernel_rfl) (by kernel_rfl) (fun _ _ _ h => h) (Or.inl ⟨by rfl, fun ww hSw => ?_⟩) hS ?_
    · obtain ⟨s0, s1, s2, s3⟩ := hSw; go_simp
    refine wpAnyH_take (i := 7) (v := .int .i64 j) rfl (by kernel_rfl) (by kernel_rfl) (by kernel_rfl) (fun _ _ _ h => h) (Or.inl ⟨by rfl, fun ww hSw => ?_⟩) hS ?_
    · obtain ⟨s0, s1, s2, s3⟩ := hSw; go_simp
    refine wpAnyH_take (i := 8) (v := .slice (some ⟨b, off, none⟩) 4 c4) rfl (by kernel_rfl) (by kernel_rfl) (by kernel_rfl) (fun _ _ _ h => h) (Or.inl ⟨by rfl, fun ww hSw => ?_⟩) hS ?_
    · obtain ⟨s0, s1, s2, s3⟩ := hSw; go_simp
    refine wpAnyH_take (i := 9) (v := .pointer (some ⟨b, off + 2, none⟩)) rfl (by kernel_rfl) (by kernel_rfl) (by kernel_rfl) (fun _ _ _ h => h) (Or.inl ⟨by rfl, fun ww hSw => ?_⟩) hS ?_
    · obtain ⟨s0, s1, s2, s3⟩ := hSw; go_simp
    refine wpAnyH_take (i := 10) (v := .int .i64 k) rfl (by kernel_rfl) (by kernel_rfl) (by kernel_rfl) (fun _ _ _ h => h) (Or.inl ⟨by rfl, fun ww hSw => ?_⟩) hS ?_
    · obtain ⟨s0, s1, s2, s3⟩ := hSw; go_simp
    refine wpAnyH_take (i := 11) (v := .slice (some ⟨b, off, none⟩) 4 c4) rfl (by kernel_rfl) (by kernel_rfl) (by kernel_rfl) (fun _ _ _ h => h) (Or.inl ⟨by rfl, fun ww hSw => ?_⟩) hS ?_
    · obtain ⟨s0, s1, s2, s3⟩ := hSw; go_simp
    refine wpAnyH_take (i := 12) (v := .pointer (some ⟨b, off + 3, none⟩)) rfl (by kernel_rfl) (by kernel_rfl) (by kernel_rfl) (fun _ _ _ h => h) (Or.inl ⟨by rfl, fun ww hSw => ?_⟩) hS ?_
    · obtain ⟨s0, s1, s2, s3⟩ := hSw; go_simp
    refine wpAnyH_take (i := 13) (v := .int .i64 l) rfl (by kernel_rfl) (by kernel_rfl) (by kernel_rfl) (fun _ _ _ h => h) (Or.inl ⟨by rfl, fun ww hSw => ?_⟩) hS ?_
    · obtain ⟨s0, s1, s2, s3⟩ := hSw; go_simp
    refine wpAnyH_ready (rs := [14]) (by kernel_rfl) (by simp) ?_
    refine AllReadyH.cons rfl (fun K hK => ?_) AllReadyH.nil
    go_simp
    refine (sCloseAmp_any A' m' c' N M i j k l _ (hrM.after (Below.drew (b0 w1)))).mono ?_
    rintro e w2 ⟨rfl, hb2⟩
    rw [M1.out, M2.out, M3.out]
    refine hK.out _ _ ⟨((bT (Below.drew (b0 w1)) hb2).cell (p := ⟨b, off, none⟩) hbl2).trans r0', ((bT (Below.drew (b0 w1)) hb2).cell (p := ⟨b, off + 1, none⟩) hbl2).trans r1', ((bT (Below.drew (b0 w1)) hb2).cell (p := ⟨b, off + 2, none⟩) hbl2).trans r2', ((bT (Below.drew (b0 w1)) hb2).cell (p := ⟨b, off + 3, none⟩) hbl2).trans r3'⟩ (fun hS => ?_)
    clear hK K
    refine wpAnyH_take (i := 15) (v := .tuple #[.int .i64 z1, .int .i64 z2, .bool true]) rfl (by kernel_rfl) (by kernel_rfl) (by kernel_rfl) (fun _ _ _ h => h) (Or.inl ⟨by rfl, fun ww hSw => ?_⟩) hS ?_
    · obtain ⟨s0, s1, s2, s3⟩ := hSw; go_simp
    refine wpAnyH_take (i := 16) (v := .int .i64 z1) rfl (by kernel_rfl) (by kernel_rfl) (by kernel_rfl) (fun _ _ _ h => h) (Or.inl ⟨by rfl, fun ww hSw => ?_⟩) hS ?_
    · obtain ⟨s0, s1, s2, s3⟩ := hSw; go_simp
    refine wpAnyH_take (i := 17) (v := .int .i64 z2) rfl (by kernel_rfl) (by kernel_rfl) (by kernel_rfl) (fun _ _ _ h => h) (Or.inl ⟨by rfl, fun ww hSw => ?_⟩) hS ?_
    · obtain ⟨s0, s1, s2, s3⟩ := hSw; go_simp
    refine wpAnyH_take (i := 18) (v := .bool true) rfl (by kernel_rfl) (by kernel_rfl) (by kernel_rfl) (fun _ _ _ h => h) (Or.inl ⟨by rfl, fun ww hSw => ?_⟩) hS ?_
    · obtain ⟨s0, s1, s2, s3⟩ := hSw; go_simp
    refine wpAnyH_take (i := 19) (v := .int .i64 z1) rfl (by kernel_rfl) (by kernel_rfl) (by kernel_rfl) (fun _ _ _ h => h) (Or.inl ⟨by rfl, fun ww hSw => ?_⟩) hS ?_
    · obtain ⟨s0, s1, s2, s3⟩ := hSw; go_simp
    refine wpAnyH_take (i := 20) (v := .int .i64 z2) rfl (by kernel_rfl) (by kernel_rfl) (by kernel_rfl) (fun _ _ _ h => h) (Or.inl ⟨by rfl, fun ww hSw => ?_⟩) hS ?_
    · obtain ⟨s0, s1, s2, s3⟩ := hSw; go_simp
    refine wpAnyH_take (i := 21) (v := .bool true) rfl (by kernel_rfl) (by kernel_rfl) (by kernel_rfl) (fun _ _ _ h => h) (Or.inl ⟨by rfl, fun ww hSw => ?_⟩) hS ?_
    · obtain ⟨s0, s1, s2, s3⟩ := hSw; go_simp
    refine ⟨by kernel_rfl, ?_⟩
    clear hS
    go_wp2_with fail
    go_ret
    exact BoolPost.no HE.out (bT hB1 (bT (Below.drew (b0 w1)) hb2))
def phAll (n : Int) (A B : List (Int × Int)) : Prop := ∀ i j k : Nat, i < j → j < k → (k : Int) < n → Vm.loopP n A [(i : Int), (j : Int), (k : Int)] = Vm.loopP n B [(i : Int), (j : Int), (k : Int)]
set_option maxHeartbeats 4000000 in
theorem l13Phases_any (A A' : Option Addr) (m c m' c' N : Nat) (L M : List (Int × Int)) (w : World) (h : Rd w w.heap.size 2 A m c (cp L)) (h' : Rd w w.heap.size 2 A' m' c' (cp M)) (N7 : N ≤ 7) :
    Calls Try.prog 74 #[.int .i64 N, .slice A m c, .slice A' m' c'] w (BoolPost (phAll N L M) w) := by
  have hB0 := b0 w
  go_enter Try.func74, Try.ntmps74
  go_wp2_with fail
  go_loopw [7] (fun v wr => ∃ i : Nat, i ≤ N ∧ v = .int .i64 i ∧ Hid (∀ i' j k : Nat, i' < i → i' < j → j < k → k < N → Vm.loopP N L [(i' : Int), (j : Int), (k : Int)] = Vm.loopP N M [(i' : Int), (j : Int), (k : Int)]) ∧ Below w.heap.size w wr) (fun v _ => N - (intOf v).toNat)
  case atStart => exact ⟨0, Nat.zero_le _, rfl, fun i' j k hi => by omega, hB0⟩
  case round =>
    clear hB0
    obtain ⟨i, hi, rfl, hI, hB⟩ := hrel
    by_cases hil : i < N
    · go_wp2_with fail
      go_loopw [8] (fun v wr => ∃ j : Nat, i < j ∧ j ≤ N ∧ v = .int .i64 j ∧ Hid (∀ j' k : Nat, i < j' → j' < j → j' < k → k < N → Vm.loopP N L [(i : Int), (j' : Int), (k : Int)] = Vm.loopP N M [(i : Int), (j' : Int), (k : Int)]) ∧ Below w.heap.size w wr) (fun v _ => N - (intOf v).toNat)
      case atStart => exact ⟨i + 1, by omega, by omega, by go_num, fun j' k h1 h2 => by omega, hB⟩
      case round =>
        clear hB
        obtain ⟨j, hij, hj, rfl, hJ, hB⟩ := hrel
        by_cases hjl : j < N
        · go_wp2_with fail
          go_loopw [9] (fun v wr => ∃ k : Nat, j < k ∧ k ≤ N ∧ v = .int .i64 k ∧ Hid (∀ k' : Nat, j < k' → k' < k → Vm.loopP N L [(i : Int), (j : Int), (k' : Int)] = Vm.loopP N M [(i : Int), (j : Int), (k' : Int)]) ∧ Below w.heap.size w wr) (fun v _ => N - (intOf v).toNat)
          case atStart => exact ⟨j + 1, by omega, by omega, by go_num, fun k' h1 h2 => by omega, hB⟩
          case round =>
            clear hB
            obtain ⟨k, hjk, hk, rfl, hK, hB⟩ := hrel
            by_cases hkl : k < N
            · obtain ⟨p1, p2⟩ := loopP_rg N L [(i : Int), (j : Int), (k : Int)]
              obtain ⟨q1, q2⟩ := loopP_rg N M [(i : Int), (j : Int), (k : Int)]
              obtain ⟨p, hp⟩ : ∃ x, Vm.loopP N L [(i : Int), (j : Int), (k : Int)] = x := ⟨_, rfl⟩
              obtain ⟨q, hq⟩ : ∃ x, Vm.loopP N M [(i : Int), (j : Int), (k : Int)] = x := ⟨_, rfl⟩
              rw [hp] at p1 p2
              rw [hq] at q1 q2
              have P1 := Lib.hid hp
              have Q1 := Lib.hid hq
              clear hp hq
              by_cases he : p = q
              · have hd : (p != q) = false := by simp [he]
                have HK := Lib.hid (show ∀ k' : Nat, j < k' → k' < k + 1 → Vm.loopP N L [(i : Int), (j : Int), (k' : Int)] = Vm.loopP N M [(i : Int), (j : Int), (k' : Int)] from fun k' h1 h2 => by
                  by_cases e : k' = k
                  · rw [e, P1.out, Q1.out, he]
                  · exact hK.out k' h1 (by omega))
                clear he
                go_wp2_with fail
                refine (sClosePhase_any A m c N i j k L _ ((h.below hB).more hB.size)).mono ?_
                rintro e w1 ⟨rfl, hB1⟩
                rw [P1.out]
                have hB2 := bT hB hB1
                go_wp2_with fail
                refine (sClosePhase_any A' m' c' N i j k M _ ((h'.below hB2).more hB2.size)).mono ?_
                rintro e w2 ⟨rfl, hB3⟩
                rw [Q1.out]
                have hB4 := bT hB2 hB3
                clear hB hB1 hB2 hB3
                go_wp2_with fail
                go_roundw
                case rel => exact ⟨k + 1, by omega, by omega, by go_num, HK, hB4⟩
                case measure => simp [intOf]; omega
              · have hd : (p != q) = true := by simp [he]
                have H := Lib.hid (show ¬ phAll N L M from fun hc => he (by rw [← P1.out, ← Q1.out]; exact hc i j k hij hjk (by omega)))
                clear he
                go_wp2_with fail
                refine (sClosePhase_any A m c N i j k L _ ((h.below hB).more hB.size)).mono ?_
                rintro e w1 ⟨rfl, hB1⟩
                rw [P1.out]
                have hB2 := bT hB hB1
                go_wp2_with fail
                refine (sClosePhase_any A' m' c' N i j k M _ ((h'.below hB2).more hB2.size)).mono ?_
                rintro e w2 ⟨rfl, hB3⟩
                rw [Q1.out]
                have hB4 := bT hB2 hB3
                clear hB hB1 hB2 hB3
                go_wp2_with fail
                go_ret
                exact BoolPost.no H.out hB4
            · have HJ := Lib.hid (show ∀ j' k : Nat, i < j' → j' < j + 1 → j' < k → k < N → Vm.loopP N L [(i : Int), (j' : Int), (k : Int)] = Vm.loopP N M [(i : Int), (j' : Int), (k : Int)] from fun j' k' h1 h2 h3 h4 => by
                by_cases e : j' = j
                · subst e; exact hK.out k' h3 (by omega)
                · exact hJ.out j' k' h1 (by omega) h3 h4)
              go_wp2_with fail
              go_roundw
              case rel => exact ⟨j + 1, by omega, by omega, by go_num, HJ, hB⟩
              case measure => simp [intOf]; omega
        · have HI := Lib.hid (show ∀ i' j k : Nat, i' < i + 1 → i' < j → j < k → k < N → Vm.loopP N L [(i' : Int), (j : Int), (k : Int)] = Vm.loopP N M [(i' : Int), (j : Int), (k : Int)] from fun i' j' k' h1 h2 h3 h4 => by
            by_cases e : i' = i
            · subst e; exact hJ.out j' k' h2 (by omega) h3 h4
            · exact hI.out i' j' k' (by omega) h2 h3 h4)
          go_wp2_with fail
          go_roundw
          case rel => exact ⟨i + 1, by omega, by go_num, HI, hB⟩
          case measure => simp [intOf]; omega
    · have H := Lib.hid (show phAll N L M from fun i' j' k' h1 h2 h3 => hI.out i' j' k' (by omega) h1 h2 (by omega))
      go_wp2_with fail
      go_ret
      exact BoolPost.yes H.out hB
theorem sameP_iff2 {N : Nat} {A B : List (Int × Int)} (hA : Vm.visB N A = true) (hB : Vm.visB N B = true) : Vm.SameP N A B ↔ phAll N A B ∧ ∀ i j k l : Nat, i < N → j < N → k < N → l < N → ampE N A B i j k l := by
  constructor
  · rintro ⟨_, _, h1, h2⟩
    exact ⟨fun i j k hij hjk hk => h1 i j k (by omega) (by omega) hk, fun i j k l hi hj hk hl => h2 i j k l (by omega) (by omega) (by omega) (by omega)⟩
  · rintro ⟨h1, h2⟩
    exact ⟨hA, hB, fun i j k _ _ _ => Vm.sorted_all hA hB h1 i j k, fun i j k l hi hj hk hl => h2 i j k l (by omega) (by omega) (by omega) (by omega)⟩
set_option maxHeartbeats 8000000 in
theorem sCloseSame_any (A A' : Option Addr) (m c m' c' : Nat) (n : Int) (L M : List (Int × Int)) (w : World) (h : Rd w w.heap.size 2 A m c (cp L)) (h' : Rd w w.heap.size 2 A' m' c' (cp M)) :
    Calls Try.prog 43 #[.int .i64 n, .slice A m c, .slice A' m' c'] w (BoolPost (Vm.SameP n L M) w) := by
  cases hv : Vm.visB n L
  · have H := Lib.hid (show ¬ Vm.SameP n L M from fun hc => by have := hc.1; rw [hv] at this; cases this)
    go_enter Try.func43, Try.ntmps43
    go_wp2_with (go_at_call 59; refine (sVisValid_any _ _ _ n L _ h).mono ?_; rintro e w' ⟨rfl, rfl⟩)
    go_ret
    exact BoolPost.no H.out (b0 _)
  · have HV := Lib.hid hv
    cases hv' : Vm.visB n M
    · have H := Lib.hid (show ¬ Vm.SameP n L M from fun hc => by have := hc.2.1; rw [hv'] at this; cases this)
      have HV' := Lib.hid hv'
      clear hv hv'
      go_enter Try.func43, Try.ntmps43
      go_wp2_with fail
      refine (sVisValid_any _ _ _ n L _ h).mono ?_
      rintro e w' ⟨rfl, rfl⟩
      rw [HV.out]
      go_wp2_with fail
      refine (sVisValid_any _ _ _ n M _ h').mono ?_
      rintro e w' ⟨rfl, rfl⟩
      rw [HV'.out]
      go_wp2_with fail
      go_ret
      exact BoolPost.no H.out (b0 _)
    · obtain ⟨N, rfl, hO⟩ := Vm.Ok.of hv
      have HV' := Lib.hid hv'
      have N7 := hO.hi
      have HQ := Lib.hid (sameP_iff2 hv hv')
      clear hv hv' hO
      go_enter Try.func43, Try.ntmps43
      go_wp2_with fail
      refine (sVisValid_any _ _ _ N L _ h).mono ?_
      rintro e w' ⟨rfl, rfl⟩
      rw [HV.out]
      go_wp2_with fail
      refine (sVisValid_any _ _ _ N M _ h').mono ?_
      rintro e w' ⟨rfl, rfl⟩
      rw [HV'.out]
      go_wp2_with fail
      refine (l13Phases_any A A' m c m' c' N L M _ h h' N7).mono ?_
      rintro e w1 ⟨b, rfl, hb, hB0⟩
      have HBb := Lib.hid hb
      clear hb
      cases b
      · have H := Lib.hid (show ¬ Vm.SameP N L M from fun hc => by
          have := HBb.out.2 (HQ.out.1 hc).1
          cases this)
        go_wp2_with fail
        go_ret
        exact BoolPost.no H.out hB0
      · have HP := Lib.hid (HBb.out.1 rfl)
        go_wp2_with fail
        go_loopw [7] (fun v wr => ∃ i : Nat, i ≤ N ∧ v = .int .i64 i ∧ Hid (∀ i' j k l : Nat, i' < i → j < N → k < N → l < N → ampE N L M i' j k l) ∧ Below w.heap.size w wr) (fun v _ => N - (intOf v).toNat)
        case atStart => exact ⟨0, Nat.zero_le _, rfl, fun i' j k l hi => by omega, hB0⟩
        case round =>
          clear hB0
          obtain ⟨i, hi, rfl, hI, hB⟩ := hrel
          by_cases hil : i < N
          · go_wp2_with fail
            go_loopw [8] (fun v wr => ∃ j : Nat, j ≤ N ∧ v = .int .i64 j ∧ Hid (∀ j' k l : Nat, j' < j → k < N → l < N → ampE N L M i j' k l) ∧ Below w.heap.size w wr) (fun v _ => N - (intOf v).toNat)
            case atStart => exact ⟨0, Nat.zero_le _, rfl, fun j' k l hj => by omega, hB⟩
            case round =>
              clear hB
              obtain ⟨j, hj, rfl, hJ, hB⟩ := hrel
              by_cases hjl : j < N
              · go_wp2_with fail
                go_loopw [9] (fun v wr => ∃ k : Nat, k ≤ N ∧ v = .int .i64 k ∧ Hid (∀ k' l : Nat, k' < k → l < N → ampE N L M i j k' l) ∧ Below w.heap.size w wr) (fun v _ => N - (intOf v).toNat)
                case atStart => exact ⟨0, Nat.zero_le _, rfl, fun k' l hk => by omega, hB⟩
                case round =>
                  clear hB
                  obtain ⟨k, hk, rfl, hK, hB⟩ := hrel
                  by_cases hkl : k < N
                  · go_wp2_with fail
                    go_loopw [10] (fun v wr => ∃ l : Nat, l ≤ N ∧ v = .int .i64 l ∧ Hid (∀ l' : Nat, l' < l → ampE N L M i j k l') ∧ Below w.heap.size w wr) (fun v _ => N - (intOf v).toNat)
                    case atStart => exact ⟨0, Nat.zero_le _, rfl, fun l' hl => by omega, hB⟩
                    case round =>
                      clear hB
                      obtain ⟨l, hl, rfl, hL, hB⟩ := hrel
                      by_cases hll : l < N
                      · have hB1 := bA hB (.cells #[.int .i64 i, .int .i64 j, .int .i64 k, .int .i64 l] 3)
                        go_wp2_with fail
                        refine (l13Four_any A A' (some ⟨wr.heap.size, 0, none⟩) m c m' c' 4 4 N L M i j k l _ ((h.below hB1).more hB1.size) ((h'.below hB1).more hB1.size) ((rd4 wr i j k l _).more (by simp)) HV.out HV'.out).mono ?_
                        rintro e w2 ⟨b, rfl, hb, hB2⟩
                        have HBb2 := Lib.hid hb
                        have hB3 := bT hB1 hB2
                        clear hb hB hB1 hB2
                        cases b
                        · have H := Lib.hid (show ¬ Vm.SameP N L M from fun hc => by
                            have := HBb2.out.2 ((HQ.out.1 hc).2 i j k l hil hjl hkl hll)
                            cases this)
                          go_wp2_with fail
                          go_ret
                          exact BoolPost.no H.out hB3
                        · have HL := Lib.hid (show ∀ l' : Nat, l' < l + 1 → ampE N L M i j k l' from fun l' hl' => by
                            by_cases e : l' = l
                            · rw [e]; exact HBb2.out.1 rfl
                            · exact hL.out l' (by omega))
                          go_wp2_with fail
                          go_roundw
                          case rel => exact ⟨l + 1, by omega, by go_num, HL, hB3⟩
                          case measure => simp [intOf]; omega
                      · have HK := Lib.hid (show ∀ k' l : Nat, k' < k + 1 → l < N → ampE N L M i j k' l from fun k' l' hk' hl' => by
                          by_cases e : k' = k
                          · rw [e]; exact hL.out l' (by omega)
                          · exact hK.out k' l' (by omega) hl')
                        go_wp2_with fail
                        go_roundw
                        case rel => exact ⟨k + 1, by omega, by go_num, HK, hB⟩
                        case measure => simp [intOf]; omega
                  · have HJ := Lib.hid (show ∀ j' k l : Nat, j' < j + 1 → k < N → l < N → ampE N L M i j' k l from fun j' k' l' hj' hk' hl' => by
                      by_cases e : j' = j
                      · rw [e]; exact hK.out k' l' (by omega) hl'
                      · exact hJ.out j' k' l' (by omega) hk' hl')
                    go_wp2_with fail
                    go_roundw
                    case rel => exact ⟨j + 1, by omega, by go_num, HJ, hB⟩
                    case measure => simp [intOf]; omega
              · have HI := Lib.hid (show ∀ i' j k l : Nat, i' < i + 1 → j < N → k < N → l < N → ampE N L M i' j k l from fun i' j' k' l' hi' hj' hk' hl' => by
                  by_cases e : i' = i
                  · rw [e]; exact hJ.out j' k' l' (by omega) hk' hl'
                  · exact hI.out i' j' k' l' (by omega) hj' hk' hl')
                go_wp2_with fail
                go_roundw
                case rel => exact ⟨i + 1, by omega, by go_num, HI, hB⟩
                case measure => simp [intOf]; omega
          · have H := Lib.hid (show Vm.SameP N L M from HQ.out.2 ⟨HP.out, fun i' j' k' l' hi' hj' hk' hl' => hI.out i' j' k' l' (by omega) hj' hk' hl'⟩)
            go_wp2_with fail
            go_ret
            exact BoolPost.yes H.out hB

end Go.Proofs.Ytgipjfcmgmbcnaa
