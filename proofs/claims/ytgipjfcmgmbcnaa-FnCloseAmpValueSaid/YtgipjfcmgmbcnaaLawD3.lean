/- The law FnCloseAmpValue. Written by lawsD3.py. -/
import Derived.Test.YtgipjfcmgmbcnaaAmpS
import Derived.Test.YtgipjfcmgmbcnaaSwap2
namespace Go.Proofs.Ytgipjfcmgmbcnaa
open Go.RowKit

def AmpDrawn (w : World) (e : Ending) (w' : World) : Prop := ∃ (n : Nat) (A : Option Addr) (m c : Nat) (L : List (Int × Int)) (i j k l : Int), e = .returned (.tuple #[.int .i64 n, .slice A m c, .int .i64 i, .int .i64 j, .int .i64 k, .int .i64 l]) ∧ Rd w' w'.heap.size 2 A m c (cp L) ∧ Below w.heap.size w w'
set_option maxHeartbeats 1000000 in
theorem DrawCloseAmp_any (A : Option Addr) (n c : Nat) (bs : List Int) (w : World) (h : Rd w w.heap.size 1 A n c (cb bs)) (hx : ∀ x ∈ bs, 0 ≤ x ∧ x ≤ 255) (hn : n ≤ 1048576) : Calls Try.prog 39 #[.slice A n c] w (AmpDrawn w) := by
  have HX := Lib.hid hx
  clear hx
  go_enter Try.func39, Try.ntmps39
  go_wp2_with fail
  refine (l6Open_any _ _ _ bs _ h HX.out hn).mono ?_
  rintro e w1 ⟨rfl, hr, hb⟩
  have hR1 := hr.lt
  go_wp2_with fail
  refine (l92Many_any _ _ _ 4 _ hr (by omega) (by omega) (by omega)).mono ?_
  rintro e w2 ⟨N, v, L, N2, N7, N4, rfl, hD⟩
  obtain ⟨A', c', rfl⟩ := own_form hD.own
  go_wp2_with fail
  refine (l92Apart_any _ _ _ N 4 _ hD.rdr (by omega) (by omega) (by omega) (by omega) (by omega)).mono ?_
  rintro e w3 ⟨g, c3, l, hl, rfl, hD3⟩
  obtain ⟨d0, _⟩ := hD3.cell 0 (by omega) hl
  obtain ⟨d1, _⟩ := hD3.cell 1 (by omega) hl
  obtain ⟨d2, _⟩ := hD3.cell 2 (by omega) hl
  obtain ⟨d3, _⟩ := hD3.cell 3 (by omega) hl
  have hK := (KRd.of_own hD.own hD.lt).next hD3.grown
  have hrd := hK.rd
  have hB3 := below_of_g (below_of_g hb hD.grown (Nat.le_refl _)) hD3.grown (Nat.le_refl _)
  clear hK hD hD3 hl hb hr
  obtain ⟨x0, hx0⟩ : ∃ x, l.getD 0 0 = x := ⟨_, rfl⟩
  obtain ⟨x1, hx1⟩ : ∃ x, l.getD 1 0 = x := ⟨_, rfl⟩
  obtain ⟨x2, hx2⟩ : ∃ x, l.getD 2 0 = x := ⟨_, rfl⟩
  obtain ⟨x3, hx3⟩ : ∃ x, l.getD 3 0 = x := ⟨_, rfl⟩
  rw [hx0] at d0
  rw [hx1] at d1
  rw [hx2] at d2
  rw [hx3] at d3
  clear hx0 hx1 hx2 hx3
  go_wp2_with fail
  go_quiet (fail)
  go_wp2_with fail
  refine bodyPost_ret (v := .tuple #[.int .i64 N, .slice A' L.length c', .int .i64 x0, .int .i64 x1, .int .i64 x2, .int .i64 x3]) (by simp [results, Try.results39, go_sem]) rfl ?_
  exact ⟨N, _, _, _, L, x0, x1, x2, x3, rfl, hrd.after (bD (b0 _) _), bD hB3 _⟩
/-- The numbers of the law. -/
theorem amp_law {n : Int} {L : List (Int × Int)} {i j k l : Int} (h : Vm.ampB n L i j k l = true) {a b c d : Int} (ha : (Vm.vget n L i j).1 = a) (hb : (Vm.vget n L k l).1 = b) (hc : (Vm.vget n L i k).1 = c) (hd : (Vm.vget n L j l).1 = d) :
    (0 ≤ Vm.ampP n L i j k l * c ∧ Vm.ampP n L i j k l * c ≤ 1000000000000000000) ∧ (0 ≤ Vm.ampQ n L i j k l * a ∧ Vm.ampQ n L i j k l * a ≤ 1000000000000000000) ∧ Vm.ampP n L i j k l * c * d = Vm.ampQ n L i j k l * a * b := by
  obtain ⟨⟨p1, p2⟩, q1, q2⟩ := ampQ_rng n L i j k l
  obtain ⟨h1, h2⟩ := (Vm.ampB_iff _ _ _ _ _ _).1 h
  obtain ⟨ri, rj, rk, rl, d1, d2, d3, d4, d5, d6⟩ := Vm.ap4 h2
  have ra : 1 ≤ a ∧ a ≤ 1000000 := by rw [← ha]; exact Vm.am_rng h1 ri rj d1
  have rc : 1 ≤ c ∧ c ≤ 1000000 := by rw [← hc]; exact Vm.am_rng h1 ri rk d2
  obtain ⟨⟨t1, _⟩, b1, _⟩ := Vm.amp_rng h
  have hx := Vm.red_cross t1 b1
  rw [← Vm.ampP_yes h, ← Vm.ampQ_yes h] at hx
  have e1 : Vm.abot n L i j k l = c * d := by unfold Vm.abot Vm.am; rw [hc, hd]
  have e2 : Vm.atop n L i j k l = a * b := by unfold Vm.atop Vm.am; rw [ha, hb]
  rw [e1, e2] at hx
  refine ⟨⟨Int.mul_nonneg p1 (by omega), ?_⟩, ⟨Int.mul_nonneg q1 (by omega), ?_⟩, by rw [Int.mul_assoc, hx, Int.mul_assoc]⟩
  · have : Vm.ampP n L i j k l * c ≤ 1000000000000 * c := Int.mul_le_mul_of_nonneg_right p2 (by omega)
    omega
  · have : Vm.ampQ n L i j k l * a ≤ 1000000000000 * a := Int.mul_le_mul_of_nonneg_right q2 (by omega)
    omega
set_option maxRecDepth 100000 in
set_option maxHeartbeats 4000000 in
theorem law_closeAmpValue (A : Option Addr) (n c : Nat) (bs : List Int) (w : World) (h : Rd w w.heap.size 1 A n c (cb bs)) (hx : ∀ x ∈ bs, 0 ≤ x ∧ x ≤ 255) :
    Calls Try.prog 13 #[.slice A n c] w fun e w' => e = .returned (.bool true) ∧ Below w.heap.size w w' := by
  have hm := h.most
  have hcap := h.cap
  have HX := Lib.hid hx
  clear hx
  by_cases hz0 : 1048576 < n
  · have hd0 : decide ((1048576 : Int) < (n : Int)) = true := by simp; omega
    clear hz0
    go_enter Try.func13, Try.ntmps13
    go_wp2
    go_ret
    exact ⟨rfl, b0 _⟩
  have hd0 : decide ((1048576 : Int) < (n : Int)) = false := by simp; omega
  go_enter Try.func13, Try.ntmps13
  go_wp2_with fail
  refine (DrawCloseAmp_any _ _ _ bs _ h HX.out (by omega)).mono ?_
  rintro e w1 ⟨N, A1, m1, c1, L, i, j, k, l, rfl, hr, hB⟩
  go_wp2_with fail
  with_reducible refine (CloseAmp_any _ _ _ N L i j k l _ hr).mono ?_
  rintro e w2 ⟨rfl, hB2⟩
  replace hr := hr.after hB2
  replace hB := bT hB hB2
  clear hB2
  go_wp2_with fail
  with_reducible refine (sCloseAmp_any _ _ _ N L i j k l _ hr).mono ?_
  rintro e w3 ⟨rfl, hB3⟩
  replace hr := hr.after hB3
  replace hB := bT hB hB3
  clear hB3
  obtain ⟨⟨o1, o2⟩, o3, o4⟩ := ampQ_rng N L i j k l
  have hlaw := fun h a b c d => @amp_law N L i j k l h a b c d
  obtain ⟨x, hx⟩ : ∃ o, Vm.ampP N L i j k l = o := ⟨_, rfl⟩
  obtain ⟨y, hy⟩ : ∃ o, Vm.ampQ N L i j k l = o := ⟨_, rfl⟩
  rw [hx] at o1 o2 hlaw ⊢
  rw [hy] at o3 o4 hlaw ⊢
  clear hx hy
  cases hok : Vm.ampB N L i j k l
  · clear hlaw
    go_wp2_with fail
    go_ret
    exact ⟨rfl, hB⟩
  · obtain ⟨hv, ha⟩ := (Vm.ampB_iff _ _ _ _ _ _).1 hok
    obtain ⟨ri, rj, rk, rl, d1, d2, d3, d4, d5, d6⟩ := Vm.ap4 ha
    obtain ⟨a, ha1⟩ : ∃ o, Vm.vget N L i j = o := ⟨_, rfl⟩
    obtain ⟨b, hb1⟩ : ∃ o, Vm.vget N L k l = o := ⟨_, rfl⟩
    obtain ⟨cc, hc1⟩ : ∃ o, Vm.vget N L i k = o := ⟨_, rfl⟩
    obtain ⟨d, hd1⟩ : ∃ o, Vm.vget N L j l = o := ⟨_, rfl⟩
    obtain ⟨⟨q1, q2⟩, ⟨q3, q4⟩, q5⟩ := hlaw hok a.1 b.1 cc.1 d.1 (by rw [ha1]) (by rw [hb1]) (by rw [hc1]) (by rw [hd1])
    have HV := Lib.hid hv
    have H1 := Lib.hid ha1
    have H2 := Lib.hid hb1
    have H3 := Lib.hid hc1
    have H4 := Lib.hid hd1
    have Q5 := Lib.hid q5
    clear hv ha hok ha1 hb1 hc1 hd1 q5 hlaw
    go_wp2_with fail
    refine (VisGet_ok A1 m1 c1 N i j L _ hr HV.out ri rj d1).mono ?_
    rintro e w4 ⟨rfl, hb4⟩
    rw [H1.out]
    unfold gv
    replace hr := hr.after hb4
    replace hB := bT hB hb4
    clear hb4
    have ca : (w4.alloc (.cells #[.int .i64 a.1, .int .i64 a.2] 38)).cell? ⟨w4.heap.size, 0, none⟩ = some (.int .i64 a.1) := by simp [go_sem]
    replace hr := hr.after (bA (b0 w4) (.cells #[.int .i64 a.1, .int .i64 a.2] 38))
    replace hB := bA hB (.cells #[.int .i64 a.1, .int .i64 a.2] 38)
    go_wp2_with fail
    refine (VisGet_ok A1 m1 c1 N k l L _ hr HV.out rk rl d6).mono ?_
    rintro e w5 ⟨rfl, hb5⟩
    rw [H2.out]
    unfold gv
    have ca := (hb5.cell (p := ⟨w4.heap.size, 0, none⟩) (by simp <;> omega)).trans ca
    have za : w4.heap.size < w5.heap.size := by have := hb5.size; simp at this; omega
    replace hr := hr.after hb5
    replace hB := bT hB hb5
    clear hb5
    have cb : (w5.alloc (.cells #[.int .i64 b.1, .int .i64 b.2] 38)).cell? ⟨w5.heap.size, 0, none⟩ = some (.int .i64 b.1) := by simp [go_sem]
    replace ca := ((bA (b0 w5) (.cells #[.int .i64 b.1, .int .i64 b.2] 38)).cell (p := ⟨w4.heap.size, 0, none⟩) (by simp <;> omega)).trans ca
    replace hr := hr.after (bA (b0 w5) (.cells #[.int .i64 b.1, .int .i64 b.2] 38))
    replace hB := bA hB (.cells #[.int .i64 b.1, .int .i64 b.2] 38)
    go_wp2_with fail
    refine (VisGet_ok A1 m1 c1 N i k L _ hr HV.out ri rk d2).mono ?_
    rintro e w6 ⟨rfl, hb6⟩
    rw [H3.out]
    unfold gv
    have ca := (hb6.cell (p := ⟨w4.heap.size, 0, none⟩) (by simp <;> omega)).trans ca
    have za : w4.heap.size < w6.heap.size := by have := hb6.size; simp at this; omega
    have cb := (hb6.cell (p := ⟨w5.heap.size, 0, none⟩) (by simp <;> omega)).trans cb
    have zb : w5.heap.size < w6.heap.size := by have := hb6.size; simp at this; omega
    replace hr := hr.after hb6
    replace hB := bT hB hb6
    clear hb6
    have ccc : (w6.alloc (.cells #[.int .i64 cc.1, .int .i64 cc.2] 38)).cell? ⟨w6.heap.size, 0, none⟩ = some (.int .i64 cc.1) := by simp [go_sem]
    replace ca := ((bA (b0 w6) (.cells #[.int .i64 cc.1, .int .i64 cc.2] 38)).cell (p := ⟨w4.heap.size, 0, none⟩) (by simp <;> omega)).trans ca
    replace cb := ((bA (b0 w6) (.cells #[.int .i64 cc.1, .int .i64 cc.2] 38)).cell (p := ⟨w5.heap.size, 0, none⟩) (by simp <;> omega)).trans cb
    replace hr := hr.after (bA (b0 w6) (.cells #[.int .i64 cc.1, .int .i64 cc.2] 38))
    replace hB := bA hB (.cells #[.int .i64 cc.1, .int .i64 cc.2] 38)
    go_wp2_with fail
    refine (VisGet_ok A1 m1 c1 N j l L _ hr HV.out rj rl d5).mono ?_
    rintro e w7 ⟨rfl, hb7⟩
    rw [H4.out]
    unfold gv
    have ca := (hb7.cell (p := ⟨w4.heap.size, 0, none⟩) (by simp <;> omega)).trans ca
    have za : w4.heap.size < w7.heap.size := by have := hb7.size; simp at this; omega
    have cb := (hb7.cell (p := ⟨w5.heap.size, 0, none⟩) (by simp <;> omega)).trans cb
    have zb : w5.heap.size < w7.heap.size := by have := hb7.size; simp at this; omega
    have ccc := (hb7.cell (p := ⟨w6.heap.size, 0, none⟩) (by simp <;> omega)).trans ccc
    have zcc : w6.heap.size < w7.heap.size := by have := hb7.size; simp at this; omega
    replace hr := hr.after hb7
    replace hB := bT hB hb7
    clear hb7
    have cd : (w7.alloc (.cells #[.int .i64 d.1, .int .i64 d.2] 38)).cell? ⟨w7.heap.size, 0, none⟩ = some (.int .i64 d.1) := by simp [go_sem]
    replace ca := ((bA (b0 w7) (.cells #[.int .i64 d.1, .int .i64 d.2] 38)).cell (p := ⟨w4.heap.size, 0, none⟩) (by simp <;> omega)).trans ca
    replace cb := ((bA (b0 w7) (.cells #[.int .i64 d.1, .int .i64 d.2] 38)).cell (p := ⟨w5.heap.size, 0, none⟩) (by simp <;> omega)).trans cb
    replace ccc := ((bA (b0 w7) (.cells #[.int .i64 d.1, .int .i64 d.2] 38)).cell (p := ⟨w6.heap.size, 0, none⟩) (by simp <;> omega)).trans ccc
    replace hr := hr.after (bA (b0 w7) (.cells #[.int .i64 d.1, .int .i64 d.2] 38))
    replace hB := bA hB (.cells #[.int .i64 d.1, .int .i64 d.2] 38)
    have hfin : (wrap64 (x * cc.1 * d.1) == wrap64 (y * a.1 * b.1)) = true := by rw [Q5.out]; simp
    go_wp2_with fail
    go_ret
    exact ⟨rfl, hB⟩

end Go.Proofs.Ytgipjfcmgmbcnaa
