/- The law FnVisPhases. -/
import Derived.Test.YthfljdamahmkaaaPhases
import Derived.Test.YthfljdamahmkaaaPair
import Derived.Test.YthfljdamahmkaaaSameC
import Derived.Test.YthfljdamahmkaaaSwap2
namespace Go.Proofs.Ythfljdamahmkaaa
open Go.RowKit

theorem vget_base {N : Nat} (h7 : N ≤ 7) {L : List (Int × Int)} {i j k : Nat} (h : (Vm.basesL N)[k]? = some (i, j)) (hk : k < L.length) (hl : L.length = N * (N - 1) / 2) : i < j ∧ j < N ∧ Vm.vget N L i j = L[k] := by
  have hle := Vm.many_le N (by omega)
  obtain ⟨p, _, hp, h1, h2, h3⟩ := Vm.bt_inv_all N (by omega) k (by omega) (by omega)
  rw [h] at hp
  obtain rfl : (i, j) = p := by simpa using hp
  refine ⟨h1, h2, ?_⟩
  have e := (Vm.bt_all N (by omega) i (by omega) j h2 h1).1
  simp only at h1 h3
  rw [Vm.vget, if_neg (by omega), e, h3, Int.toNat_natCast]
  simp [hk]
set_option maxRecDepth 100000 in
set_option maxHeartbeats 1000000 in
theorem law_visPhases (A : Option Addr) (n c : Nat) (bs : List Int) (A' : Option Addr) (n' c' : Nat) (w : World) (h : Rd w w.heap.size 1 A n c (cb bs)) (hx : ∀ x ∈ bs, 0 ≤ x ∧ x ≤ 255) (hn' : n' ≤ 9223372036854775807) :
    Calls Try.prog 3 #[.slice A n c, .slice A' n' c'] w fun e w' => e = .returned (.bool true) ∧ Below w.heap.size w w' := by
  have hm := h.most
  have hcap := h.cap
  have HX := Lib.hid hx
  clear hx
  by_cases hn : 1048576 < n
  · have hd : decide ((1048576 : Int) < (n : Int)) = true := by simp; omega
    go_enter Try.func3, Try.ntmps3
    go_wp2
    go_ret
    exact ⟨rfl, b0 _⟩
  have hd : decide ((1048576 : Int) < (n : Int)) = false := by simp; omega
  by_cases hn2 : 1048576 < n'
  · have hd2 : decide ((1048576 : Int) < (n' : Int)) = true := by simp; omega
    go_enter Try.func3, Try.ntmps3
    go_wp2
    go_ret
    exact ⟨rfl, b0 _⟩
  have hd2 : decide ((1048576 : Int) < (n' : Int)) = false := by simp; omega
  go_enter Try.func3, Try.ntmps3
  go_wp2_with fail
  refine (DrawVisPhases_any _ _ _ bs _ h HX.out (by omega)).mono ?_
  rintro e w1 ⟨N, A1, m1, c1, L, rfl, hr, hB1⟩
  go_wp2_with fail
  refine (VisPhases_any _ _ _ N L _ hr).mono ?_
  rintro e w2 ⟨v2, rfl, ho2, hB2⟩
  obtain ⟨A2, c2, rfl⟩ := own_form ho2
  go_wp2_with fail
  refine (sVisPhases_any _ _ _ N L _ (hr.after hB2)).mono ?_
  rintro e w3 ⟨v3, rfl, ho3, hB3⟩
  obtain ⟨A3, c3, rfl⟩ := own_form ho3
  have hr2 := (Rd.of_own ho2).after hB3
  have hr3 := Rd.of_own ho3
  have hr1 := (hr.after hB2).after hB3
  have hB := bT (bT hB1 hB2) hB3
  clear ho2 ho3 hB1 hB2 hB3 hr
  cases hv : Vm.visB N L
  · have H0 : visPh N L = [] := by simp [visPh, hv]
    rw [H0] at hr2 hr3 ⊢
    clear H0 hv
    go_wp2_with fail
    refine (sameInts_self _ _ _ _ _ _ _ _ hr2 hr3).mono ?_
    rintro e w4 ⟨rfl, hB4⟩
    go_wp2_with fail
    refine (sameInts_self _ _ _ _ _ _ _ _ (hr2.after hB4) (hr3.after hB4)).mono ?_
    rintro e w5 ⟨rfl, hB5⟩
    go_wp2_with fail
    go_ret
    exact ⟨rfl, bT (bT hB hB4) hB5⟩
  · obtain ⟨N', e, hO⟩ := Vm.Ok.of hv
    obtain rfl : N = N' := by omega
    have H0 : visPh N L = phL L := by simp [visPh, hv]
    have hlen : (phL L).length = N * (N - 1) / 2 := by rw [phL_len]; exact hO.len
    have h2 := hO.lo
    have h7 := hO.hi
    have hpos : 0 < N * (N - 1) / 2 := by
      have := (Vm.bt_all N (by omega) 0 (by omega) 1 (by omega) (by omega)).2.2.1
      omega
    have HL := Lib.hid hO.len
    have HBM := Lib.hid (Vm.bmany_nat N ((Vm.manyB_iff _).2 (by omega)))
    obtain ⟨M, hM⟩ : ∃ M, N * (N - 1) / 2 = M := ⟨_, rfl⟩
    have hM21 := Vm.many_le N (by omega)
    rw [hM] at hlen hpos HBM HL hM21
    rw [H0] at hr2 hr3 ⊢
    rw [hlen] at hr2 hr3 ⊢
    have HN := Lib.hid hM
    have HLP := Lib.hid hlen
    have HV := Lib.hid hv
    clear H0 hv hO hM hlen e
    obtain ⟨q, hq⟩ : ∃ q : Nat, n' % M = q := ⟨_, rfl⟩
    have q1 : q < M := by have := Nat.mod_lt n' hpos; omega
    have hQ : ((n' : Int) % (M : Int)) = (q : Int) := by rw [← hq]; norm_cast
    clear hq
    have hM0 : ((M : Int) == 0) = false := by rw [beq_eq_false_iff_ne]; omega
    go_wp2_with fail
    refine (sameInts_self _ _ _ _ _ _ _ _ hr2 hr3).mono ?_
    rintro e w4 ⟨rfl, hB4⟩
    go_wp2_with fail
    refine (BasePair_at N q _ h2 h7 (by rw [HN.out]; exact q1)).mono ?_
    rintro e w5 ⟨i, j, hij, rfl, hB5⟩
    have hvb := vget_base h7 hij (by rw [HL.out]; exact q1) (by rw [HL.out, HN.out])
    clear hij
    obtain ⟨g1, g2, g3⟩ := hvb
    have HG := Lib.hid g3
    clear g3
    go_wp2_with fail
    refine (VisGet_ok _ _ _ N i j L _ ((hr1.after hB4).after hB5) HV.out (by omega) (by omega) (by omega)).mono ?_
    rintro e w6 ⟨rfl, hB6⟩
    rw [HG.out]
    have hr6 := ((hr2.after hB4).after hB5).after hB6
    have hBx := bT (bT (bT hB hB4) hB5) hB6
    clear hr2 hr3 hr1 hB hB4 hB5 hB6
    obtain ⟨b, off, rfl, hb, hc⟩ := hr6.int_at (k := q) (by rw [HLP.out]; exact q1)
    have e1 : (phL L)[q]'(by rw [HLP.out]; exact q1) = (L[q]'(by rw [HL.out]; exact q1)).2 := by simp [phL]
    rw [e1] at hc
    obtain ⟨p, hp⟩ : ∃ p, L[q]'(by rw [HL.out]; exact q1) = p := ⟨_, rfl⟩
    rw [hp] at hc ⊢
    clear hp e1
    have hbm : Vm.bmany (N : Int) = (M : Int) := HBM.out
    have hpp : (p.2 == p.2) = true := by simp
    have hMM : ((M : Int) == (M : Int)) = true := by simp
    have hi0 : (0 : Int) ≤ (q : Int) := by omega
    have hi1 : (q : Int) < (M : Int) := by omega
    have hb' : b < w6.heap.size + 1 := by omega
    unfold gv
    go_wp2_with fail
    obtain ⟨W, hW⟩ : ∃ W, w6.alloc (.cells #[.int .i64 p.1, .int .i64 p.2] 32) = W := ⟨_, rfl⟩
    have k1 : W.cell? ⟨w6.heap.size, 1, none⟩ = some (.int .i64 p.2) := by rw [← hW]; simp [go_sem]
    have k2 : W.cell? ⟨b, off + q, none⟩ = some (.int .i64 p.2) := by rw [← hW, World.cell?_alloc_past _ _ _ hb]; exact hc
    have hBW := bA hBx (.cells #[.int .i64 p.1, .int .i64 p.2] 32)
    rw [hW] at hBW ⊢
    clear hW hc hBx
    go_quiet ((go_at_call 21; exact Calls.quiet_of_same ((BaseMany_any _ _).mono (fun _ _ ⟨h1, h2⟩ => ⟨h1, h2.symm⟩))))
    go_wp2_with fail
    go_ret
    exact ⟨rfl, bD hBW _⟩

end Go.Proofs.Ythfljdamahmkaaa
