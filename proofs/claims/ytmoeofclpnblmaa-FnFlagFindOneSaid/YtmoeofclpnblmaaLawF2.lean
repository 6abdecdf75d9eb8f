/- The laws FnFlagFindNone, FnFlagFind. Written by lawsF2.py. -/
import Derived.Test.YtmoeofclpnblmaaDrawF
import Derived.Test.YtmoeofclpnblmaaFlagE
import Derived.Test.YtmoeofclpnblmaaFlagM3
import Derived.Test.YtmoeofclpnblmaaSameC
namespace Go.Proofs.Ytmoeofclpnblmaa
open Go.RowKit

set_option maxRecDepth 100000 in
set_option maxHeartbeats 4000000 in
theorem law_flagFindNone (A : Option Addr) (n c : Nat) (bs : List Int) (w : World) (h : Rd w w.heap.size 1 A n c (cb bs)) (hx : ∀ x ∈ bs, 0 ≤ x ∧ x ≤ 255) :
    Calls Try.prog 12 #[.slice A n c] w fun e w' => e = .returned (.bool true) ∧ Below w.heap.size w w' := by
  have hm := h.most
  have hcap := h.cap
  have HX := Lib.hid hx
  clear hx
  by_cases hz0 : 1048576 < n
  · have hd0 : decide ((1048576 : Int) < (n : Int)) = true := by simp; omega
    clear hz0
    go_enter Try.func12, Try.ntmps12
    go_wp2
    go_ret
    exact ⟨rfl, b0 _⟩
  have hd0 : decide ((1048576 : Int) < (n : Int)) = false := by simp; omega
  go_enter Try.func12, Try.ntmps12
  go_wp2_with fail
  refine (DrawSolvePhases_any _ _ _ bs _ h HX.out (by omega)).mono ?_
  rintro e w1 ⟨N, A1, m1, c1, L, A2, m2, c2, M, hN, rfl, hr, hm, hB⟩
  go_wp2_with fail
  refine (SolvePhases_any _ _ _ _ _ _ N L M _ hr hm).mono ?_
  rintro e w2 ⟨v2, ok, P, rfl, hres, ho2, hB2⟩
  obtain ⟨A2, c2, rfl⟩ := own_form ho2
  replace hr := hr.after hB2
  replace hm := hm.after hB2
  replace hB := bT hB hB2
  clear hB2
  have hx := Rd.of_own ho2
  clear ho2
  go_wp2_with fail
  refine (sSolvePhases_any _ _ _ _ _ _ N L M _ hr hm).mono ?_
  rintro e w3 ⟨v3, ok2, P2, rfl, hres2, ho3, hB3⟩
  obtain ⟨eo, eP⟩ := Vm.flag_one hres hres2
  subst eo eP
  clear hres2
  obtain ⟨A3, c3, rfl⟩ := own_form ho3
  replace hr := hr.after hB3
  replace hm := hm.after hB3
  replace hx := hx.after hB3
  replace hB := bT hB hB3
  clear hB3
  have hy := Rd.of_own ho3
  clear ho3
  cases ok
  · clear hres
    go_wp2_with fail
    with_reducible refine (sameInts_self _ _ _ _ _ _ _ _ hx hy).mono ?_
    rintro e w4 ⟨rfl, hB4⟩
    replace hr := hr.after hB4
    replace hm := hm.after hB4
    replace hx := hx.after hB4
    replace hy := hy.after hB4
    replace hB := bT hB hB4
    clear hB4
    go_wp2_with fail
    with_reducible refine (sameInts_self _ _ _ _ _ _ _ _ hx hy).mono ?_
    rintro e w5 ⟨rfl, hB5⟩
    replace hr := hr.after hB5
    replace hm := hm.after hB5
    replace hx := hx.after hB5
    replace hy := hy.after hB5
    replace hB := bT hB hB5
    clear hB5
    go_wp2_with fail
    go_ret
    exact ⟨rfl, hB⟩
  ·
    have hbn := Vm.bmany_nonneg N
    obtain ⟨hok, hval⟩ : Vm.FlagOk N L M (Vm.noF (Vm.bmany N).toNat) ∧ Vm.FlagVal (N : Int).toNat L M (Vm.noF (Vm.bmany N).toNat) P := by
      rcases hres with ⟨_, h1, h2⟩ | ⟨h1, _⟩
      · exact ⟨h1, h2⟩
      · cases h1
    obtain ⟨z1, z2, z3⟩ := Vm.first_zero hok hval
    have HK := Lib.hid hok
    clear hres hok hval
    go_wp2_with fail
    with_reducible refine (sameInts_self _ _ _ _ _ _ _ _ hx hy).mono ?_
    rintro e w4 ⟨rfl, hB4⟩
    replace hr := hr.after hB4
    replace hm := hm.after hB4
    replace hx := hx.after hB4
    replace hy := hy.after hB4
    replace hB := bT hB hB4
    clear hB4
    go_wp2_with fail
    with_reducible refine (FlagFind_any _ _ _ _ _ _ N L M _ hr hm).mono ?_
    rintro e w5 ⟨ok3, x3, rfl, hfr, hB5⟩
    replace hr := hr.after hB5
    replace hm := hm.after hB5
    replace hx := hx.after hB5
    replace hy := hy.after hB5
    replace hB := bT hB hB5
    clear hB5
    obtain ⟨eo, ex⟩ := Vm.find_first HK.out (by omega) hfr
    subst eo ex
    clear hfr
    obtain ⟨b, off, eA, hbb, hc0⟩ := hx.int_at z1
    rw [show P[0] = 0 by simpa [Vm.pf, z1] using z2, Nat.add_zero] at hc0
    subst eA
    have z4 : (0 : Int) < (P.length : Int) := by omega
    clear z2 z3 hbn
    go_wp2_with fail
    go_ret
    exact ⟨rfl, hB⟩
set_option maxRecDepth 100000 in
set_option maxHeartbeats 4000000 in
theorem law_flagFind (A : Option Addr) (n c : Nat) (bs : List Int) (w : World) (h : Rd w w.heap.size 1 A n c (cb bs)) (hx : ∀ x ∈ bs, 0 ≤ x ∧ x ≤ 255) :
    Calls Try.prog 10 #[.slice A n c] w fun e w' => e = .returned (.bool true) ∧ Below w.heap.size w w' := by
  have hm := h.most
  have hcap := h.cap
  have HX := Lib.hid hx
  clear hx
  by_cases hz0 : 1048576 < n
  · have hd0 : decide ((1048576 : Int) < (n : Int)) = true := by simp; omega
    clear hz0
    go_enter Try.func10, Try.ntmps10
    go_wp2
    go_ret
    exact ⟨rfl, b0 _⟩
  have hd0 : decide ((1048576 : Int) < (n : Int)) = false := by simp; omega
  go_enter Try.func10, Try.ntmps10
  go_wp2_with fail
  refine (DrawFlagFind_any _ _ _ bs _ h HX.out (by omega)).mono ?_
  rintro e w1 ⟨N, A1, m1, c1, L, A2, m2, c2, M, hN, rfl, hr, hm, hB⟩
  go_wp2_with fail
  with_reducible refine (FlagFind_any _ _ _ _ _ _ N L M _ hr hm).mono ?_
  rintro e w2 ⟨ok, x, rfl, hres, hB2⟩
  replace hr := hr.after hB2
  replace hm := hm.after hB2
  replace hB := bT hB hB2
  clear hB2
  go_wp2_with fail
  with_reducible refine (sFlagFind_any _ _ _ _ _ _ N L M _ hr hm).mono ?_
  rintro e w3 ⟨ok2, x2, rfl, hres2, hB3⟩
  replace hr := hr.after hB3
  replace hm := hm.after hB3
  replace hB := bT hB hB3
  clear hB3
  obtain ⟨eo, ex⟩ := Vm.find_one hres hres2
  subst eo ex
  clear hres2
  have hxx : (x != x) = false := by simp
  cases ok
  · clear hres
    go_wp2_with fail
    go_ret
    exact ⟨rfl, hB⟩
  ·
    obtain ⟨k, rfl, hk, h1, h2⟩ : ∃ k : Nat, x = k ∧ k < L.length ∧ Vm.FlagOk N L M (Vm.oneF L.length k) ∧ ∀ q : Nat, q < k → ¬ Vm.FlagOk N L M (Vm.oneF L.length q) := by
      rcases hres with ⟨_, h1⟩ | ⟨h1, _⟩
      · exact h1
      · cases h1
    have HBM := Lib.hid (((Vm.visB_iff _ _).1 h1.1).2.1.symm)
    have hl21 : L.length ≤ 21 := by have := HBM.out; have := Vm.bmany_le N; omega
    have hmkB := fun w => makeB w L.length (by omega)
    have H1 := Lib.hid h1
    have H2 := Lib.hid h2
    clear hres h1 h2
    go_wp2_with fail
    go_loopw [10] (fun v wr => ∃ j : Nat, j ≤ k + 1 ∧ v = .int .i64 j ∧ Below w3.heap.size w3 wr) (fun v _ => k + 1 - (intOf v).toNat)
    case atStart => exact ⟨0, by omega, rfl, b0 _⟩
    case round =>
      obtain ⟨j, hj, rfl, hW⟩ := hrel
      have hr2 := hr.after hW
      have hm2 := hm.after hW
      have hB2 := bT hB hW
      by_cases hjk : j ≤ k
      · obtain ⟨ck, fk⟩ := rep_cell wr L.length j (by omega)
        have hrd := one_rd wr L.length j (by omega)
        have hjl : (j : Int) < (L.length : Int) := by omega
        go_wp2_with (go_at_call 40; refine (BaseMany_any _ _).mono ?_; rintro e w' ⟨rfl, rfl⟩; rw [HBM.out])
        have hb3 := bA (b0 wr) (.cells ((cbo (List.replicate L.length false)).set j (.bool true)).toArray 4)
        refine (FlagSolve_any _ _ _ _ _ _ _ _ _ N L M (Vm.oneF L.length j) _ (hr2.after hb3) (hm2.after hb3) hrd).mono ?_
        rintro e w9 ⟨v, ok3, P, rfl, hres, _, hb9⟩
        have hW9 := bT hW (bT hb3 hb9)
        clear hrd ck fk hb3 hb9
        by_cases e : j = k
        · subst e
          obtain rfl : ok3 = true := by
            rcases hres with ⟨h0, _⟩ | ⟨_, h0, _⟩
            · exact h0
            · exact absurd H1.out h0
          clear hres
          go_wp2_with fail
          go_roundw
          case rel => exact ⟨j + 1, by omega, by go_num, hW9⟩
          case measure => simp [intOf] <;> omega
        · obtain rfl : ok3 = false := by
            rcases hres with ⟨_, h0, _⟩ | ⟨h0, _⟩
            · exact absurd h0 (H2.out j (by omega))
            · exact h0
          clear hres
          have hd9 : ((j : Int) == (k : Int)) = false := by simp; omega
          go_wp2_with fail
          go_roundw
          case rel => exact ⟨j + 1, by omega, by go_num, hW9⟩
          case measure => simp [intOf] <;> omega
      · have hd9 : decide ((j : Int) ≤ (k : Int)) = false := by simp; omega
        go_wp2_with fail
        go_ret
        exact ⟨rfl, hB2⟩

end Go.Proofs.Ytmoeofclpnblmaa
