/- The law FnPointSwap. Written by lawsE3.py. -/
import Derived.Test.YtcolajhjjnkpmaaLawE3
namespace Go.Proofs.Ytcolajhjjnkpmaa
open Go.RowKit

set_option maxRecDepth 100000 in
set_option maxHeartbeats 8000000 in
theorem law_pointSwap (A : Option Addr) (n c : Nat) (bs : List Int) (A' : Option Addr) (n' c' : Nat) (w : World) (h : Rd w w.heap.size 1 A n c (cb bs)) (hx : ∀ x ∈ bs, 0 ≤ x ∧ x ≤ 255) (hn' : n' ≤ 9223372036854775807) :
    Calls Try.prog 8 #[.slice A n c, .slice A' n' c'] w fun e w' => e = .returned (.bool true) ∧ Below w.heap.size w w' := by
  have hm := h.most
  have hcap := h.cap
  have HX := Lib.hid hx
  clear hx
  by_cases hz0 : 1048576 < n
  · have hd0 : decide ((1048576 : Int) < (n : Int)) = true := by simp; omega
    clear hz0
    go_enter Try.func8, Try.ntmps8
    go_wp2
    go_ret
    exact ⟨rfl, b0 _⟩
  have hd0 : decide ((1048576 : Int) < (n : Int)) = false := by simp; omega
  by_cases hz1 : 1048576 < n'
  · have hd1 : decide ((1048576 : Int) < (n' : Int)) = true := by simp; omega
    clear hz0 hz1
    go_enter Try.func8, Try.ntmps8
    go_wp2
    go_ret
    exact ⟨rfl, b0 _⟩
  have hd1 : decide ((1048576 : Int) < (n' : Int)) = false := by simp; omega
  go_enter Try.func8, Try.ntmps8
  go_wp2_with fail
  refine (DrawVisPoint_any _ _ _ bs _ h HX.out (by omega)).mono ?_
  rintro e w1 ⟨A1, m1, c1, L, ⟨da, db⟩, amp, rfl, hr, hB⟩
  have mL : m1 = L.length := by have := hr.len; rw [cp_length] at this; omega
  subst mL
  have hrcap := hr.cap
  have hrmost := hr.most
  unfold gv
  have hdx : Bx (w1.alloc (.cells #[.int .i64 da, .int .i64 db] 44)) w1.heap.size #[.int .i64 da, .int .i64 db] 44 := Bx.new w1 _ _ _ rfl
  have hbA := bA (b0 w1) (.cells #[.int .i64 da, .int .i64 db] 44)
  replace hr := hr.after hbA
  replace hB := bT hB hbA
  clear hbA
  have q0 := hdx.cell 0
  have q1 := hdx.cell 1
  simp only [List.getElem?_toArray, List.getElem?_cons_zero, List.getElem?_cons_succ] at q0 q1
  go_wp2_with fail
  refine (VisPoint_any _ _ _ L (da, db) amp _ hr).mono ?_
  rintro e w2 ⟨v2, rfl, ho2, hB2⟩
  clear q0 q1
  obtain ⟨A2, c2, rfl⟩ := own_form ho2
  replace hr := hr.after hB2
  replace hdx := hdx.after hB2
  replace hB := bT hB hB2
  clear hB2
  have hx := Rd.of_own ho2
  clear ho2
  have q0 := hdx.cell 0
  have q1 := hdx.cell 1
  simp only [List.getElem?_toArray, List.getElem?_cons_zero, List.getElem?_cons_succ] at q0 q1
  go_wp2_with fail
  refine (sVisPoint_any _ _ _ L (da, db) amp _ hr).mono ?_
  rintro e w3 ⟨v3, rfl, ho3, hB3⟩
  clear q0 q1
  obtain ⟨A3, c3, rfl⟩ := own_form ho3
  replace hr := hr.after hB3
  replace hdx := hdx.after hB3
  replace hx := hx.after hB3
  replace hB := bT hB hB3
  clear hB3
  have hy := Rd.of_own ho3
  clear ho3
  cases hok : Vm.ptB L (da, db) amp
  ·
    go_wp2_with fail
    with_reducible refine (sameVis_self _ _ _ _ _ _ _ _ hx hy).mono ?_
    rintro e w4 ⟨rfl, hB4⟩
    replace hr := hr.after hB4
    replace hdx := hdx.after hB4
    replace hx := hx.after hB4
    replace hy := hy.after hB4
    replace hB := bT hB hB4
    clear hB4
    go_wp2_with fail
    with_reducible refine (sameVis_self _ _ _ _ _ _ _ _ hx hy).mono ?_
    rintro e w5 ⟨rfl, hB5⟩
    replace hr := hr.after hB5
    replace hdx := hdx.after hB5
    replace hx := hx.after hB5
    replace hy := hy.after hB5
    replace hB := bT hB hB5
    clear hB5
    go_wp2_with fail
    go_ret
    exact ⟨rfl, hB⟩
  · have hO := Vm.OkP.of hok
    have N7 := hO.hi
    have N2 := hO.lo
    obtain ⟨N, hN⟩ : ∃ N, L.length = N := ⟨_, rfl⟩
    have i1 := Int.emod_nonneg (n' : Int) (show (N : Int) ≠ 0 by omega)
    have i2 := Int.emod_lt_of_pos (n' : Int) (show (0 : Int) < (N : Int) by omega)
    have d1 : (0 : Int) ≤ (n' : Int) / (N : Int) := Int.ediv_nonneg (by omega) (by omega)
    have d2 : (n' : Int) / (N : Int) ≤ 9223372036854775807 := Int.le_trans (Int.ediv_le_self _ (by omega)) (by omega)
    have j1 := Int.emod_nonneg ((n' : Int) / (N : Int)) (show (N : Int) ≠ 0 by omega)
    have j2 := Int.emod_lt_of_pos ((n' : Int) / (N : Int)) (show (0 : Int) < (N : Int) by omega)
    obtain ⟨a, ha⟩ := Vm.nat_of (i := (n' : Int) % (N : Int)) i1
    obtain ⟨b, hb⟩ := Vm.nat_of (i := (n' : Int) / (N : Int) % (N : Int)) j1
    have aG : a < L.length := by omega
    have bG : b < L.length := by omega
    obtain ⟨s1, s2, s4⟩ := hO.swap aG bG
    obtain ⟨X, hX⟩ : ∃ X, Vm.ptL L (da, db) amp = X := ⟨_, rfl⟩
    rw [hX] at hx hy s1 s4 ⊢
    rw [hN] at s1 s4
    have ea : Vm.aat L a = L[a] := by simp [Vm.aat, aG]
    have eb : Vm.aat L b = L[b] := by simp [Vm.aat, bG]
    obtain ⟨p, hp⟩ : ∃ p, L[a] = p := ⟨_, rfl⟩
    obtain ⟨q, hq⟩ : ∃ p, L[b] = p := ⟨_, rfl⟩
    have eS : Vm.aswap L a b = (L.set a q).set b p := by unfold Vm.aswap; rw [ea, eb, hp, hq]
    have aN : a < N := by omega
    have bN : b < N := by omega
    have hl5 : ((N : Int) == 0) = false := by rw [beq_eq_false_iff_ne]; omega
    rw [hN] at hr hrcap N7 N2 ⊢
    have S1 := Lib.hid s1
    have S2 := Lib.hid s2
    have S4 := Lib.hid s4
    have HA := Lib.hid ha
    have HB := Lib.hid hb
    have HP := Lib.hid hp
    have HQ := Lib.hid hq
    have ES := Lib.hid eS
    have HN := Lib.hid hN
    have AG := Lib.hid aG
    have BG := Lib.hid bG
    clear s1 s2 s4 ha hb hp hq eS ea eb hX hO hok hN
    go_wp2_with fail
    with_reducible refine (sameVis_self _ _ _ _ _ _ _ _ hx hy).mono ?_
    rintro e w4 ⟨rfl, hB4⟩
    replace hr := hr.after hB4
    replace hdx := hdx.after hB4
    replace hx := hx.after hB4
    replace hy := hy.after hB4
    replace hB := bT hB hB4
    clear hB4
    obtain ⟨i0, hi, hq0, hq1, hq2⟩ := info_parts infoAnt
    obtain ⟨bb, off, eA, hbb, hcells⟩ := hr.at_ (by omega)
    subst eA
    have hlit := World.ownsRow_lit (base := w4.heap.size) (e := 44) (size := 2) w4 #[] 0 (Nat.le_refl _) (by decide) rfl
    go_wp2_with (at_builtin; refine wpList_append_own _ rfl _ _ 42 rfl w4.heap.size 44 i0 _ 2 16 Try.underlying42 hi hq0 hq1 hq2 rfl (by decide) _ _ _ rfl hlit ⟨bb, off, none⟩ N c1 (cp L) rfl (by rw [cp_length, HN.out]) ?e1 (cp_one L) ?e3 ?e4 ?e5 ?_)
    case e1 =>
      intro j u hj
      have ee : ((⟨bb, off, none⟩ : Addr).add j) = ⟨bb, off + j, none⟩ := by unfold Addr.add; split <;> simp_all
      have := hcells j u hj
      rw [ee, World.cell?_alloc_past _ _ _ (block_lt_of_cell this)]
      exact this
    case e3 => unfold maxLen; omega
    case e4 => omega
    case e5 => simp
    intro v' w9 hown' hgrow _
    obtain ⟨gg, cap, rfl⟩ := own_head hown' (by omega)
    have hg1 := (hown'.lt gg rfl).1
    have hb9 := own_below (bA (b0 w4) _) hlit hgrow
    have hownG : w9.ownsRow w4.heap.size 44 2 (.slice (some ⟨gg, 0, none⟩) N cap) N (cp L) := by simpa using hown'
    clear hown' hgrow hlit
    rw [HA.out, HB.out]
    have hgb := hr.after hb9
    obtain ⟨x1, x2, ex, hbx, ca1, ca2⟩ := hgb.pair_at AG.out
    obtain ⟨y1, y2, ey, hby, cb1, cb2⟩ := hgb.pair_at BG.out
    rw [HP.out] at ca1 ca2
    rw [HQ.out] at cb1 cb2
    simp only [Option.some.injEq, Addr.mk.injEq, and_true] at ex ey
    obtain ⟨rfl, rfl⟩ := ex
    obtain ⟨rfl, rfl⟩ := ey
    have hne1 : bb ≠ gg := by omega
    have hne2 : gg ≠ bb := by omega
    have capG := (Rd.of_own hownG).cap
    have fr1 := hownG.frozenAt (a * 2)
    have fr2 := hownG.frozenAt (a * 2 + 1)
    have fr3 := hownG.frozenAt (b * 2)
    have fr4 := hownG.frozenAt (b * 2 + 1)
    have k1 := hownG.cellAt (a * 2) (by omega)
    have k2 := hownG.cellAt (a * 2 + 1) (by omega)
    have k3 := hownG.cellAt (b * 2) (by omega)
    have k4 := hownG.cellAt (b * 2 + 1) (by omega)
    have u1 := cp_at L a AG.out
    have u2 := cp_at L b BG.out
    rw [Nat.mul_comm 2 a, HP.out] at u1
    rw [Nat.mul_comm 2 b, HQ.out] at u2
    replace k1 := k1.trans u1.1
    replace k2 := k2.trans u1.2
    replace k3 := k3.trans u2.1
    replace k4 := k4.trans u2.2
    have hS := ((hownG.stored (a * 2) (.int .i64 q.1)).1.stored (a * 2 + 1) (.int .i64 q.2)).1
    rw [← cp_set] at hS
    replace hS := ((hS.stored (b * 2) (.int .i64 p.1)).1.stored (b * 2 + 1) (.int .i64 p.2)).1
    rw [← cp_set, ← ES.out] at hS
    have hb10 := bS (bS (bS (bS hb9 (p := ⟨gg, a * 2, none⟩) hg1 (.int .i64 q.1)) (p := ⟨gg, a * 2 + 1, none⟩) hg1 (.int .i64 q.2)) (p := ⟨gg, b * 2, none⟩) hg1 (.int .i64 p.1)) (p := ⟨gg, b * 2 + 1, none⟩) hg1 (.int .i64 p.2)
    have hcase : ((a = b) ∧ p = q) ∨ (¬ a = b ∧ ¬ b = a) := by
      by_cases e : a = b
      · subst e; exact .inl ⟨rfl, HP.out.symm.trans HQ.out⟩
      · exact .inr ⟨e, fun h => e h.symm⟩
    rcases hcase with ⟨rfl, rfl⟩ | ⟨ne1, ne2⟩
    
    ·
      go_wp2_with fail
      obtain ⟨W, hW⟩ : ∃ W, (((w9.setCell ⟨gg, a * 2, none⟩ (.int .i64 p.1)).setCell ⟨gg, a * 2 + 1, none⟩ (.int .i64 p.2)).setCell ⟨gg, a * 2, none⟩ (.int .i64 p.1)).setCell ⟨gg, a * 2 + 1, none⟩ (.int .i64 p.2) = W := ⟨_, rfl⟩
      rw [hW] at hS hb10 ⊢
      clear hW ca1 ca2 cb1 cb2 k1 k2 k3 k4 fr1 fr2 fr3 fr4 u1 u2 hownG hb9 hgb hy
      replace hr := hr.after hb10
      replace hx := hx.after hb10
      replace hdx := hdx.after hb10
      replace hB := bT hB hb10
      clear hb10
      have hgs := Rd.of_own hS
      clear hS
      refine (VisSwap_any _ _ _ N X a a _ hx).mono ?_
      rintro e w5 ⟨v5, rfl, ho5, hB5⟩
      rw [S1.out]
      obtain ⟨A5, c5, rfl⟩ := own_form ho5
      replace hr := hr.after hB5
      replace hx := hx.after hB5
      replace hdx := hdx.after hB5
      replace hgs := hgs.after hB5
      replace hB := bT hB hB5
      clear hB5
      have hX2 := Rd.of_own ho5
      clear ho5
      have q0 := hdx.cell 0
      have q1 := hdx.cell 1
      simp only [List.getElem?_toArray, List.getElem?_cons_zero, List.getElem?_cons_succ] at q0 q1
      go_wp2_with fail
      refine (VisPoint_any _ _ _ (Vm.aswap L a a) (da, db) amp _ hgs).mono ?_
      rintro e w6 ⟨v6, rfl, ho6, hB6⟩
      rw [S2.out]
      clear q0 q1
      obtain ⟨A6, c6, rfl⟩ := own_form ho6
      replace hr := hr.after hB6
      replace hx := hx.after hB6
      replace hdx := hdx.after hB6
      replace hgs := hgs.after hB6
      replace hX2 := hX2.after hB6
      replace hB := bT hB hB6
      clear hB6
      have hG2 := Rd.of_own ho6
      clear ho6
      rw [S4.out] at hX2 ⊢
      go_wp2_with fail
      with_reducible refine (sameVis_self _ _ _ _ _ _ _ _ hX2 hG2).mono ?_
      rintro e w7 ⟨rfl, hB7⟩
      replace hr := hr.after hB7
      replace hx := hx.after hB7
      replace hdx := hdx.after hB7
      replace hgs := hgs.after hB7
      replace hX2 := hX2.after hB7
      replace hG2 := hG2.after hB7
      replace hB := bT hB hB7
      clear hB7
      go_wp2_with fail
      go_ret
      exact ⟨rfl, hB⟩
    ·
      go_wp2_with fail
      obtain ⟨W, hW⟩ : ∃ W, (((w9.setCell ⟨gg, a * 2, none⟩ (.int .i64 q.1)).setCell ⟨gg, a * 2 + 1, none⟩ (.int .i64 q.2)).setCell ⟨gg, b * 2, none⟩ (.int .i64 p.1)).setCell ⟨gg, b * 2 + 1, none⟩ (.int .i64 p.2) = W := ⟨_, rfl⟩
      rw [hW] at hS hb10 ⊢
      clear hW ca1 ca2 cb1 cb2 k1 k2 k3 k4 fr1 fr2 fr3 fr4 u1 u2 hownG hb9 hgb hy
      replace hr := hr.after hb10
      replace hx := hx.after hb10
      replace hdx := hdx.after hb10
      replace hB := bT hB hb10
      clear hb10
      have hgs := Rd.of_own hS
      clear hS
      refine (VisSwap_any _ _ _ N X a b _ hx).mono ?_
      rintro e w5 ⟨v5, rfl, ho5, hB5⟩
      rw [S1.out]
      obtain ⟨A5, c5, rfl⟩ := own_form ho5
      replace hr := hr.after hB5
      replace hx := hx.after hB5
      replace hdx := hdx.after hB5
      replace hgs := hgs.after hB5
      replace hB := bT hB hB5
      clear hB5
      have hX2 := Rd.of_own ho5
      clear ho5
      have q0 := hdx.cell 0
      have q1 := hdx.cell 1
      simp only [List.getElem?_toArray, List.getElem?_cons_zero, List.getElem?_cons_succ] at q0 q1
      go_wp2_with fail
      refine (VisPoint_any _ _ _ (Vm.aswap L a b) (da, db) amp _ hgs).mono ?_
      rintro e w6 ⟨v6, rfl, ho6, hB6⟩
      rw [S2.out]
      clear q0 q1
      obtain ⟨A6, c6, rfl⟩ := own_form ho6
      replace hr := hr.after hB6
      replace hx := hx.after hB6
      replace hdx := hdx.after hB6
      replace hgs := hgs.after hB6
      replace hX2 := hX2.after hB6
      replace hB := bT hB hB6
      clear hB6
      have hG2 := Rd.of_own ho6
      clear ho6
      rw [S4.out] at hX2 ⊢
      go_wp2_with fail
      with_reducible refine (sameVis_self _ _ _ _ _ _ _ _ hX2 hG2).mono ?_
      rintro e w7 ⟨rfl, hB7⟩
      replace hr := hr.after hB7
      replace hx := hx.after hB7
      replace hdx := hdx.after hB7
      replace hgs := hgs.after hB7
      replace hX2 := hX2.after hB7
      replace hG2 := hG2.after hB7
      replace hB := bT hB hB7
      clear hB7
      go_wp2_with fail
      go_ret
      exact ⟨rfl, hB⟩

end Go.Proofs.Ytcolajhjjnkpmaa
