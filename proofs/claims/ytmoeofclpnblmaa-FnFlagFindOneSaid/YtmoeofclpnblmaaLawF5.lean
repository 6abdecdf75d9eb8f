/- The law FnFlagFindOne. Written by lawsF4.py. -/
import Derived.Test.YtmoeofclpnblmaaLawF4
namespace Go.Proofs.Ytmoeofclpnblmaa
open Go.RowKit

theorem own_head5 {w : World} {base size n : Nat} {e : TypeId} {v : Value} {xs : List Value} (h : w.ownsRow base e size v n xs) (hn : 0 < n) : ∃ g c, v = .slice (some ⟨g, 0, none⟩) n c := by
  rcases h.2 with ⟨_, h0⟩ | ⟨g, cap, cur, rfl, _⟩
  · omega
  · exact ⟨g, cap, rfl⟩
theorem set_phase {X : List (Int × Int)} {k : Nat} (hk : k < X.length) (z : Int) : (cp X).set (k * 2 + 1) (.int .i64 z) = cp (X.set k (X[k].1, z)) := by
  rw [cp_set]
  congr 1
  apply (List.ext_getElem? ?_)
  intro q
  by_cases e : q = k * 2
  · subst e
    have := (cp_at X k hk).1
    rw [Nat.mul_comm 2 k] at this
    rw [List.getElem?_set_self (by rw [cp_length]; omega), this]
  · rw [List.getElem?_set_ne (fun h => e h.symm)]
set_option maxRecDepth 100000 in
set_option maxHeartbeats 8000000 in
theorem law_flagFindOne (A : Option Addr) (n c : Nat) (bs : List Int) (A' : Option Addr) (n' c' : Nat) (w : World) (h : Rd w w.heap.size 1 A n c (cb bs)) (hx : ∀ x ∈ bs, 0 ≤ x ∧ x ≤ 255) (hn' : n' ≤ 9223372036854775807) :
    Calls Try.prog 9 #[.slice A n c, .slice A' n' c'] w fun e w' => e = .returned (.bool true) ∧ Below w.heap.size w w' := by
  have hm := h.most
  have hcap := h.cap
  have HX := Lib.hid hx
  clear hx
  by_cases hz0 : 1048576 < n
  · have hd0 : decide ((1048576 : Int) < (n : Int)) = true := by simp; omega
    clear hz0
    go_enter Try.func9, Try.ntmps9
    go_wp2
    go_ret
    exact ⟨rfl, b0 _⟩
  have hd0 : decide ((1048576 : Int) < (n : Int)) = false := by simp; omega
  by_cases hz1 : 1048576 < n'
  · have hd1 : decide ((1048576 : Int) < (n' : Int)) = true := by simp; omega
    clear hz0 hz1
    go_enter Try.func9, Try.ntmps9
    go_wp2
    go_ret
    exact ⟨rfl, b0 _⟩
  have hd1 : decide ((1048576 : Int) < (n' : Int)) = false := by simp; omega
  go_enter Try.func9, Try.ntmps9
  go_wp2_with fail
  refine (DrawGainApply_any _ _ _ bs _ h HX.out (by omega)).mono ?_
  rintro e w1 ⟨N, A1, m1, c1, L, AG, mg, cg, G, ⟨n2, n7⟩, rfl, hr, hg, hB⟩
  go_wp2_with fail
  refine (GainApply_any _ _ _ _ _ _ N L G _ hr hg).mono ?_
  rintro e w2 ⟨v2, rfl, ho2, hB2⟩
  obtain ⟨A2, c2, rfl⟩ := own_form ho2
  replace hr := hr.after hB2
  replace hg := hg.after hB2
  replace hB := bT hB hB2
  clear hB2
  have hx := Rd.of_own ho2
  clear ho2
  go_wp2_with fail
  refine (sGainApply_any _ _ _ _ _ _ N L G _ hr hg).mono ?_
  rintro e w3 ⟨v3, rfl, ho3, hB3⟩
  obtain ⟨A3, c3, rfl⟩ := own_form ho3
  replace hr := hr.after hB3
  replace hg := hg.after hB3
  replace hx := hx.after hB3
  replace hB := bT hB hB3
  clear hB3
  have hy := Rd.of_own ho3
  clear ho3
  cases hok : Vm.gapB N L G
  ·
    go_wp2_with fail
    with_reducible refine (sameVis_self _ _ _ _ _ _ _ _ hx hy).mono ?_
    rintro e w4 ⟨rfl, hB4⟩
    replace hr := hr.after hB4
    replace hg := hg.after hB4
    replace hx := hx.after hB4
    replace hy := hy.after hB4
    replace hB := bT hB hB4
    clear hB4
    go_wp2_with fail
    with_reducible refine (sameVis_self _ _ _ _ _ _ _ _ hx hy).mono ?_
    rintro e w5 ⟨rfl, hB5⟩
    replace hr := hr.after hB5
    replace hg := hg.after hB5
    replace hx := hx.after hB5
    replace hy := hy.after hB5
    replace hB := bT hB hB5
    clear hB5
    go_wp2_with fail
    go_ret
    exact ⟨rfl, hB⟩
  · have hO := gap_OK2 hok
    have hbm := Vm.bmany_nat N ((Vm.manyB_iff _).2 (by omega))
    have hXl := hO.out.len
    have HO := Lib.hid hO
    have HV := Lib.hid hO.out.to
    have hXa := Lib.hid hO.out.all
    obtain ⟨X, hX⟩ : ∃ X, Vm.gapL N L G = X := ⟨_, rfl⟩
    rw [hX] at hx hy hXl HV hXa ⊢
    have HXX := Lib.hid hX
    have hpos : 0 < X.length := by
      have := Vm.bidx_bd (n := N) (i := 0) (j := 1) (by omega) (by omega) (by omega) (by omega)
      omega
    have h21 : X.length ≤ 21 := by have := Vm.bmany_le N; omega
    clear hX hbm hok hO hXl
    go_wp2_with fail
    with_reducible refine (sameVis_self _ _ _ _ _ _ _ _ hx hy).mono ?_
    rintro e w4 ⟨rfl, hB4⟩
    replace hr := hr.after hB4
    replace hg := hg.after hB4
    replace hx := hx.after hB4
    replace hy := hy.after hB4
    replace hB := bT hB hB4
    clear hB4
    by_cases h4 : N < 4
    · have hd4 : decide ((N : Int) < 4) = true := by simp; omega
      go_wp2_with fail
      with_reducible refine (VisValid_any _ _ _ N X _ hx).mono ?_
      rintro e w5 ⟨rfl, hB5⟩
      replace hr := hr.after hB5
      replace hg := hg.after hB5
      replace hx := hx.after hB5
      replace hy := hy.after hB5
      replace hB := bT hB hB5
      clear hB5
      rw [HV.out]
      go_wp2_with fail
      go_ret
      exact ⟨rfl, hB⟩
    · have hd4 : decide ((N : Int) < 4) = false := by simp; omega
      obtain ⟨bb, off, eA, hbb, hcells⟩ := hx.at_ (by omega)
      subst eA
      have hrc := hx.cap
      have hrm := hx.most
      obtain ⟨i0, hi, hq0, hq1, hq2⟩ := info_parts infoVis
      have hlit := World.ownsRow_lit (base := w4.heap.size) (e := 41) (size := 2) w4 #[] 0 (Nat.le_refl _) (by decide) rfl
      have i1 := Int.emod_nonneg (n' : Int) (show (X.length : Int) ≠ 0 by omega)
      have i2 := Int.emod_lt_of_pos (n' : Int) (show (0 : Int) < (X.length : Int) by omega)
      obtain ⟨k, hkk⟩ := Vm.nat_of (i := (n' : Int) % (X.length : Int)) i1
      have kX : k < X.length := by omega
      have hl0 : ((X.length : Int) == 0) = false := by rw [beq_eq_false_iff_ne]; omega
      have htm : (n' : Int).tmod (X.length : Int) = (k : Int) := by rw [Int.tmod_eq_emod_of_nonneg (by omega)]; exact hkk
      obtain ⟨s, hs⟩ := Vm.nat_of (i := (n' : Int) % 300) (by omega)
      have hs3 : s < 300 := by omega
      have hts : (n' : Int).tmod 300 = (s : Int) := by rw [Int.tmod_eq_emod_of_nonneg (by omega)]; exact hs
      clear i1 i2
      go_wp2_with (at_builtin; refine wpList_append_own _ rfl _ _ 23 rfl w4.heap.size 41 i0 _ 2 16 Try.underlying23 hi hq0 hq1 hq2 rfl (by decide) _ _ _ rfl hlit ⟨bb, off, none⟩ X.length _ (cp X) rfl (by rw [cp_length]) ?e1 (cp_one X) ?e3 ?e4 ?e5 ?_)
      case e1 =>
        intro j u hj
        have ee : ((⟨bb, off, none⟩ : Addr).add j) = ⟨bb, off + j, none⟩ := by unfold Addr.add; split <;> simp_all
        have := hcells j u hj
        rw [ee, World.cell?_alloc_past _ _ _ (block_lt_of_cell this)]
        exact this
      case e3 => unfold maxLen; omega
      case e4 => omega
      case e5 => simp
      intro v' w9 hown' hgrow _
      obtain ⟨gg, cap, rfl⟩ := own_head5 hown' (by omega)
      have hg1 := (hown'.lt gg rfl).1
      have hb9 := own_below (bA (b0 w4) _) hlit hgrow
      have hown : w9.ownsRow w4.heap.size 41 2 (.slice (some ⟨gg, 0, none⟩) X.length cap) X.length (cp X) := by simpa using hown'
      clear hown' hgrow hlit hcells
      have capX := (Rd.of_own hown).cap
      have x1 := cp_at X k kX
      rw [Nat.mul_comm 2 k] at x1
      have c1 := (hown.cellAt (k * 2) (by omega)).trans x1.1
      have c2 := (hown.cellAt (k * 2 + 1) (by omega)).trans x1.2
      have fr := hown.frozenAt (k * 2 + 1)
      have hph := (Vm.visOk_iff _ _).1 (List.all_eq_true.1 hXa.out _ (List.getElem_mem kX))
      obtain ⟨z, hz⟩ : ∃ z, (X[k].2 + 1 + (s : Int)) % 360 = z := ⟨_, rfl⟩
      have hS := (hown.stored (k * 2 + 1) (.int .i64 z)).1
      rw [set_phase kX] at hS
      have hwr : X.set k (X[k].1, z) = Vm.wrong X k (1 + (s : Int)) := by
        unfold Vm.wrong
        have : X.getD k (0, 0) = X[k] := by simp [kX]
        rw [this, ← hz]
        congr 3
        omega
      rw [hwr] at hS
      have hWl : (Vm.wrong X k (1 + (s : Int))).length = X.length := Vm.wrong_len _ _ _
      have hb10 := bS hb9 (p := ⟨gg, k * 2 + 1, none⟩) hg1 (.int .i64 z)
      obtain ⟨p, hp⟩ : ∃ p, X[k] = p := ⟨_, rfl⟩
      rw [hp] at c1 c2 hph hz
      obtain ⟨_, p1, p2⟩ := hph
      have HZ := Lib.hid hz
      have HWL := Lib.hid hWl
      have kXi : (k : Int) < (X.length : Int) := by omega
      have hkk2 : ((k : Int) == (k : Int)) = true := by simp
      clear hz hp hwr hWl x1 hown hb9
      go_wp2_with (go_at_call 24; refine (PhaseOf_any _ _).mono ?_; rintro e w' ⟨rfl, rfl⟩; rw [HZ.out])
      obtain ⟨W, hW⟩ : ∃ W, w9.setCell ⟨gg, k * 2 + 1, none⟩ (.int .i64 z) = W := ⟨_, rfl⟩
      rw [hW] at hS hb10 ⊢
      clear hW c1 c2 fr hx hy
      replace hr := hr.after hb10
      replace hg := hg.after hb10
      replace hB := bT hB hb10
      clear hb10
      with_reducible refine (FlagFind_any _ _ _ _ _ _ N (Vm.wrong X k (1 + (s : Int))) L _ (Rd.of_own hS) hr).mono ?_
      rintro e w5 ⟨ok3, x3, rfl, hfr, hB5⟩
      replace hr := hr.after hB5
      replace hg := hg.after hB5
      replace hB := bT hB hB5
      clear hB5
      obtain ⟨eo, ex⟩ : ok3 = true ∧ x3 = k := by
        refine HO.out.findOne (k := k) (c := 1 + (s : Int)) (by omega) (by rw [HXX.out]; exact kX) (by omega) (ok := ok3) (x := x3) ?_
        rw [HXX.out]; exact hfr
      subst eo ex
      clear hfr
      go_wp2_with fail
      go_ret
      exact ⟨rfl, hB⟩

end Go.Proofs.Ytmoeofclpnblmaa
