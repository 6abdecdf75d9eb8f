/- Contracts: bases of closure phases that are drawn from a code. -/
import Derived.Test.YtgipjfcmgmbcnaaBaseA
import Derived.Test.YtgipjfcmgmbcnaaDrawC
namespace Go.Proofs.Ytgipjfcmgmbcnaa
open Go.RowKit

def BasePost (R B N : Nat) (w : World) (e : Ending) (w' : World) : Prop := ∃ (n : Nat) (v : Value) (L : List Int), 3 ≤ n ∧ n ≤ 6 ∧ e = .returned (.tuple #[.int .i64 n, v]) ∧ DRow w R B N 3 1 v L.length (ci L) w'
def l92Rel (w : World) (R B N : Nat) (M : Nat) (v i : Value) (wr : World) : Prop := ∃ (k : Nat) (L : List Int), k ≤ M ∧ L.length = k ∧ i = .int .i64 k ∧ DRow w R B (N + 3 * k) 3 1 v L.length (ci L) wr
theorem ci_set0 (L : List Int) (a : Int) : (ci L).set 0 (.int .i64 a) = ci (L.set 0 a) := (ci_set L 0 a).symm
set_option maxHeartbeats 2000000 in
theorem l92Base_any (R B N : Nat) (w : World) (h : Rdr w R B N) (hN : N ≤ 1000000) : Calls Try.prog 53 #[.pointer (some ⟨R, 0, none⟩)] w (BasePost R B (N + 60) w) := by
  obtain ⟨i0, hi, hz0, hz1, hz2⟩ := info_parts infoInt
  have hR := h.lt
  go_enter Try.func53, Try.ntmps53
  go_wp2_with fail
  refine (pick_any R B N 4 _ h (by omega) (by omega) (by omega)).mono ?_
  rintro e w1 ⟨x, rfl, x1, x2, hr1, hg1⟩
  obtain ⟨n, hn⟩ : ∃ n : Nat, 3 + x = n := Vm.nat_of (by omega)
  have HN := Lib.hid hn
  have n3 : 3 ≤ n := by omega
  have n6 : n ≤ 6 := by omega
  clear hn
  have hcm := Vm.cmany_nat n n3 (by omega)
  obtain ⟨m1, m2, _⟩ := Vm.cm_all n n3 (by omega)
  obtain ⟨M, hM⟩ : ∃ M, (n - 1) * (n - 2) / 2 = M := ⟨_, rfl⟩
  rw [hM] at hcm m1 m2
  have HM := Lib.hid hcm
  clear hcm hM
  go_wp2_with fail
  rw [HN.out]
  clear x1 x2
  have hS := DRow.lit0 hr1 3 1
  go_loopw [5, 6] (fun v i wr => l92Rel w1 R B (N + 1) M v i wr) (fun _ i _ => M - (intOf i).toNat)
  case atStart => exact ⟨0, [], Nat.zero_le _, rfl, rfl, hS⟩
  case round =>
    clear hS
    obtain ⟨k, L, hk, hL, rfl, hD⟩ := hrel
    obtain ⟨A, c, rfl⟩ := own_form hD.own
    have HL := Lib.hid hL
    clear hL
    by_cases hlt : k < M
    · go_wp2_with (go_at_call 77; refine (sCloseMany_any _ _).mono ?_; rintro e w' ⟨rfl, rfl⟩; rw [HM.out])
      refine (l91Phase_any R B (N + 1 + 3 * k) _ hD.rdr (by omega)).mono ?_
      rintro e w2 ⟨p, rfl, ⟨p1, p2⟩, hr2, hg2⟩
      have hD2 := hD.pick hr2 hg2
      clear hD hr2 hg2
      have hD3 := hD2.alloc (.cells #[.int .i64 p] 3)
      have hsz := hD2.grown.size
      have hLk : L.length ≤ 21 := by have := HL.out; omega
      have HC := Lib.hid (ci_snoc L p)
      go_wp2_with (at_builtin; refine wpList_append_own _ rfl _ _ 22 rfl w1.heap.size 3 i0 _ 1 8 Try.underlying22 hi hz0 hz1 hz2 rfl (by decide) _ _ _ rfl hD3.own ⟨w2.heap.size, 0, none⟩ 1 1 [.int .i64 p] rfl rfl (new_cells _ _ _) ?c2 ?c3 ?c4 ?c5 ?_)
      case c2 => intro u hu; simp at hu; subst hu; rfl
      case c3 => unfold maxLen; omega
      case c4 => omega
      case c5 => simp; omega
      intro v' w3 hown' hgrow _
      have hD4 := hD3.app hown' hgrow
      rw [← HC.out] at hD4
      clear hown' hgrow hD2 hD3
      go_wp2_with fail
      go_roundw
      case rel => exact ⟨k + 1, L ++ [p], by omega, by simp [HL.out], by go_num, by simpa using hD4.mono (by omega)⟩
      case measure => simp [intOf]; omega
    · have hpos : 0 < L.length := by rw [HL.out]; omega
      obtain ⟨g, c', e1⟩ := hD.form hpos
      injection e1 with e1 _ e3
      subst e1 e3
      go_wp2_with (go_at_call 77; refine (sCloseMany_any _ _).mono ?_; rintro e w' ⟨rfl, rfl⟩; rw [HM.out])
      refine (pick_any R B (N + 1 + 3 * k) 24 _ hD.rdr (by omega) (by omega) (by omega)).mono ?_
      rintro e w2 ⟨m, rfl, m1, m2, hr2, hg2⟩
      have hD1 := hD.pick hr2 hg2
      clear hD hr2 hg2
      have hi1 : (0 : Int) < (L.length : Int) := by omega
      obtain ⟨c0, f0⟩ := hD1.cell 0 hpos rfl
      by_cases hm0 : m = 0
      · have e0 : (m == 0) = true := by simp [hm0]
        clear hm0
        have hD2 := (hD1.seti 0 360).mono (N' := N + 60) (by omega)
        have hP : BasePost R B (N + 60) w (.returned (.tuple #[.int .i64 n, .slice (some ⟨g, 0, none⟩) L.length c])) (w2.setCell ⟨g, 0, none⟩ (.int .i64 360)) := ⟨n, _, L.set 0 360, n3, n6, rfl, by simpa using hD2.base hg1 hR⟩
        clear hD1 hD2
        go_wp2_with fail
        go_ret2
        exact hP
      · have e0 : (m == 0) = false := by simp [hm0]
        clear hm0
        by_cases hm1 : m = 1
        · have e1 : (m == 1) = true := by simp [hm1]
          clear hm1
          have hD3 := hD1.alloc (.cells #[.int .i64 0] 3)
          have hsz := hD1.grown.size
          have hLk : L.length ≤ 21 := by have := HL.out; omega
          have HC := Lib.hid (ci_snoc L 0)
          go_wp2_with (at_builtin; refine wpList_append_own _ rfl _ _ 22 rfl w1.heap.size 3 i0 _ 1 8 Try.underlying22 hi hz0 hz1 hz2 rfl (by decide) _ _ _ rfl hD3.own ⟨w2.heap.size, 0, none⟩ 1 1 [.int .i64 0] rfl rfl (new_cells _ _ _) ?d2 ?d3 ?d4 ?d5 ?_)
          case d2 => intro u hu; simp at hu; subst hu; rfl
          case d3 => unfold maxLen; omega
          case d4 => omega
          case d5 => simp; omega
          intro v' w3 hown' hgrow _
          have hD4 := hD3.app hown' hgrow
          rw [← HC.out] at hD4
          obtain ⟨A', c'', rfl⟩ := own_form hD4.own
          have hP : BasePost R B (N + 60) w (.returned (.tuple #[.int .i64 n, .slice A' (L.length + 1) c''])) w3 := ⟨n, _, L ++ [0], n3, n6, rfl, by simpa using (hD4.mono (N' := N + 60) (by omega)).base hg1 hR⟩
          clear hown' hgrow hD1 hD3 hD4
          go_wp2_with fail
          go_ret2
          exact hP
        · have e1 : (m == 1) = false := by simp [hm1]
          clear hm1
          have hP : BasePost R B (N + 60) w (.returned (.tuple #[.int .i64 n, .slice (some ⟨g, 0, none⟩) L.length c])) w2 := ⟨n, _, L, n3, n6, rfl, (hD1.mono (N' := N + 60) (by omega)).base hg1 hR⟩
          clear hD1
          go_wp2_with fail
          go_ret2
          exact hP
def BaseDrawn (w : World) (e : Ending) (w' : World) : Prop := ∃ (n : Nat) (A : Option Addr) (m c : Nat) (L : List Int), (3 ≤ n ∧ n ≤ 6) ∧ e = .returned (.tuple #[.int .i64 n, .slice A m c]) ∧ Rd w' w'.heap.size 1 A m c (ci L) ∧ Below w.heap.size w w'
set_option maxHeartbeats 400000 in
theorem DrawCloseVis_any (A : Option Addr) (n c : Nat) (bs : List Int) (w : World) (h : Rd w w.heap.size 1 A n c (cb bs)) (hx : ∀ x ∈ bs, 0 ≤ x ∧ x ≤ 255) (hn : n ≤ 1048576) : Calls Try.prog 19 #[.slice A n c] w (BaseDrawn w) := by
  have HX := Lib.hid hx
  clear hx
  go_enter Try.func19, Try.ntmps19
  go_wp2_with fail
  refine (l6Open_any _ _ _ bs _ h HX.out hn).mono ?_
  rintro e w1 ⟨rfl, hr, hb⟩
  go_wp2_with fail
  refine (l92Base_any _ _ _ _ hr (by omega)).mono ?_
  rintro e w2 ⟨N, v, L, n3, n6, rfl, hD⟩
  obtain ⟨A', c', rfl⟩ := own_form hD.own
  have hP : BaseDrawn w (.returned (.tuple #[.int .i64 N, .slice A' L.length c'])) w2 := ⟨N, _, _, _, L, ⟨n3, n6⟩, rfl, Rd.of_own hD.own, below_of_g hb hD.grown (Nat.le_refl _)⟩
  go_wp2_with fail
  go_ret2
  exact hP
def FromDrawn (w : World) (e : Ending) (w' : World) : Prop := ∃ (n : Nat) (A : Option Addr) (m c : Nat) (L : List Int) (i j k : Int), (3 ≤ n ∧ n ≤ 6) ∧ e = .returned (.tuple #[.int .i64 n, .slice A m c, .int .i64 i, .int .i64 j, .int .i64 k]) ∧ Rd w' w'.heap.size 1 A m c (ci L) ∧ Below w.heap.size w w'
set_option maxHeartbeats 1000000 in
theorem DrawCloseFrom_any (A : Option Addr) (n c : Nat) (bs : List Int) (w : World) (h : Rd w w.heap.size 1 A n c (cb bs)) (hx : ∀ x ∈ bs, 0 ≤ x ∧ x ≤ 255) (hn : n ≤ 1048576) : Calls Try.prog 33 #[.slice A n c] w (FromDrawn w) := by
  have HX := Lib.hid hx
  clear hx
  go_enter Try.func33, Try.ntmps33
  go_wp2_with fail
  refine (l6Open_any _ _ _ bs _ h HX.out hn).mono ?_
  rintro e w1 ⟨rfl, hr, hb⟩
  have hR1 := hr.lt
  go_wp2_with fail
  refine (l92Base_any _ _ _ _ hr (by omega)).mono ?_
  rintro e w2 ⟨N, v, L, n3, n6, rfl, hD⟩
  obtain ⟨A', c', rfl⟩ := own_form hD.own
  go_wp2_with fail
  refine (l92Apart_any _ _ _ N 3 _ hD.rdr (by omega) (by omega) (by omega) (by omega) (by omega)).mono ?_
  rintro e w3 ⟨g, c3, l, hl, rfl, hD3⟩
  obtain ⟨d0, _⟩ := hD3.cell 0 (by omega) hl
  obtain ⟨d1, _⟩ := hD3.cell 1 (by omega) hl
  obtain ⟨d2, _⟩ := hD3.cell 2 (by omega) hl
  have hK := (KRd.of_own hD.own hD.lt).next hD3.grown
  have hrd := hK.rd
  have hB3 := below_of_g (below_of_g hb hD.grown (Nat.le_refl _)) hD3.grown (Nat.le_refl _)
  clear hK hD hD3 hl hb hr
  obtain ⟨x0, hx0⟩ : ∃ x, l.getD 0 0 = x := ⟨_, rfl⟩
  obtain ⟨x1, hx1⟩ : ∃ x, l.getD 1 0 = x := ⟨_, rfl⟩
  obtain ⟨x2, hx2⟩ : ∃ x, l.getD 2 0 = x := ⟨_, rfl⟩
  rw [hx0] at d0
  rw [hx1] at d1
  rw [hx2] at d2
  clear hx0 hx1 hx2
  go_wp2_with fail
  go_quiet (fail)
  go_wp2_with fail
  refine bodyPost_ret (v := .tuple #[.int .i64 N, .slice A' L.length c', .int .i64 x0, .int .i64 x1, .int .i64 x2]) (by simp [results, Try.results33, go_sem]) rfl ?_
  exact ⟨N, _, _, _, L, x0, x1, x2, ⟨n3, n6⟩, rfl, hrd.after (bD (b0 _) _), bD hB3 _⟩
def CBDrawn (w : World) (e : Ending) (w' : World) : Prop := ∃ (n : Nat) (A : Option Addr) (m c : Nat) (L : List (Int × Int)), (2 ≤ n ∧ n ≤ 7) ∧ e = .returned (.tuple #[.int .i64 n, .slice A m c]) ∧ Rd w' w'.heap.size 2 A m c (cp L) ∧ Below w.heap.size w w'
set_option maxHeartbeats 1000000 in
theorem DrawCloseBase_any (A : Option Addr) (n c : Nat) (bs : List Int) (w : World) (h : Rd w w.heap.size 1 A n c (cb bs)) (hx : ∀ x ∈ bs, 0 ≤ x ∧ x ≤ 255) (hn : n ≤ 1048576) : Calls Try.prog 36 #[.slice A n c] w (CBDrawn w) := by
  have HX := Lib.hid hx
  clear hx
  go_enter Try.func36, Try.ntmps36
  go_wp2_with fail
  refine (l6Open_any _ _ _ bs _ h HX.out hn).mono ?_
  rintro e w1 ⟨rfl, hr, hb⟩
  go_wp2_with fail
  refine (pick_any _ _ _ 12 _ hr (by omega) (by omega) (by omega)).mono ?_
  rintro e w2 ⟨m, rfl, m1, m2, hr2, hg2⟩
  have hb2 := below_of_g hb hg2 (Nat.le_refl _)
  by_cases hm : m = 0
  · have hd : (m == 0) = true := by simp [hm]
    clear hm
    go_wp2_with fail
    refine (l91Vis_any _ _ _ 2 _ hr2 (by omega)).mono ?_
    rintro e w3 ⟨v, L, rfl, hD⟩
    obtain ⟨A', c', rfl⟩ := own_form hD.own
    have hP : CBDrawn w (.returned (.tuple #[.int .i64 2, .slice A' L.length c'])) w3 := ⟨2, _, _, _, L, ⟨by omega, by omega⟩, rfl, Rd.of_own hD.own, below_of_g hb2 hD.grown (Nat.le_refl _)⟩
    go_wp2_with fail
    go_ret2
    exact hP
  · have hd : (m == 0) = false := by simp [hm]
    clear hm
    go_wp2_with fail
    refine (l92Many_any _ _ _ 3 _ hr2 (by omega) (by omega) (by omega)).mono ?_
    rintro e w3 ⟨N, v, L, N2, N7, N3, rfl, hD⟩
    obtain ⟨A', c', rfl⟩ := own_form hD.own
    have hP : CBDrawn w (.returned (.tuple #[.int .i64 N, .slice A' L.length c'])) w3 := ⟨N, _, _, _, L, ⟨N2, N7⟩, rfl, Rd.of_own hD.own, below_of_g hb2 hD.grown (Nat.le_refl _)⟩
    go_wp2_with fail
    go_ret2
    exact hP

end Go.Proofs.Ytgipjfcmgmbcnaa
