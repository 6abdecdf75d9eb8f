/- The laws on exchanged antennas: FnSwap, FnSwapGet, FnCloseSwap. -/
import Derived.Test.YthfljdamahmkaaaSwap2
import Derived.Test.YthfljdamahmkaaaLawC1
namespace Go.Proofs.Ythfljdamahmkaaa
open Go.RowKit

def sameVRel (L M : List (Int × Int)) (w : World) (i : Value) (wr : World) : Prop := ∃ k : Nat, k ≤ L.length ∧ i = .int .i64 k ∧ L.take k = M.take k ∧ ∃ nq, wr = w.drewN nq
set_option maxHeartbeats 400000 in
theorem sameVis_any (A B : Option Addr) (n c m d : Nat) (L M : List (Int × Int)) (w : World) (h : Rd w w.heap.size 2 A n c (cp L)) (h' : Rd w w.heap.size 2 B m d (cp M)) :
    Calls Try.prog 36 #[.slice A n c, .slice B m d] w fun e w' => e = .returned (.bool (decide (L = M))) ∧ ∃ nq, w' = w.drewN nq := by
  have hn := h.len
  rw [cp_length] at hn
  have hn' := h'.len
  rw [cp_length] at hn'
  have hm := h.most
  have hcap := h.cap
  have hm' := h'.most
  have hcap' := h'.cap
  obtain rfl : L.length = n := by omega
  obtain rfl : M.length = m := by omega
  clear hn hn'
  by_cases hl : L.length = M.length
  · have hL := Lib.hid hl
    have hd : ((L.length : Int) != (M.length : Int)) = false := by simp [hl]
    have hle : L.length ≤ M.length := by omega
    clear hl
    have hne := run_neq_Vis
    go_enter Try.func36, Try.ntmps36
    go_wp2
    go_loopw [5] (fun i wr => sameVRel L M w i wr) (fun i _ => L.length - (intOf i).toNat)
    case atStart => exact ⟨0, Nat.zero_le _, rfl, by simp, 0, rfl⟩
    case round =>
      obtain ⟨k, hk, rfl, hall, nq, rfl⟩ := hrel
      have HA := Lib.hid hall
      clear hall
      by_cases hlt : k < L.length
      · have hlt' : k < M.length := by omega
        obtain ⟨b, off, rfl, hb, hc, hcy⟩ := h.pair_at hlt
        obtain ⟨b', off', rfl, hb', hc', hcy'⟩ := h'.pair_at hlt'
        by_cases he : L[k] = M[k]
        · have ht : peq L[k].1 L[k].2 M[k].1 M[k].2 = true := peq_true (by simp [he])
          have H : Hid (L.take (k + 1) = M.take (k + 1)) := by
            show _ = _
            rw [List.take_succ_eq_append_getElem hlt, List.take_succ_eq_append_getElem hlt', HA.out, he]
          clear he
          go_wp2
          go_quiet (fail)
          go_wp2
          go_roundw
          case rel => exact ⟨k + 1, by omega, by go_num, H.out, _, rfl⟩
          case measure => simp [intOf]; omega
        · have ht : peq L[k].1 L[k].2 M[k].1 M[k].2 = false := peq_false (fun e => he (Prod.ext e.1 e.2))
          have H := Lib.hid (show decide (L = M) = false by
            rw [decide_eq_false_iff_not]; intro e; subst e; exact he rfl)
          clear he
          go_wp2
          go_quiet (fail)
          go_wp2
          go_ret
          exact ⟨ret_bool H.out.symm, drewN2 _ _ _⟩
      · have H := Lib.hid (show decide (L = M) = true by
          have h1 := HA.out
          rw [List.take_of_length_le (by omega), List.take_of_length_le (by rw [← hL.out]; omega)] at h1
          simpa using h1)
        go_wp2
        go_ret
        exact ⟨ret_bool H.out.symm, nq, rfl⟩
  · have hd : ((L.length : Int) != (M.length : Int)) = true := by simp; omega
    have H := Lib.hid (show decide (L = M) = false by
      rw [decide_eq_false_iff_not]; intro e; subst e; exact hl rfl)
    clear hl
    go_enter Try.func36, Try.ntmps36
    go_wp2
    go_ret
    exact ⟨ret_bool H.out.symm, 0, rfl⟩
theorem sameVis_self (A B : Option Addr) (n c m d : Nat) (L : List (Int × Int)) (w : World) (h : Rd w w.heap.size 2 A n c (cp L)) (h' : Rd w w.heap.size 2 B m d (cp L)) :
    Calls Try.prog 36 #[.slice A n c, .slice B m d] w fun e w' => e = .returned (.bool true) ∧ Below w.heap.size w w' :=
  (sameVis_any A B n c m d L L w h h').mono fun e w' ⟨he, nq, hw⟩ => ⟨by rw [he]; simp, by rw [hw]; exact bD (b0 _) _⟩
def SwapDrawn (w : World) (e : Ending) (w' : World) : Prop := ∃ (n : Nat) (A : Option Addr) (m c : Nat) (L : List (Int × Int)) (a b : Int), n ≤ 7 ∧ e = .returned (.tuple #[.int .i64 n, .slice A m c, .int .i64 a, .int .i64 b]) ∧ Rd w' w'.heap.size 2 A m c (cp L) ∧ Below w.heap.size w w'
set_option maxHeartbeats 1000000 in
theorem DrawVisSwap_any (A : Option Addr) (n c : Nat) (bs : List Int) (w : World) (h : Rd w w.heap.size 1 A n c (cb bs)) (hx : ∀ x ∈ bs, 0 ≤ x ∧ x ≤ 255) (hn : n ≤ 1048576) : Calls Try.prog 35 #[.slice A n c] w (SwapDrawn w) := by
  have HX := Lib.hid hx
  clear hx
  go_enter Try.func35, Try.ntmps35
  go_wp2_with fail
  refine (l6Open_any _ _ _ bs _ h HX.out hn).mono ?_
  rintro e w1 ⟨rfl, hr, hb⟩
  go_wp2_with fail
  refine (l91Ants_any _ _ _ _ hr (by omega)).mono ?_
  rintro e w2 ⟨x, rfl, ⟨x1, x2⟩, hr2, hg2⟩
  obtain ⟨N, rfl⟩ := Vm.nat_of (i := x) (by omega)
  have hb2 := below_of_g hb hg2 (Nat.le_refl _)
  go_wp2_with fail
  refine (l91Vis_any _ _ _ N _ hr2 (by omega)).mono ?_
  rintro e w3 ⟨v, L, rfl, hD⟩
  obtain ⟨A', c', rfl⟩ := own_form hD.own
  have hK := KRd.of_own hD.own hD.lt
  have hb3 := below_of_g hb2 hD.grown (Nat.le_refl _)
  go_wp2_with fail
  refine (pick_any _ _ _ 16 _ hD.rdr (by omega) (by omega) (by omega)).mono ?_
  rintro e w4 ⟨y, rfl, y1, y2, hr4, hg4⟩
  have hK4 := hK.next hg4
  have hb4 := below_of_g hb3 hg4 (Nat.le_refl _)
  clear hK hb3 hD
  by_cases hy : y = 0
  · have hd : (y == 0) = true := by simp [hy]
    clear hy
    have hrd := hK4.rd
    go_wp2_with fail
    refine bodyPost_ret (v := .tuple #[.int .i64 N, .slice A' L.length c', .int .i64 0, .int .i64 N]) (by simp [results, Try.results35, go_sem]) rfl ?_
    exact ⟨N, _, _, _, L, _, _, by omega, rfl, hrd, hb4⟩
  · have hd : (y == 0) = false := by simp [hy]
    clear hy
    go_wp2_with fail
    refine (pick_any _ _ _ N _ hr4 (by omega) (by omega) (by omega)).mono ?_
    rintro e w5 ⟨a, rfl, a1, a2, hr5, hg5⟩
    go_wp2_with fail
    refine (pick_any _ _ _ N _ hr5 (by omega) (by omega) (by omega)).mono ?_
    rintro e w6 ⟨b, rfl, b1, b2, hr6, hg6⟩
    have hrd := ((hK4.next hg5).next hg6).rd
    have hb6 := below_of_g (below_of_g hb4 hg5 (Nat.le_refl _)) hg6 (Nat.le_refl _)
    go_wp2_with fail
    refine bodyPost_ret (v := .tuple #[.int .i64 N, .slice A' L.length c', .int .i64 a, .int .i64 b]) (by simp [results, Try.results35, go_sem]) rfl ?_
    exact ⟨N, _, _, _, L, _, _, by omega, rfl, hrd, hb6⟩
set_option maxRecDepth 100000 in
set_option maxHeartbeats 2000000 in
theorem law_swap (A : Option Addr) (n c : Nat) (bs : List Int) (w : World) (h : Rd w w.heap.size 1 A n c (cb bs)) (hx : ∀ x ∈ bs, 0 ≤ x ∧ x ≤ 255) :
    Calls Try.prog 7 #[.slice A n c] w fun e w' => e = .returned (.bool true) ∧ Below w.heap.size w w' := by
  have hm := h.most
  have hcap := h.cap
  have HX := Lib.hid hx
  clear hx
  by_cases hn : 1048576 < n
  · have hd : decide ((1048576 : Int) < (n : Int)) = true := by simp; omega
    go_enter Try.func7, Try.ntmps7
    go_wp2
    go_ret
    exact ⟨rfl, b0 _⟩
  have hd : decide ((1048576 : Int) < (n : Int)) = false := by simp; omega
  go_enter Try.func7, Try.ntmps7
  go_wp2_with fail
  refine (DrawVisSwap_any _ _ _ bs _ h HX.out (by omega)).mono ?_
  rintro e w1 ⟨N, A1, m1, c1, L, a, b, hN, rfl, hr, hB1⟩
  go_wp2_with fail
  refine (VisSwap_any _ _ _ N L a b _ hr).mono ?_
  rintro e w2 ⟨v2, rfl, ho2, hB2⟩
  obtain ⟨A2, c2, rfl⟩ := own_form ho2
  go_wp2_with fail
  refine (sVisSwap_any _ _ _ N L a b _ (hr.after hB2) (by omega) (by omega)).mono ?_
  rintro e w3 ⟨v3, rfl, ho3, hB3⟩
  obtain ⟨A3, c3, rfl⟩ := own_form ho3
  have hr2 := (Rd.of_own ho2).after hB3
  have hr3 := Rd.of_own ho3
  have hr1 := (hr.after hB2).after hB3
  have hB := bT (bT hB1 hB2) hB3
  clear ho2 ho3 hB1 hB2 hB3 hr
  cases hok : Vm.swapB N L a b
  · go_wp2_with fail
    refine (sameVis_self _ _ _ _ _ _ _ _ hr2 hr3).mono ?_
    rintro e w4 ⟨rfl, hB4⟩
    go_wp2_with fail
    refine (sameVis_self _ _ _ _ _ _ _ _ (hr2.after hB4) (hr3.after hB4)).mono ?_
    rintro e w5 ⟨rfl, hB5⟩
    go_wp2_with fail
    go_ret
    exact ⟨rfl, bT (bT hB hB4) hB5⟩
  · have HB := Lib.hid (Vm.swap_again hok)
    have HL := Lib.hid (Vm.swap_swap hok)
    have HV := Lib.hid (Vm.swap_ok hok).to
    obtain ⟨M, hM⟩ : ∃ M, Vm.swapL N L a b = M := ⟨_, rfl⟩
    rw [hM] at HB HL HV hr2 hr3 ⊢
    clear hM hok
    go_wp2_with fail
    refine (sameVis_self _ _ _ _ _ _ _ _ hr2 hr3).mono ?_
    rintro e w4 ⟨rfl, hB4⟩
    go_wp2_with fail
    refine (VisSwap_any _ _ _ N M a b _ (hr2.after hB4)).mono ?_
    rintro e w5 ⟨v5, rfl, ho5, hB5⟩
    rw [HB.out]
    rw [HL.out] at ho5
    obtain ⟨A5, c5, rfl⟩ := own_form ho5
    go_wp2_with fail
    refine (sameVis_self _ _ _ _ _ _ _ _ (Rd.of_own ho5) ((hr1.after hB4).after hB5)).mono ?_
    rintro e w6 ⟨rfl, hB6⟩
    go_wp2_with fail
    refine (VisValid_any _ _ _ N M _ (((hr2.after hB4).after hB5).after hB6)).mono ?_
    rintro e w7 ⟨rfl, hB7⟩
    rw [HV.out]
    go_wp2_with fail
    go_ret
    exact ⟨rfl, bT (bT (bT (bT hB hB4) hB5) hB6) hB7⟩
set_option maxRecDepth 100000 in
set_option maxHeartbeats 2000000 in
theorem law_closeSwap (A : Option Addr) (n c : Nat) (bs : List Int) (w : World) (h : Rd w w.heap.size 1 A n c (cb bs)) (hx : ∀ x ∈ bs, 0 ≤ x ∧ x ≤ 255) :
    Calls Try.prog 14 #[.slice A n c] w fun e w' => e = .returned (.bool true) ∧ Below w.heap.size w w' := by
  have hm := h.most
  have hcap := h.cap
  have HX := Lib.hid hx
  clear hx
  by_cases hn : 1048576 < n
  · have hd : decide ((1048576 : Int) < (n : Int)) = true := by simp; omega
    go_enter Try.func14, Try.ntmps14
    go_wp2
    go_ret
    exact ⟨rfl, b0 _⟩
  have hd : decide ((1048576 : Int) < (n : Int)) = false := by simp; omega
  go_enter Try.func14, Try.ntmps14
  go_wp2_with fail
  refine (DrawClosePhase_any _ _ _ bs _ h HX.out (by omega)).mono ?_
  rintro e w1 ⟨N, A1, m1, c1, L, i, j, k, rfl, hr, hB1⟩
  go_wp2_with fail
  refine (ClosePhase_any _ _ _ N i j k L _ hr).mono ?_
  rintro e w2 ⟨rfl, hB2⟩
  go_wp2_with fail
  refine (sClosePhase_any _ _ _ N i j k L _ (hr.after hB2)).mono ?_
  rintro e w3 ⟨rfl, hB3⟩
  have hr3 := (hr.after hB2).after hB3
  have hB := bT (bT hB1 hB2) hB3
  clear hr hB1 hB2 hB3
  have hcs := @Vm.close_swap N L i j k
  obtain ⟨o, ho⟩ : ∃ o, Vm.loopP N L [i, j, k] = o := ⟨_, rfl⟩
  rw [ho] at hcs ⊢
  clear ho
  cases hok : Vm.loopB N L [i, j, k]
  · clear hcs
    go_wp2_with fail
    go_ret
    exact ⟨rfl, hB⟩
  · have HS := Lib.hid (hcs hok)
    clear hcs hok
    go_wp2_with fail
    refine (VisSwap_any _ _ _ N L i j _ hr3).mono ?_
    rintro e w4 ⟨v4, rfl, ho4, hB4⟩
    rw [HS.out.1]
    obtain ⟨A4, c4, rfl⟩ := own_form ho4
    go_wp2_with fail
    refine (ClosePhase_any _ _ _ N j i k _ _ (Rd.of_own ho4)).mono ?_
    rintro e w5 ⟨rfl, hB5⟩
    rw [HS.out.2.1, HS.out.2.2]
    go_wp2_with fail
    go_ret
    exact ⟨rfl, bT (bT hB hB4) hB5⟩
set_option maxRecDepth 100000 in
set_option maxHeartbeats 4000000 in
theorem law_swapGet (A : Option Addr) (n c : Nat) (bs : List Int) (A' : Option Addr) (n' c' : Nat) (w : World) (h : Rd w w.heap.size 1 A n c (cb bs)) (hx : ∀ x ∈ bs, 0 ≤ x ∧ x ≤ 255) (hn' : n' ≤ 9223372036854775807) :
    Calls Try.prog 8 #[.slice A n c, .slice A' n' c'] w fun e w' => e = .returned (.bool true) ∧ Below w.heap.size w w' := by
  have hm := h.most
  have hcap := h.cap
  have HX := Lib.hid hx
  clear hx
  by_cases hn : 1048576 < n
  · have hd : decide ((1048576 : Int) < (n : Int)) = true := by simp; omega
    go_enter Try.func8, Try.ntmps8
    go_wp2
    go_ret
    exact ⟨rfl, b0 _⟩
  have hd : decide ((1048576 : Int) < (n : Int)) = false := by simp; omega
  by_cases hn2 : 1048576 < n'
  · have hd2 : decide ((1048576 : Int) < (n' : Int)) = true := by simp; omega
    go_enter Try.func8, Try.ntmps8
    go_wp2
    go_ret
    exact ⟨rfl, b0 _⟩
  have hd2 : decide ((1048576 : Int) < (n' : Int)) = false := by simp; omega
  go_enter Try.func8, Try.ntmps8
  go_wp2_with fail
  refine (DrawVisSwap_any _ _ _ bs _ h HX.out (by omega)).mono ?_
  rintro e w1 ⟨N, A1, m1, c1, L, a, b, hN, rfl, hr, hB1⟩
  go_wp2_with fail
  refine (VisSwap_any _ _ _ N L a b _ hr).mono ?_
  rintro e w2 ⟨v2, rfl, ho2, hB2⟩
  obtain ⟨A2, c2, rfl⟩ := own_form ho2
  go_wp2_with fail
  refine (sVisSwap_any _ _ _ N L a b _ (hr.after hB2) (by omega) (by omega)).mono ?_
  rintro e w3 ⟨v3, rfl, ho3, hB3⟩
  obtain ⟨A3, c3, rfl⟩ := own_form ho3
  have hr2 := (Rd.of_own ho2).after hB3
  have hr3 := Rd.of_own ho3
  have hr1 := (hr.after hB2).after hB3
  have hB := bT (bT hB1 hB2) hB3
  clear ho2 ho3 hB1 hB2 hB3 hr
  cases hok : Vm.swapB N L a b
  · go_wp2_with fail
    refine (sameVis_self _ _ _ _ _ _ _ _ hr2 hr3).mono ?_
    rintro e w4 ⟨rfl, hB4⟩
    go_wp2_with fail
    refine (sameVis_self _ _ _ _ _ _ _ _ (hr2.after hB4) (hr3.after hB4)).mono ?_
    rintro e w5 ⟨rfl, hB5⟩
    go_wp2_with fail
    go_ret
    exact ⟨rfl, bT (bT hB hB4) hB5⟩
  · obtain ⟨hv, ha, hb⟩ := (Vm.swapB_iff _ _ _ _).1 hok
    have N2 := ((Vm.manyB_iff _).1 ((Vm.visB_iff _ _).1 hv).1).1
    have HV := Lib.hid hv
    have HV2 := Lib.hid (Vm.swap_ok hok).to
    have HSame := Lib.hid (fun (e : a = b) => show Vm.swapL N L a b = L by subst e; exact Vm.swap_same hok)
    have HG := Lib.hid (fun i j hi hj hne => Vm.swap_get hok (i := i) (j := j) hi hj hne)
    obtain ⟨M, hM⟩ : ∃ M, Vm.swapL N L a b = M := ⟨_, rfl⟩
    rw [hM] at HV2 HSame HG hr2 hr3 ⊢
    clear hM hok hv
    have hN0 : (0 : Int) < N := by omega
    obtain ⟨q, hq⟩ : ∃ q : Nat, n' % N = q := ⟨_, rfl⟩
    have q1 : 0 ≤ (q : Int) ∧ (q : Int) < N := by have := Nat.mod_lt n' (show 0 < N by omega); omega
    have hQ : ((n' : Int) % (N : Int)) = (q : Int) := by rw [← hq]; norm_cast
    clear hq
    go_wp2_with fail
    refine (sameVis_self _ _ _ _ _ _ _ _ hr2 hr3).mono ?_
    rintro e w4 ⟨rfl, hB4⟩
    have hr24 := hr2.after hB4
    have hr14 := hr1.after hB4
    have hB' := bT hB hB4
    clear hr2 hr3 hr1 hB hB4
    by_cases hab : a = b
    · have hd1 : (a == b) = true := by simp [hab]
      have hd3 : (a != b) = false := by simp [hab]
      have HS := Lib.hid (HSame.out hab)
      clear hab
      go_wp2_with fail
      rw [HS.out] at hr24
      refine (sameVis_self _ _ _ _ _ _ _ _ (by rw [HS.out]; exact hr24) hr14).mono ?_
      rintro e w5 ⟨rfl, hB5⟩
      go_wp2_with fail
      go_ret
      exact ⟨rfl, bT hB' hB5⟩
    · have hd1 : (a == b) = false := by simp [hab]
      have hd3 : (a != b) = true := by simp [hab]
      by_cases hqa : (q : Int) = a
      · have hd4 : ((q : Int) == a) = true := by simp [hqa]
        clear hqa hab
        go_wp2_with fail
        go_ret
        exact ⟨rfl, hB'⟩
      · have hd4 : ((q : Int) == a) = false := by simp [hqa]
        by_cases hqb : (q : Int) = b
        · have hd5 : ((q : Int) == b) = true := by simp [hqb]
          clear hqa hab hqb
          go_wp2_with fail
          go_ret
          exact ⟨rfl, hB'⟩
        · have hd5 : ((q : Int) == b) = false := by simp [hqb]
          have HE := Lib.hid (show Vm.vget N M a q = Vm.vget N L b q by
            rw [HG.out a q ha q1 (fun e => hqa e.symm), Vm.swp_a, Vm.swp_c hqa hqb])
          have n1 : a ≠ (q : Int) := fun e => hqa e.symm
          have n2 : b ≠ (q : Int) := fun e => hqb e.symm
          have N1 := Lib.hid n1
          have N2' := Lib.hid n2
          clear hqa hab hqb n1 n2
          have heq := run_eql_Vis
          go_wp2_with fail
          refine (VisGet_ok _ _ _ N a q M _ hr24 HV2.out ha q1 N1.out).mono ?_
          rintro e w5 ⟨rfl, hB5⟩
          rw [HE.out]
          obtain ⟨p, hp⟩ : ∃ p, Vm.vget N L b q = p := ⟨_, rfl⟩
          have HP := Lib.hid hp
          rw [hp]
          clear hp
          have hpe : peq p.1 p.2 p.1 p.2 = true := peq_true ⟨rfl, rfl⟩
          unfold gv
          go_wp2_with fail
          refine (VisGet_ok _ _ _ N b q L _ (hr14.after (bA hB5 _)) HV.out hb q1 N2'.out).mono ?_
          rintro e w6 ⟨rfl, hB6⟩
          rw [HP.out]
          have hB6' := hB6
          obtain ⟨q3, q4⟩ := bcell hB6'
          have z5 : w5.heap.size < w6.heap.size := by have := hB6.size; simp at this; omega
          unfold gv
          go_wp2_with fail
          go_ret
          exact ⟨rfl, bA (bT (bA (bT hB' hB5) _) hB6) _⟩

end Go.Proofs.Ythfljdamahmkaaa
