/- The laws FnClosePhasePoint, FnCloseLoopPoint. Written by lawsE3.py. -/
import Derived.Test.YtcolajhjjnkpmaaDrawR
import Derived.Test.YtcolajhjjnkpmaaLawC2
import Derived.Test.YtcolajhjjnkpmaaAmpC
import Derived.Test.YtcolajhjjnkpmaaGainM2
namespace Go.Proofs.Ytcolajhjjnkpmaa
open Go.RowKit

set_option maxRecDepth 100000 in
set_option maxHeartbeats 8000000 in
theorem law_closePhasePoint (A : Option Addr) (n c : Nat) (bs : List Int) (A' : Option Addr) (n' c' : Nat) (w : World) (h : Rd w w.heap.size 1 A n c (cb bs)) (hx : ∀ x ∈ bs, 0 ≤ x ∧ x ≤ 255) (hn' : n' ≤ 9223372036854775807) :
    Calls Try.prog 9 #[.slice A n c, .slice A' n' c'] w fun e w' => e = .returned (.bool true) ∧ Below w.heap.size w w' := by
  have hm := h.most
  have hcap := h.cap
  have HX := Lib.hid hx
  clear hx
  by_cases hz0 : 1048576 < n
  · have hd0 : decide ((1048576 : Int) < (n : Int)) = true := by simp; omega
    clear hz0
    go_enter Try.func9, Try.ntmps9
    go_wp2
    go_ret
    exact ⟨rfl, b0 _⟩
  have hd0 : decide ((1048576 : Int) < (n : Int)) = false := by simp; omega
  by_cases hz1 : 1048576 < n'
  · have hd1 : decide ((1048576 : Int) < (n' : Int)) = true := by simp; omega
    clear hz0 hz1
    go_enter Try.func9, Try.ntmps9
    go_wp2
    go_ret
    exact ⟨rfl, b0 _⟩
  have hd1 : decide ((1048576 : Int) < (n' : Int)) = false := by simp; omega
  go_enter Try.func9, Try.ntmps9
  go_wp2_with fail
  refine (DrawVisPoint_any _ _ _ bs _ h HX.out (by omega)).mono ?_
  rintro e w1 ⟨A1, m1, c1, L, ⟨da, db⟩, amp, rfl, hr, hB⟩
  have mL : m1 = L.length := by have := hr.len; rw [cp_length] at this; omega
  subst mL
  have hrcap := hr.cap
  have hrmost := hr.most
  unfold gv
  have hdx : Bx (w1.alloc (.cells #[.int .i64 da, .int .i64 db] 44)) w1.heap.size #[.int .i64 da, .int .i64 db] 44 := Bx.new w1 _ _ _ rfl
  have hbA := bA (b0 w1) (.cells #[.int .i64 da, .int .i64 db] 44)
  replace hr := hr.after hbA
  replace hB := bT hB hbA
  clear hbA
  have q0 := hdx.cell 0
  have q1 := hdx.cell 1
  simp only [List.getElem?_toArray, List.getElem?_cons_zero, List.getElem?_cons_succ] at q0 q1
  go_wp2_with fail
  refine (VisPoint_any _ _ _ L (da, db) amp _ hr).mono ?_
  rintro e w2 ⟨v2, rfl, ho2, hB2⟩
  clear q0 q1
  obtain ⟨A2, c2, rfl⟩ := own_form ho2
  replace hr := hr.after hB2
  replace hdx := hdx.after hB2
  replace hB := bT hB hB2
  clear hB2
  have hx := Rd.of_own ho2
  clear ho2
  have q0 := hdx.cell 0
  have q1 := hdx.cell 1
  simp only [List.getElem?_toArray, List.getElem?_cons_zero, List.getElem?_cons_succ] at q0 q1
  go_wp2_with fail
  refine (sVisPoint_any _ _ _ L (da, db) amp _ hr).mono ?_
  rintro e w3 ⟨v3, rfl, ho3, hB3⟩
  clear q0 q1
  obtain ⟨A3, c3, rfl⟩ := own_form ho3
  replace hr := hr.after hB3
  replace hdx := hdx.after hB3
  replace hx := hx.after hB3
  replace hB := bT hB hB3
  clear hB3
  have hy := Rd.of_own ho3
  clear ho3
  cases hok : Vm.ptB L (da, db) amp
  ·
    go_wp2_with fail
    with_reducible refine (sameVis_self _ _ _ _ _ _ _ _ hx hy).mono ?_
    rintro e w4 ⟨rfl, hB4⟩
    replace hr := hr.after hB4
    replace hdx := hdx.after hB4
    replace hx := hx.after hB4
    replace hy := hy.after hB4
    replace hB := bT hB hB4
    clear hB4
    go_wp2_with fail
    with_reducible refine (sameVis_self _ _ _ _ _ _ _ _ hx hy).mono ?_
    rintro e w5 ⟨rfl, hB5⟩
    replace hr := hr.after hB5
    replace hdx := hdx.after hB5
    replace hx := hx.after hB5
    replace hy := hy.after hB5
    replace hB := bT hB hB5
    clear hB5
    go_wp2_with fail
    go_ret
    exact ⟨rfl, hB⟩
  · have hO := Vm.OkP.of hok
    have N7 := hO.hi
    have N2 := hO.lo
    obtain ⟨N, hN⟩ : ∃ N, L.length = N := ⟨_, rfl⟩
    have i1 := Int.emod_nonneg (n' : Int) (show (N : Int) ≠ 0 by omega)
    have i2 := Int.emod_lt_of_pos (n' : Int) (show (0 : Int) < (N : Int) by omega)
    have r2 := Vm.row_loop hO.out n'
    rw [hN] at r2
    have c0 : ((n' % N : Nat) : Int) = (n' : Int) % (N : Int) := by omega
    have cc1 : (((n' % N + 1) % N : Nat) : Int) = ((n' : Int) % (N : Int) + 1) % (N : Int) := by rw [← c0]; norm_cast
    have cc2 : (((n' % N + 2) % N : Nat) : Int) = ((n' : Int) % (N : Int) + 2) % (N : Int) := by rw [← c0]; norm_cast
    rw [c0, cc1, cc2] at r2
    obtain ⟨i, hi⟩ : ∃ i, (n' : Int) % (N : Int) = i := ⟨_, rfl⟩
    rw [hi] at r2 i1 i2
    obtain ⟨j, hj⟩ : ∃ j, (i + 1) % (N : Int) = j := ⟨_, rfl⟩
    obtain ⟨k, hk⟩ : ∃ k, (i + 2) % (N : Int) = k := ⟨_, rfl⟩
    rw [hj, hk] at r2
    have es := hO.loop3 i j k
    rw [hN] at es
    have hj2 : ((n' : Int) + 1) % (N : Int) = j := by rw [← hj, ← hi, Int.emod_add_emod]
    have hk2 : ((n' : Int) + 2) % (N : Int) = k := by rw [← hk, ← hi, Int.emod_add_emod]
    have hl0 : ((N : Int) == 0) = false := by rw [beq_eq_false_iff_ne]; omega
    have hN0 : ¬ N = 0 := by omega
    have t1 : (n' : Int).tmod (N : Int) = i := by rw [Int.tmod_eq_emod_of_nonneg (by omega)]; exact hi
    have t2 : (i + 1).tmod (N : Int) = j := by rw [Int.tmod_eq_emod_of_nonneg (by omega)]; exact hj
    have t3 : (i + 2).tmod (N : Int) = k := by rw [Int.tmod_eq_emod_of_nonneg (by omega)]; exact hk
    have hw1 : IntKind.i64.wrap (i + 1) = i + 1 := IntWalk.i64_in _ (by omega)
    have hw2 : IntKind.i64.wrap (i + 2) = i + 2 := IntWalk.i64_in _ (by omega)
    rw [hN] at hr hrcap ⊢
    obtain ⟨X, hX⟩ : ∃ X, Vm.ptL L (da, db) amp = X := ⟨_, rfl⟩
    rw [hX] at hx hy es r2 ⊢
    clear hX hok hO c0 cc1 cc2 hdx
    have R2_ := Lib.hid r2
    have ES_ := Lib.hid es
    have HN_ := Lib.hid hN
    clear r2 es hN
    go_wp2_with fail
    with_reducible refine (sameVis_self _ _ _ _ _ _ _ _ hx hy).mono ?_
    rintro e w4 ⟨rfl, hB4⟩
    replace hr := hr.after hB4
    replace hx := hx.after hB4
    replace hy := hy.after hB4
    replace hB := bT hB hB4
    clear hB4
    go_wp2_with fail
    refine wp_region_held_drew (S := fun _ => True) (by kernel_rfl) trivial (fun hS => ?_)
    refine wpAnyH_take (i := 0) (v := .int .i64 N) rfl (by kernel_rfl) (by kernel_rfl) (by kernel_rfl) (fun _ _ _ h => h) (Or.inl ⟨by rfl, fun ww hSw => ?_⟩) hS ?_
    · go_simp
    refine wpAnyH_take (i := 1) (v := .slice A2 X.length c2) rfl (by kernel_rfl) (by kernel_rfl) (by kernel_rfl) (fun _ _ _ h => h) (Or.inl ⟨by rfl, fun ww hSw => ?_⟩) hS ?_
    · go_simp
    refine wpAnyH_take (i := 2) (v := .int .i64 i) rfl (by kernel_rfl) (by kernel_rfl) (by kernel_rfl) (fun _ _ _ h => h) (Or.inl ⟨by rfl, fun ww hSw => ?_⟩) hS ?_
    · go_simp
    refine wpAnyH_take (i := 3) (v := .int .i64 i) rfl (by kernel_rfl) (by kernel_rfl) (by kernel_rfl) (fun _ _ _ h => h) (Or.inl ⟨by rfl, fun ww hSw => ?_⟩) hS ?_
    · go_simp
    refine wpAnyH_take (i := 4) (v := .int .i64 (i + 1)) rfl (by kernel_rfl) (by kernel_rfl) (by kernel_rfl) (fun _ _ _ h => h) (Or.inl ⟨by rfl, fun ww hSw => ?_⟩) hS ?_
    · go_simp
    refine wpAnyH_take (i := 5) (v := .int .i64 N) rfl (by kernel_rfl) (by kernel_rfl) (by kernel_rfl) (fun _ _ _ h => h) (Or.inl ⟨by rfl, fun ww hSw => ?_⟩) hS ?_
    · go_simp
    refine wpAnyH_take (i := 6) (v := .int .i64 j) rfl (by kernel_rfl) (by kernel_rfl) (by kernel_rfl) (fun _ _ _ h => h) (Or.inl ⟨by rfl, fun ww hSw => ?_⟩) hS ?_
    · go_simp
    refine wpAnyH_take (i := 7) (v := .int .i64 i) rfl (by kernel_rfl) (by kernel_rfl) (by kernel_rfl) (fun _ _ _ h => h) (Or.inl ⟨by rfl, fun ww hSw => ?_⟩) hS ?_
    · go_simp
    refine wpAnyH_take (i := 8) (v := .int .i64 (i + 2)) rfl (by kernel_rfl) (by kernel_rfl) (by kernel_rfl) (fun _ _ _ h => h) (Or.inl ⟨by rfl, fun ww hSw => ?_⟩) hS ?_
    · go_simp
    refine wpAnyH_take (i := 9) (v := .int .i64 N) rfl (by kernel_rfl) (by kernel_rfl) (by kernel_rfl) (fun _ _ _ h => h) (Or.inl ⟨by rfl, fun ww hSw => ?_⟩) hS ?_
    · go_simp
    refine wpAnyH_take (i := 10) (v := .int .i64 k) rfl (by kernel_rfl) (by kernel_rfl) (by kernel_rfl) (fun _ _ _ h => h) (Or.inl ⟨by rfl, fun ww hSw => ?_⟩) hS ?_
    · go_simp
    refine wpAnyH_ready (rs := [11]) (by kernel_rfl) (by simp) ?_
    refine AllReadyH.cons rfl (fun K hK => ?_) AllReadyH.nil
    go_simp
    refine (ClosePhase_any _ _ _ N i j k X _ (hx.after (Below.drew (b0 w4)))).mono ?_
    rintro e wz ⟨rfl, hbz⟩
    rw [R2_.out, ES_.out]
    refine hK.out _ _ trivial (fun hS => ?_)
    clear hK K
    refine wpAnyH_take (i := 12) (v := .tuple #[.int .i64 0, .bool (decide (2 < N))]) rfl (by kernel_rfl) (by kernel_rfl) (by kernel_rfl) (fun _ _ _ h => h) (Or.inl ⟨by rfl, fun ww hSw => ?_⟩) hS ?_
    · go_simp
    refine wpAnyH_take (i := 13) (v := .int .i64 0) rfl (by kernel_rfl) (by kernel_rfl) (by kernel_rfl) (fun _ _ _ h => h) (Or.inl ⟨by rfl, fun ww hSw => ?_⟩) hS ?_
    · go_simp
    refine wpAnyH_take (i := 14) (v := .bool (decide (2 < N))) rfl (by kernel_rfl) (by kernel_rfl) (by kernel_rfl) (fun _ _ _ h => h) (Or.inl ⟨by rfl, fun ww hSw => ?_⟩) hS ?_
    · go_simp
    refine wpAnyH_ready (rs := [15]) (by kernel_rfl) (by simp) ?_
    refine AllReadyH.cons rfl (fun K hK => ?_) AllReadyH.nil
    go_simp
    refine hK.out _ _ trivial (fun hS => ?_)
    clear hK K
    refine wpAnyH_ready (rs := [16]) (by kernel_rfl) (by simp) ?_
    refine AllReadyH.cons rfl (fun K hK => ?_) AllReadyH.nil
    go_simp
    refine hK.out _ _ trivial (fun hS => ?_)
    clear hK K
    refine ⟨by kernel_rfl, ?_⟩
    clear hS hw1 hw2 t1 t2 t3 hi hj hk hj2 hk2 hl0
    replace hB := bT hB (bT (Below.drew (b0 w4)) hbz)
    by_cases h3 : 2 < N
    · have hdd : decide (2 < N) = true := by simp; omega
      have hde : decide ((2 : Int) < (N : Int)) = true := by simp; omega
      clear h3
      rw [hdd]
      clear hdd
      go_wp2_with fail
      go_ret
      exact ⟨rfl, hB⟩
    · have hdd : decide (2 < N) = false := by simp; omega
      have hde : decide ((2 : Int) < (N : Int)) = false := by simp; omega
      clear h3
      rw [hdd]
      clear hdd
      go_wp2_with fail
      go_ret
      exact ⟨rfl, hB⟩
theorem range_take (N k : Nat) (h : k < N) : (Vm.rangeL N).take (k + 1) = (Vm.rangeL N).take k ++ [(k : Int)] := by
  have hl : k < (Vm.rangeL N).length := by simp [Vm.rangeL]; exact h
  rw [List.take_succ_eq_append_getElem hl]
  simp [Vm.rangeL]
set_option maxRecDepth 100000 in
set_option maxHeartbeats 8000000 in
theorem law_closeLoopPoint (A : Option Addr) (n c : Nat) (bs : List Int) (w : World) (h : Rd w w.heap.size 1 A n c (cb bs)) (hx : ∀ x ∈ bs, 0 ≤ x ∧ x ≤ 255) :
    Calls Try.prog 10 #[.slice A n c] w fun e w' => e = .returned (.bool true) ∧ Below w.heap.size w w' := by
  have hm := h.most
  have hcap := h.cap
  have HX := Lib.hid hx
  clear hx
  by_cases hz0 : 1048576 < n
  · have hd0 : decide ((1048576 : Int) < (n : Int)) = true := by simp; omega
    clear hz0
    go_enter Try.func10, Try.ntmps10
    go_wp2
    go_ret
    exact ⟨rfl, b0 _⟩
  have hd0 : decide ((1048576 : Int) < (n : Int)) = false := by simp; omega
  go_enter Try.func10, Try.ntmps10
  go_wp2_with fail
  refine (DrawVisPoint_any _ _ _ bs _ h HX.out (by omega)).mono ?_
  rintro e w1 ⟨A1, m1, c1, L, ⟨da, db⟩, amp, rfl, hr, hB⟩
  have mL : m1 = L.length := by have := hr.len; rw [cp_length] at this; omega
  subst mL
  have hrcap := hr.cap
  have hrmost := hr.most
  unfold gv
  have hdx : Bx (w1.alloc (.cells #[.int .i64 da, .int .i64 db] 44)) w1.heap.size #[.int .i64 da, .int .i64 db] 44 := Bx.new w1 _ _ _ rfl
  have hbA := bA (b0 w1) (.cells #[.int .i64 da, .int .i64 db] 44)
  replace hr := hr.after hbA
  replace hB := bT hB hbA
  clear hbA
  have q0 := hdx.cell 0
  have q1 := hdx.cell 1
  simp only [List.getElem?_toArray, List.getElem?_cons_zero, List.getElem?_cons_succ] at q0 q1
  go_wp2_with fail
  refine (VisPoint_any _ _ _ L (da, db) amp _ hr).mono ?_
  rintro e w2 ⟨v2, rfl, ho2, hB2⟩
  clear q0 q1
  obtain ⟨A2, c2, rfl⟩ := own_form ho2
  replace hr := hr.after hB2
  replace hdx := hdx.after hB2
  replace hB := bT hB hB2
  clear hB2
  have hx := Rd.of_own ho2
  clear ho2
  have q0 := hdx.cell 0
  have q1 := hdx.cell 1
  simp only [List.getElem?_toArray, List.getElem?_cons_zero, List.getElem?_cons_succ] at q0 q1
  go_wp2_with fail
  refine (sVisPoint_any _ _ _ L (da, db) amp _ hr).mono ?_
  rintro e w3 ⟨v3, rfl, ho3, hB3⟩
  clear q0 q1
  obtain ⟨A3, c3, rfl⟩ := own_form ho3
  replace hr := hr.after hB3
  replace hdx := hdx.after hB3
  replace hx := hx.after hB3
  replace hB := bT hB hB3
  clear hB3
  have hy := Rd.of_own ho3
  clear ho3
  cases hok : Vm.ptB L (da, db) amp
  ·
    go_wp2_with fail
    with_reducible refine (sameVis_self _ _ _ _ _ _ _ _ hx hy).mono ?_
    rintro e w4 ⟨rfl, hB4⟩
    replace hr := hr.after hB4
    replace hdx := hdx.after hB4
    replace hx := hx.after hB4
    replace hy := hy.after hB4
    replace hB := bT hB hB4
    clear hB4
    go_wp2_with fail
    with_reducible refine (sameVis_self _ _ _ _ _ _ _ _ hx hy).mono ?_
    rintro e w5 ⟨rfl, hB5⟩
    replace hr := hr.after hB5
    replace hdx := hdx.after hB5
    replace hx := hx.after hB5
    replace hy := hy.after hB5
    replace hB := bT hB hB5
    clear hB5
    go_wp2_with fail
    go_ret
    exact ⟨rfl, hB⟩
  · have hO := Vm.OkP.of hok
    have N7 := hO.hi
    have N2 := hO.lo
    obtain ⟨N, hN⟩ : ∃ N, L.length = N := ⟨_, rfl⟩
    have r2 := Vm.range_loop hO.out
    rw [hN] at r2
    have es := hO.loop (Vm.rangeL N)
    rw [hN] at es
    obtain ⟨u1, u2, u3⟩ := hO.amp
    rw [hN] at u1 u2 u3
    rw [hN] at hr hrcap N7 N2 ⊢
    obtain ⟨X, hX⟩ : ∃ X, Vm.ptL L (da, db) amp = X := ⟨_, rfl⟩
    rw [hX] at hx hy es r2 u1 u2 u3 ⊢
    clear hX hok hO hdx
    have R2_ := Lib.hid r2
    have ES_ := Lib.hid es
    have HN_ := Lib.hid hN
    have U1_ := Lib.hid u1
    have U2_ := Lib.hid u2
    have U3_ := Lib.hid u3
    clear r2 es hN u1 u2 u3
    go_wp2_with fail
    with_reducible refine (sameVis_self _ _ _ _ _ _ _ _ hx hy).mono ?_
    rintro e w4 ⟨rfl, hB4⟩
    replace hr := hr.after hB4
    replace hx := hx.after hB4
    replace hy := hy.after hB4
    replace hB := bT hB hB4
    clear hB4
    obtain ⟨i0, hi, hz0_, hz1_, hz2_⟩ := info_parts infoInt
    go_wp2_with fail
    go_loopw [11, 12] (fun v i wr => ∃ k : Nat, k ≤ N ∧ i = .int .i64 k ∧ wr.ownsRow w4.heap.size 3 1 v k (ci ((Vm.rangeL N).take k)) ∧ Below w4.heap.size w4 wr) (fun _ i _ => N - (intOf i).toNat)
    case atStart => exact ⟨0, Nat.zero_le _, rfl, World.ownsRow_lit w4 #[] 0 (Nat.le_refl _) (by decide) rfl, bA (b0 w4) _⟩
    case round =>
      obtain ⟨k, hk, rfl, hown, hBB⟩ := hrel
      by_cases hlt : k < N
      · have HT := Lib.hid (range_take N k hlt)
        have hown1 := hown.alloc (.cells #[.int .i64 k] 3)
        have hB2 := bA hBB (.cells #[.int .i64 k] 3)
        have hsz := hBB.size
        go_wp2_with (at_builtin; refine wpList_append_own _ rfl _ _ 33 rfl w4.heap.size 3 i0 _ 1 8 Try.underlying33 hi hz0_ hz1_ hz2_ rfl (by decide) _ _ _ rfl hown1 ⟨wr.heap.size, 0, none⟩ 1 1 [.int .i64 k] rfl rfl (new_cells _ _ _) ?c2 ?c3 ?c4 ?c5 ?_)
        case c2 => intro u hu; simp at hu; subst hu; rfl
        case c3 => unfold maxLen; omega
        case c4 => omega
        case c5 => simp; omega
        intro v' w3 hown' hgrow _
        have hB3 := own_below hB2 hown1 hgrow
        clear hown1 hgrow hB2 hBB
        go_wp2_with fail
        go_roundw
        case rel => exact ⟨k + 1, by omega, by go_num, by rw [HT.out, ci_append]; exact hown', hB3⟩
        case measure => simp [intOf]; omega
      · obtain rfl : k = N := by omega
        have eT : (Vm.rangeL k).take k = Vm.rangeL k := List.take_of_length_le (by simp [Vm.rangeL])
        rw [eT] at hown
        obtain ⟨A9, c9, rfl⟩ := own_form hown
        have hl := Rd.of_own hown
        replace hr := hr.after hBB
        replace hx := hx.after hBB
        replace hB := bT hB hBB
        clear hown hBB eT
        go_wp2_with fail
        with_reducible refine (CloseLoop_any _ _ _ _ _ _ k X (Vm.rangeL k) _ hx hl).mono ?_
        rintro e w5 ⟨rfl, hB5⟩
        replace hr := hr.after hB5
        replace hx := hx.after hB5
        replace hl := hl.after hB5
        replace hB := bT hB hB5
        clear hB5
        rw [R2_.out, ES_.out]
        go_wp2_with fail
        with_reducible refine (CloseAmp_any _ _ _ k X 0 1 2 3 _ hx).mono ?_
        rintro e w6 ⟨rfl, hB6⟩
        replace hr := hr.after hB6
        replace hx := hx.after hB6
        replace hl := hl.after hB6
        replace hB := bT hB hB6
        clear hB6
        rw [U1_.out, U2_.out, U3_.out]
        have hcase : (k = 2) ∨ (k = 3) ∨ 3 < k := by omega
        rcases hcase with h3 | h3 | h3
        · have hdd : decide (2 < k) = false := by simp; omega
          have hde : decide ((2 : Int) < (k : Int)) = false := by simp; omega
          have hdd3 : decide (3 < k) = false := by simp; omega
          have hde3 : decide ((3 : Int) < (k : Int)) = false := by simp; omega
          have hif : (if 3 < k then (1 : Int) else 0) = 0 := if_neg (by omega)
          clear h3
          rw [hdd, hdd3, hif]
          clear hdd hdd3 hif
          go_wp2_with fail
          go_ret
          exact ⟨rfl, hB⟩
        · have hdd : decide (2 < k) = true := by simp; omega
          have hde : decide ((2 : Int) < (k : Int)) = true := by simp; omega
          have hdd3 : decide (3 < k) = false := by simp; omega
          have hde3 : decide ((3 : Int) < (k : Int)) = false := by simp; omega
          have hif : (if 3 < k then (1 : Int) else 0) = 0 := if_neg (by omega)
          clear h3
          rw [hdd, hdd3, hif]
          clear hdd hdd3 hif
          go_wp2_with fail
          go_ret
          exact ⟨rfl, hB⟩
        · have hdd : decide (2 < k) = true := by simp; omega
          have hde : decide ((2 : Int) < (k : Int)) = true := by simp; omega
          have hdd3 : decide (3 < k) = true := by simp; omega
          have hde3 : decide ((3 : Int) < (k : Int)) = true := by simp; omega
          have hif : (if 3 < k then (1 : Int) else 0) = 1 := if_pos (by omega)
          clear h3
          rw [hdd, hdd3, hif]
          clear hdd hdd3 hif
          go_wp2_with fail
          go_ret
          exact ⟨rfl, hB⟩

end Go.Proofs.Ytcolajhjjnkpmaa
