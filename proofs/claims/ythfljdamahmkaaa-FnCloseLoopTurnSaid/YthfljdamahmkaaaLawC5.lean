/- The law FnCloseLoopTurn. -/
import Derived.Test.YthfljdamahmkaaaLawC4
namespace Go.Proofs.Ythfljdamahmkaaa
open Go.RowKit

theorem Rd.cells_below {w w' : World} {n c b off : Nat} {xs : List Value} (h : Rd w w.heap.size 1 (some ⟨b, off, none⟩) n c xs) (hn : 0 < n) (hb' : Below w.heap.size w w') : ∀ j u, xs[j]? = some u → w'.cell? ((⟨b, off, none⟩ : Addr).add j) = some u := by
  intro j u hu
  obtain ⟨b', off', e, hb, hc⟩ := h.at_ hn
  injection e with e
  injection e with e1 e2
  subst e1 e2
  have e3 : ((⟨b, off, none⟩ : Addr).add j) = ⟨b, off + j, none⟩ := by unfold Addr.add; split <;> simp_all
  rw [e3]
  exact (hb'.cell (p := ⟨b, off + j, none⟩) hb).trans (hc j u hu)
theorem one_at {w : World} {g : Nat} {v : Value} (h : w.cell? ⟨g, 0, none⟩ = some v) : ∀ j u, [v][j]? = some u → w.cell? ((⟨g, 0, none⟩ : Addr).add j) = some u := by
  intro j u hu
  cases j with
  | zero =>
    have e : ((⟨g, 0, none⟩ : Addr).add 0) = ⟨g, 0, none⟩ := by unfold Addr.add; split <;> simp_all
    rw [e, h]; simpa using hu
  | succ j => simp at hu
theorem rev_step (l : List Int) (q : Nat) (h0 : 0 < q) (hq : q ≤ l.length) : ci (l.drop (q - 1)).reverse = ci (l.drop q).reverse ++ [.int .i64 (l[q - 1]'(by omega))] ∧ l.length - (q - 1) = l.length - q + 1 := by
  refine ⟨?_, by omega⟩
  rw [List.drop_eq_getElem_cons (show q - 1 < l.length by omega), List.reverse_cons, ci_append, show q - 1 + 1 = q by omega]
  rfl
set_option maxRecDepth 100000 in
set_option maxHeartbeats 2000000 in
theorem law_closeLoopTurn (A : Option Addr) (n c : Nat) (bs : List Int) (w : World) (h : Rd w w.heap.size 1 A n c (cb bs)) (hx : ∀ x ∈ bs, 0 ≤ x ∧ x ≤ 255) :
    Calls Try.prog 10 #[.slice A n c] w fun e w' => e = .returned (.bool true) ∧ Below w.heap.size w w' := by
  have hm := h.most
  have hcap := h.cap
  have HX := Lib.hid hx
  clear hx
  by_cases hn : 1048576 < n
  · have hd : decide ((1048576 : Int) < (n : Int)) = true := by simp; omega
    go_enter Try.func10, Try.ntmps10
    go_wp2
    go_ret
    exact ⟨rfl, b0 _⟩
  have hd : decide ((1048576 : Int) < (n : Int)) = false := by simp; omega
  go_enter Try.func10, Try.ntmps10
  go_wp2_with fail
  refine (DrawCloseLoop_any _ _ _ bs _ h HX.out (by omega)).mono ?_
  rintro e w1 ⟨N, A1, m1, c1, L, A2, m2, c2, l, rfl, hr, hr', hB1⟩
  have hl := hr'.len
  rw [ci_length, Nat.mul_one] at hl
  subst hl
  go_wp2_with fail
  refine (CloseLoop_any _ _ _ _ _ _ N L l _ hr hr').mono ?_
  rintro e w2 ⟨rfl, hB2⟩
  go_wp2_with fail
  refine (sCloseLoop_any _ _ _ _ _ _ N L l _ (hr.after hB2) (hr'.after hB2)).mono ?_
  rintro e w3 ⟨rfl, hB3⟩
  have hr3 := (hr.after hB2).after hB3
  have hr3' := (hr'.after hB2).after hB3
  have hB := bT (bT hB1 hB2) hB3
  clear hr hr' hB1 hB2 hB3
  have hmost := hr3'.most
  have hcap' := hr3'.cap
  have ob := loopP_bd N L l
  have hlen := @Vm.loop_len N L l
  have hlaw := fun hh : Vm.loopB N L l = true => @Vm.turn2 N L l hh
  obtain ⟨o, ho⟩ : ∃ o, Vm.loopP N L l = o := ⟨_, rfl⟩
  rw [ho] at ob hlaw ⊢
  clear ho
  obtain ⟨o1, o2⟩ := ob
  cases hok : Vm.loopB N L l
  · clear hlaw hlen
    go_wp2_with fail
    go_ret
    exact ⟨rfl, hB⟩
  · obtain ⟨l3, l7⟩ := hlen hok
    have HLAW := Lib.hid (hlaw hok)
    clear hlaw hlen hok
    obtain ⟨b, off, rfl, hbw, hc0⟩ := hr3'.int_at (k := 0) (by omega)
    obtain ⟨x, hx⟩ : ∃ x, l[0] = x := ⟨_, rfl⟩
    have g0 : l.getD 0 0 = x := by rw [← hx]; exact getD_at l 0 (by omega)
    rw [g0] at HLAW
    rw [hx, Nat.add_zero] at hc0
    clear hx g0
    have hd1 := hr3'.drop 1 (by omega)
    have hlt2 : 1 < l.length := by omega
    have HL1 := Lib.hid (show l.length - 1 + 1 = l.length by omega)
    have hle2 : (1 : Int) ≤ (l.length : Int) := by omega
    have hc2n : ¬ c2 = 1 := by omega
    have hnil : ¬ l = [] := fun e => by rw [e] at hlt2; simp at hlt2
    obtain ⟨i0, hi, hz0, hz1, hz2⟩ := info_parts infoInt
    go_wp2_with fail
    refine wp_region_held_drew (S := fun W' => W'.cell? ⟨b, off, none⟩ = some (.int .i64 x) ∧ True ∧ True) (by kernel_rfl) ⟨hc0, trivial, trivial⟩ (fun hS => ?_)
    refine wpAnyH_take (i := 0) (v := .int .i64 N) rfl (by kernel_rfl) (by kernel_rfl) (by kernel_rfl) (fun _ _ _ h => h) (Or.inl ⟨by rfl, fun ww hSw => ?_⟩) hS ?_
    · (try obtain ⟨s0, s1, s2⟩ := hSw); go_simp
    refine wpAnyH_take (i := 1) (v := .slice A1 m1 c1) rfl (by kernel_rfl) (by kernel_rfl) (by kernel_rfl) (fun _ _ _ h => h) (Or.inl ⟨by rfl, fun ww hSw => ?_⟩) hS ?_
    · (try obtain ⟨s0, s1, s2⟩ := hSw); go_simp
    refine wpAnyH_take (i := 3) (v := .slice (some ⟨b, off, none⟩) l.length c2) rfl (by kernel_rfl) (by kernel_rfl) (by kernel_rfl) (fun _ _ _ h => h) (Or.inl ⟨by rfl, fun ww hSw => ?_⟩) hS ?_
    · (try obtain ⟨s0, s1, s2⟩ := hSw); go_simp
    refine wpAnyH_take (i := 4) (v := .slice (some ⟨b, off + 1, none⟩) (l.length - 1) (c2 - 1)) rfl (by kernel_rfl) (by kernel_rfl) (by kernel_rfl) (fun _ _ _ h => h) (Or.inl ⟨by rfl, fun ww hSw => ?_⟩) hS ?_
    · (try obtain ⟨s0, s1, s2⟩ := hSw); go_simp
    refine wpAnyH_take (i := 6) (v := .slice (some ⟨b, off, none⟩) l.length c2) rfl (by kernel_rfl) (by kernel_rfl) (by kernel_rfl) (fun _ _ _ h => h) (Or.inl ⟨by rfl, fun ww hSw => ?_⟩) hS ?_
    · (try obtain ⟨s0, s1, s2⟩ := hSw); go_simp
    refine wpAnyH_take (i := 7) (v := .pointer (some ⟨b, off, none⟩)) rfl (by kernel_rfl) (by kernel_rfl) (by kernel_rfl) (fun _ _ _ h => h) (Or.inl ⟨by rfl, fun ww hSw => ?_⟩) hS ?_
    · (try obtain ⟨s0, s1, s2⟩ := hSw); go_simp
    refine wpAnyH_take (i := 8) (v := .int .i64 x) rfl (by kernel_rfl) (by kernel_rfl) (by kernel_rfl) (fun _ _ _ h => h) (Or.inl ⟨by rfl, fun ww hSw => ?_⟩) hS ?_
    · (try obtain ⟨s0, s1, s2⟩ := hSw); go_simp
    obtain ⟨wv0, ev0⟩ : ∃ W, w3.drew = W := ⟨_, rfl⟩
    have hb0 : Below w3.heap.size w3 wv0 := by rw [← ev0]; exact Below.drew (b0 w3)
    rw [ev0] at hS ⊢
    clear ev0
    refine wpAnyH_ready (rs := [2, 9]) (by kernel_rfl) (by simp) ?_
    refine AllReadyH.cons rfl (fun K hK => ?_) (AllReadyH.cons rfl (fun K hK => ?_) AllReadyH.nil)
    · go_simp
      refine hK.out _ _ ⟨((bA hb0 _).cell (p := ⟨b, off, none⟩) hbw).trans hc0, trivial, trivial⟩ (fun hS => ?_)
      clear hK K
      have hb1 := bA hb0 (.cells #[] 3)
      have r1 : (wv0.alloc (.cells #[] 3)).ownsRow w3.heap.size 3 1 (.slice (some ⟨wv0.heap.size, 0, none⟩) 0 0) 0 [] := World.ownsRow_lit wv0 #[] 0 hb0.size (by decide) rfl
      obtain ⟨wv1, ev1⟩ : ∃ W, wv0.alloc (.cells #[] 3) = W := ⟨_, rfl⟩
      rw [ev1] at hb1 r1 hS ⊢
      clear ev1
      refine wpAnyH_ready (rs := [5, 9]) (by kernel_rfl) (by simp) ?_
      refine AllReadyH.cons rfl (fun K hK => ?_) (AllReadyH.cons rfl (fun K hK => ?_) AllReadyH.nil)
      · refine step_append_lies _ rfl (.tmp 62) (.tmp 64) 26 rfl w3.heap.size 3 i0 _ 1 8 Try.underlying26 hi hz0 hz1 hz2 rfl (by decide) (.slice (some ⟨wv0.heap.size, 0, none⟩) 0 0) 0 [] rfl r1 ⟨b, off + 1, none⟩ (l.length - 1) (c2 - 1) (ci (l.drop 1)) rfl (by rw [ci_length, List.length_drop, Nat.mul_one]) (hd1.cells_below (by omega) hb1) (ci_one _) (by omega) (by unfold maxLen; omega) (by omega) hb1.size _ rfl ?_
        intro g2 cap2 wv2 r2 hgr2 _ _
        have hb2 := own_below hb1 r1 hgr2
        rw [Nat.zero_add, List.nil_append] at r2
        rw [Nat.zero_add]
        refine hK.out _ _ ⟨(hb2.cell (p := ⟨b, off, none⟩) hbw).trans hc0, trivial, trivial⟩ (fun hS => ?_)
        clear hK K
        refine wpAnyH_ready (rs := [9]) (by kernel_rfl) (by simp) ?_
        refine AllReadyH.cons rfl (fun K hK => ?_) AllReadyH.nil
        go_simp
        refine hK.out _ _ ⟨((bA hb2 _).cell (p := ⟨b, off, none⟩) hbw).trans hc0, trivial, trivial⟩ (fun hS => ?_)
        clear hK K
        have hb3 := bA hb2 (.cells #[.int .i64 x] 3)
        have cx3 : (wv2.alloc (.cells #[.int .i64 x] 3)).cell? ⟨wv2.heap.size, 0, none⟩ = some (.int .i64 x) := by simp [go_sem]
        have r3 := r2.alloc (.cells #[.int .i64 x] 3)
        have hne : wv2.heap.size ≠ g2 := by have := (r2.lt g2 rfl).2; omega
        obtain ⟨wv3, ev3⟩ : ∃ W, wv2.alloc (.cells #[.int .i64 x] 3) = W := ⟨_, rfl⟩
        rw [ev3] at hb3 cx3 r3 hS ⊢
        clear ev3
        refine wpAnyH_ready (rs := [10]) (by kernel_rfl) (by simp) ?_
        refine AllReadyH.cons rfl (fun K hK => ?_) AllReadyH.nil
        refine step_append_lies _ rfl (.tmp 65) (.tmp 69) 26 rfl w3.heap.size 3 i0 _ 1 8 Try.underlying26 hi hz0 hz1 hz2 rfl (by decide) (.slice (some ⟨g2, 0, none⟩) (l.length - 1) cap2) (l.length - 1) (ci (l.drop 1)) rfl r3 ⟨wv2.heap.size, 0, none⟩ 1 1 [.int .i64 x] rfl rfl (one_at cx3) (by intro u hu; simp at hu; subst hu; rfl) (by omega) (by unfold maxLen; omega) (by omega) hb3.size _ rfl ?_
        intro g4 cap4 wv4 r4 hgr4 _ _
        have hb4 := own_below hb3 r3 hgr4
        rw [← ci_snoc, HL1.out] at r4
        rw [HL1.out]
        refine hK.out _ _ ⟨(hb4.cell (p := ⟨b, off, none⟩) hbw).trans hc0, trivial, trivial⟩ (fun hS => ?_)
        clear hK K
        refine wpAnyH_ready (rs := [11]) (by kernel_rfl) (by simp) ?_
        refine AllReadyH.cons rfl (fun K hK => ?_) AllReadyH.nil
        go_simp
        refine (CloseLoop_any _ _ _ _ _ _ N L (l.drop 1 ++ [x]) _ (hr3.after hb4) (Rd.of_own r4)).mono ?_
        rintro e wv5 ⟨rfl, hc5⟩
        rw [HLAW.out.1, HLAW.out.2.1]
        have hb5 := bT hb4 hc5
        refine hK.out _ _ ⟨(hb5.cell (p := ⟨b, off, none⟩) hbw).trans hc0, trivial, trivial⟩ (fun hS => ?_)
        clear hK K
        refine wpAnyH_take (i := 12) (v := .tuple #[.int .i64 o, .bool true]) rfl (by kernel_rfl) (by kernel_rfl) (by kernel_rfl) (fun _ _ _ h => h) (Or.inl ⟨by rfl, fun ww hSw => ?_⟩) hS ?_
        · (try obtain ⟨s0, s1, s2⟩ := hSw); go_simp
        refine wpAnyH_take (i := 13) (v := .int .i64 o) rfl (by kernel_rfl) (by kernel_rfl) (by kernel_rfl) (fun _ _ _ h => h) (Or.inl ⟨by rfl, fun ww hSw => ?_⟩) hS ?_
        · (try obtain ⟨s0, s1, s2⟩ := hSw); go_simp
        refine wpAnyH_take (i := 14) (v := .bool true) rfl (by kernel_rfl) (by kernel_rfl) (by kernel_rfl) (fun _ _ _ h => h) (Or.inl ⟨by rfl, fun ww hSw => ?_⟩) hS ?_
        · (try obtain ⟨s0, s1, s2⟩ := hSw); go_simp
        refine wpAnyH_take (i := 15) (v := .int .i64 o) rfl (by kernel_rfl) (by kernel_rfl) (by kernel_rfl) (fun _ _ _ h => h) (Or.inl ⟨by rfl, fun ww hSw => ?_⟩) hS ?_
        · (try obtain ⟨s0, s1, s2⟩ := hSw); go_simp
        refine wpAnyH_take (i := 16) (v := .bool true) rfl (by kernel_rfl) (by kernel_rfl) (by kernel_rfl) (fun _ _ _ h => h) (Or.inl ⟨by rfl, fun ww hSw => ?_⟩) hS ?_
        · (try obtain ⟨s0, s1, s2⟩ := hSw); go_simp
        refine ⟨by kernel_rfl, ?_⟩
        obtain ⟨i1, hi1, hy0, hy1, hy2⟩ := info_parts infoInt
        go_wp2_with fail
        go_loopw [12, 13] (fun v s wr => ∃ q : Nat, q ≤ l.length ∧ s = .int .i64 ((q : Int) - 1) ∧ wr.ownsRow w3.heap.size 3 1 v (l.length - q) (ci (l.drop q).reverse) ∧ Below w3.heap.size w3 wr) (fun _ s _ => (intOf s + 1).toNat)
        case atStart => exact ⟨l.length, Nat.le_refl _, rfl, by rw [Nat.sub_self, List.drop_length]; exact World.ownsRow_lit _ #[] 0 hb5.size (by decide) rfl, bA hb5 _⟩
        case round =>
          clear hb5
          obtain ⟨q, hq, rfl, hown, hBr⟩ := hrel
          by_cases hq0 : 0 < q
          · obtain ⟨b9, off9, e9, hb9, hc9⟩ := (hr3'.below hBr).int_at (k := q - 1) (by omega)
            injection e9 with e9
            injection e9 with e9 e10
            subst e9 e10
            have HR := Lib.hid (rev_step l q hq0 hq)
            obtain ⟨z, hz⟩ : ∃ z, l[q - 1]'(by omega) = z := ⟨_, rfl⟩
            rw [hz] at hc9 HR
            clear hz
            have hown1 := hown.alloc (.cells #[.int .i64 z] 3)
            have hB2 := bA hBr (.cells #[.int .i64 z] 3)
            have hsz := hBr.size
            have hix : ((q : Int) - 1).toNat = q - 1 := by omega
            have hix2 : (0 : Int) ≤ (q : Int) - 1 := by omega
            have hix3 : (q : Int) - 1 < (l.length : Int) := by omega
            have hix4 : (1 : Int) ≤ (q : Int) := by omega
            go_wp2_with (at_builtin; refine wpList_append_own _ rfl _ _ 26 rfl w3.heap.size 3 i1 _ 1 8 Try.underlying26 hi1 hy0 hy1 hy2 rfl (by decide) _ _ _ rfl hown1 ⟨wr.heap.size, 0, none⟩ 1 1 [.int .i64 z] rfl rfl (new_cells _ _ _) (by intro u hu; simp at hu; subst hu; rfl) (by unfold maxLen; omega) (by omega) (by simp; omega) ?_)
            intro v' w9 hown' hgrow _
            have hB3 := own_below hB2 hown1 hgrow
            clear hown1 hgrow hB2 hown hBr hix hix2 hix3 hix4
            go_wp2_with fail
            go_roundw
            case rel => exact ⟨q - 1, by omega, by congr 1; omega, by rw [HR.out.1, HR.out.2]; exact hown', hB3⟩
            case measure => simp [intOf]; omega
          · have hqe : q = 0 := by omega
            subst hqe
            rw [List.drop_zero, Nat.sub_zero] at hown
            obtain ⟨A9, c9, rfl⟩ := own_form hown
            go_wp2_with fail
            refine (CloseLoop_any _ _ _ _ _ _ N L l.reverse _ (hr3.after hBr) (Rd.of_own hown)).mono ?_
            rintro e w9 ⟨rfl, hB9⟩
            rw [HLAW.out.2.2.1, HLAW.out.2.2.2]
            go_wp2_with (go_at_call 39; refine (PhaseOf_any _ _).mono ?_; rintro e w' ⟨rfl, rfl⟩)
            go_ret
            exact ⟨rfl, bT hB (bT hBr hB9)⟩
      · go_simp
        refine hK.out _ _ ⟨((bA hb1 _).cell (p := ⟨b, off, none⟩) hbw).trans hc0, trivial, trivial⟩ (fun hS => ?_)
        clear hK K
        have hb2 := bA hb1 (.cells #[.int .i64 x] 3)
        have cx2 : (wv1.alloc (.cells #[.int .i64 x] 3)).cell? ⟨wv1.heap.size, 0, none⟩ = some (.int .i64 x) := by simp [go_sem]
        have r2 := r1.alloc (.cells #[.int .i64 x] 3)
        have hne : wv1.heap.size ≠ wv0.heap.size := by have := (r1.lt wv0.heap.size rfl).2; omega
        obtain ⟨wv2, ev2⟩ : ∃ W, wv1.alloc (.cells #[.int .i64 x] 3) = W := ⟨_, rfl⟩
        rw [ev2] at hb2 cx2 r2 hS ⊢
        clear ev2
        refine wpAnyH_ready (rs := [5]) (by kernel_rfl) (by simp) ?_
        refine AllReadyH.cons rfl (fun K hK => ?_) AllReadyH.nil
        refine step_append_lies _ rfl (.tmp 62) (.tmp 64) 26 rfl w3.heap.size 3 i0 _ 1 8 Try.underlying26 hi hz0 hz1 hz2 rfl (by decide) (.slice (some ⟨wv0.heap.size, 0, none⟩) 0 0) 0 [] rfl r2 ⟨b, off + 1, none⟩ (l.length - 1) (c2 - 1) (ci (l.drop 1)) rfl (by rw [ci_length, List.length_drop, Nat.mul_one]) (hd1.cells_below (by omega) hb2) (ci_one _) (by omega) (by unfold maxLen; omega) (by omega) hb2.size _ rfl ?_
        intro g3 cap3 wv3 r3 hgr3 _ _
        have hb3 := own_below hb2 r2 hgr3
        rw [Nat.zero_add, List.nil_append] at r3
        rw [Nat.zero_add]
        have cx3 := hgr3.cell cx2 (fun e => hne (by simpa [Value.ownBlock] using e))
        have hne2 : wv1.heap.size ≠ wv0.heap.size := hne
        refine hK.out _ _ ⟨(hb3.cell (p := ⟨b, off, none⟩) hbw).trans hc0, trivial, trivial⟩ (fun hS => ?_)
        clear hK K
        refine wpAnyH_ready (rs := [10]) (by kernel_rfl) (by simp) ?_
        refine AllReadyH.cons rfl (fun K hK => ?_) AllReadyH.nil
        refine step_append_lies _ rfl (.tmp 65) (.tmp 69) 26 rfl w3.heap.size 3 i0 _ 1 8 Try.underlying26 hi hz0 hz1 hz2 rfl (by decide) (.slice (some ⟨g3, 0, none⟩) (l.length - 1) cap3) (l.length - 1) (ci (l.drop 1)) rfl r3 ⟨wv1.heap.size, 0, none⟩ 1 1 [.int .i64 x] rfl rfl (one_at cx3) (by intro u hu; simp at hu; subst hu; rfl) (by omega) (by unfold maxLen; omega) (by omega) hb3.size _ rfl ?_
        intro g4 cap4 wv4 r4 hgr4 _ _
        have hb4 := own_below hb3 r3 hgr4
        rw [← ci_snoc, HL1.out] at r4
        rw [HL1.out]
        refine hK.out _ _ ⟨(hb4.cell (p := ⟨b, off, none⟩) hbw).trans hc0, trivial, trivial⟩ (fun hS => ?_)
        clear hK K
        refine wpAnyH_ready (rs := [11]) (by kernel_rfl) (by simp) ?_
        refine AllReadyH.cons rfl (fun K hK => ?_) AllReadyH.nil
        go_simp
        refine (CloseLoop_any _ _ _ _ _ _ N L (l.drop 1 ++ [x]) _ (hr3.after hb4) (Rd.of_own r4)).mono ?_
        rintro e wv5 ⟨rfl, hc5⟩
        rw [HLAW.out.1, HLAW.out.2.1]
        have hb5 := bT hb4 hc5
        refine hK.out _ _ ⟨(hb5.cell (p := ⟨b, off, none⟩) hbw).trans hc0, trivial, trivial⟩ (fun hS => ?_)
        clear hK K
        refine wpAnyH_take (i := 12) (v := .tuple #[.int .i64 o, .bool true]) rfl (by kernel_rfl) (by kernel_rfl) (by kernel_rfl) (fun _ _ _ h => h) (Or.inl ⟨by rfl, fun ww hSw => ?_⟩) hS ?_
        · (try obtain ⟨s0, s1, s2⟩ := hSw); go_simp
        refine wpAnyH_take (i := 13) (v := .int .i64 o) rfl (by kernel_rfl) (by kernel_rfl) (by kernel_rfl) (fun _ _ _ h => h) (Or.inl ⟨by rfl, fun ww hSw => ?_⟩) hS ?_
        · (try obtain ⟨s0, s1, s2⟩ := hSw); go_simp
        refine wpAnyH_take (i := 14) (v := .bool true) rfl (by kernel_rfl) (by kernel_rfl) (by kernel_rfl) (fun _ _ _ h => h) (Or.inl ⟨by rfl, fun ww hSw => ?_⟩) hS ?_
        · (try obtain ⟨s0, s1, s2⟩ := hSw); go_simp
        refine wpAnyH_take (i := 15) (v := .int .i64 o) rfl (by kernel_rfl) (by kernel_rfl) (by kernel_rfl) (fun _ _ _ h => h) (Or.inl ⟨by rfl, fun ww hSw => ?_⟩) hS ?_
        · (try obtain ⟨s0, s1, s2⟩ := hSw); go_simp
        refine wpAnyH_take (i := 16) (v := .bool true) rfl (by kernel_rfl) (by kernel_rfl) (by kernel_rfl) (fun _ _ _ h => h) (Or.inl ⟨by rfl, fun ww hSw => ?_⟩) hS ?_
        · (try obtain ⟨s0, s1, s2⟩ := hSw); go_simp
        refine ⟨by kernel_rfl, ?_⟩
        obtain ⟨i1, hi1, hy0, hy1, hy2⟩ := info_parts infoInt
        go_wp2_with fail
        go_loopw [12, 13] (fun v s wr => ∃ q : Nat, q ≤ l.length ∧ s = .int .i64 ((q : Int) - 1) ∧ wr.ownsRow w3.heap.size 3 1 v (l.length - q) (ci (l.drop q).reverse) ∧ Below w3.heap.size w3 wr) (fun _ s _ => (intOf s + 1).toNat)
        case atStart => exact ⟨l.length, Nat.le_refl _, rfl, by rw [Nat.sub_self, List.drop_length]; exact World.ownsRow_lit _ #[] 0 hb5.size (by decide) rfl, bA hb5 _⟩
        case round =>
          clear hb5
          obtain ⟨q, hq, rfl, hown, hBr⟩ := hrel
          by_cases hq0 : 0 < q
          · obtain ⟨b9, off9, e9, hb9, hc9⟩ := (hr3'.below hBr).int_at (k := q - 1) (by omega)
            injection e9 with e9
            injection e9 with e9 e10
            subst e9 e10
            have HR := Lib.hid (rev_step l q hq0 hq)
            obtain ⟨z, hz⟩ : ∃ z, l[q - 1]'(by omega) = z := ⟨_, rfl⟩
            rw [hz] at hc9 HR
            clear hz
            have hown1 := hown.alloc (.cells #[.int .i64 z] 3)
            have hB2 := bA hBr (.cells #[.int .i64 z] 3)
            have hsz := hBr.size
            have hix : ((q : Int) - 1).toNat = q - 1 := by omega
            have hix2 : (0 : Int) ≤ (q : Int) - 1 := by omega
            have hix3 : (q : Int) - 1 < (l.length : Int) := by omega
            have hix4 : (1 : Int) ≤ (q : Int) := by omega
            go_wp2_with (at_builtin; refine wpList_append_own _ rfl _ _ 26 rfl w3.heap.size 3 i1 _ 1 8 Try.underlying26 hi1 hy0 hy1 hy2 rfl (by decide) _ _ _ rfl hown1 ⟨wr.heap.size, 0, none⟩ 1 1 [.int .i64 z] rfl rfl (new_cells _ _ _) (by intro u hu; simp at hu; subst hu; rfl) (by unfold maxLen; omega) (by omega) (by simp; omega) ?_)
            intro v' w9 hown' hgrow _
            have hB3 := own_below hB2 hown1 hgrow
            clear hown1 hgrow hB2 hown hBr hix hix2 hix3 hix4
            go_wp2_with fail
            go_roundw
            case rel => exact ⟨q - 1, by omega, by congr 1; omega, by rw [HR.out.1, HR.out.2]; exact hown', hB3⟩
            case measure => simp [intOf]; omega
          · have hqe : q = 0 := by omega
            subst hqe
            rw [List.drop_zero, Nat.sub_zero] at hown
            obtain ⟨A9, c9, rfl⟩ := own_form hown
            go_wp2_with fail
            refine (CloseLoop_any _ _ _ _ _ _ N L l.reverse _ (hr3.after hBr) (Rd.of_own hown)).mono ?_
            rintro e w9 ⟨rfl, hB9⟩
            rw [HLAW.out.2.2.1, HLAW.out.2.2.2]
            go_wp2_with (go_at_call 39; refine (PhaseOf_any _ _).mono ?_; rintro e w' ⟨rfl, rfl⟩)
            go_ret
            exact ⟨rfl, bT hB (bT hBr hB9)⟩
    · go_simp
      refine hK.out _ _ ⟨((bA hb0 _).cell (p := ⟨b, off, none⟩) hbw).trans hc0, trivial, trivial⟩ (fun hS => ?_)
      clear hK K
      have hb1 := bA hb0 (.cells #[.int .i64 x] 3)
      have cx1 : (wv0.alloc (.cells #[.int .i64 x] 3)).cell? ⟨wv0.heap.size, 0, none⟩ = some (.int .i64 x) := by simp [go_sem]
      obtain ⟨wv1, ev1⟩ : ∃ W, wv0.alloc (.cells #[.int .i64 x] 3) = W := ⟨_, rfl⟩
      rw [ev1] at hb1 cx1 hS ⊢
      clear ev1
      refine wpAnyH_ready (rs := [2]) (by kernel_rfl) (by simp) ?_
      refine AllReadyH.cons rfl (fun K hK => ?_) AllReadyH.nil
      go_simp
      refine hK.out _ _ ⟨((bA hb1 _).cell (p := ⟨b, off, none⟩) hbw).trans hc0, trivial, trivial⟩ (fun hS => ?_)
      clear hK K
      have hb2 := bA hb1 (.cells #[] 3)
      have r2 : (wv1.alloc (.cells #[] 3)).ownsRow w3.heap.size 3 1 (.slice (some ⟨wv1.heap.size, 0, none⟩) 0 0) 0 [] := World.ownsRow_lit wv1 #[] 0 hb1.size (by decide) rfl
      have cx2 : (wv1.alloc (.cells #[] 3)).cell? ⟨wv0.heap.size, 0, none⟩ = some (.int .i64 x) := ((bA (b0 wv1) _).cell (p := ⟨wv0.heap.size, 0, none⟩) (block_lt_of_cell cx1)).trans cx1
      have hne : wv0.heap.size ≠ wv1.heap.size := by have := block_lt_of_cell cx1; simp at this; omega
      obtain ⟨wv2, ev2⟩ : ∃ W, wv1.alloc (.cells #[] 3) = W := ⟨_, rfl⟩
      rw [ev2] at hb2 r2 cx2 hS ⊢
      clear ev2
      refine wpAnyH_ready (rs := [5]) (by kernel_rfl) (by simp) ?_
      refine AllReadyH.cons rfl (fun K hK => ?_) AllReadyH.nil
      refine step_append_lies _ rfl (.tmp 62) (.tmp 64) 26 rfl w3.heap.size 3 i0 _ 1 8 Try.underlying26 hi hz0 hz1 hz2 rfl (by decide) (.slice (some ⟨wv1.heap.size, 0, none⟩) 0 0) 0 [] rfl r2 ⟨b, off + 1, none⟩ (l.length - 1) (c2 - 1) (ci (l.drop 1)) rfl (by rw [ci_length, List.length_drop, Nat.mul_one]) (hd1.cells_below (by omega) hb2) (ci_one _) (by omega) (by unfold maxLen; omega) (by omega) hb2.size _ rfl ?_
      intro g3 cap3 wv3 r3 hgr3 _ _
      have hb3 := own_below hb2 r2 hgr3
      rw [Nat.zero_add, List.nil_append] at r3
      rw [Nat.zero_add]
      have cx3 := hgr3.cell cx2 (fun e => hne (by simpa [Value.ownBlock] using e))
      have hne2 : wv0.heap.size ≠ wv1.heap.size := hne
      refine hK.out _ _ ⟨(hb3.cell (p := ⟨b, off, none⟩) hbw).trans hc0, trivial, trivial⟩ (fun hS => ?_)
      clear hK K
      refine wpAnyH_ready (rs := [10]) (by kernel_rfl) (by simp) ?_
      refine AllReadyH.cons rfl (fun K hK => ?_) AllReadyH.nil
      refine step_append_lies _ rfl (.tmp 65) (.tmp 69) 26 rfl w3.heap.size 3 i0 _ 1 8 Try.underlying26 hi hz0 hz1 hz2 rfl (by decide) (.slice (some ⟨g3, 0, none⟩) (l.length - 1) cap3) (l.length - 1) (ci (l.drop 1)) rfl r3 ⟨wv0.heap.size, 0, none⟩ 1 1 [.int .i64 x] rfl rfl (one_at cx3) (by intro u hu; simp at hu; subst hu; rfl) (by omega) (by unfold maxLen; omega) (by omega) hb3.size _ rfl ?_
      intro g4 cap4 wv4 r4 hgr4 _ _
      have hb4 := own_below hb3 r3 hgr4
      rw [← ci_snoc, HL1.out] at r4
      rw [HL1.out]
      refine hK.out _ _ ⟨(hb4.cell (p := ⟨b, off, none⟩) hbw).trans hc0, trivial, trivial⟩ (fun hS => ?_)
      clear hK K
      refine wpAnyH_ready (rs := [11]) (by kernel_rfl) (by simp) ?_
      refine AllReadyH.cons rfl (fun K hK => ?_) AllReadyH.nil
      go_simp
      refine (CloseLoop_any _ _ _ _ _ _ N L (l.drop 1 ++ [x]) _ (hr3.after hb4) (Rd.of_own r4)).mono ?_
      rintro e wv5 ⟨rfl, hc5⟩
      rw [HLAW.out.1, HLAW.out.2.1]
      have hb5 := bT hb4 hc5
      refine hK.out _ _ ⟨(hb5.cell (p := ⟨b, off, none⟩) hbw).trans hc0, trivial, trivial⟩ (fun hS => ?_)
      clear hK K
      refine wpAnyH_take (i := 12) (v := .tuple #[.int .i64 o, .bool true]) rfl (by kernel_rfl) (by kernel_rfl) (by kernel_rfl) (fun _ _ _ h => h) (Or.inl ⟨by rfl, fun ww hSw => ?_⟩) hS ?_
      · (try obtain ⟨s0, s1, s2⟩ := hSw); go_simp
      refine wpAnyH_take (i := 13) (v := .int .i64 o) rfl (by kernel_rfl) (by kernel_rfl) (by kernel_rfl) (fun _ _ _ h => h) (Or.inl ⟨by rfl, fun ww hSw => ?_⟩) hS ?_
      · (try obtain ⟨s0, s1, s2⟩ := hSw); go_simp
      refine wpAnyH_take (i := 14) (v := .bool true) rfl (by kernel_rfl) (by kernel_rfl) (by kernel_rfl) (fun _ _ _ h => h) (Or.inl ⟨by rfl, fun ww hSw => ?_⟩) hS ?_
      · (try obtain ⟨s0, s1, s2⟩ := hSw); go_simp
      refine wpAnyH_take (i := 15) (v := .int .i64 o) rfl (by kernel_rfl) (by kernel_rfl) (by kernel_rfl) (fun _ _ _ h => h) (Or.inl ⟨by rfl, fun ww hSw => ?_⟩) hS ?_
      · (try obtain ⟨s0, s1, s2⟩ := hSw); go_simp
      refine wpAnyH_take (i := 16) (v := .bool true) rfl (by kernel_rfl) (by kernel_rfl) (by kernel_rfl) (fun _ _ _ h => h) (Or.inl ⟨by rfl, fun ww hSw => ?_⟩) hS ?_
      · (try obtain ⟨s0, s1, s2⟩ := hSw); go_simp
      refine ⟨by kernel_rfl, ?_⟩
      obtain ⟨i1, hi1, hy0, hy1, hy2⟩ := info_parts infoInt
      go_wp2_with fail
      go_loopw [12, 13] (fun v s wr => ∃ q : Nat, q ≤ l.length ∧ s = .int .i64 ((q : Int) - 1) ∧ wr.ownsRow w3.heap.size 3 1 v (l.length - q) (ci (l.drop q).reverse) ∧ Below w3.heap.size w3 wr) (fun _ s _ => (intOf s + 1).toNat)
      case atStart => exact ⟨l.length, Nat.le_refl _, rfl, by rw [Nat.sub_self, List.drop_length]; exact World.ownsRow_lit _ #[] 0 hb5.size (by decide) rfl, bA hb5 _⟩
      case round =>
        clear hb5
        obtain ⟨q, hq, rfl, hown, hBr⟩ := hrel
        by_cases hq0 : 0 < q
        · obtain ⟨b9, off9, e9, hb9, hc9⟩ := (hr3'.below hBr).int_at (k := q - 1) (by omega)
          injection e9 with e9
          injection e9 with e9 e10
          subst e9 e10
          have HR := Lib.hid (rev_step l q hq0 hq)
          obtain ⟨z, hz⟩ : ∃ z, l[q - 1]'(by omega) = z := ⟨_, rfl⟩
          rw [hz] at hc9 HR
          clear hz
          have hown1 := hown.alloc (.cells #[.int .i64 z] 3)
          have hB2 := bA hBr (.cells #[.int .i64 z] 3)
          have hsz := hBr.size
          have hix : ((q : Int) - 1).toNat = q - 1 := by omega
          have hix2 : (0 : Int) ≤ (q : Int) - 1 := by omega
          have hix3 : (q : Int) - 1 < (l.length : Int) := by omega
          have hix4 : (1 : Int) ≤ (q : Int) := by omega
          go_wp2_with (at_builtin; refine wpList_append_own _ rfl _ _ 26 rfl w3.heap.size 3 i1 _ 1 8 Try.underlying26 hi1 hy0 hy1 hy2 rfl (by decide) _ _ _ rfl hown1 ⟨wr.heap.size, 0, none⟩ 1 1 [.int .i64 z] rfl rfl (new_cells _ _ _) (by intro u hu; simp at hu; subst hu; rfl) (by unfold maxLen; omega) (by omega) (by simp; omega) ?_)
          intro v' w9 hown' hgrow _
          have hB3 := own_below hB2 hown1 hgrow
          clear hown1 hgrow hB2 hown hBr hix hix2 hix3 hix4
          go_wp2_with fail
          go_roundw
          case rel => exact ⟨q - 1, by omega, by congr 1; omega, by rw [HR.out.1, HR.out.2]; exact hown', hB3⟩
          case measure => simp [intOf]; omega
        · have hqe : q = 0 := by omega
          subst hqe
          rw [List.drop_zero, Nat.sub_zero] at hown
          obtain ⟨A9, c9, rfl⟩ := own_form hown
          go_wp2_with fail
          refine (CloseLoop_any _ _ _ _ _ _ N L l.reverse _ (hr3.after hBr) (Rd.of_own hown)).mono ?_
          rintro e w9 ⟨rfl, hB9⟩
          rw [HLAW.out.2.2.1, HLAW.out.2.2.2]
          go_wp2_with (go_at_call 39; refine (PhaseOf_any _ _).mono ?_; rintro e w' ⟨rfl, rfl⟩)
          go_ret
          exact ⟨rfl, bT hB (bT hBr hB9)⟩

end Go.Proofs.Ythfljdamahmkaaa
