/- The laws FnCloseLoopCut and FnCloseLoopTurn. -/
import Derived.Test.YthfljdamahmkaaaLawC1
import Derived.Deep.RegionHeld
import Derived.Deep.AppendLies
namespace Go.Proofs.Ythfljdamahmkaaa
open Go.RowKit

theorem ci_drop (l : List Int) (k : Nat) : (ci l).drop k = ci (l.drop k) := by simp [ci, List.map_drop]
theorem Rd.drop {w : World} {B n c b off : Nat} {l : List Int} (h : Rd w B 1 (some ⟨b, off, none⟩) n c (ci l)) (k : Nat) (hk : k < n) : Rd w B 1 (some ⟨b, off + k, none⟩) (n - k) (c - k) (ci (l.drop k)) := by
  have hl := h.len
  rw [ci_length] at hl
  refine ⟨by rw [ci_length, List.length_drop]; omega, by have := h.cap; omega, by have := h.most; omega, fun _ => ?_⟩
  obtain ⟨b', off', e, hb, hc⟩ := h.at_ (by omega)
  injection e with e
  injection e with e1 e2
  subst e1 e2
  refine ⟨b, off + k, rfl, hb, fun j u hu => ?_⟩
  rw [← ci_drop, List.getElem?_drop] at hu
  have := hc _ u hu
  rwa [show off + k + j = off + (k + j) by omega]
theorem Rd.cells_alloc {w : World} {n c b off : Nat} {xs : List Value} (h : Rd w w.heap.size 1 (some ⟨b, off, none⟩) n c xs) (hn : 0 < n) (o : Obj) : ∀ j u, xs[j]? = some u → (w.drew.alloc o).cell? ((⟨b, off, none⟩ : Addr).add j) = some u := by
  intro j u hu
  obtain ⟨b', off', e, hb, hc⟩ := h.at_ hn
  injection e with e
  injection e with e1 e2
  subst e1 e2
  have e3 : ((⟨b, off, none⟩ : Addr).add j) = ⟨b, off + j, none⟩ := by unfold Addr.add; split <;> simp_all
  rw [e3]
  exact (((bA (Below.drew (b0 w)) o).cell (p := ⟨b, off + j, none⟩) hb)).trans (hc j u hu)
set_option maxRecDepth 100000 in
set_option maxHeartbeats 2000000 in
theorem law_closeLoopCut (A : Option Addr) (n c : Nat) (bs : List Int) (w : World) (h : Rd w w.heap.size 1 A n c (cb bs)) (hx : ∀ x ∈ bs, 0 ≤ x ∧ x ≤ 255) :
    Calls Try.prog 9 #[.slice A n c] w fun e w' => e = .returned (.bool true) ∧ Below w.heap.size w w' := by
  have hm := h.most
  have hcap := h.cap
  have HX := Lib.hid hx
  clear hx
  by_cases hn : 1048576 < n
  · have hd : decide ((1048576 : Int) < (n : Int)) = true := by simp; omega
    go_enter Try.func9, Try.ntmps9
    go_wp2
    go_ret
    exact ⟨rfl, b0 _⟩
  have hd : decide ((1048576 : Int) < (n : Int)) = false := by simp; omega
  go_enter Try.func9, Try.ntmps9
  go_wp2_with fail
  refine (DrawCloseLoop_any _ _ _ bs _ h HX.out (by omega)).mono ?_
  rintro e w1 ⟨N, A1, m1, c1, L, A2, m2, c2, l, rfl, hr, hr', hB1⟩
  have hl := hr'.len
  rw [ci_length, Nat.mul_one] at hl
  subst hl
  go_wp2_with fail
  refine (CloseLoop_any _ _ _ _ _ _ N L l _ hr hr').mono ?_
  rintro e w2 ⟨rfl, hB2⟩
  go_wp2_with fail
  refine (sCloseLoop_any _ _ _ _ _ _ N L l _ (hr.after hB2) (hr'.after hB2)).mono ?_
  rintro e w3 ⟨rfl, hB3⟩
  have hr3 := (hr.after hB2).after hB3
  have hr3' := (hr'.after hB2).after hB3
  have hB := bT (bT hB1 hB2) hB3
  clear hr hr' hB1 hB2 hB3
  have hmost := hr3'.most
  have hcap' := hr3'.cap
  have ob := loopP_bd N L l
  have hlen := @Vm.loop_len N L l
  have hlaw := fun hh : Vm.loopB N L l = true => fun h4 => @Vm.cut2 N L l hh h4
  obtain ⟨o, ho⟩ : ∃ o, Vm.loopP N L l = o := ⟨_, rfl⟩
  rw [ho] at ob hlaw ⊢
  clear ho
  obtain ⟨o1, o2⟩ := ob
  cases hok : Vm.loopB N L l
  · clear hlaw hlen
    go_wp2_with fail
    go_ret
    exact ⟨rfl, hB⟩
  · obtain ⟨l3, l7⟩ := hlen hok
    have HLAW := Lib.hid (hlaw hok)
    clear hlaw hlen hok
    by_cases h4 : l.length < 4
    · go_wp2_with fail
      go_ret
      exact ⟨rfl, hB⟩
    · have h4' : 4 ≤ l.length := by omega
      have HL := Lib.hid (HLAW.out h4')
      clear h4
      have hx3 := hr3'.take 3 (by omega)
      rw [ci_take] at hx3
      obtain ⟨b, off, rfl, hb, hc0⟩ := hr3'.int_at (k := 0) (by omega)
      have p1 := loopP_bd N L (l.take 3)
      have p2 := loopP_bd N L (l.getD 0 0 :: l.drop 2)
      obtain ⟨x, hx⟩ : ∃ x, l[0] = x := ⟨_, rfl⟩
      have g0 : l.getD 0 0 = x := by rw [← hx]; exact getD_at l 0 (by omega)
      rw [g0] at HL p2
      rw [hx, Nat.add_zero] at hc0
      clear hx g0
      obtain ⟨y1, hy1⟩ : ∃ y, Vm.loopP N L (l.take 3) = y := ⟨_, rfl⟩
      obtain ⟨y2, hy2⟩ : ∃ y, Vm.loopP N L (x :: l.drop 2) = y := ⟨_, rfl⟩
      rw [hy1] at p1 HL
      rw [hy2] at p2 HL
      have HY1 := Lib.hid hy1
      have HY2 := Lib.hid hy2
      clear hy1 hy2
      obtain ⟨p11, p12⟩ := p1
      obtain ⟨p21, p22⟩ := p2
      go_wp2_with fail
      refine (CloseLoop_any _ _ _ _ _ _ N L (l.take 3) _ hr3 hx3).mono ?_
      rintro e w4 ⟨rfl, hB4⟩
      rw [HL.out.1, HY1.out]
      have hr4 := hr3.after hB4
      have hr4' := hr3'.after hB4
      have hB5 := bT hB hB4
      have hsz4 := hB4.size
      have hc4 : w4.cell? ⟨b, off, none⟩ = some (.int .i64 x) := (hB4.cell (p := ⟨b, off, none⟩) hb).trans hc0
      have hd2 := hr4'.drop 2 (by omega)
      have hlt2 : 2 < l.length := by omega
      have hle2 : (2 : Int) ≤ (l.length : Int) := by omega
      have hc2n : ¬ c2 = 2 := by omega
      have hnil : ¬ l = [] := fun e => by rw [e] at hlt2; simp at hlt2
      obtain ⟨i0, hi, hz0, hz1, hz2⟩ := info_parts infoInt
      have hlitW : ∀ W : World, (W.alloc (.cells #[.int .i64 x] 3)).ownsRow W.heap.size 3 1 (.slice (some ⟨W.heap.size, 0, none⟩) 1 1) 1 [.int .i64 x] := fun W => World.ownsRow_lit W #[.int .i64 x] 1 (Nat.le_refl _) (by decide) rfl
      have HLIT := Lib.hid hlitW
      clear hlitW hx3 hc0 hB hB4 hr3'
      have hbw : b < w4.heap.size := Nat.lt_of_lt_of_le hb hsz4
      go_wp2_with fail
      refine wp_region_held_drew (S := fun W' => W'.cell? ⟨b, off, none⟩ = some (.int .i64 x) ∧ True ∧ True) (by kernel_rfl) ⟨hc4, trivial, trivial⟩ (fun hS => ?_)
      refine wpAnyH_take (i := 0) (v := .int .i64 N) rfl (by kernel_rfl) (by kernel_rfl) (by kernel_rfl) (fun _ _ _ h => h) (Or.inl ⟨by rfl, fun ww hSw => ?_⟩) hS ?_
      · (try obtain ⟨s0, s1, s2⟩ := hSw); go_simp
      refine wpAnyH_take (i := 1) (v := .slice A1 m1 c1) rfl (by kernel_rfl) (by kernel_rfl) (by kernel_rfl) (fun _ _ _ h => h) (Or.inl ⟨by rfl, fun ww hSw => ?_⟩) hS ?_
      · (try obtain ⟨s0, s1, s2⟩ := hSw); go_simp
      refine wpAnyH_take (i := 2) (v := .slice (some ⟨b, off, none⟩) l.length c2) rfl (by kernel_rfl) (by kernel_rfl) (by kernel_rfl) (fun _ _ _ h => h) (Or.inl ⟨by rfl, fun ww hSw => ?_⟩) hS ?_
      · (try obtain ⟨s0, s1, s2⟩ := hSw); go_simp
      refine wpAnyH_take (i := 3) (v := .pointer (some ⟨b, off, none⟩)) rfl (by kernel_rfl) (by kernel_rfl) (by kernel_rfl) (fun _ _ _ h => h) (Or.inl ⟨by rfl, fun ww hSw => ?_⟩) hS ?_
      · (try obtain ⟨s0, s1, s2⟩ := hSw); go_simp
      refine wpAnyH_take (i := 4) (v := .int .i64 x) rfl (by kernel_rfl) (by kernel_rfl) (by kernel_rfl) (fun _ _ _ h => h) (Or.inl ⟨by rfl, fun ww hSw => ?_⟩) hS ?_
      · (try obtain ⟨s0, s1, s2⟩ := hSw); go_simp
      refine wpAnyH_take (i := 6) (v := .slice (some ⟨b, off, none⟩) l.length c2) rfl (by kernel_rfl) (by kernel_rfl) (by kernel_rfl) (fun _ _ _ h => h) (Or.inl ⟨by rfl, fun ww hSw => ?_⟩) hS ?_
      · (try obtain ⟨s0, s1, s2⟩ := hSw); go_simp
      refine wpAnyH_take (i := 7) (v := .slice (some ⟨b, off + 2, none⟩) (l.length - 2) (c2 - 2)) rfl (by kernel_rfl) (by kernel_rfl) (by kernel_rfl) (fun _ _ _ h => h) (Or.inl ⟨by rfl, fun ww hSw => ?_⟩) hS ?_
      · (try obtain ⟨s0, s1, s2⟩ := hSw); go_simp
      refine wpAnyH_ready (rs := [5]) (by kernel_rfl) (by simp) ?_
      refine AllReadyH.cons rfl (fun K hK => ?_) AllReadyH.nil
      go_simp
      refine hK.out _ _ ⟨((bA (Below.drew (b0 w4)) _).cell (p := ⟨b, off, none⟩) hbw).trans hc4, trivial, trivial⟩ (fun hS => ?_)
      clear hK K
      refine wpAnyH_ready (rs := [8]) (by kernel_rfl) (by simp) ?_
      refine AllReadyH.cons rfl (fun K hK => ?_) AllReadyH.nil
      refine step_append_lies _ rfl (.tmp 80) (.tmp 82) 26 rfl w4.heap.size 3 i0 _ 1 8 Try.underlying26 hi hz0 hz1 hz2 rfl (by decide) (.slice (some ⟨w4.heap.size, 0, none⟩) 1 1) 1 [.int .i64 x] rfl (HLIT.out w4.drew) ⟨b, off + 2, none⟩ (l.length - 2) (c2 - 2) (ci (l.drop 2)) rfl (by rw [ci_length, List.length_drop, Nat.mul_one]) (hd2.cells_alloc (by omega) _) (ci_one _) (by omega) (by unfold maxLen; omega) (by omega) (by simp) _ rfl ?_
      intro g cap w5 hown5 hgrow5 _ _
      have hB56 := own_below (a := w4) (bA (Below.drew (b0 w4)) _) (HLIT.out w4.drew) hgrow5
      refine hK.out _ _ ⟨(hB56.cell (p := ⟨b, off, none⟩) hbw).trans hc4, trivial, trivial⟩ (fun hS => ?_)
      clear hK K
      refine wpAnyH_ready (rs := [9]) (by kernel_rfl) (by simp) ?_
      refine AllReadyH.cons rfl (fun K hK => ?_) AllReadyH.nil
      go_simp
      refine (CloseLoop_any _ _ _ _ _ _ N L (x :: l.drop 2) _ (hr4.after hB56) (Rd.of_own hown5)).mono ?_
      rintro e w6 ⟨rfl, hB6⟩
      rw [HL.out.2.1, HY2.out]
      refine hK.out _ _ ⟨((bT hB56 hB6).cell (p := ⟨b, off, none⟩) hbw).trans hc4, trivial, trivial⟩ (fun hS => ?_)
      clear hK K
      refine wpAnyH_take (i := 10) (v := .tuple #[.int .i64 y2, .bool true]) rfl (by kernel_rfl) (by kernel_rfl) (by kernel_rfl) (fun _ _ _ h => h) (Or.inl ⟨by rfl, fun ww hSw => ?_⟩) hS ?_
      · (try obtain ⟨s0, s1, s2⟩ := hSw); go_simp
      refine wpAnyH_take (i := 11) (v := .int .i64 y2) rfl (by kernel_rfl) (by kernel_rfl) (by kernel_rfl) (fun _ _ _ h => h) (Or.inl ⟨by rfl, fun ww hSw => ?_⟩) hS ?_
      · (try obtain ⟨s0, s1, s2⟩ := hSw); go_simp
      refine wpAnyH_take (i := 12) (v := .bool true) rfl (by kernel_rfl) (by kernel_rfl) (by kernel_rfl) (fun _ _ _ h => h) (Or.inl ⟨by rfl, fun ww hSw => ?_⟩) hS ?_
      · (try obtain ⟨s0, s1, s2⟩ := hSw); go_simp
      refine wpAnyH_take (i := 13) (v := .int .i64 y2) rfl (by kernel_rfl) (by kernel_rfl) (by kernel_rfl) (fun _ _ _ h => h) (Or.inl ⟨by rfl, fun ww hSw => ?_⟩) hS ?_
      · (try obtain ⟨s0, s1, s2⟩ := hSw); go_simp
      refine wpAnyH_take (i := 14) (v := .bool true) rfl (by kernel_rfl) (by kernel_rfl) (by kernel_rfl) (fun _ _ _ h => h) (Or.inl ⟨by rfl, fun ww hSw => ?_⟩) hS ?_
      · (try obtain ⟨s0, s1, s2⟩ := hSw); go_simp
      refine ⟨by kernel_rfl, ?_⟩
      have hfin := HL.out.2.2
      have hbeq : ((y1 + y2) % 360 == o) = true := by rw [beq_iff_eq]; exact hfin
      clear hfin
      go_wp2_with (go_at_call 39; refine (PhaseOf_any _ _).mono ?_; rintro e w' ⟨rfl, rfl⟩)
      go_ret
      exact ⟨rfl, bT hB5 (bT hB56 hB6)⟩

end Go.Proofs.Ythfljdamahmkaaa
