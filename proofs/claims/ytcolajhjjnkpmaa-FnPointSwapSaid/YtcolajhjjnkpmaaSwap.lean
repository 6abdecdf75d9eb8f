/- The program's VisSwap. -/
import Derived.Test.YtcolajhjjnkpmaaVisB
import Derived.Test.YtcolajhjjnkpmaaSwapM
import Derived.Test.YtcolajhjjnkpmaaBases
import Derived.Maps.AppendAt
import Derived.Laws.EntriesVeiled
namespace Go.Proofs.Ytcolajhjjnkpmaa
open Go.RowKit Go.Shelf

attribute [local go_sem] Oper.semAt_some

theorem bases_mem {N : Nat} {x : Nat × Nat} (h : x ∈ Vm.basesL N) : x.1 < x.2 ∧ x.2 < N := by
  simp only [Vm.basesL, List.mem_flatMap, List.mem_range, List.mem_map, List.mem_range'_1] at h
  obtain ⟨i, hi, j, hj, rfl⟩ := h
  simp only; omega
set_option maxHeartbeats 400000 in
theorem swap1_any (i a b : Int) (A B : Nat) (w : World) (hA : w.cell? ⟨A, 0, none⟩ = some (.int .i64 a)) (hB : w.cell? ⟨B, 0, none⟩ = some (.int .i64 b)) :
    Calls Try.prog 39 #[.int .i64 i, .pointer (some ⟨A, 0, none⟩), .pointer (some ⟨B, 0, none⟩)] w fun e w' => e = .returned (.int .i64 (Vm.swp a b i)) ∧ w = w' := by
  by_cases h1 : i = a
  · have H := Lib.hid (show Vm.swp a b i = b by simp [Vm.swp, h1])
    have hd : (i == a) = true := by simp [h1]
    clear h1
    go_enter Try.func39, Try.ntmps39
    go_wp2
    go_ret
    exact ⟨ret_int H.out.symm, rfl⟩
  · have hd : (i == a) = false := by simp [h1]
    by_cases h2 : i = b
    · have H := Lib.hid (show Vm.swp a b i = a by unfold Vm.swp; rw [if_neg h1, if_pos h2])
      have hd2 : (i == b) = true := by simp [h2]
      clear h1 h2
      go_enter Try.func39, Try.ntmps39
      go_wp2
      go_ret
      exact ⟨ret_int H.out.symm, rfl⟩
    · have H := Lib.hid (show Vm.swp a b i = i by unfold Vm.swp; rw [if_neg h1, if_neg h2])
      have hd2 : (i == b) = false := by simp [h2]
      clear h1 h2
      go_enter Try.func39, Try.ntmps39
      go_wp2
      go_ret
      exact ⟨ret_int H.out.symm, rfl⟩

set_option maxRecDepth 100000 in
set_option maxHeartbeats 2000000 in
theorem VisSwap_ok (A : Option Addr) (m c N : Nat) (L : List (Int × Int)) (a b : Int) (w : World) (h : Rd w w.heap.size 2 A m c (cp L)) (hO : Vm.visB N L = true) (ha : 0 ≤ a ∧ a < N) (hb : 0 ≤ b ∧ b < N) :
    Calls Try.prog 15 #[.int .i64 N, .slice A m c, .int .i64 a, .int .i64 b] w fun e w' => ∃ v, e = .returned (.tuple #[v, .bool true]) ∧
      w'.ownsRow w.heap.size 30 2 v (Vm.mk N (Vm.swapF N L a b)).length (cp (Vm.mk N (Vm.swapF N L a b))) ∧ Below w.heap.size w w' := by
  have HO := Lib.hid hO
  have a1 : Vm.antB N a = true := (Vm.antB_iff _ _).2 ha
  have b1 : Vm.antB N b = true := (Vm.antB_iff _ _).2 hb
  clear hO
  refine callsIn_wide.1 (callsIn_of_wp_marks (n := 6) Try.func15 rfl trivial ?_ rfl)
  simp only [Try.ntmps15, List.size_toArray, List.length_cons, List.length_nil, Nat.reduceAdd, Nat.reduceSub, Array.replicate_succ, Array.replicate_zero, List.push_toArray, List.append_toArray, List.nil_append, List.cons_append]
  refine wpIn_wide.2 ?_
  go_wp2_with fail
  refine (VisValid_any _ _ _ N L _ (h.after (bA (bA (bA (bA (b0 w) _) _) _) _))).mono ?_
  rintro e w1 ⟨rfl, hB1⟩
  rw [HO.out]
  obtain ⟨q1, q2⟩ := bcell hB1
  have k0 : w1.cell? ⟨w.heap.size, 0, none⟩ = some (.int .i64 N) := (q1 _ _ (by simp; omega)).trans (by simp [go_sem])
  have k1 : w1.cell? ⟨w.heap.size + 1, 0, none⟩ = some (.slice A m c) := (q1 _ _ (by simp)).trans (by simp [go_sem])
  have k2 : w1.cell? ⟨w.heap.size + 1 + 1, 0, none⟩ = some (.int .i64 a) := (q1 _ _ (by simp)).trans (by simp [go_sem])
  have k3 : w1.cell? ⟨w.heap.size + 1 + 1 + 1, 0, none⟩ = some (.int .i64 b) := (q1 _ _ (by simp)).trans (by simp [go_sem])
  have hsz := hB1.size
  simp at hsz
  have z0 : w.heap.size < w1.heap.size := by omega
  have z1 : w.heap.size + 1 < w1.heap.size := by omega
  have z2 : w.heap.size + 1 + 1 < w1.heap.size := by omega
  have z3 : w.heap.size + 1 + 1 + 1 < w1.heap.size := by omega
  have z0' : w.heap.size < w1.heap.size + 1 := by omega
  clear q1 q2
  go_wp2_with (first
    | (go_at_call 38; refine (isAnt_any _ _ _).mono ?_; rintro e w' ⟨rfl, rfl⟩)
    | (go_at_call 32; refine (bases_any _ _).mono ?_; rintro e w' ⟨rfl, rfl⟩))
  obtain ⟨i0, hi, hz0, hz1, hz2⟩ := info_parts infoV
  have bx0 := boxed_of_below ((((Boxed.new w 3 (.int .i64 N)).alloc (.cells #[.slice A m c] 23)).alloc (.cells #[.int .i64 a] 3)).alloc (.cells #[.int .i64 b] 3)) hB1
  have bx1 := boxed_of_below (((Boxed.new' (w.alloc (.cells #[.int .i64 N] 3)) (w.heap.size + 1) (by simp) 23 (.slice A m c)).alloc (.cells #[.int .i64 a] 3)).alloc (.cells #[.int .i64 b] 3)) hB1
  have bx2 := boxed_of_below ((Boxed.new' ((w.alloc (.cells #[.int .i64 N] 3)).alloc (.cells #[.slice A m c] 23)) (w.heap.size + 1 + 1) (by simp) 3 (.int .i64 a)).alloc (.cells #[.int .i64 b] 3)) hB1
  have bx3 := boxed_of_below (Boxed.new' (((w.alloc (.cells #[.int .i64 N] 3)).alloc (.cells #[.slice A m c] 23)).alloc (.cells #[.int .i64 a] 3)) (w.heap.size + 1 + 1 + 1) (by simp) 3 (.int .i64 b)) hB1
  have bB1 := bT (bA (bA (bA (bA (b0 w) (.cells #[.int .i64 N] 3)) (.cells #[.slice A m c] 23)) (.cells #[.int .i64 a] 3)) (.cells #[.int .i64 b] 3)) hB1
  obtain ⟨W0, hW0⟩ : ∃ W0, ((w1.alloc (.cells #[(.func (.func 39) #[] #[.pointer (some ⟨w.heap.size + 1 + 1, 0, none⟩), .pointer (some ⟨w.heap.size + 1 + 1 + 1, 0, none⟩)])] 54)).alloc (.cells #[.slice none 0 0] 23)).alloc (.cells #[.int .i64 N] 3) = W0 := ⟨_, rfl⟩
  have hs0 : W0.heap.size = w1.heap.size + 3 := by rw [← hW0]; simp
  have bxf : Boxed W0 w1.heap.size 54 (.func (.func 39) #[] #[.pointer (some ⟨w.heap.size + 1 + 1, 0, none⟩), .pointer (some ⟨w.heap.size + 1 + 1 + 1, 0, none⟩)]) := by rw [← hW0]; exact ((Boxed.new w1 _ _).alloc _).alloc _
  have bxo : Boxed W0 (w1.heap.size + 1) 23 (.slice none 0 0) := by rw [← hW0]; exact (Boxed.new' (w1.alloc _) _ (by simp) _ _).alloc _
  have bxn : Boxed W0 (w1.heap.size + 1 + 1) 3 (.int .i64 N) := by rw [← hW0]; exact Boxed.new' ((w1.alloc _).alloc _) _ (by simp) _ _
  have bB0 : Below w.heap.size w W0 := by rw [← hW0]; exact bA (bA (bA bB1 _) _) _
  have by0 : Boxed W0 w.heap.size 3 (.int .i64 N) := by rw [← hW0]; exact ((bx0.alloc _).alloc _).alloc _
  have by1 : Boxed W0 (w.heap.size + 1) 23 (.slice A m c) := by rw [← hW0]; exact ((bx1.alloc _).alloc _).alloc _
  have by2 : Boxed W0 (w.heap.size + 1 + 1) 3 (.int .i64 a) := by rw [← hW0]; exact ((bx2.alloc _).alloc _).alloc _
  have by3 : Boxed W0 (w.heap.size + 1 + 1 + 1) 3 (.int .i64 b) := by rw [← hW0]; exact ((bx3.alloc _).alloc _).alloc _
  rw [hW0]
  have HW0 := Lib.hid hW0
  have HS0 := Lib.hid hs0
  clear hW0 hs0 bx0 bx1 bx2 bx3 bB1 hB1 k0 k1 k2 k3
  refine (wpIn_wide (n := 6)).1 ?_
  refine' range_law (n := 6) (gf := 61) (lb := #[.pointer (some ⟨w1.heap.size + 1 + 1, 0, none⟩)]) (xs := Vm.basesL N) (encs := encB) (Kp := keepC (w1.heap.size + 1 + 1)) rfl (enters_of Try.func61 (by kernel_rfl) rfl)
    (bases_seq 5 N (by have := (Vm.manyB_iff _).1 ((Vm.visB_iff _ _).1 HO.out).1; omega) (by have := (Vm.manyB_iff _).1 ((Vm.visB_iff _ _).1 HO.out).1; omega) (w1.heap.size + 1 + 1) W0 (by rw [HS0.out]; omega) bxn.cell) (Below.refl _ _) keepC_t (keepC_b (by rw [HS0.out]; omega)) (fun _ => rfl)
    (fun pre W => rowI w (w1.heap.size + 1) (fun p => Vm.vget N L (Vm.swp a b p.1) (Vm.swp a b p.2)) pre W ∧ Boxed W w.heap.size 3 (.int .i64 N) ∧ Boxed W (w.heap.size + 1) 23 (.slice A m c) ∧ Boxed W (w.heap.size + 1 + 1) 3 (.int .i64 a) ∧ Boxed W (w.heap.size + 1 + 1 + 1) 3 (.int .i64 b) ∧ Boxed W w1.heap.size 54 (.func (.func 39) #[] #[.pointer (some ⟨w.heap.size + 1 + 1, 0, none⟩), .pointer (some ⟨w.heap.size + 1 + 1 + 1, 0, none⟩)]) ∧ Boxed W (w1.heap.size + 1 + 1) 3 (.int .i64 N) ∧ Below w.heap.size w W)
    (fun _ _ _ => False)
    (OwnFrom.and (rowI_own _ _ _ _) (OwnFrom.and (ownFrom_box _ _ _ _) (OwnFrom.and (ownFrom_box _ _ _ _) (OwnFrom.and (ownFrom_box _ _ _ _) (OwnFrom.and (ownFrom_box _ _ _ _) (OwnFrom.and (ownFrom_box _ _ _ _) (OwnFrom.and (ownFrom_box _ _ _ _) (ownFrom_below (Nat.le_refl _) bB0.size))))))))
    (fun _ _ _ _ _ hs _ _ => hs)
    ⟨⟨_, bxo, World.ownsRow_nil _ _ _ _, trivial⟩, by0, by1, by2, by3, bxf, bxn, bB0⟩
    _ ?assign ?body ?done ?stop
  case assign =>
    intro l x W K hK
    simp only [encB]
    gi_wp2
    exact hK
  case body =>
    rintro l pre x W ⟨⟨v, hv, hrow, _⟩, c0, c1, c2, c3, cf, cn, hB⟩ hpre
    have hc := hv.cell
    have hrd := (h.below hB).more hB.size
    obtain ⟨xm, _, _⟩ : x ∈ Vm.basesL N ∧ True ∧ True := ⟨by obtain ⟨q, hq⟩ := hpre; rw [← hq]; simp, trivial, trivial⟩
    have xb := bases_mem xm
    have x1 : 0 ≤ (x.1 : Int) ∧ (x.1 : Int) < N := by omega
    have x2 : 0 ≤ (x.2 : Int) ∧ (x.2 : Int) < N := by omega
    have x3 : (x.1 : Int) ≠ (x.2 : Int) := by omega
    clear xm
    have bo : w.heap.size ≤ w1.heap.size + 1 := by omega
    have plen : pre.length < 21 := by
      obtain ⟨q, hq⟩ := hpre
      have e := congrArg List.length hq
      have hn := (Vm.manyB_iff _).1 ((Vm.visB_iff _ _).1 HO.out).1
      rw [(Vm.bt_zero_all N (by omega)).2.1] at e
      have := Vm.many_le N (by omega)
      simp at e
      omega
    gi_wp2_with fail
    refine round_held (S := fun W' => W'.cell? ⟨w.heap.size, 0, none⟩ = some (.int .i64 N) ∧ W'.cell? ⟨w.heap.size + 1, 0, none⟩ = some (.slice A m c) ∧ W'.cell? ⟨w1.heap.size, 0, none⟩ = some (.func (.func 39) #[] #[.pointer (some ⟨w.heap.size + 1 + 1, 0, none⟩), .pointer (some ⟨w.heap.size + 1 + 1 + 1, 0, none⟩)])) (by kernel_rfl) (by kernel_rfl) (noOut_block noOut_own) ⟨c0.cell, c1.cell, cf.cell⟩ (fun hS => ?_)
    refine wpAnyH_take (i := 1) (v := .int .i64 N) rfl (by kernel_rfl) (by kernel_rfl) (by kernel_rfl) (fun _ _ _ h => h) (Or.inl ⟨by rfl, fun ww hSw => ?_⟩) hS ?_
    · (try obtain ⟨s0, s1, s2⟩ := hSw); go_simp
    refine wpAnyH_take (i := 2) (v := .slice A m c) rfl (by kernel_rfl) (by kernel_rfl) (by kernel_rfl) (fun _ _ _ h => h) (Or.inl ⟨by rfl, fun ww hSw => ?_⟩) hS ?_
    · (try obtain ⟨s0, s1, s2⟩ := hSw); go_simp
    refine wpAnyH_take (i := 3) (v := .func (.func 39) #[] #[.pointer (some ⟨w.heap.size + 1 + 1, 0, none⟩), .pointer (some ⟨w.heap.size + 1 + 1 + 1, 0, none⟩)]) rfl (by kernel_rfl) (by kernel_rfl) (by kernel_rfl) (fun _ _ _ h => h) (Or.inl ⟨by rfl, fun ww hSw => ?_⟩) hS ?_
    · (try obtain ⟨s0, s1, s2⟩ := hSw); go_simp
    refine wpAnyH_take (i := 4) (v := .int .i64 x.1) rfl (by kernel_rfl) (by kernel_rfl) (by kernel_rfl) (fun _ _ _ h => h) (Or.inl ⟨by rfl, fun ww hSw => ?_⟩) hS ?_
    · (try obtain ⟨s0, s1, s2⟩ := hSw); go_simp
    refine wpAnyH_take (i := 6) (v := .func (.func 39) #[] #[.pointer (some ⟨w.heap.size + 1 + 1, 0, none⟩), .pointer (some ⟨w.heap.size + 1 + 1 + 1, 0, none⟩)]) rfl (by kernel_rfl) (by kernel_rfl) (by kernel_rfl) (fun _ _ _ h => h) (Or.inl ⟨by rfl, fun ww hSw => ?_⟩) hS ?_
    · (try obtain ⟨s0, s1, s2⟩ := hSw); go_simp
    refine wpAnyH_take (i := 7) (v := .int .i64 x.2) rfl (by kernel_rfl) (by kernel_rfl) (by kernel_rfl) (fun _ _ _ h => h) (Or.inl ⟨by rfl, fun ww hSw => ?_⟩) hS ?_
    · (try obtain ⟨s0, s1, s2⟩ := hSw); go_simp
    refine wpAnyH_ready (rs := [0, 5]) (by kernel_rfl) (by simp) ?_
    refine AllReadyH.cons rfl (fun K hK => ?_) (AllReadyH.cons rfl (fun K hK => ?_) AllReadyH.nil)
    · go_simp
      refine hK.out _ _ hS (fun hS => ?_)
      clear hK K
      refine wpAnyH_ready (rs := [5]) (by kernel_rfl) (by simp) ?_
      refine AllReadyH.cons rfl (fun K hK => ?_) AllReadyH.nil
      go_simp
      refine (swap1_any x.1 a b _ _ _ (by exact c2.cell) (by exact c3.cell)).mono ?_
      rintro e w2 ⟨rfl, rfl⟩
      refine hK.out _ _ hS (fun hS => ?_)
      clear hK K
      refine wpAnyH_ready (rs := [8]) (by kernel_rfl) (by simp) ?_
      refine AllReadyH.cons rfl (fun K hK => ?_) AllReadyH.nil
      go_simp
      refine (swap1_any x.2 a b _ _ _ (by exact c2.cell) (by exact c3.cell)).mono ?_
      rintro e w2 ⟨rfl, rfl⟩
      refine hK.out _ _ hS (fun hS => ?_)
      clear hK K
      refine wpAnyH_ready (rs := [9]) (by kernel_rfl) (by simp) ?_
      refine AllReadyH.cons rfl (fun K hK => ?_) AllReadyH.nil
      go_simp
      refine (visGet_any A m c N (Vm.swp a b x.1) (Vm.swp a b x.2) L _ (hrd.after (Below.drew (b0 _))) HO.out (Vm.swp_rng ha hb x1) (Vm.swp_rng ha hb x2) (Vm.swp_inj x3)).mono ?_
      rintro e w2 ⟨rfl, hb2⟩
      have hc2 : w2.cell? ⟨w1.heap.size + 1, 0, none⟩ = some v := (hb2.cell (p := ⟨w1.heap.size + 1, 0, none⟩) (block_lt_of_cell hc)).trans hc
      have hc3 : (w2.alloc (.cells #[.int .i64 (Vm.vget N L (Vm.swp a b x.1) (Vm.swp a b x.2)).1, .int .i64 (Vm.vget N L (Vm.swp a b x.1) (Vm.swp a b x.2)).2] 30)).cell? ⟨w1.heap.size + 1, 0, none⟩ = some v := ((bA hb2 _).cell (p := ⟨w1.heap.size + 1, 0, none⟩) (block_lt_of_cell hc)).trans hc
      unfold gv
      refine hK.out _ _ ⟨(hb2.cell (p := ⟨w.heap.size, 0, none⟩) (block_lt_of_cell c0.cell)).trans c0.cell, (hb2.cell (p := ⟨w.heap.size + 1, 0, none⟩) (block_lt_of_cell c1.cell)).trans c1.cell, (hb2.cell (p := ⟨w1.heap.size, 0, none⟩) (block_lt_of_cell cf.cell)).trans cf.cell⟩ (fun hS => ?_)
      clear hK K
      refine wpAnyH_ready (rs := [10]) (by kernel_rfl) (by simp) ?_
      refine AllReadyH.cons rfl (fun K hK => ?_) AllReadyH.nil
      go_simp
      refine hK.out _ _ ⟨((bA hb2 _).cell (p := ⟨w.heap.size, 0, none⟩) (block_lt_of_cell c0.cell)).trans c0.cell, ((bA hb2 _).cell (p := ⟨w.heap.size + 1, 0, none⟩) (block_lt_of_cell c1.cell)).trans c1.cell, ((bA hb2 _).cell (p := ⟨w1.heap.size, 0, none⟩) (block_lt_of_cell cf.cell)).trans cf.cell⟩ (fun hS => ?_)
      clear hK K
      refine wpAnyH_ready (rs := [11]) (by kernel_rfl) (by simp) ?_
      refine AllReadyH.cons rfl (fun K hK => ?_) AllReadyH.nil
      have hr3 := (own_after hrow.drew hb2).alloc (.cells #[.int .i64 (Vm.vget N L (Vm.swp a b x.1) (Vm.swp a b x.2)).1, .int .i64 (Vm.vget N L (Vm.swp a b x.1) (Vm.swp a b x.2)).2] 30)
      have hsz2 : w.heap.size ≤ w2.heap.size := Nat.le_trans hB.size hb2.size
      refine step_append_lies _ rfl (.tmp 35) (.tmp 45) 23 rfl w.heap.size 30 i0 _ 2 16 Try.underlying23 hi hz0 hz1 hz2 rfl (by decide) v pre.length (cp (pre.map (fun p : Nat × Nat => Vm.vget N L (Vm.swp a b p.1) (Vm.swp a b p.2)))) rfl hr3 ⟨w2.heap.size, 0, none⟩ 1 1 [.int .i64 (Vm.vget N L (Vm.swp a b x.1) (Vm.swp a b x.2)).1, .int .i64 (Vm.vget N L (Vm.swp a b x.1) (Vm.swp a b x.2)).2] rfl rfl (new_cells _ _ _) (by intro u hu; simp at hu; rcases hu with rfl | rfl <;> rfl) (by omega) (by unfold maxLen; omega) (by omega) (by simp; omega) _ rfl ?_
      intro g cap w3 hown3 hgrow3 _ _
      obtain ⟨r1, r2, r3, r4, r5⟩ := row_step (f := (fun p : Nat × Nat => Vm.vget N L (Vm.swp a b p.1) (Vm.swp a b p.2))) (x := x) hv hrow hB bo (bT (Below.drew (b0 W)) hb2) hown3 hgrow3
      have hc4 := r1.cell
      have hf4 := r1.frozen
      refine hK.out _ _ ⟨(r5 _ _ _ c0 (by decide) (by omega)).1.cell, (r5 _ _ _ c1 (by decide) (by omega)).1.cell, (r5 _ _ _ cf (by decide) (by omega)).1.cell⟩ (fun hS => ?_)
      clear hK K
      refine wpAnyH_ready (rs := [12]) (by kernel_rfl) (by simp) ?_
      refine AllReadyH.cons rfl (fun K hK => ?_) AllReadyH.nil
      go_simp
      refine hK.out _ _ ⟨(r5 _ _ _ c0 (by decide) (by omega)).2.cell, (r5 _ _ _ c1 (by decide) (by omega)).2.cell, (r5 _ _ _ cf (by decide) (by omega)).2.cell⟩ (fun hS => ?_)
      clear hK K
      refine ⟨by kernel_rfl, ?_⟩
      exact ⟨r3.from _, (r5 _ _ _ cn (by decide) (by omega)).2.cell.trans cn.cell.symm, r2, (r5 _ _ _ c0 (by decide) (by omega)).2, (r5 _ _ _ c1 (by decide) (by omega)).2, (r5 _ _ _ c2 (by decide) (by omega)).2, (r5 _ _ _ c3 (by decide) (by omega)).2, (r5 _ _ _ cf (by decide) (by omega)).2, (r5 _ _ _ cn (by decide) (by omega)).2, r4⟩
    · go_simp
      refine (swap1_any x.1 a b _ _ _ (by exact c2.cell) (by exact c3.cell)).mono ?_
      rintro e w2 ⟨rfl, rfl⟩
      refine hK.out _ _ hS (fun hS => ?_)
      clear hK K
      refine wpAnyH_ready (rs := [0, 8]) (by kernel_rfl) (by simp) ?_
      refine AllReadyH.cons rfl (fun K hK => ?_) (AllReadyH.cons rfl (fun K hK => ?_) AllReadyH.nil)
      · go_simp
        refine hK.out _ _ hS (fun hS => ?_)
        clear hK K
        refine wpAnyH_ready (rs := [8]) (by kernel_rfl) (by simp) ?_
        refine AllReadyH.cons rfl (fun K hK => ?_) AllReadyH.nil
        go_simp
        refine (swap1_any x.2 a b _ _ _ (by exact c2.cell) (by exact c3.cell)).mono ?_
        rintro e w2 ⟨rfl, rfl⟩
        refine hK.out _ _ hS (fun hS => ?_)
        clear hK K
        refine wpAnyH_ready (rs := [9]) (by kernel_rfl) (by simp) ?_
        refine AllReadyH.cons rfl (fun K hK => ?_) AllReadyH.nil
        go_simp
        refine (visGet_any A m c N (Vm.swp a b x.1) (Vm.swp a b x.2) L _ (hrd.after (Below.drew (b0 _))) HO.out (Vm.swp_rng ha hb x1) (Vm.swp_rng ha hb x2) (Vm.swp_inj x3)).mono ?_
        rintro e w2 ⟨rfl, hb2⟩
        have hc2 : w2.cell? ⟨w1.heap.size + 1, 0, none⟩ = some v := (hb2.cell (p := ⟨w1.heap.size + 1, 0, none⟩) (block_lt_of_cell hc)).trans hc
        have hc3 : (w2.alloc (.cells #[.int .i64 (Vm.vget N L (Vm.swp a b x.1) (Vm.swp a b x.2)).1, .int .i64 (Vm.vget N L (Vm.swp a b x.1) (Vm.swp a b x.2)).2] 30)).cell? ⟨w1.heap.size + 1, 0, none⟩ = some v := ((bA hb2 _).cell (p := ⟨w1.heap.size + 1, 0, none⟩) (block_lt_of_cell hc)).trans hc
        unfold gv
        refine hK.out _ _ ⟨(hb2.cell (p := ⟨w.heap.size, 0, none⟩) (block_lt_of_cell c0.cell)).trans c0.cell, (hb2.cell (p := ⟨w.heap.size + 1, 0, none⟩) (block_lt_of_cell c1.cell)).trans c1.cell, (hb2.cell (p := ⟨w1.heap.size, 0, none⟩) (block_lt_of_cell cf.cell)).trans cf.cell⟩ (fun hS => ?_)
        clear hK K
        refine wpAnyH_ready (rs := [10]) (by kernel_rfl) (by simp) ?_
        refine AllReadyH.cons rfl (fun K hK => ?_) AllReadyH.nil
        go_simp
        refine hK.out _ _ ⟨((bA hb2 _).cell (p := ⟨w.heap.size, 0, none⟩) (block_lt_of_cell c0.cell)).trans c0.cell, ((bA hb2 _).cell (p := ⟨w.heap.size + 1, 0, none⟩) (block_lt_of_cell c1.cell)).trans c1.cell, ((bA hb2 _).cell (p := ⟨w1.heap.size, 0, none⟩) (block_lt_of_cell cf.cell)).trans cf.cell⟩ (fun hS => ?_)
        clear hK K
        refine wpAnyH_ready (rs := [11]) (by kernel_rfl) (by simp) ?_
        refine AllReadyH.cons rfl (fun K hK => ?_) AllReadyH.nil
        have hr3 := (own_after hrow.drew hb2).alloc (.cells #[.int .i64 (Vm.vget N L (Vm.swp a b x.1) (Vm.swp a b x.2)).1, .int .i64 (Vm.vget N L (Vm.swp a b x.1) (Vm.swp a b x.2)).2] 30)
        have hsz2 : w.heap.size ≤ w2.heap.size := Nat.le_trans hB.size hb2.size
        refine step_append_lies _ rfl (.tmp 35) (.tmp 45) 23 rfl w.heap.size 30 i0 _ 2 16 Try.underlying23 hi hz0 hz1 hz2 rfl (by decide) v pre.length (cp (pre.map (fun p : Nat × Nat => Vm.vget N L (Vm.swp a b p.1) (Vm.swp a b p.2)))) rfl hr3 ⟨w2.heap.size, 0, none⟩ 1 1 [.int .i64 (Vm.vget N L (Vm.swp a b x.1) (Vm.swp a b x.2)).1, .int .i64 (Vm.vget N L (Vm.swp a b x.1) (Vm.swp a b x.2)).2] rfl rfl (new_cells _ _ _) (by intro u hu; simp at hu; rcases hu with rfl | rfl <;> rfl) (by omega) (by unfold maxLen; omega) (by omega) (by simp; omega) _ rfl ?_
        intro g cap w3 hown3 hgrow3 _ _
        obtain ⟨r1, r2, r3, r4, r5⟩ := row_step (f := (fun p : Nat × Nat => Vm.vget N L (Vm.swp a b p.1) (Vm.swp a b p.2))) (x := x) hv hrow hB bo (bT (Below.drew (b0 W)) hb2) hown3 hgrow3
        have hc4 := r1.cell
        have hf4 := r1.frozen
        refine hK.out _ _ ⟨(r5 _ _ _ c0 (by decide) (by omega)).1.cell, (r5 _ _ _ c1 (by decide) (by omega)).1.cell, (r5 _ _ _ cf (by decide) (by omega)).1.cell⟩ (fun hS => ?_)
        clear hK K
        refine wpAnyH_ready (rs := [12]) (by kernel_rfl) (by simp) ?_
        refine AllReadyH.cons rfl (fun K hK => ?_) AllReadyH.nil
        go_simp
        refine hK.out _ _ ⟨(r5 _ _ _ c0 (by decide) (by omega)).2.cell, (r5 _ _ _ c1 (by decide) (by omega)).2.cell, (r5 _ _ _ cf (by decide) (by omega)).2.cell⟩ (fun hS => ?_)
        clear hK K
        refine ⟨by kernel_rfl, ?_⟩
        exact ⟨r3.from _, (r5 _ _ _ cn (by decide) (by omega)).2.cell.trans cn.cell.symm, r2, (r5 _ _ _ c0 (by decide) (by omega)).2, (r5 _ _ _ c1 (by decide) (by omega)).2, (r5 _ _ _ c2 (by decide) (by omega)).2, (r5 _ _ _ c3 (by decide) (by omega)).2, (r5 _ _ _ cf (by decide) (by omega)).2, (r5 _ _ _ cn (by decide) (by omega)).2, r4⟩
      · go_simp
        refine (swap1_any x.2 a b _ _ _ (by exact c2.cell) (by exact c3.cell)).mono ?_
        rintro e w2 ⟨rfl, rfl⟩
        refine hK.out _ _ hS (fun hS => ?_)
        clear hK K
        refine wpAnyH_ready (rs := [0, 9]) (by kernel_rfl) (by simp) ?_
        refine AllReadyH.cons rfl (fun K hK => ?_) (AllReadyH.cons rfl (fun K hK => ?_) AllReadyH.nil)
        · go_simp
          refine hK.out _ _ hS (fun hS => ?_)
          clear hK K
          refine wpAnyH_ready (rs := [9]) (by kernel_rfl) (by simp) ?_
          refine AllReadyH.cons rfl (fun K hK => ?_) AllReadyH.nil
          go_simp
          refine (visGet_any A m c N (Vm.swp a b x.1) (Vm.swp a b x.2) L _ (hrd.after (Below.drew (b0 _))) HO.out (Vm.swp_rng ha hb x1) (Vm.swp_rng ha hb x2) (Vm.swp_inj x3)).mono ?_
          rintro e w2 ⟨rfl, hb2⟩
          have hc2 : w2.cell? ⟨w1.heap.size + 1, 0, none⟩ = some v := (hb2.cell (p := ⟨w1.heap.size + 1, 0, none⟩) (block_lt_of_cell hc)).trans hc
          have hc3 : (w2.alloc (.cells #[.int .i64 (Vm.vget N L (Vm.swp a b x.1) (Vm.swp a b x.2)).1, .int .i64 (Vm.vget N L (Vm.swp a b x.1) (Vm.swp a b x.2)).2] 30)).cell? ⟨w1.heap.size + 1, 0, none⟩ = some v := ((bA hb2 _).cell (p := ⟨w1.heap.size + 1, 0, none⟩) (block_lt_of_cell hc)).trans hc
          unfold gv
          refine hK.out _ _ ⟨(hb2.cell (p := ⟨w.heap.size, 0, none⟩) (block_lt_of_cell c0.cell)).trans c0.cell, (hb2.cell (p := ⟨w.heap.size + 1, 0, none⟩) (block_lt_of_cell c1.cell)).trans c1.cell, (hb2.cell (p := ⟨w1.heap.size, 0, none⟩) (block_lt_of_cell cf.cell)).trans cf.cell⟩ (fun hS => ?_)
          clear hK K
          refine wpAnyH_ready (rs := [10]) (by kernel_rfl) (by simp) ?_
          refine AllReadyH.cons rfl (fun K hK => ?_) AllReadyH.nil
          go_simp
          refine hK.out _ _ ⟨((bA hb2 _).cell (p := ⟨w.heap.size, 0, none⟩) (block_lt_of_cell c0.cell)).trans c0.cell, ((bA hb2 _).cell (p := ⟨w.heap.size + 1, 0, none⟩) (block_lt_of_cell c1.cell)).trans c1.cell, ((bA hb2 _).cell (p := ⟨w1.heap.size, 0, none⟩) (block_lt_of_cell cf.cell)).trans cf.cell⟩ (fun hS => ?_)
          clear hK K
          refine wpAnyH_ready (rs := [11]) (by kernel_rfl) (by simp) ?_
          refine AllReadyH.cons rfl (fun K hK => ?_) AllReadyH.nil
          have hr3 := (own_after hrow.drew hb2).alloc (.cells #[.int .i64 (Vm.vget N L (Vm.swp a b x.1) (Vm.swp a b x.2)).1, .int .i64 (Vm.vget N L (Vm.swp a b x.1) (Vm.swp a b x.2)).2] 30)
          have hsz2 : w.heap.size ≤ w2.heap.size := Nat.le_trans hB.size hb2.size
          refine step_append_lies _ rfl (.tmp 35) (.tmp 45) 23 rfl w.heap.size 30 i0 _ 2 16 Try.underlying23 hi hz0 hz1 hz2 rfl (by decide) v pre.length (cp (pre.map (fun p : Nat × Nat => Vm.vget N L (Vm.swp a b p.1) (Vm.swp a b p.2)))) rfl hr3 ⟨w2.heap.size, 0, none⟩ 1 1 [.int .i64 (Vm.vget N L (Vm.swp a b x.1) (Vm.swp a b x.2)).1, .int .i64 (Vm.vget N L (Vm.swp a b x.1) (Vm.swp a b x.2)).2] rfl rfl (new_cells _ _ _) (by intro u hu; simp at hu; rcases hu with rfl | rfl <;> rfl) (by omega) (by unfold maxLen; omega) (by omega) (by simp; omega) _ rfl ?_
          intro g cap w3 hown3 hgrow3 _ _
          obtain ⟨r1, r2, r3, r4, r5⟩ := row_step (f := (fun p : Nat × Nat => Vm.vget N L (Vm.swp a b p.1) (Vm.swp a b p.2))) (x := x) hv hrow hB bo (bT (Below.drew (b0 W)) hb2) hown3 hgrow3
          have hc4 := r1.cell
          have hf4 := r1.frozen
          refine hK.out _ _ ⟨(r5 _ _ _ c0 (by decide) (by omega)).1.cell, (r5 _ _ _ c1 (by decide) (by omega)).1.cell, (r5 _ _ _ cf (by decide) (by omega)).1.cell⟩ (fun hS => ?_)
          clear hK K
          refine wpAnyH_ready (rs := [12]) (by kernel_rfl) (by simp) ?_
          refine AllReadyH.cons rfl (fun K hK => ?_) AllReadyH.nil
          go_simp
          refine hK.out _ _ ⟨(r5 _ _ _ c0 (by decide) (by omega)).2.cell, (r5 _ _ _ c1 (by decide) (by omega)).2.cell, (r5 _ _ _ cf (by decide) (by omega)).2.cell⟩ (fun hS => ?_)
          clear hK K
          refine ⟨by kernel_rfl, ?_⟩
          exact ⟨r3.from _, (r5 _ _ _ cn (by decide) (by omega)).2.cell.trans cn.cell.symm, r2, (r5 _ _ _ c0 (by decide) (by omega)).2, (r5 _ _ _ c1 (by decide) (by omega)).2, (r5 _ _ _ c2 (by decide) (by omega)).2, (r5 _ _ _ c3 (by decide) (by omega)).2, (r5 _ _ _ cf (by decide) (by omega)).2, (r5 _ _ _ cn (by decide) (by omega)).2, r4⟩
        · go_simp
          refine (visGet_any A m c N (Vm.swp a b x.1) (Vm.swp a b x.2) L _ (hrd.after (Below.drew (b0 _))) HO.out (Vm.swp_rng ha hb x1) (Vm.swp_rng ha hb x2) (Vm.swp_inj x3)).mono ?_
          rintro e w2 ⟨rfl, hb2⟩
          have hc2 : w2.cell? ⟨w1.heap.size + 1, 0, none⟩ = some v := (hb2.cell (p := ⟨w1.heap.size + 1, 0, none⟩) (block_lt_of_cell hc)).trans hc
          have hc3 : (w2.alloc (.cells #[.int .i64 (Vm.vget N L (Vm.swp a b x.1) (Vm.swp a b x.2)).1, .int .i64 (Vm.vget N L (Vm.swp a b x.1) (Vm.swp a b x.2)).2] 30)).cell? ⟨w1.heap.size + 1, 0, none⟩ = some v := ((bA hb2 _).cell (p := ⟨w1.heap.size + 1, 0, none⟩) (block_lt_of_cell hc)).trans hc
          unfold gv
          refine hK.out _ _ ⟨(hb2.cell (p := ⟨w.heap.size, 0, none⟩) (block_lt_of_cell c0.cell)).trans c0.cell, (hb2.cell (p := ⟨w.heap.size + 1, 0, none⟩) (block_lt_of_cell c1.cell)).trans c1.cell, (hb2.cell (p := ⟨w1.heap.size, 0, none⟩) (block_lt_of_cell cf.cell)).trans cf.cell⟩ (fun hS => ?_)
          clear hK K
          refine wpAnyH_ready (rs := [0, 10]) (by kernel_rfl) (by simp) ?_
          refine AllReadyH.cons rfl (fun K hK => ?_) (AllReadyH.cons rfl (fun K hK => ?_) AllReadyH.nil)
          · go_simp
            refine hK.out _ _ hS (fun hS => ?_)
            clear hK K
            refine wpAnyH_ready (rs := [10]) (by kernel_rfl) (by simp) ?_
            refine AllReadyH.cons rfl (fun K hK => ?_) AllReadyH.nil
            go_simp
            refine hK.out _ _ ⟨((bA hb2 _).cell (p := ⟨w.heap.size, 0, none⟩) (block_lt_of_cell c0.cell)).trans c0.cell, ((bA hb2 _).cell (p := ⟨w.heap.size + 1, 0, none⟩) (block_lt_of_cell c1.cell)).trans c1.cell, ((bA hb2 _).cell (p := ⟨w1.heap.size, 0, none⟩) (block_lt_of_cell cf.cell)).trans cf.cell⟩ (fun hS => ?_)
            clear hK K
            refine wpAnyH_ready (rs := [11]) (by kernel_rfl) (by simp) ?_
            refine AllReadyH.cons rfl (fun K hK => ?_) AllReadyH.nil
            have hr3 := (own_after hrow.drew hb2).alloc (.cells #[.int .i64 (Vm.vget N L (Vm.swp a b x.1) (Vm.swp a b x.2)).1, .int .i64 (Vm.vget N L (Vm.swp a b x.1) (Vm.swp a b x.2)).2] 30)
            have hsz2 : w.heap.size ≤ w2.heap.size := Nat.le_trans hB.size hb2.size
            refine step_append_lies _ rfl (.tmp 35) (.tmp 45) 23 rfl w.heap.size 30 i0 _ 2 16 Try.underlying23 hi hz0 hz1 hz2 rfl (by decide) v pre.length (cp (pre.map (fun p : Nat × Nat => Vm.vget N L (Vm.swp a b p.1) (Vm.swp a b p.2)))) rfl hr3 ⟨w2.heap.size, 0, none⟩ 1 1 [.int .i64 (Vm.vget N L (Vm.swp a b x.1) (Vm.swp a b x.2)).1, .int .i64 (Vm.vget N L (Vm.swp a b x.1) (Vm.swp a b x.2)).2] rfl rfl (new_cells _ _ _) (by intro u hu; simp at hu; rcases hu with rfl | rfl <;> rfl) (by omega) (by unfold maxLen; omega) (by omega) (by simp; omega) _ rfl ?_
            intro g cap w3 hown3 hgrow3 _ _
            obtain ⟨r1, r2, r3, r4, r5⟩ := row_step (f := (fun p : Nat × Nat => Vm.vget N L (Vm.swp a b p.1) (Vm.swp a b p.2))) (x := x) hv hrow hB bo (bT (Below.drew (b0 W)) hb2) hown3 hgrow3
            have hc4 := r1.cell
            have hf4 := r1.frozen
            refine hK.out _ _ ⟨(r5 _ _ _ c0 (by decide) (by omega)).1.cell, (r5 _ _ _ c1 (by decide) (by omega)).1.cell, (r5 _ _ _ cf (by decide) (by omega)).1.cell⟩ (fun hS => ?_)
            clear hK K
            refine wpAnyH_ready (rs := [12]) (by kernel_rfl) (by simp) ?_
            refine AllReadyH.cons rfl (fun K hK => ?_) AllReadyH.nil
            go_simp
            refine hK.out _ _ ⟨(r5 _ _ _ c0 (by decide) (by omega)).2.cell, (r5 _ _ _ c1 (by decide) (by omega)).2.cell, (r5 _ _ _ cf (by decide) (by omega)).2.cell⟩ (fun hS => ?_)
            clear hK K
            refine ⟨by kernel_rfl, ?_⟩
            exact ⟨r3.from _, (r5 _ _ _ cn (by decide) (by omega)).2.cell.trans cn.cell.symm, r2, (r5 _ _ _ c0 (by decide) (by omega)).2, (r5 _ _ _ c1 (by decide) (by omega)).2, (r5 _ _ _ c2 (by decide) (by omega)).2, (r5 _ _ _ c3 (by decide) (by omega)).2, (r5 _ _ _ cf (by decide) (by omega)).2, (r5 _ _ _ cn (by decide) (by omega)).2, r4⟩
          · go_simp
            refine hK.out _ _ ⟨((bA hb2 _).cell (p := ⟨w.heap.size, 0, none⟩) (block_lt_of_cell c0.cell)).trans c0.cell, ((bA hb2 _).cell (p := ⟨w.heap.size + 1, 0, none⟩) (block_lt_of_cell c1.cell)).trans c1.cell, ((bA hb2 _).cell (p := ⟨w1.heap.size, 0, none⟩) (block_lt_of_cell cf.cell)).trans cf.cell⟩ (fun hS => ?_)
            clear hK K
            refine wpAnyH_ready (rs := [0]) (by kernel_rfl) (by simp) ?_
            refine AllReadyH.cons rfl (fun K hK => ?_) AllReadyH.nil
            go_simp
            refine hK.out _ _ hS (fun hS => ?_)
            clear hK K
            refine wpAnyH_ready (rs := [11]) (by kernel_rfl) (by simp) ?_
            refine AllReadyH.cons rfl (fun K hK => ?_) AllReadyH.nil
            have hr3 := (own_after hrow.drew hb2).alloc (.cells #[.int .i64 (Vm.vget N L (Vm.swp a b x.1) (Vm.swp a b x.2)).1, .int .i64 (Vm.vget N L (Vm.swp a b x.1) (Vm.swp a b x.2)).2] 30)
            have hsz2 : w.heap.size ≤ w2.heap.size := Nat.le_trans hB.size hb2.size
            refine step_append_lies _ rfl (.tmp 35) (.tmp 45) 23 rfl w.heap.size 30 i0 _ 2 16 Try.underlying23 hi hz0 hz1 hz2 rfl (by decide) v pre.length (cp (pre.map (fun p : Nat × Nat => Vm.vget N L (Vm.swp a b p.1) (Vm.swp a b p.2)))) rfl hr3 ⟨w2.heap.size, 0, none⟩ 1 1 [.int .i64 (Vm.vget N L (Vm.swp a b x.1) (Vm.swp a b x.2)).1, .int .i64 (Vm.vget N L (Vm.swp a b x.1) (Vm.swp a b x.2)).2] rfl rfl (new_cells _ _ _) (by intro u hu; simp at hu; rcases hu with rfl | rfl <;> rfl) (by omega) (by unfold maxLen; omega) (by omega) (by simp; omega) _ rfl ?_
            intro g cap w3 hown3 hgrow3 _ _
            obtain ⟨r1, r2, r3, r4, r5⟩ := row_step (f := (fun p : Nat × Nat => Vm.vget N L (Vm.swp a b p.1) (Vm.swp a b p.2))) (x := x) hv hrow hB bo (bT (Below.drew (b0 W)) hb2) hown3 hgrow3
            have hc4 := r1.cell
            have hf4 := r1.frozen
            refine hK.out _ _ ⟨(r5 _ _ _ c0 (by decide) (by omega)).1.cell, (r5 _ _ _ c1 (by decide) (by omega)).1.cell, (r5 _ _ _ cf (by decide) (by omega)).1.cell⟩ (fun hS => ?_)
            clear hK K
            refine wpAnyH_ready (rs := [12]) (by kernel_rfl) (by simp) ?_
            refine AllReadyH.cons rfl (fun K hK => ?_) AllReadyH.nil
            go_simp
            refine hK.out _ _ ⟨(r5 _ _ _ c0 (by decide) (by omega)).2.cell, (r5 _ _ _ c1 (by decide) (by omega)).2.cell, (r5 _ _ _ cf (by decide) (by omega)).2.cell⟩ (fun hS => ?_)
            clear hK K
            refine ⟨by kernel_rfl, ?_⟩
            exact ⟨r3.from _, (r5 _ _ _ cn (by decide) (by omega)).2.cell.trans cn.cell.symm, r2, (r5 _ _ _ c0 (by decide) (by omega)).2, (r5 _ _ _ c1 (by decide) (by omega)).2, (r5 _ _ _ c2 (by decide) (by omega)).2, (r5 _ _ _ c3 (by decide) (by omega)).2, (r5 _ _ _ cf (by decide) (by omega)).2, (r5 _ _ _ cn (by decide) (by omega)).2, r4⟩
  case done =>
    rintro D W hD ⟨⟨v, hv, hrow, _⟩, c0, c1, c2, c3, cf, cn, hB⟩ hK
    have hc := hv.cell
    go_wp2_with fail
    refine ⟨by simp, .inl ⟨_, _, rfl, run_takeDeferred hK, ?_⟩⟩
    refine ⟨.tuple #[v, .bool true], by simp [results, Try.results15, go_sem], v, rfl, ?_, ?_⟩
    · rw [Vm.mk, List.length_map]
      exact ownsRow_putObj hrow _ hK rfl
    · exact hB.trans (belowK_b (w := w) (Nat.le_refl _) W D _ _ (Nat.le_trans bB0.size hD) hK rfl rfl)
  case stop =>
    rintro D c pre W _ _ h _
    exact h.elim

end Go.Proofs.Ytcolajhjjnkpmaa
