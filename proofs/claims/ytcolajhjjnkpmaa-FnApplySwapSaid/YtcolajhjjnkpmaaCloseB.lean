/- The program's CloseBase. Written by cbgen.py. -/
import Derived.Test.YtcolajhjjnkpmaaVisB
import Derived.Test.YtcolajhjjnkpmaaBaseM2
import Derived.Test.YtcolajhjjnkpmaaIntRow
import Derived.Maps.AppendAt
import Derived.Laws.EntriesVeiled
namespace Go.Proofs.Ytcolajhjjnkpmaa
open Go.RowKit Go.Shelf

attribute [local go_sem] Oper.semAt_some

/-- The closure phases with the first antenna of some baselines. -/
def cbG (N : Nat) (L : List (Int × Int)) (pre : List (Nat × Nat)) : List Int := (pre.filter fun p => decide (0 < p.1)).map fun p => Vm.loopP N L [0, (p.1 : Int), (p.2 : Int)]
theorem cbG_skip {N : Nat} {L : List (Int × Int)} {pre : List (Nat × Nat)} {x : Nat × Nat} (h : x.1 = 0) : cbG N L (pre ++ [x]) = cbG N L pre := by
  simp [cbG, List.filter_append, h]
theorem cbG_next {N : Nat} {L : List (Int × Int)} {pre : List (Nat × Nat)} {x : Nat × Nat} (h : 0 < x.1) : cbG N L (pre ++ [x]) = cbG N L pre ++ [Vm.loopP N L [0, (x.1 : Int), (x.2 : Int)]] := by
  simp [cbG, List.filter_append, h]
theorem cbG_all {N : Nat} (h3 : 3 ≤ N) (h7 : N ≤ 7) (L : List (Int × Int)) : cbG N L (Vm.basesL N) = Vm.cbL N L := by
  rw [cbG, Vm.bases_filter N h3 h7]; rfl
theorem cbG_len (N : Nat) (L : List (Int × Int)) (pre : List (Nat × Nat)) : (cbG N L pre).length ≤ pre.length := by
  rw [cbG, List.length_map]; exact List.length_filter_le _ _
theorem infoI : (Try.prog.info? 3).map (fun i => (i.zero, i.size, i.bytes)) = some (some (.int .i64 0), 1, 8) := by kernel_rfl
set_option maxRecDepth 100000 in
set_option maxHeartbeats 4000000 in
theorem CloseBase_ok (A : Option Addr) (m c N : Nat) (L : List (Int × Int)) (w : World) (h : Rd w w.heap.size 2 A m c (cp L)) (hO : Vm.visB N L = true) (h3 : 3 ≤ N) :
    Calls Try.prog 16 #[.int .i64 N, .slice A m c] w fun e w' => ∃ v, e = .returned (.tuple #[v, .bool true]) ∧
      w'.ownsRow w.heap.size 3 1 v (Vm.cbL N L).length (ci (Vm.cbL N L)) ∧ Below w.heap.size w w' := by
  have HV := Lib.hid hO
  have h7 : N ≤ 7 := by have := (Vm.manyB_iff _).1 ((Vm.visB_iff _ _).1 hO).1; omega
  obtain ⟨N', e, hOk⟩ := Vm.Ok.of hO
  obtain rfl : N = N' := by omega
  have HO := Lib.hid hOk
  clear hO hOk e
  refine callsIn_wide.1 (callsIn_of_wp_marks (n := 6) Try.func16 rfl trivial ?_ rfl)
  simp only [Try.ntmps16, List.size_toArray, List.length_cons, List.length_nil, Nat.reduceAdd, Nat.reduceSub, Array.replicate_succ, Array.replicate_zero, List.push_toArray, List.append_toArray, List.nil_append, List.cons_append]
  refine wpIn_wide.2 ?_
  go_wp2_with fail
  refine (VisValid_any _ _ _ N L _ (h.after (bA (bA (b0 w) _) _))).mono ?_
  rintro e w1 ⟨rfl, hB1⟩
  rw [HV.out]
  obtain ⟨q1, q2⟩ := bcell hB1
  have k0 : w1.cell? ⟨w.heap.size, 0, none⟩ = some (.int .i64 N) := (q1 _ _ (by simp; omega)).trans (by simp [go_sem])
  have k1 : w1.cell? ⟨w.heap.size + 1, 0, none⟩ = some (.slice A m c) := (q1 _ _ (by simp)).trans (by simp [go_sem])
  have hsz := hB1.size
  simp at hsz
  have z0 : w.heap.size < w1.heap.size := by omega
  have z1 : w.heap.size + 1 < w1.heap.size := by omega
  clear q1 q2
  go_wp2_with (go_at_call 32; refine (bases_any _ _).mono ?_; rintro e w' ⟨rfl, rfl⟩)
  obtain ⟨i0, hi, hz0, hz1, hz2⟩ := info_parts infoI
  have bx0 := boxed_of_below ((Boxed.new w 3 (.int .i64 N)).alloc (.cells #[.slice A m c] 23)) hB1
  have bx1 := boxed_of_below (Boxed.new' (w.alloc (.cells #[.int .i64 N] 3)) (w.heap.size + 1) (by simp) 23 (.slice A m c)) hB1
  have bB1 := bT (bA (bA (b0 w) (.cells #[.int .i64 N] 3)) (.cells #[.slice A m c] 23)) hB1
  obtain ⟨W0, hW0⟩ : ∃ W0, (w1.alloc (.cells #[.slice none 0 0] 33)).alloc (.cells #[.int .i64 N] 3) = W0 := ⟨_, rfl⟩
  have hs0 : W0.heap.size = w1.heap.size + 2 := by rw [← hW0]; simp
  have bxo : Boxed W0 w1.heap.size 33 (.slice none 0 0) := by rw [← hW0]; exact (Boxed.new w1 _ _).alloc _
  have bxn : Boxed W0 (w1.heap.size + 1) 3 (.int .i64 N) := by rw [← hW0]; exact Boxed.new' (w1.alloc _) _ (by simp) _ _
  have bB0 : Below w.heap.size w W0 := by rw [← hW0]; exact bA (bA bB1 _) _
  have by0 : Boxed W0 w.heap.size 3 (.int .i64 N) := by rw [← hW0]; exact (bx0.alloc _).alloc _
  have by1 : Boxed W0 (w.heap.size + 1) 23 (.slice A m c) := by rw [← hW0]; exact (bx1.alloc _).alloc _
  rw [hW0]
  have HW0 := Lib.hid hW0
  have HS0 := Lib.hid hs0
  clear hW0 hs0 bx0 bx1 bB1 hB1 k0 k1
  refine (wpIn_wide (n := 6)).1 ?_
  refine' range_law (n := 6) (gf := 61) (lb := #[.pointer (some ⟨w1.heap.size + 1, 0, none⟩)]) (xs := Vm.basesL N) (encs := encB) (Kp := keepC (w1.heap.size + 1)) rfl (enters_of Try.func61 (by kernel_rfl) rfl)
    (bases_seq 5 N (by omega) h7 (w1.heap.size + 1) W0 (by rw [HS0.out]; omega) bxn.cell) (Below.refl _ _) keepC_t (keepC_b (by rw [HS0.out]; omega)) (fun _ => rfl)
    (fun pre W => rowJ (w1.heap.size + 2) w1.heap.size (cbG N L) pre W ∧ Boxed W w.heap.size 3 (.int .i64 N) ∧ Boxed W (w.heap.size + 1) 23 (.slice A m c) ∧ Boxed W (w1.heap.size + 1) 3 (.int .i64 N) ∧ Below w.heap.size w W)
    (fun _ _ _ => False)
    (OwnFrom.and (rowJ_own _ _ _ _) (OwnFrom.and (ownFrom_box _ _ _ _) (OwnFrom.and (ownFrom_box _ _ _ _) (OwnFrom.and (ownFrom_box _ _ _ _) (ownFrom_below (Nat.le_refl _) bB0.size)))))
    (fun _ _ _ _ _ hs _ _ => hs)
    ⟨⟨_, bxo, World.ownsRow_nil _ _ _ _, trivial⟩, by0, by1, bxn, bB0⟩
    _ ?assign ?body ?done ?stop
  case assign =>
    intro l x W K hK
    simp only [encB]
    gi_wp2
    exact hK
  case body =>
    rintro l pre x W ⟨⟨v, hv, hrow, _⟩, c0, c1, cn, hB⟩ hpre
    have hrd := (h.below hB).more hB.size
    obtain ⟨pl, x12, x2N, plen, pq⟩ := prefix_at h7 hpre
    have PL := Lib.hid pl
    clear pq pl
    have hglen := cbG_len N L pre
    have hmax := Vm.many_le N (by omega)
    have zW := cn.lt
    obtain ⟨Av, cv, rfl⟩ := own_form hrow
    by_cases hx0 : 0 < x.1
    · have hc := hv.cell
      have dv : Boxed W.drew w1.heap.size 33 (.slice Av (cbG N L pre).length cv) := hv
      have d0 : Boxed W.drew w.heap.size 3 (.int .i64 N) := c0
      have d1 : Boxed W.drew (w.heap.size + 1) 23 (.slice A m c) := c1
      have hl := Vm.loop0 HO.out hx0 x12 x2N
      have HA := Lib.hid ((Vm.loopB_iff _ _ _).1 hl).2.2
      have HG := Lib.hid (cbG_next (N := N) (L := L) (pre := pre) hx0)
      have HLS := Lib.hid (Vm.loopP_eq hl).symm
      obtain ⟨y, hy⟩ : ∃ y, Vm.loopP N L [0, (x.1 : Int), (x.2 : Int)] = y := ⟨_, rfl⟩
      rw [hy] at HG HLS
      clear hl hy
      gi_wp2_with fail
      refine round_held (S := fun W' => W'.cell? ⟨w.heap.size, 0, none⟩ = some (.int .i64 N) ∧ W'.cell? ⟨w.heap.size + 1, 0, none⟩ = some (.slice A m c)) (by kernel_rfl) (by kernel_rfl) (noOut_block noOut_own) ⟨c0.cell, c1.cell⟩ (fun hS => ?_)
      refine wpAnyH_take (i := 1) (v := .int .i64 N) rfl (by kernel_rfl) (by kernel_rfl) (by kernel_rfl) (fun _ _ _ h => h) (Or.inl ⟨by rfl, fun ww hSw => ?_⟩) hS ?_
      · (try obtain ⟨s0, s1, s2⟩ := hSw); go_simp
      refine wpAnyH_take (i := 2) (v := .slice A m c) rfl (by kernel_rfl) (by kernel_rfl) (by kernel_rfl) (fun _ _ _ h => h) (Or.inl ⟨by rfl, fun ww hSw => ?_⟩) hS ?_
      · (try obtain ⟨s0, s1, s2⟩ := hSw); go_simp
      refine wpAnyH_take (i := 3) (v := .int .i64 x.1) rfl (by kernel_rfl) (by kernel_rfl) (by kernel_rfl) (fun _ _ _ h => h) (Or.inl ⟨by rfl, fun ww hSw => ?_⟩) hS ?_
      · (try obtain ⟨s0, s1, s2⟩ := hSw); go_simp
      refine wpAnyH_take (i := 4) (v := .int .i64 x.2) rfl (by kernel_rfl) (by kernel_rfl) (by kernel_rfl) (fun _ _ _ h => h) (Or.inl ⟨by rfl, fun ww hSw => ?_⟩) hS ?_
      · (try obtain ⟨s0, s1, s2⟩ := hSw); go_simp
      refine wpAnyH_ready (rs := [0, 5]) (by kernel_rfl) (by simp) ?_
      refine AllReadyH.cons rfl (fun K hK => ?_) (AllReadyH.cons rfl (fun K hK => ?_) AllReadyH.nil)
      · go_simp
        refine hK.out _ _ hS (fun hS => ?_)
        clear hK K
        refine wpAnyH_ready (rs := [5]) (by kernel_rfl) (by simp) ?_
        refine AllReadyH.cons rfl (fun K hK => ?_) AllReadyH.nil
        go_simp
        have hca := (hv.alloc (.cells #[.int .i64 0, .int .i64 x.1, .int .i64 x.2] 3)).cell
        refine hK.out _ _ ⟨(d0.alloc _).cell, (d1.alloc _).cell⟩ (fun hS => ?_)
        clear hK K
        refine wpAnyH_ready (rs := [6]) (by kernel_rfl) (by simp) ?_
        refine AllReadyH.cons rfl (fun K hK => ?_) AllReadyH.nil
        go_simp
        refine (loopPhase_any A (some ⟨W.heap.size, 0, none⟩) m c 3 3 N L [0, (x.1 : Int), (x.2 : Int)] _ (hrd.after (bA (Below.drew (b0 W)) _)) ((rd3 W.drew 0 x.1 x.2 3).more (by simp)) HV.out (by simp) (by simp) HA.out).mono ?_
        rintro e w2 ⟨rfl, hb2⟩
        rw [HLS.out]
        have hc2 := (boxed_of_below (dv.alloc (.cells #[.int .i64 0, .int .i64 x.1, .int .i64 x.2] 3)) hb2).cell
        have hc3 := ((boxed_of_below (dv.alloc (.cells #[.int .i64 0, .int .i64 x.1, .int .i64 x.2] 3)) hb2).alloc (.cells #[.int .i64 y] 3)).cell
        have hsz2 := hb2.size
        simp at hsz2
        refine hK.out _ _ ⟨(boxed_of_below (d0.alloc _) hb2).cell, (boxed_of_below (d1.alloc _) hb2).cell⟩ (fun hS => ?_)
        clear hK K
        refine wpAnyH_ready (rs := [7]) (by kernel_rfl) (by simp) ?_
        refine AllReadyH.cons rfl (fun K hK => ?_) AllReadyH.nil
        go_simp
        refine hK.out _ _ ⟨((boxed_of_below (d0.alloc _) hb2).alloc _).cell, ((boxed_of_below (d1.alloc _) hb2).alloc _).cell⟩ (fun hS => ?_)
        clear hK K
        refine wpAnyH_ready (rs := [8]) (by kernel_rfl) (by simp) ?_
        refine AllReadyH.cons rfl (fun K hK => ?_) AllReadyH.nil
        have hB2 := bT (bA (Below.drew (b0 W)) (.cells #[.int .i64 0, .int .i64 x.1, .int .i64 x.2] 3)) hb2
        have hr3 := (own_after hrow hB2).alloc (.cells #[.int .i64 y] 3)
        refine step_append_lies _ rfl (.tmp 23) (.tmp 30) 33 rfl (w1.heap.size + 2) 3 i0 _ 1 8 Try.underlying33 hi hz0 hz1 hz2 rfl (by decide) (.slice Av (cbG N L pre).length cv) (cbG N L pre).length (ci (cbG N L pre)) rfl hr3 ⟨w2.heap.size, 0, none⟩ 1 1 [.int .i64 y] rfl rfl (new_cells _ _ _) (by intro u hu; simp at hu; subst hu; rfl) (by omega) (by unfold maxLen; omega) (by omega) (by simp; omega) _ rfl ?_
        intro g cap w3 hown3 hgrow3 _ _
        obtain ⟨r1, r2a, r2b, r3, r4, r5⟩ := row_stepJ (w := w) hv hrow hB (by omega) (by omega) hB2 hown3 hgrow3
        have hc4 := r1.cell
        have hf4 := r1.frozen
        refine hK.out _ _ ⟨(r5 _ _ _ c0 (by omega) (by omega)).1.cell, (r5 _ _ _ c1 (by omega) (by omega)).1.cell⟩ (fun hS => ?_)
        clear hK K
        refine wpAnyH_ready (rs := [9]) (by kernel_rfl) (by simp) ?_
        refine AllReadyH.cons rfl (fun K hK => ?_) AllReadyH.nil
        go_simp
        refine hK.out _ _ ⟨(r5 _ _ _ c0 (by omega) (by omega)).2.cell, (r5 _ _ _ c1 (by omega) (by omega)).2.cell⟩ (fun hS => ?_)
        clear hK K
        refine ⟨by kernel_rfl, ?_⟩
        exact ⟨r3.from _, (r5 _ _ _ cn (by omega) (by omega)).2.cell.trans cn.cell.symm, rowJ_next HG.out r2a r2b, (r5 _ _ _ c0 (by omega) (by omega)).2, (r5 _ _ _ c1 (by omega) (by omega)).2, (r5 _ _ _ cn (by omega) (by omega)).2, r4⟩
      · go_simp
        have hca := (hv.alloc (.cells #[.int .i64 0, .int .i64 x.1, .int .i64 x.2] 3)).cell
        refine hK.out _ _ ⟨(d0.alloc _).cell, (d1.alloc _).cell⟩ (fun hS => ?_)
        clear hK K
        refine wpAnyH_ready (rs := [0, 6]) (by kernel_rfl) (by simp) ?_
        refine AllReadyH.cons rfl (fun K hK => ?_) (AllReadyH.cons rfl (fun K hK => ?_) AllReadyH.nil)
        · go_simp
          refine hK.out _ _ hS (fun hS => ?_)
          clear hK K
          refine wpAnyH_ready (rs := [6]) (by kernel_rfl) (by simp) ?_
          refine AllReadyH.cons rfl (fun K hK => ?_) AllReadyH.nil
          go_simp
          refine (loopPhase_any A (some ⟨W.heap.size, 0, none⟩) m c 3 3 N L [0, (x.1 : Int), (x.2 : Int)] _ (hrd.after (bA (Below.drew (b0 W)) _)) ((rd3 W.drew 0 x.1 x.2 3).more (by simp)) HV.out (by simp) (by simp) HA.out).mono ?_
          rintro e w2 ⟨rfl, hb2⟩
          rw [HLS.out]
          have hc2 := (boxed_of_below (dv.alloc (.cells #[.int .i64 0, .int .i64 x.1, .int .i64 x.2] 3)) hb2).cell
          have hc3 := ((boxed_of_below (dv.alloc (.cells #[.int .i64 0, .int .i64 x.1, .int .i64 x.2] 3)) hb2).alloc (.cells #[.int .i64 y] 3)).cell
          have hsz2 := hb2.size
          simp at hsz2
          refine hK.out _ _ ⟨(boxed_of_below (d0.alloc _) hb2).cell, (boxed_of_below (d1.alloc _) hb2).cell⟩ (fun hS => ?_)
          clear hK K
          refine wpAnyH_ready (rs := [7]) (by kernel_rfl) (by simp) ?_
          refine AllReadyH.cons rfl (fun K hK => ?_) AllReadyH.nil
          go_simp
          refine hK.out _ _ ⟨((boxed_of_below (d0.alloc _) hb2).alloc _).cell, ((boxed_of_below (d1.alloc _) hb2).alloc _).cell⟩ (fun hS => ?_)
          clear hK K
          refine wpAnyH_ready (rs := [8]) (by kernel_rfl) (by simp) ?_
          refine AllReadyH.cons rfl (fun K hK => ?_) AllReadyH.nil
          have hB2 := bT (bA (Below.drew (b0 W)) (.cells #[.int .i64 0, .int .i64 x.1, .int .i64 x.2] 3)) hb2
          have hr3 := (own_after hrow hB2).alloc (.cells #[.int .i64 y] 3)
          refine step_append_lies _ rfl (.tmp 23) (.tmp 30) 33 rfl (w1.heap.size + 2) 3 i0 _ 1 8 Try.underlying33 hi hz0 hz1 hz2 rfl (by decide) (.slice Av (cbG N L pre).length cv) (cbG N L pre).length (ci (cbG N L pre)) rfl hr3 ⟨w2.heap.size, 0, none⟩ 1 1 [.int .i64 y] rfl rfl (new_cells _ _ _) (by intro u hu; simp at hu; subst hu; rfl) (by omega) (by unfold maxLen; omega) (by omega) (by simp; omega) _ rfl ?_
          intro g cap w3 hown3 hgrow3 _ _
          obtain ⟨r1, r2a, r2b, r3, r4, r5⟩ := row_stepJ (w := w) hv hrow hB (by omega) (by omega) hB2 hown3 hgrow3
          have hc4 := r1.cell
          have hf4 := r1.frozen
          refine hK.out _ _ ⟨(r5 _ _ _ c0 (by omega) (by omega)).1.cell, (r5 _ _ _ c1 (by omega) (by omega)).1.cell⟩ (fun hS => ?_)
          clear hK K
          refine wpAnyH_ready (rs := [9]) (by kernel_rfl) (by simp) ?_
          refine AllReadyH.cons rfl (fun K hK => ?_) AllReadyH.nil
          go_simp
          refine hK.out _ _ ⟨(r5 _ _ _ c0 (by omega) (by omega)).2.cell, (r5 _ _ _ c1 (by omega) (by omega)).2.cell⟩ (fun hS => ?_)
          clear hK K
          refine ⟨by kernel_rfl, ?_⟩
          exact ⟨r3.from _, (r5 _ _ _ cn (by omega) (by omega)).2.cell.trans cn.cell.symm, rowJ_next HG.out r2a r2b, (r5 _ _ _ c0 (by omega) (by omega)).2, (r5 _ _ _ c1 (by omega) (by omega)).2, (r5 _ _ _ cn (by omega) (by omega)).2, r4⟩
        · go_simp
          refine (loopPhase_any A (some ⟨W.heap.size, 0, none⟩) m c 3 3 N L [0, (x.1 : Int), (x.2 : Int)] _ (hrd.after (bA (Below.drew (b0 W)) _)) ((rd3 W.drew 0 x.1 x.2 3).more (by simp)) HV.out (by simp) (by simp) HA.out).mono ?_
          rintro e w2 ⟨rfl, hb2⟩
          rw [HLS.out]
          have hc2 := (boxed_of_below (dv.alloc (.cells #[.int .i64 0, .int .i64 x.1, .int .i64 x.2] 3)) hb2).cell
          have hc3 := ((boxed_of_below (dv.alloc (.cells #[.int .i64 0, .int .i64 x.1, .int .i64 x.2] 3)) hb2).alloc (.cells #[.int .i64 y] 3)).cell
          have hsz2 := hb2.size
          simp at hsz2
          refine hK.out _ _ ⟨(boxed_of_below (d0.alloc _) hb2).cell, (boxed_of_below (d1.alloc _) hb2).cell⟩ (fun hS => ?_)
          clear hK K
          refine wpAnyH_ready (rs := [0, 7]) (by kernel_rfl) (by simp) ?_
          refine AllReadyH.cons rfl (fun K hK => ?_) (AllReadyH.cons rfl (fun K hK => ?_) AllReadyH.nil)
          · go_simp
            refine hK.out _ _ hS (fun hS => ?_)
            clear hK K
            refine wpAnyH_ready (rs := [7]) (by kernel_rfl) (by simp) ?_
            refine AllReadyH.cons rfl (fun K hK => ?_) AllReadyH.nil
            go_simp
            refine hK.out _ _ ⟨((boxed_of_below (d0.alloc _) hb2).alloc _).cell, ((boxed_of_below (d1.alloc _) hb2).alloc _).cell⟩ (fun hS => ?_)
            clear hK K
            refine wpAnyH_ready (rs := [8]) (by kernel_rfl) (by simp) ?_
            refine AllReadyH.cons rfl (fun K hK => ?_) AllReadyH.nil
            have hB2 := bT (bA (Below.drew (b0 W)) (.cells #[.int .i64 0, .int .i64 x.1, .int .i64 x.2] 3)) hb2
            have hr3 := (own_after hrow hB2).alloc (.cells #[.int .i64 y] 3)
            refine step_append_lies _ rfl (.tmp 23) (.tmp 30) 33 rfl (w1.heap.size + 2) 3 i0 _ 1 8 Try.underlying33 hi hz0 hz1 hz2 rfl (by decide) (.slice Av (cbG N L pre).length cv) (cbG N L pre).length (ci (cbG N L pre)) rfl hr3 ⟨w2.heap.size, 0, none⟩ 1 1 [.int .i64 y] rfl rfl (new_cells _ _ _) (by intro u hu; simp at hu; subst hu; rfl) (by omega) (by unfold maxLen; omega) (by omega) (by simp; omega) _ rfl ?_
            intro g cap w3 hown3 hgrow3 _ _
            obtain ⟨r1, r2a, r2b, r3, r4, r5⟩ := row_stepJ (w := w) hv hrow hB (by omega) (by omega) hB2 hown3 hgrow3
            have hc4 := r1.cell
            have hf4 := r1.frozen
            refine hK.out _ _ ⟨(r5 _ _ _ c0 (by omega) (by omega)).1.cell, (r5 _ _ _ c1 (by omega) (by omega)).1.cell⟩ (fun hS => ?_)
            clear hK K
            refine wpAnyH_ready (rs := [9]) (by kernel_rfl) (by simp) ?_
            refine AllReadyH.cons rfl (fun K hK => ?_) AllReadyH.nil
            go_simp
            refine hK.out _ _ ⟨(r5 _ _ _ c0 (by omega) (by omega)).2.cell, (r5 _ _ _ c1 (by omega) (by omega)).2.cell⟩ (fun hS => ?_)
            clear hK K
            refine ⟨by kernel_rfl, ?_⟩
            exact ⟨r3.from _, (r5 _ _ _ cn (by omega) (by omega)).2.cell.trans cn.cell.symm, rowJ_next HG.out r2a r2b, (r5 _ _ _ c0 (by omega) (by omega)).2, (r5 _ _ _ c1 (by omega) (by omega)).2, (r5 _ _ _ cn (by omega) (by omega)).2, r4⟩
          · go_simp
            refine hK.out _ _ ⟨((boxed_of_below (d0.alloc _) hb2).alloc _).cell, ((boxed_of_below (d1.alloc _) hb2).alloc _).cell⟩ (fun hS => ?_)
            clear hK K
            refine wpAnyH_ready (rs := [0]) (by kernel_rfl) (by simp) ?_
            refine AllReadyH.cons rfl (fun K hK => ?_) AllReadyH.nil
            go_simp
            refine hK.out _ _ hS (fun hS => ?_)
            clear hK K
            refine wpAnyH_ready (rs := [8]) (by kernel_rfl) (by simp) ?_
            refine AllReadyH.cons rfl (fun K hK => ?_) AllReadyH.nil
            have hB2 := bT (bA (Below.drew (b0 W)) (.cells #[.int .i64 0, .int .i64 x.1, .int .i64 x.2] 3)) hb2
            have hr3 := (own_after hrow hB2).alloc (.cells #[.int .i64 y] 3)
            refine step_append_lies _ rfl (.tmp 23) (.tmp 30) 33 rfl (w1.heap.size + 2) 3 i0 _ 1 8 Try.underlying33 hi hz0 hz1 hz2 rfl (by decide) (.slice Av (cbG N L pre).length cv) (cbG N L pre).length (ci (cbG N L pre)) rfl hr3 ⟨w2.heap.size, 0, none⟩ 1 1 [.int .i64 y] rfl rfl (new_cells _ _ _) (by intro u hu; simp at hu; subst hu; rfl) (by omega) (by unfold maxLen; omega) (by omega) (by simp; omega) _ rfl ?_
            intro g cap w3 hown3 hgrow3 _ _
            obtain ⟨r1, r2a, r2b, r3, r4, r5⟩ := row_stepJ (w := w) hv hrow hB (by omega) (by omega) hB2 hown3 hgrow3
            have hc4 := r1.cell
            have hf4 := r1.frozen
            refine hK.out _ _ ⟨(r5 _ _ _ c0 (by omega) (by omega)).1.cell, (r5 _ _ _ c1 (by omega) (by omega)).1.cell⟩ (fun hS => ?_)
            clear hK K
            refine wpAnyH_ready (rs := [9]) (by kernel_rfl) (by simp) ?_
            refine AllReadyH.cons rfl (fun K hK => ?_) AllReadyH.nil
            go_simp
            refine hK.out _ _ ⟨(r5 _ _ _ c0 (by omega) (by omega)).2.cell, (r5 _ _ _ c1 (by omega) (by omega)).2.cell⟩ (fun hS => ?_)
            clear hK K
            refine ⟨by kernel_rfl, ?_⟩
            exact ⟨r3.from _, (r5 _ _ _ cn (by omega) (by omega)).2.cell.trans cn.cell.symm, rowJ_next HG.out r2a r2b, (r5 _ _ _ c0 (by omega) (by omega)).2, (r5 _ _ _ c1 (by omega) (by omega)).2, (r5 _ _ _ cn (by omega) (by omega)).2, r4⟩
    · have HG := Lib.hid (cbG_skip (N := N) (L := L) (pre := pre) (show x.1 = 0 by omega))
      gi_wp2_with fail
      exact ⟨KeepsFrom.refl _ _, rfl, ⟨_, hv, by rw [HG.out]; exact hrow, trivial⟩, c0, c1, cn, hB⟩
  case done =>
    rintro D W hD ⟨⟨v, hv, hrow, _⟩, c0, c1, cn, hB⟩ hK
    have hc := hv.cell
    go_wp2_with fail
    refine ⟨by simp, .inl ⟨_, _, rfl, run_takeDeferred hK, ?_⟩⟩
    refine ⟨.tuple #[v, .bool true], by simp [results, Try.results16, go_sem], v, rfl, ?_, ?_⟩
    · rw [← cbG_all h3 h7]
      exact ownsRow_putObj (own_less hrow (by omega)) _ hK rfl
    · exact hB.trans (belowK_b (w := w) (Nat.le_refl _) W D _ _ (Nat.le_trans bB0.size hD) hK rfl rfl)
  case stop =>
    rintro D c pre W _ _ h _
    exact h.elim

end Go.Proofs.Ytcolajhjjnkpmaa
