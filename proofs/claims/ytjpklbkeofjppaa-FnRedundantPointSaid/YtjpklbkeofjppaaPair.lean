/- The program's BasePair. -/
import Derived.Test.YtjpklbkeofjppaaBases
namespace Go.Proofs.Ytjpklbkeofjppaa
open Go.RowKit Go.Shelf

attribute [local go_sem] Oper.semAt_some

theorem bases_mem2 {N : Nat} {x : Nat × Nat} (h : x ∈ Vm.basesL N) : x.1 < x.2 ∧ x.2 < N := by
  simp only [Vm.basesL, List.mem_flatMap, List.mem_range, List.mem_map, List.mem_range'_1] at h
  obtain ⟨i, hi, j, hj, rfl⟩ := h
  simp only; omega
/-- The next one of a prefix stands at the prefix's length. -/
theorem next_at {N : Nat} {pre : List (Nat × Nat)} {x : Nat × Nat} (h : (pre ++ [x]) <+: Vm.basesL N) : (Vm.basesL N)[pre.length]? = some x := by
  obtain ⟨q, hq⟩ := h
  rw [← hq, List.append_assoc, List.getElem?_append_right (Nat.le_refl _)]
  simp
theorem next_bt {N : Nat} (hN : N ≤ 7) {pre : List (Nat × Nat)} {x : Nat × Nat} (h : (pre ++ [x]) <+: Vm.basesL N) : x.1 < x.2 ∧ x.2 < N ∧ Vm.bt N x.1 x.2 = pre.length := by
  have h1 := next_at h
  obtain ⟨h2, h3⟩ := bases_mem2 (List.mem_of_getElem? h1)
  refine ⟨h2, h3, ?_⟩
  obtain ⟨hl, _⟩ := List.getElem?_eq_some_iff.1 h1
  rw [(Vm.bt_zero_all N (by omega)).2.1] at hl
  have hle := Vm.many_le N (by omega)
  obtain ⟨p, _, hp, _, _, e⟩ := Vm.bt_inv_all N (by omega) pre.length (by omega) hl
  rw [h1] at hp
  obtain rfl : x = p := by simpa using hp
  exact e
theorem bix_bt {N : Nat} (h2 : 2 ≤ N) (h7 : N ≤ 7) {i j : Nat} (hij : i < j) (hj : j < N) : bix N i j = (Vm.bt N i j : Int) := by
  have e1 := (Vm.manyB_iff (N : Int)).2 (by omega)
  have e2 := (Vm.antB_iff (N : Int) i).2 (by omega)
  have e3 := (Vm.antB_iff (N : Int) j).2 (by omega)
  have e4 : ((i : Int) == (j : Int)) = false := by simp; omega
  rw [bix, e1, e2, e3, e4]
  exact (Vm.bt_all N (by omega) i (by omega) j hj hij).1
theorem boxed_put {W : World} {B D : Nat} {t : TypeId} {v : Value} {o o' : Obj} (h : Boxed W B t v) (hD : W.heap[D]? = some o) (ho : o.isCells = false) : Boxed (W.putObj D o') B t v :=
  boxed_own B t (fun _ : Unit => v) () W _ _ h (grownBy_putObj' W D o') (fun r e => by cases e; exact ⟨_, hD, ho⟩)
def PairPost (N k : Nat) (w : World) (e : Ending) (w' : World) : Prop := ∃ i j : Nat, (Vm.basesL N)[k]? = some (i, j) ∧ e = .returned (.tuple #[.int .i64 i, .int .i64 j, .bool true]) ∧ Below w.heap.size w w'
set_option maxRecDepth 100000 in
set_option maxHeartbeats 4000000 in
theorem BasePair_at (N k : Nat) (w : World) (h2 : 2 ≤ N) (h7 : N ≤ 7) (hk : k < N * (N - 1) / 2) : Calls Try.prog 29 #[.int .i64 N, .int .i64 k] w (PairPost N k w) := by
  have HK := Lib.hid hk
  clear hk
  refine callsIn_wide.1 (callsIn_of_wp_marks (n := 6) Try.func29 rfl trivial ?_ rfl)
  simp only [Try.ntmps29, List.size_toArray, List.length_cons, List.length_nil, Nat.reduceAdd, Nat.reduceSub, Array.replicate_succ, Array.replicate_zero, List.push_toArray, List.append_toArray, List.nil_append, List.cons_append]
  refine (wpIn_wide (n := 6)).2 ?_
  go_wp2_with (go_at_call 43; refine (bases_any _ _).mono ?_; rintro e w' ⟨rfl, rfl⟩)
  obtain ⟨W0, hW0⟩ : ∃ W0, (((((w.alloc (.cells #[.int .i64 N] 3)).alloc (.cells #[.int .i64 k] 3)).alloc (.cells #[.int .i64 0] 3)).alloc (.cells #[.int .i64 0] 3)).alloc (.cells #[.bool false] 4)).alloc (.cells #[.int .i64 N] 3) = W0 := ⟨_, rfl⟩
  have hs0 : W0.heap.size = w.heap.size + 6 := by rw [← hW0]; simp
  have b0' : Boxed W0 w.heap.size 3 (.int .i64 N) := by rw [← hW0]; exact (((((Boxed.new w _ _).alloc _).alloc _).alloc _).alloc _).alloc _
  have b1' : Boxed W0 (w.heap.size + 1) 3 (.int .i64 k) := by rw [← hW0]; exact ((((Boxed.new' (w.alloc _) _ (by simp) _ _).alloc _).alloc _).alloc _).alloc _
  have b2' : Boxed W0 (w.heap.size + 1 + 1) 3 (.int .i64 0) := by rw [← hW0]; exact (((Boxed.new' ((w.alloc _).alloc _) _ (by simp) _ _).alloc _).alloc _).alloc _
  have b3' : Boxed W0 (w.heap.size + 1 + 1 + 1) 3 (.int .i64 0) := by rw [← hW0]; exact ((Boxed.new' (((w.alloc _).alloc _).alloc _) _ (by simp) _ _).alloc _).alloc _
  have b4' : Boxed W0 (w.heap.size + 1 + 1 + 1 + 1) 4 (.bool false) := by rw [← hW0]; exact (Boxed.new' ((((w.alloc _).alloc _).alloc _).alloc _) _ (by simp) _ _).alloc _
  have b5' : Boxed W0 (w.heap.size + 1 + 1 + 1 + 1 + 1) 3 (.int .i64 N) := by rw [← hW0]; exact Boxed.new' (((((w.alloc _).alloc _).alloc _).alloc _).alloc _) _ (by simp) _ _
  have bB0 : Below w.heap.size w W0 := by rw [← hW0]; exact bA (bA (bA (bA (bA (bA (b0 w) _) _) _) _) _) _
  rw [hW0]
  have HS0 := Lib.hid hs0
  clear hW0 hs0
  refine (wpIn_wide (n := 6)).1 ?_
  refine' range_law (n := 6) (gf := 66) (lb := #[.pointer (some ⟨w.heap.size + 1 + 1 + 1 + 1 + 1, 0, none⟩)]) (xs := Vm.basesL N) (encs := encB) (Kp := keepC (w.heap.size + 1 + 1 + 1 + 1 + 1)) rfl (enters_of Try.func66 (by kernel_rfl) rfl)
    (bases_seq 5 N h2 h7 (w.heap.size + 1 + 1 + 1 + 1 + 1) W0 (by rw [HS0.out]; omega) b5'.cell) (Below.refl _ _) keepC_t (keepC_b (by rw [HS0.out]; omega)) (fun _ => rfl)
    (fun pre W => pre.length ≤ k ∧ Boxed W w.heap.size 3 (.int .i64 N) ∧ Boxed W (w.heap.size + 1) 3 (.int .i64 k) ∧ Boxed W (w.heap.size + 1 + 1) 3 (.int .i64 0) ∧ Boxed W (w.heap.size + 1 + 1 + 1) 3 (.int .i64 0) ∧ Boxed W (w.heap.size + 1 + 1 + 1 + 1) 4 (.bool false) ∧ Boxed W (w.heap.size + 1 + 1 + 1 + 1 + 1) 3 (.int .i64 N) ∧ Below w.heap.size w W)
    (fun c pre W => ∃ x : Nat × Nat, c = .ret ∧ (Vm.basesL N)[k]? = some x ∧ Boxed W (w.heap.size + 1 + 1) 3 (.int .i64 x.1) ∧ Boxed W (w.heap.size + 1 + 1 + 1) 3 (.int .i64 x.2) ∧ Boxed W (w.heap.size + 1 + 1 + 1 + 1) 4 (.bool true) ∧ Below w.heap.size w W)
    (OwnFrom.and (ownFrom_pure _ _) (OwnFrom.and (ownFrom_box _ _ _ _) (OwnFrom.and (ownFrom_box _ _ _ _) (OwnFrom.and (ownFrom_box _ _ _ _) (OwnFrom.and (ownFrom_box _ _ _ _) (OwnFrom.and (ownFrom_box _ _ _ _) (OwnFrom.and (ownFrom_box _ _ _ _) (ownFrom_below (Nat.le_refl _) bB0.size))))))))
    (fun c => fun s X Y row hs hg hr => by
      obtain ⟨x, e1, e2, e3, e4, e5, e6⟩ := hs
      exact ⟨x, e1, e2, ownFrom_box (β := Unit) W0.heap.size _ _ _ () X Y row e3 hg hr, ownFrom_box (β := Unit) W0.heap.size _ _ _ () X Y row e4 hg hr, ownFrom_box (β := Unit) W0.heap.size _ _ _ () X Y row e5 hg hr, ownFrom_below (β := Unit) (Nat.le_refl _) bB0.size () X Y row e6 hg hr⟩)
    ⟨Nat.zero_le _, b0', b1', b2', b3', b4', b5', bB0⟩
    _ ?assign ?body ?done ?stop
  case assign =>
    intro l x W K hK
    simp only [encB]
    gi_wp2
    exact hK
  case body =>
    rintro l pre x W ⟨hle, c0, c1, c2, c3, c4, c5, hB⟩ hpre
    obtain ⟨x1, x2, x3⟩ := next_bt h7 hpre
    have hat := next_at hpre
    have HBX := Lib.hid ((bix_bt h2 h7 x1 x2).trans (by rw [x3]))
    clear x3
    by_cases he : pre.length = k
    · have HAT := Lib.hid (show (Vm.basesL N)[k]? = some x by rw [← he]; exact hat)
      have hd : ((pre.length : Int) == (k : Int)) = true := by simp [he]
      clear he hat hpre
      gi_wp2_with fail
      refine round_held (S := fun W' => W'.cell? ⟨w.heap.size, 0, none⟩ = some (.int .i64 N) ∧ W'.cell? ⟨w.heap.size + 1, 0, none⟩ = some (.int .i64 k) ∧ True) (by kernel_rfl) (by kernel_rfl) (noOut_then (noOut_block noOut_own)) ⟨c0.cell, c1.cell, trivial⟩ (fun hS => ?_)
      refine wpAnyH_take (i := 0) (v := .int .i64 N) rfl (by kernel_rfl) (by kernel_rfl) (by kernel_rfl) (fun _ _ _ h => h) (Or.inl ⟨by rfl, fun ww hSw => ?_⟩) hS ?_
      · (try obtain ⟨s0, s1, s2⟩ := hSw); go_simp
      refine wpAnyH_take (i := 1) (v := .int .i64 x.1) rfl (by kernel_rfl) (by kernel_rfl) (by kernel_rfl) (fun _ _ _ h => h) (Or.inl ⟨by rfl, fun ww hSw => ?_⟩) hS ?_
      · (try obtain ⟨s0, s1, s2⟩ := hSw); go_simp
      refine wpAnyH_take (i := 2) (v := .int .i64 x.2) rfl (by kernel_rfl) (by kernel_rfl) (by kernel_rfl) (fun _ _ _ h => h) (Or.inl ⟨by rfl, fun ww hSw => ?_⟩) hS ?_
      · (try obtain ⟨s0, s1, s2⟩ := hSw); go_simp
      refine wpAnyH_take (i := 4) (v := .int .i64 k) rfl (by kernel_rfl) (by kernel_rfl) (by kernel_rfl) (fun _ _ _ h => h) (Or.inl ⟨by rfl, fun ww hSw => ?_⟩) hS ?_
      · (try obtain ⟨s0, s1, s2⟩ := hSw); go_simp
      refine wpAnyH_ready (rs := [3]) (by kernel_rfl) (by simp) ?_
      refine AllReadyH.cons rfl (fun K hK => ?_) AllReadyH.nil
      go_simp
      refine (BaseIndex_any _ _ _ _).mono ?_
      rintro e w2 ⟨rfl, rfl⟩
      rw [HBX.out]
      refine hK.out _ _ hS (fun hS => ?_)
      clear hK K
      refine wpAnyH_ready (rs := [5]) (by kernel_rfl) (by simp) ?_
      refine AllReadyH.cons rfl (fun K hK => ?_) AllReadyH.nil
      go_simp
      refine hK.out _ _ hS (fun hS => ?_)
      clear hK K
      refine ⟨by kernel_rfl, ?_⟩
      have g2 := c2.cell
      have g3 := c3.cell
      have g4 := c4.cell
      have gf2 := c2.frozen
      have gf3 := c3.frozen
      have gf4 := c4.frozen
      gi_wp2_with fail
      refine ⟨((((KeepsOthers.drew W).trans (KeepsOthers.setCell _ _ _)).trans (KeepsOthers.setCell _ _ _)).trans (KeepsOthers.setCell _ _ _)).from _, x, rfl, HAT.out, ((Boxed.set _ (show Boxed W.drew _ _ _ from c2)).other (by omega) _).other (by omega) _, (Boxed.set _ ((show Boxed W.drew _ _ _ from c3).other (by omega) _)).other (by omega) _, Boxed.set _ (((show Boxed W.drew _ _ _ from c4).other (by omega) _).other (by omega) _), ?_⟩
      exact bS (p := ⟨w.heap.size + 1 + 1 + 1 + 1, 0, none⟩) (bS (p := ⟨w.heap.size + 1 + 1 + 1, 0, none⟩) (bS (p := ⟨w.heap.size + 1 + 1, 0, none⟩) (Below.drew hB) (by show w.heap.size ≤ w.heap.size + 1 + 1; omega) _) (by show w.heap.size ≤ w.heap.size + 1 + 1 + 1; omega) _) (by show w.heap.size ≤ w.heap.size + 1 + 1 + 1 + 1; omega) _
    · have hd : ((pre.length : Int) == (k : Int)) = false := by simp; omega
      have hle2 : pre.length + 1 ≤ k := by omega
      clear he hat hpre
      gi_wp2_with fail
      refine round_held (S := fun W' => W'.cell? ⟨w.heap.size, 0, none⟩ = some (.int .i64 N) ∧ W'.cell? ⟨w.heap.size + 1, 0, none⟩ = some (.int .i64 k) ∧ True) (by kernel_rfl) (by kernel_rfl) (noOut_then (noOut_block noOut_own)) ⟨c0.cell, c1.cell, trivial⟩ (fun hS => ?_)
      refine wpAnyH_take (i := 0) (v := .int .i64 N) rfl (by kernel_rfl) (by kernel_rfl) (by kernel_rfl) (fun _ _ _ h => h) (Or.inl ⟨by rfl, fun ww hSw => ?_⟩) hS ?_
      · (try obtain ⟨s0, s1, s2⟩ := hSw); go_simp
      refine wpAnyH_take (i := 1) (v := .int .i64 x.1) rfl (by kernel_rfl) (by kernel_rfl) (by kernel_rfl) (fun _ _ _ h => h) (Or.inl ⟨by rfl, fun ww hSw => ?_⟩) hS ?_
      · (try obtain ⟨s0, s1, s2⟩ := hSw); go_simp
      refine wpAnyH_take (i := 2) (v := .int .i64 x.2) rfl (by kernel_rfl) (by kernel_rfl) (by kernel_rfl) (fun _ _ _ h => h) (Or.inl ⟨by rfl, fun ww hSw => ?_⟩) hS ?_
      · (try obtain ⟨s0, s1, s2⟩ := hSw); go_simp
      refine wpAnyH_take (i := 4) (v := .int .i64 k) rfl (by kernel_rfl) (by kernel_rfl) (by kernel_rfl) (fun _ _ _ h => h) (Or.inl ⟨by rfl, fun ww hSw => ?_⟩) hS ?_
      · (try obtain ⟨s0, s1, s2⟩ := hSw); go_simp
      refine wpAnyH_ready (rs := [3]) (by kernel_rfl) (by simp) ?_
      refine AllReadyH.cons rfl (fun K hK => ?_) AllReadyH.nil
      go_simp
      refine (BaseIndex_any _ _ _ _).mono ?_
      rintro e w2 ⟨rfl, rfl⟩
      rw [HBX.out]
      refine hK.out _ _ hS (fun hS => ?_)
      clear hK K
      refine wpAnyH_ready (rs := [5]) (by kernel_rfl) (by simp) ?_
      refine AllReadyH.cons rfl (fun K hK => ?_) AllReadyH.nil
      go_simp
      refine hK.out _ _ hS (fun hS => ?_)
      clear hK K
      refine ⟨by kernel_rfl, ?_⟩
      gi_wp2_with fail
      exact ⟨(KeepsOthers.drew W).from _, rfl, by simpa using hle2, c0, c1, c2, c3, c4, c5, Below.drew hB⟩
  case done =>
    rintro D W hD ⟨hle, _⟩ hK
    rw [(Vm.bt_zero_all N (by omega)).2.1] at hle
    have := HK.out
    omega
  case stop =>
    rintro D c pre W hD _ ⟨x, rfl, hx, e3, e4, e5, e6⟩ hK
    have f3 := (boxed_put (o' := .deferred none) e3 hK rfl).cell
    have f4 := (boxed_put (o' := .deferred none) e4 hK rfl).cell
    have f5 := (boxed_put (o' := .deferred none) e5 hK rfl).cell
    refine wpIn_ret ?_
    refine ⟨by simp, .inl ⟨_, _, rfl, run_takeDeferred hK, ?_⟩⟩
    refine ⟨.tuple #[.int .i64 x.1, .int .i64 x.2, .bool true], by simp [results, Try.results29, go_sem, f3, f4, f5], ?_⟩
    exact ⟨x.1, x.2, hx, rfl, e6.trans (belowK_b (w := w) (Nat.le_refl _) W D _ _ (Nat.le_trans bB0.size hD) hK rfl rfl)⟩

end Go.Proofs.Ytjpklbkeofjppaa
