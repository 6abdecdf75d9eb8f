/- Contract of DrawVisPoint. Written by drawrgen.py. -/
import Derived.Test.YtjpklbkeofjppaaDrawQ
import Derived.Deep.RegionHeld
namespace Go.Proofs.Ytjpklbkeofjppaa
open Go.RowKit

section
variable {W W' : World} {B R : Nat} {cs : Array Value} {t : TypeId}
theorem Bx.g (h : Bx W B cs t) (hg : W.grownBy W' (some R)) (hne : B ≠ R) : Bx W' B cs t := (hg.block B h.lt (fun e => hne (by injection e))).trans h
theorem Bx.set2 (h : Bx W B cs t) (p p' : Addr) (h1 : B ≠ p.block) (h2 : B ≠ p'.block) (u v : Value) : Bx ((W.setCell p u).setCell p' v) B cs t := (heap_setCell_other _ _ _ _ h2).trans ((heap_setCell_other _ _ _ _ h1).trans h)
theorem Bx.put2 {a b : Value} (h : Bx W B #[a, b] t) (u v : Value) : Bx ((W.setCell ⟨B, 0, none⟩ u).setCell ⟨B, 1, none⟩ v) B #[u, v] t := by
  have h1 := heap_setCell_same W B 0 #[a, b] t u h
  have h2 := heap_setCell_same (W.setCell ⟨B, 0, none⟩ u) B 1 _ t v h1
  exact h2.trans rfl
theorem Bx.al (h : Bx W B cs t) (o : Obj) : Bx (W.alloc o) B cs t := h.after (bA (b0 _) o)
theorem Bx.mk' (_ : Bx W B cs t) (cs' : Array Value) (t' : TypeId) (n : Nat) (hn : W.heap.size = n) : Bx (W.alloc (.cells cs' t')) n cs' t' := Bx.new W cs' t' n hn
theorem Bx.two {a b : Int} (h : Bx W B #[.int .i64 a, .int .i64 b] t) {q : Nat} (hq : q < 2) : ∃ z, W.cell? ⟨B, q, none⟩ = some (.int .i64 z) := by
  have hh : q = 0 ∨ q = 1 := by omega
  rcases hh with rfl | rfl
  · exact ⟨a, (h.cell 0).trans rfl⟩
  · exact ⟨b, (h.cell 1).trans rfl⟩
end
def PtDrawn (w : World) (e : Ending) (w' : World) : Prop := ∃ (A : Option Addr) (m c : Nat) (L : List (Int × Int)) (d : Int × Int) (amp : Int), e = .returned (.tuple #[.slice A m c, gv d, .int .i64 amp]) ∧ Rd w' w'.heap.size 2 A m c (cp L) ∧ Below w.heap.size w w'
set_option maxRecDepth 100000 in
set_option maxHeartbeats 4000000 in
theorem DrawVisPoint_any (A : Option Addr) (n c : Nat) (bs : List Int) (w : World) (h : Rd w w.heap.size 1 A n c (cb bs)) (hx : ∀ x ∈ bs, 0 ≤ x ∧ x ≤ 255) (hn : n ≤ 1048576) : Calls Try.prog 31 #[.slice A n c] w (PtDrawn w) := by
  have HX := Lib.hid hx
  clear hx
  have hz0 : Bx (w.alloc (.cells #[.int .i64 0, .int .i64 0] 38)) w.heap.size #[.int .i64 0, .int .i64 0] 38 := Bx.new w _ _ _ rfl
  go_enter Try.func31, Try.ntmps31
  go_wp2_with fail
  refine (l6Open_any _ _ _ bs _ (h.after (bA (b0 w) _)) HX.out hn).mono ?_
  rintro e w1 ⟨rfl, hr, hb⟩
  have hz1 := hz0.after hb
  have hB1 := bT (bA (b0 w) (.cells #[.int .i64 0, .int .i64 0] 38)) hb
  have hb1 := hb.size
  simp only [World.size_alloc] at hr hb1
  have hRlt := hr.lt
  clear hz0 hb
  go_wp2_with fail
  refine (l91Array_any _ _ _ _ hr (by omega)).mono ?_
  rintro e w2 ⟨A2, m2, c2, L, rfl, hKO, hr2, hg2⟩
  have hz2 : Bx w2 w.heap.size #[.int .i64 0, .int .i64 0] 38 := (hg2.block _ hz1.lt (fun e => by injection e; omega)).trans hz1
  have hB2 := below_of_g hB1 hg2 (by omega)
  have hb2 := hg2.size
  clear hz1 hg2 hB1 hr
  go_wp2_with fail
  refine (l91Direction_any _ _ _ _ hr2 (by omega)).mono ?_
  rintro e w3 ⟨d, rfl, hr3, hg3⟩
  have hKO3 := hKO.g hg3 hRlt
  have hz3 : Bx w3 w.heap.size #[.int .i64 0, .int .i64 0] 38 := (hg3.block _ hz2.lt (fun e => by injection e; omega)).trans hz2
  have hB3 := below_of_g hB2 hg3 (by omega)
  have hb3 := hg3.size
  obtain ⟨da, db⟩ := d
  clear hz2 hg3 hB2 hKO hr2
  unfold gv
  have hr4 := hr3.after (bA (b0 w3) (.cells #[.int .i64 da, .int .i64 db] 38))
  have hd4 : Bx (w3.alloc (.cells #[.int .i64 da, .int .i64 db] 38)) w3.heap.size #[.int .i64 da, .int .i64 db] 38 := Bx.new w3 _ _ _ rfl
  have hz4 := hz3.after (bA (b0 w3) (.cells #[.int .i64 da, .int .i64 db] 38))
  have hB4 := bA hB3 (.cells #[.int .i64 da, .int .i64 db] 38)
  have hKO4 := hKO3.below (bA (b0 w3) (.cells #[.int .i64 da, .int .i64 db] 38))
  go_wp2_with fail
  refine (pick_any _ _ _ 16 _ hr4 (by omega) (by omega) (by omega)).mono ?_
  rintro e w5 ⟨y, rfl, y1, y2, hr5, hg5⟩
  have hd5 : Bx w5 w3.heap.size #[.int .i64 da, .int .i64 db] 38 := (hg5.block _ hd4.lt (fun e => by injection e; omega)).trans hd4
  have hz5 : Bx w5 w.heap.size #[.int .i64 0, .int .i64 0] 38 := (hg5.block _ hz4.lt (fun e => by injection e; omega)).trans hz4
  have hB5 := below_of_g hB4 hg5 (by omega)
  have hKO5 := hKO4.g hg5 hRlt
  have hlt3 := hd5.lt
  have hwz := hz5.lt
  clear hd4 hz4 hB4 hKO4 hg5 hr4 hr3 hKO3 hz3 hB3
  have hfin : ∀ (W : World) (amp : Int), Bx W w.heap.size #[.int .i64 0, .int .i64 0] 38 → KO w1.heap.size W 2 A2 m2 c2 (cp L) → Below w.heap.size w W →
      PtDrawn w (.returned (.tuple #[.slice A2 m2 c2, .agg #[.int .i64 da, .int .i64 db], .int .i64 amp])) ((W.setCell ⟨w.heap.size, 0, none⟩ (.int .i64 da)).setCell ⟨w.heap.size, 1, none⟩ (.int .i64 db)) ∧
      ((W.setCell ⟨w.heap.size, 0, none⟩ (.int .i64 da)).setCell ⟨w.heap.size, 1, none⟩ (.int .i64 db)).cell? ⟨w.heap.size, 0, none⟩ = some (.int .i64 da) ∧ ((W.setCell ⟨w.heap.size, 0, none⟩ (.int .i64 da)).setCell ⟨w.heap.size, 1, none⟩ (.int .i64 db)).cell? ⟨w.heap.size, 1, none⟩ = some (.int .i64 db) := fun W amp hz hk hb => by
    have h0 := hz.cell 0
    have h1 := hz.cell 1
    simp only [List.getElem?_toArray, List.getElem?_cons_zero, List.getElem?_cons_succ] at h0 h1
    obtain ⟨_, s1, s2⟩ := st2 h0 h1 (.int .i64 da) (.int .i64 db)
    exact ⟨⟨_, _, _, L, (da, db), amp, rfl, ((hk.set ⟨w.heap.size, 0, none⟩ (by show w.heap.size < _; omega) _).set ⟨w.heap.size, 1, none⟩ (by show w.heap.size < _; omega) _).rd, bS (bS hb (p := ⟨w.heap.size, 0, none⟩) (Nat.le_refl _) _) (p := ⟨w.heap.size, 1, none⟩) (Nat.le_refl _) _⟩, s2, s1⟩
  have HF := Lib.hid hfin
  clear hfin
  by_cases y0 : y = 0
  · have e0 : (y == 0) = true := by simp [y0]
    clear y0
    go_wp2_with fail
    have hr := hr5.after (Below.drew (b0 w5))
    have hd := hd5.after (Below.drew (b0 w5))
    have hz := hz5.after (Below.drew (b0 w5))
    have hKO := hKO5.below (Below.drew (b0 w5))
    have hB := hB5.drew
    have hsz5 : w5.drew.heap.size = w5.heap.size := rfl
    refine wp_region_held_drew (S := fun W' => W'.cell? ⟨w3.heap.size, 0, none⟩ = some (.int .i64 da) ∧ W'.cell? ⟨w3.heap.size, 1, none⟩ = some (.int .i64 db)) (by kernel_rfl) ⟨(hd5.cell 0).trans rfl, (hd5.cell 1).trans rfl⟩ (fun hS => ?_)
    refine wpAnyH_take (i := 0) (v := .slice A2 m2 c2) rfl (by kernel_rfl) (by kernel_rfl) (by kernel_rfl) (fun _ _ _ h => h) (Or.inl ⟨by rfl, fun ww hSw => ?_⟩) hS ?_
    · obtain ⟨t0, t1⟩ := hSw; go_simp
    refine wpAnyH_take (i := 1) (v := .agg #[.int .i64 da, .int .i64 db]) rfl (by kernel_rfl) (by kernel_rfl) (by kernel_rfl) (fun _ _ _ h => h) (Or.inl ⟨by rfl, fun ww hSw => ?_⟩) hS ?_
    · obtain ⟨t0, t1⟩ := hSw; go_simp
    refine wpAnyH_take (i := 3) (v := .pointer (some ⟨w.heap.size + 1, 0, none⟩)) rfl (by kernel_rfl) (by kernel_rfl) (by kernel_rfl) (fun _ _ _ h => h) (Or.inl ⟨by rfl, fun ww hSw => ?_⟩) hS ?_
    · obtain ⟨t0, t1⟩ := hSw; go_simp
    refine wpAnyH_ready (rs := [2, 4]) (by kernel_rfl) (by simp) ?_
    refine AllReadyH.cons rfl (fun K hK => ?_) (AllReadyH.cons rfl (fun K hK => ?_) AllReadyH.nil)
    · go_simp
      have hb0 := hd.mk' #[.int .i64 0, .int .i64 1000001] 3 (w5.heap.size) (by simp)
      have hbl := hb0.lt
      replace hd := hd.al (.cells #[.int .i64 0, .int .i64 1000001] 3)
      replace hz := hz.al (.cells #[.int .i64 0, .int .i64 1000001] 3)
      replace hKO := hKO.below (bA (b0 _) (.cells #[.int .i64 0, .int .i64 1000001] 3))
      replace hB := bA hB (.cells #[.int .i64 0, .int .i64 1000001] 3)
      replace hr := hr.after (bA (b0 _) (.cells #[.int .i64 0, .int .i64 1000001] 3))
      refine hK.out _ _ ⟨(hd.cell 0).trans rfl, (hd.cell 1).trans rfl⟩ (fun hS => ?_)
      clear hK K
      refine wpAnyH_ready (rs := [4]) (by kernel_rfl) (by simp) ?_
      refine AllReadyH.cons rfl (fun K hK => ?_) AllReadyH.nil
      go_simp
      refine (pick_any _ _ _ 2 _ hr (by omega) (by omega) (by omega)).mono ?_
      rintro e w6 ⟨x, rfl, x1, x2, hr6, hg6⟩
      obtain ⟨q, rfl⟩ := Vm.nat_of x1
      have hq2 : q < 2 := by omega
      have hq3 : (q : Int) < 2 := by omega
      have hs6 := hg6.size
      replace hd := hd.g hg6 (by omega)
      replace hz := hz.g hg6 (by omega)
      replace hKO := hKO.g hg6 hRlt
      replace hB := below_of_g hB hg6 (by omega)
      replace hb0 := hb0.g hg6 (by omega)
      clear hr hr6 hg6
      refine hK.out _ _ ⟨(hd.cell 0).trans rfl, (hd.cell 1).trans rfl⟩ (fun hS => ?_)
      clear hK K
      refine wpAnyH_ready (rs := [5, 7]) (by kernel_rfl) (by simp) ?_
      refine AllReadyH.cons rfl (fun K hK => ?_) (AllReadyH.cons rfl (fun K hK => ?_) AllReadyH.nil)
      · go_simp
        refine hK.out _ _ hS (fun hS => ?_)
        clear hK K
        refine wpAnyH_ready (rs := [6, 7]) (by kernel_rfl) (by simp) ?_
        refine AllReadyH.cons rfl (fun K hK => ?_) (AllReadyH.cons rfl (fun K hK => ?_) AllReadyH.nil)
        · obtain ⟨amp, hamp⟩ := hb0.two hq2
          go_simp
          refine hK.out _ _ hS (fun hS => ?_)
          clear hK K
          refine wpAnyH_ready (rs := [7]) (by kernel_rfl) (by simp) ?_
          refine AllReadyH.cons rfl (fun K hK => ?_) AllReadyH.nil
          go_simp
          refine hK.out _ _ hS (fun hS => ?_)
          clear hK K
          refine wpAnyH_ready (rs := [8]) (by kernel_rfl) (by simp) ?_
          refine AllReadyH.cons rfl (fun K hK => ?_) AllReadyH.nil
          have g0 := hz.cell 0
          have g1 := hz.cell 1
          have g2 := hz.frozen 0
          have g3 := hz.frozen 1
          simp only [List.getElem?_toArray, List.getElem?_cons_zero, List.getElem?_cons_succ] at g0 g1
          go_simp
          clear g0 g1 g2 g3
          replace hz := hz.put2 (.int .i64 da) (.int .i64 db)
          replace hd := hd.set2 ⟨w.heap.size, 0, none⟩ ⟨w.heap.size, 1, none⟩ (by show w3.heap.size ≠ w.heap.size; omega) (by show w3.heap.size ≠ w.heap.size; omega) (.int .i64 da) (.int .i64 db)
          replace hKO := (hKO.set ⟨w.heap.size, 0, none⟩ (by show w.heap.size < _; omega) (.int .i64 da)).set ⟨w.heap.size, 1, none⟩ (by show w.heap.size < _; omega) (.int .i64 db)
          replace hB := bS (bS hB (p := ⟨w.heap.size, 0, none⟩) (Nat.le_refl _) (.int .i64 da)) (p := ⟨w.heap.size, 1, none⟩) (Nat.le_refl _) (.int .i64 db)
          replace hb0 := hb0.set2 ⟨w.heap.size, 0, none⟩ ⟨w.heap.size, 1, none⟩ (by show w5.heap.size ≠ w.heap.size; omega) (by show w5.heap.size ≠ w.heap.size; omega) (.int .i64 da) (.int .i64 db)
          refine hK.out _ _ ⟨(hd.cell 0).trans rfl, (hd.cell 1).trans rfl⟩ (fun hS => ?_)
          clear hK K
          refine wpAnyH_ready (rs := [9]) (by kernel_rfl) (by simp) ?_
          refine AllReadyH.cons rfl (fun K hK => ?_) AllReadyH.nil
          go_simp
          refine hK.out _ _ hS (fun hS => ?_)
          clear hK K
          refine ⟨by kernel_rfl, ?_⟩
          have g0 := hz.cell 0
          have g1 := hz.cell 1
          simp only [List.getElem?_toArray, List.getElem?_cons_zero, List.getElem?_cons_succ] at g0 g1
          have HP := Lib.hid (show PtDrawn w (.returned (.tuple #[.slice A2 m2 c2, .agg #[.int .i64 da, .int .i64 db], .int .i64 amp])) _ from ⟨_, _, _, L, (da, db), amp, rfl, hKO.rd, hB⟩)
          clear hS hKO hB hd hz hb0 hamp
          go_wp2_with fail
          exact bodyPost_ret (v := .tuple #[.slice A2 m2 c2, .agg #[.int .i64 da, .int .i64 db], .int .i64 amp]) (by simp [results, Try.results31, go_sem, g0, g1]) rfl HP.out
        · go_simp
          refine hK.out _ _ hS (fun hS => ?_)
          clear hK K
          refine wpAnyH_ready (rs := [6, 8]) (by kernel_rfl) (by simp) ?_
          refine AllReadyH.cons rfl (fun K hK => ?_) (AllReadyH.cons rfl (fun K hK => ?_) AllReadyH.nil)
          · obtain ⟨amp, hamp⟩ := hb0.two hq2
            go_simp
            refine hK.out _ _ hS (fun hS => ?_)
            clear hK K
            refine wpAnyH_ready (rs := [8]) (by kernel_rfl) (by simp) ?_
            refine AllReadyH.cons rfl (fun K hK => ?_) AllReadyH.nil
            have g0 := hz.cell 0
            have g1 := hz.cell 1
            have g2 := hz.frozen 0
            have g3 := hz.frozen 1
            simp only [List.getElem?_toArray, List.getElem?_cons_zero, List.getElem?_cons_succ] at g0 g1
            go_simp
            clear g0 g1 g2 g3
            replace hz := hz.put2 (.int .i64 da) (.int .i64 db)
            replace hd := hd.set2 ⟨w.heap.size, 0, none⟩ ⟨w.heap.size, 1, none⟩ (by show w3.heap.size ≠ w.heap.size; omega) (by show w3.heap.size ≠ w.heap.size; omega) (.int .i64 da) (.int .i64 db)
            replace hKO := (hKO.set ⟨w.heap.size, 0, none⟩ (by show w.heap.size < _; omega) (.int .i64 da)).set ⟨w.heap.size, 1, none⟩ (by show w.heap.size < _; omega) (.int .i64 db)
            replace hB := bS (bS hB (p := ⟨w.heap.size, 0, none⟩) (Nat.le_refl _) (.int .i64 da)) (p := ⟨w.heap.size, 1, none⟩) (Nat.le_refl _) (.int .i64 db)
            replace hb0 := hb0.set2 ⟨w.heap.size, 0, none⟩ ⟨w.heap.size, 1, none⟩ (by show w5.heap.size ≠ w.heap.size; omega) (by show w5.heap.size ≠ w.heap.size; omega) (.int .i64 da) (.int .i64 db)
            refine hK.out _ _ ⟨(hd.cell 0).trans rfl, (hd.cell 1).trans rfl⟩ (fun hS => ?_)
            clear hK K
            refine wpAnyH_ready (rs := [9]) (by kernel_rfl) (by simp) ?_
            refine AllReadyH.cons rfl (fun K hK => ?_) AllReadyH.nil
            go_simp
            refine hK.out _ _ hS (fun hS => ?_)
            clear hK K
            refine ⟨by kernel_rfl, ?_⟩
            have g0 := hz.cell 0
            have g1 := hz.cell 1
            simp only [List.getElem?_toArray, List.getElem?_cons_zero, List.getElem?_cons_succ] at g0 g1
            have HP := Lib.hid (show PtDrawn w (.returned (.tuple #[.slice A2 m2 c2, .agg #[.int .i64 da, .int .i64 db], .int .i64 amp])) _ from ⟨_, _, _, L, (da, db), amp, rfl, hKO.rd, hB⟩)
            clear hS hKO hB hd hz hb0 hamp
            go_wp2_with fail
            exact bodyPost_ret (v := .tuple #[.slice A2 m2 c2, .agg #[.int .i64 da, .int .i64 db], .int .i64 amp]) (by simp [results, Try.results31, go_sem, g0, g1]) rfl HP.out
          · have g0 := hz.cell 0
            have g1 := hz.cell 1
            have g2 := hz.frozen 0
            have g3 := hz.frozen 1
            simp only [List.getElem?_toArray, List.getElem?_cons_zero, List.getElem?_cons_succ] at g0 g1
            go_simp
            clear g0 g1 g2 g3
            replace hz := hz.put2 (.int .i64 da) (.int .i64 db)
            replace hd := hd.set2 ⟨w.heap.size, 0, none⟩ ⟨w.heap.size, 1, none⟩ (by show w3.heap.size ≠ w.heap.size; omega) (by show w3.heap.size ≠ w.heap.size; omega) (.int .i64 da) (.int .i64 db)
            replace hKO := (hKO.set ⟨w.heap.size, 0, none⟩ (by show w.heap.size < _; omega) (.int .i64 da)).set ⟨w.heap.size, 1, none⟩ (by show w.heap.size < _; omega) (.int .i64 db)
            replace hB := bS (bS hB (p := ⟨w.heap.size, 0, none⟩) (Nat.le_refl _) (.int .i64 da)) (p := ⟨w.heap.size, 1, none⟩) (Nat.le_refl _) (.int .i64 db)
            replace hb0 := hb0.set2 ⟨w.heap.size, 0, none⟩ ⟨w.heap.size, 1, none⟩ (by show w5.heap.size ≠ w.heap.size; omega) (by show w5.heap.size ≠ w.heap.size; omega) (.int .i64 da) (.int .i64 db)
            refine hK.out _ _ ⟨(hd.cell 0).trans rfl, (hd.cell 1).trans rfl⟩ (fun hS => ?_)
            clear hK K
            refine wpAnyH_ready (rs := [6]) (by kernel_rfl) (by simp) ?_
            refine AllReadyH.cons rfl (fun K hK => ?_) AllReadyH.nil
            obtain ⟨amp, hamp⟩ := hb0.two hq2
            go_simp
            refine hK.out _ _ hS (fun hS => ?_)
            clear hK K
            refine wpAnyH_ready (rs := [9]) (by kernel_rfl) (by simp) ?_
            refine AllReadyH.cons rfl (fun K hK => ?_) AllReadyH.nil
            go_simp
            refine hK.out _ _ hS (fun hS => ?_)
            clear hK K
            refine ⟨by kernel_rfl, ?_⟩
            have g0 := hz.cell 0
            have g1 := hz.cell 1
            simp only [List.getElem?_toArray, List.getElem?_cons_zero, List.getElem?_cons_succ] at g0 g1
            have HP := Lib.hid (show PtDrawn w (.returned (.tuple #[.slice A2 m2 c2, .agg #[.int .i64 da, .int .i64 db], .int .i64 amp])) _ from ⟨_, _, _, L, (da, db), amp, rfl, hKO.rd, hB⟩)
            clear hS hKO hB hd hz hb0 hamp
            go_wp2_with fail
            exact bodyPost_ret (v := .tuple #[.slice A2 m2 c2, .agg #[.int .i64 da, .int .i64 db], .int .i64 amp]) (by simp [results, Try.results31, go_sem, g0, g1]) rfl HP.out
      · go_simp
        refine hK.out _ _ hS (fun hS => ?_)
        clear hK K
        refine wpAnyH_ready (rs := [5, 8]) (by kernel_rfl) (by simp) ?_
        refine AllReadyH.cons rfl (fun K hK => ?_) (AllReadyH.cons rfl (fun K hK => ?_) AllReadyH.nil)
        · go_simp
          refine hK.out _ _ hS (fun hS => ?_)
          clear hK K
          refine wpAnyH_ready (rs := [6, 8]) (by kernel_rfl) (by simp) ?_
          refine AllReadyH.cons rfl (fun K hK => ?_) (AllReadyH.cons rfl (fun K hK => ?_) AllReadyH.nil)
          · obtain ⟨amp, hamp⟩ := hb0.two hq2
            go_simp
            refine hK.out _ _ hS (fun hS => ?_)
            clear hK K
            refine wpAnyH_ready (rs := [8]) (by kernel_rfl) (by simp) ?_
            refine AllReadyH.cons rfl (fun K hK => ?_) AllReadyH.nil
            have g0 := hz.cell 0
            have g1 := hz.cell 1
            have g2 := hz.frozen 0
            have g3 := hz.frozen 1
            simp only [List.getElem?_toArray, List.getElem?_cons_zero, List.getElem?_cons_succ] at g0 g1
            go_simp
            clear g0 g1 g2 g3
            replace hz := hz.put2 (.int .i64 da) (.int .i64 db)
            replace hd := hd.set2 ⟨w.heap.size, 0, none⟩ ⟨w.heap.size, 1, none⟩ (by show w3.heap.size ≠ w.heap.size; omega) (by show w3.heap.size ≠ w.heap.size; omega) (.int .i64 da) (.int .i64 db)
            replace hKO := (hKO.set ⟨w.heap.size, 0, none⟩ (by show w.heap.size < _; omega) (.int .i64 da)).set ⟨w.heap.size, 1, none⟩ (by show w.heap.size < _; omega) (.int .i64 db)
            replace hB := bS (bS hB (p := ⟨w.heap.size, 0, none⟩) (Nat.le_refl _) (.int .i64 da)) (p := ⟨w.heap.size, 1, none⟩) (Nat.le_refl _) (.int .i64 db)
            replace hb0 := hb0.set2 ⟨w.heap.size, 0, none⟩ ⟨w.heap.size, 1, none⟩ (by show w5.heap.size ≠ w.heap.size; omega) (by show w5.heap.size ≠ w.heap.size; omega) (.int .i64 da) (.int .i64 db)
            refine hK.out _ _ ⟨(hd.cell 0).trans rfl, (hd.cell 1).trans rfl⟩ (fun hS => ?_)
            clear hK K
            refine wpAnyH_ready (rs := [9]) (by kernel_rfl) (by simp) ?_
            refine AllReadyH.cons rfl (fun K hK => ?_) AllReadyH.nil
            go_simp
            refine hK.out _ _ hS (fun hS => ?_)
            clear hK K
            refine ⟨by kernel_rfl, ?_⟩
            have g0 := hz.cell 0
            have g1 := hz.cell 1
            simp only [List.getElem?_toArray, List.getElem?_cons_zero, List.getElem?_cons_succ] at g0 g1
            have HP := Lib.hid (show PtDrawn w (.returned (.tuple #[.slice A2 m2 c2, .agg #[.int .i64 da, .int .i64 db], .int .i64 amp])) _ from ⟨_, _, _, L, (da, db), amp, rfl, hKO.rd, hB⟩)
            clear hS hKO hB hd hz hb0 hamp
            go_wp2_with fail
            exact bodyPost_ret (v := .tuple #[.slice A2 m2 c2, .agg #[.int .i64 da, .int .i64 db], .int .i64 amp]) (by simp [results, Try.results31, go_sem, g0, g1]) rfl HP.out
          · have g0 := hz.cell 0
            have g1 := hz.cell 1
            have g2 := hz.frozen 0
            have g3 := hz.frozen 1
            simp only [List.getElem?_toArray, List.getElem?_cons_zero, List.getElem?_cons_succ] at g0 g1
            go_simp
            clear g0 g1 g2 g3
            replace hz := hz.put2 (.int .i64 da) (.int .i64 db)
            replace hd := hd.set2 ⟨w.heap.size, 0, none⟩ ⟨w.heap.size, 1, none⟩ (by show w3.heap.size ≠ w.heap.size; omega) (by show w3.heap.size ≠ w.heap.size; omega) (.int .i64 da) (.int .i64 db)
            replace hKO := (hKO.set ⟨w.heap.size, 0, none⟩ (by show w.heap.size < _; omega) (.int .i64 da)).set ⟨w.heap.size, 1, none⟩ (by show w.heap.size < _; omega) (.int .i64 db)
            replace hB := bS (bS hB (p := ⟨w.heap.size, 0, none⟩) (Nat.le_refl _) (.int .i64 da)) (p := ⟨w.heap.size, 1, none⟩) (Nat.le_refl _) (.int .i64 db)
            replace hb0 := hb0.set2 ⟨w.heap.size, 0, none⟩ ⟨w.heap.size, 1, none⟩ (by show w5.heap.size ≠ w.heap.size; omega) (by show w5.heap.size ≠ w.heap.size; omega) (.int .i64 da) (.int .i64 db)
            refine hK.out _ _ ⟨(hd.cell 0).trans rfl, (hd.cell 1).trans rfl⟩ (fun hS => ?_)
            clear hK K
            refine wpAnyH_ready (rs := [6]) (by kernel_rfl) (by simp) ?_
            refine AllReadyH.cons rfl (fun K hK => ?_) AllReadyH.nil
            obtain ⟨amp, hamp⟩ := hb0.two hq2
            go_simp
            refine hK.out _ _ hS (fun hS => ?_)
            clear hK K
            refine wpAnyH_ready (rs := [9]) (by kernel_rfl) (by simp) ?_
            refine AllReadyH.cons rfl (fun K hK => ?_) AllReadyH.nil
            go_simp
            refine hK.out _ _ hS (fun hS => ?_)
            clear hK K
            refine ⟨by kernel_rfl, ?_⟩
            have g0 := hz.cell 0
            have g1 := hz.cell 1
            simp only [List.getElem?_toArray, List.getElem?_cons_zero, List.getElem?_cons_succ] at g0 g1
            have HP := Lib.hid (show PtDrawn w (.returned (.tuple #[.slice A2 m2 c2, .agg #[.int .i64 da, .int .i64 db], .int .i64 amp])) _ from ⟨_, _, _, L, (da, db), amp, rfl, hKO.rd, hB⟩)
            clear hS hKO hB hd hz hb0 hamp
            go_wp2_with fail
            exact bodyPost_ret (v := .tuple #[.slice A2 m2 c2, .agg #[.int .i64 da, .int .i64 db], .int .i64 amp]) (by simp [results, Try.results31, go_sem, g0, g1]) rfl HP.out
        · have g0 := hz.cell 0
          have g1 := hz.cell 1
          have g2 := hz.frozen 0
          have g3 := hz.frozen 1
          simp only [List.getElem?_toArray, List.getElem?_cons_zero, List.getElem?_cons_succ] at g0 g1
          go_simp
          clear g0 g1 g2 g3
          replace hz := hz.put2 (.int .i64 da) (.int .i64 db)
          replace hd := hd.set2 ⟨w.heap.size, 0, none⟩ ⟨w.heap.size, 1, none⟩ (by show w3.heap.size ≠ w.heap.size; omega) (by show w3.heap.size ≠ w.heap.size; omega) (.int .i64 da) (.int .i64 db)
          replace hKO := (hKO.set ⟨w.heap.size, 0, none⟩ (by show w.heap.size < _; omega) (.int .i64 da)).set ⟨w.heap.size, 1, none⟩ (by show w.heap.size < _; omega) (.int .i64 db)
          replace hB := bS (bS hB (p := ⟨w.heap.size, 0, none⟩) (Nat.le_refl _) (.int .i64 da)) (p := ⟨w.heap.size, 1, none⟩) (Nat.le_refl _) (.int .i64 db)
          replace hb0 := hb0.set2 ⟨w.heap.size, 0, none⟩ ⟨w.heap.size, 1, none⟩ (by show w5.heap.size ≠ w.heap.size; omega) (by show w5.heap.size ≠ w.heap.size; omega) (.int .i64 da) (.int .i64 db)
          refine hK.out _ _ ⟨(hd.cell 0).trans rfl, (hd.cell 1).trans rfl⟩ (fun hS => ?_)
          clear hK K
          refine wpAnyH_ready (rs := [5]) (by kernel_rfl) (by simp) ?_
          refine AllReadyH.cons rfl (fun K hK => ?_) AllReadyH.nil
          go_simp
          refine hK.out _ _ hS (fun hS => ?_)
          clear hK K
          refine wpAnyH_ready (rs := [6]) (by kernel_rfl) (by simp) ?_
          refine AllReadyH.cons rfl (fun K hK => ?_) AllReadyH.nil
          obtain ⟨amp, hamp⟩ := hb0.two hq2
          go_simp
          refine hK.out _ _ hS (fun hS => ?_)
          clear hK K
          refine wpAnyH_ready (rs := [9]) (by kernel_rfl) (by simp) ?_
          refine AllReadyH.cons rfl (fun K hK => ?_) AllReadyH.nil
          go_simp
          refine hK.out _ _ hS (fun hS => ?_)
          clear hK K
          refine ⟨by kernel_rfl, ?_⟩
          have g0 := hz.cell 0
          have g1 := hz.cell 1
          simp only [List.getElem?_toArray, List.getElem?_cons_zero, List.getElem?_cons_succ] at g0 g1
          have HP := Lib.hid (show PtDrawn w (.returned (.tuple #[.slice A2 m2 c2, .agg #[.int .i64 da, .int .i64 db], .int .i64 amp])) _ from ⟨_, _, _, L, (da, db), amp, rfl, hKO.rd, hB⟩)
          clear hS hKO hB hd hz hb0 hamp
          go_wp2_with fail
          exact bodyPost_ret (v := .tuple #[.slice A2 m2 c2, .agg #[.int .i64 da, .int .i64 db], .int .i64 amp]) (by simp [results, Try.results31, go_sem, g0, g1]) rfl HP.out
    · go_simp
      refine (pick_any _ _ _ 2 _ hr (by omega) (by omega) (by omega)).mono ?_
      rintro e w6 ⟨x, rfl, x1, x2, hr6, hg6⟩
      obtain ⟨q, rfl⟩ := Vm.nat_of x1
      have hq2 : q < 2 := by omega
      have hq3 : (q : Int) < 2 := by omega
      have hs6 := hg6.size
      replace hd := hd.g hg6 (by omega)
      replace hz := hz.g hg6 (by omega)
      replace hKO := hKO.g hg6 hRlt
      replace hB := below_of_g hB hg6 (by omega)
      clear hr hr6 hg6
      refine hK.out _ _ ⟨(hd.cell 0).trans rfl, (hd.cell 1).trans rfl⟩ (fun hS => ?_)
      clear hK K
      refine wpAnyH_ready (rs := [2, 7]) (by kernel_rfl) (by simp) ?_
      refine AllReadyH.cons rfl (fun K hK => ?_) (AllReadyH.cons rfl (fun K hK => ?_) AllReadyH.nil)
      · go_simp
        have hb0 := hd.mk' #[.int .i64 0, .int .i64 1000001] 3 (w6.heap.size) (by simp)
        have hbl := hb0.lt
        replace hd := hd.al (.cells #[.int .i64 0, .int .i64 1000001] 3)
        replace hz := hz.al (.cells #[.int .i64 0, .int .i64 1000001] 3)
        replace hKO := hKO.below (bA (b0 _) (.cells #[.int .i64 0, .int .i64 1000001] 3))
        replace hB := bA hB (.cells #[.int .i64 0, .int .i64 1000001] 3)
        refine hK.out _ _ ⟨(hd.cell 0).trans rfl, (hd.cell 1).trans rfl⟩ (fun hS => ?_)
        clear hK K
        refine wpAnyH_ready (rs := [5, 7]) (by kernel_rfl) (by simp) ?_
        refine AllReadyH.cons rfl (fun K hK => ?_) (AllReadyH.cons rfl (fun K hK => ?_) AllReadyH.nil)
        · go_simp
          refine hK.out _ _ hS (fun hS => ?_)
          clear hK K
          refine wpAnyH_ready (rs := [6, 7]) (by kernel_rfl) (by simp) ?_
          refine AllReadyH.cons rfl (fun K hK => ?_) (AllReadyH.cons rfl (fun K hK => ?_) AllReadyH.nil)
          · obtain ⟨amp, hamp⟩ := hb0.two hq2
            go_simp
            refine hK.out _ _ hS (fun hS => ?_)
            clear hK K
            refine wpAnyH_ready (rs := [7]) (by kernel_rfl) (by simp) ?_
            refine AllReadyH.cons rfl (fun K hK => ?_) AllReadyH.nil
            go_simp
            refine hK.out _ _ hS (fun hS => ?_)
            clear hK K
            refine wpAnyH_ready (rs := [8]) (by kernel_rfl) (by simp) ?_
            refine AllReadyH.cons rfl (fun K hK => ?_) AllReadyH.nil
            have g0 := hz.cell 0
            have g1 := hz.cell 1
            have g2 := hz.frozen 0
            have g3 := hz.frozen 1
            simp only [List.getElem?_toArray, List.getElem?_cons_zero, List.getElem?_cons_succ] at g0 g1
            go_simp
            clear g0 g1 g2 g3
            replace hz := hz.put2 (.int .i64 da) (.int .i64 db)
            replace hd := hd.set2 ⟨w.heap.size, 0, none⟩ ⟨w.heap.size, 1, none⟩ (by show w3.heap.size ≠ w.heap.size; omega) (by show w3.heap.size ≠ w.heap.size; omega) (.int .i64 da) (.int .i64 db)
            replace hKO := (hKO.set ⟨w.heap.size, 0, none⟩ (by show w.heap.size < _; omega) (.int .i64 da)).set ⟨w.heap.size, 1, none⟩ (by show w.heap.size < _; omega) (.int .i64 db)
            replace hB := bS (bS hB (p := ⟨w.heap.size, 0, none⟩) (Nat.le_refl _) (.int .i64 da)) (p := ⟨w.heap.size, 1, none⟩) (Nat.le_refl _) (.int .i64 db)
            replace hb0 := hb0.set2 ⟨w.heap.size, 0, none⟩ ⟨w.heap.size, 1, none⟩ (by show w6.heap.size ≠ w.heap.size; omega) (by show w6.heap.size ≠ w.heap.size; omega) (.int .i64 da) (.int .i64 db)
            refine hK.out _ _ ⟨(hd.cell 0).trans rfl, (hd.cell 1).trans rfl⟩ (fun hS => ?_)
            clear hK K
            refine wpAnyH_ready (rs := [9]) (by kernel_rfl) (by simp) ?_
            refine AllReadyH.cons rfl (fun K hK => ?_) AllReadyH.nil
            go_simp
            refine hK.out _ _ hS (fun hS => ?_)
            clear hK K
            refine ⟨by kernel_rfl, ?_⟩
            have g0 := hz.cell 0
            have g1 := hz.cell 1
            simp only [List.getElem?_toArray, List.getElem?_cons_zero, List.getElem?_cons_succ] at g0 g1
            have HP := Lib.hid (show PtDrawn w (.returned (.tuple #[.slice A2 m2 c2, .agg #[.int .i64 da, .int .i64 db], .int .i64 amp])) _ from ⟨_, _, _, L, (da, db), amp, rfl, hKO.rd, hB⟩)
            clear hS hKO hB hd hz hb0 hamp
            go_wp2_with fail
            exact bodyPost_ret (v := .tuple #[.slice A2 m2 c2, .agg #[.int .i64 da, .int .i64 db], .int .i64 amp]) (by simp [results, Try.results31, go_sem, g0, g1]) rfl HP.out
          · go_simp
            refine hK.out _ _ hS (fun hS => ?_)
            clear hK K
            refine wpAnyH_ready (rs := [6, 8]) (by kernel_rfl) (by simp) ?_
            refine AllReadyH.cons rfl (fun K hK => ?_) (AllReadyH.cons rfl (fun K hK => ?_) AllReadyH.nil)
            · obtain ⟨amp, hamp⟩ := hb0.two hq2
              go_simp
              refine hK.out _ _ hS (fun hS => ?_)
              clear hK K
              refine wpAnyH_ready (rs := [8]) (by kernel_rfl) (by simp) ?_
              refine AllReadyH.cons rfl (fun K hK => ?_) AllReadyH.nil
              have g0 := hz.cell 0
              have g1 := hz.cell 1
              have g2 := hz.frozen 0
              have g3 := hz.frozen 1
              simp only [List.getElem?_toArray, List.getElem?_cons_zero, List.getElem?_cons_succ] at g0 g1
              go_simp
              clear g0 g1 g2 g3
              replace hz := hz.put2 (.int .i64 da) (.int .i64 db)
              replace hd := hd.set2 ⟨w.heap.size, 0, none⟩ ⟨w.heap.size, 1, none⟩ (by show w3.heap.size ≠ w.heap.size; omega) (by show w3.heap.size ≠ w.heap.size; omega) (.int .i64 da) (.int .i64 db)
              replace hKO := (hKO.set ⟨w.heap.size, 0, none⟩ (by show w.heap.size < _; omega) (.int .i64 da)).set ⟨w.heap.size, 1, none⟩ (by show w.heap.size < _; omega) (.int .i64 db)
              replace hB := bS (bS hB (p := ⟨w.heap.size, 0, none⟩) (Nat.le_refl _) (.int .i64 da)) (p := ⟨w.heap.size, 1, none⟩) (Nat.le_refl _) (.int .i64 db)
              replace hb0 := hb0.set2 ⟨w.heap.size, 0, none⟩ ⟨w.heap.size, 1, none⟩ (by show w6.heap.size ≠ w.heap.size; omega) (by show w6.heap.size ≠ w.heap.size; omega) (.int .i64 da) (.int .i64 db)
              refine hK.out _ _ ⟨(hd.cell 0).trans rfl, (hd.cell 1).trans rfl⟩ (fun hS => ?_)
              clear hK K
              refine wpAnyH_ready (rs := [9]) (by kernel_rfl) (by simp) ?_
              refine AllReadyH.cons rfl (fun K hK => ?_) AllReadyH.nil
              go_simp
              refine hK.out _ _ hS (fun hS => ?_)
              clear hK K
              refine ⟨by kernel_rfl, ?_⟩
              have g0 := hz.cell 0
              have g1 := hz.cell 1
              simp only [List.getElem?_toArray, List.getElem?_cons_zero, List.getElem?_cons_succ] at g0 g1
              have HP := Lib.hid (show PtDrawn w (.returned (.tuple #[.slice A2 m2 c2, .agg #[.int .i64 da, .int .i64 db], .int .i64 amp])) _ from ⟨_, _, _, L, (da, db), amp, rfl, hKO.rd, hB⟩)
              clear hS hKO hB hd hz hb0 hamp
              go_wp2_with fail
              exact bodyPost_ret (v := .tuple #[.slice A2 m2 c2, .agg #[.int .i64 da, .int .i64 db], .int .i64 amp]) (by simp [results, Try.results31, go_sem, g0, g1]) rfl HP.out
            · have g0 := hz.cell 0
              have g1 := hz.cell 1
              have g2 := hz.frozen 0
              have g3 := hz.frozen 1
              simp only [List.getElem?_toArray, List.getElem?_cons_zero, List.getElem?_cons_succ] at g0 g1
              go_simp
              clear g0 g1 g2 g3
              replace hz := hz.put2 (.int .i64 da) (.int .i64 db)
              replace hd := hd.set2 ⟨w.heap.size, 0, none⟩ ⟨w.heap.size, 1, none⟩ (by show w3.heap.size ≠ w.heap.size; omega) (by show w3.heap.size ≠ w.heap.size; omega) (.int .i64 da) (.int .i64 db)
              replace hKO := (hKO.set ⟨w.heap.size, 0, none⟩ (by show w.heap.size < _; omega) (.int .i64 da)).set ⟨w.heap.size, 1, none⟩ (by show w.heap.size < _; omega) (.int .i64 db)
              replace hB := bS (bS hB (p := ⟨w.heap.size, 0, none⟩) (Nat.le_refl _) (.int .i64 da)) (p := ⟨w.heap.size, 1, none⟩) (Nat.le_refl _) (.int .i64 db)
              replace hb0 := hb0.set2 ⟨w.heap.size, 0, none⟩ ⟨w.heap.size, 1, none⟩ (by show w6.heap.size ≠ w.heap.size; omega) (by show w6.heap.size ≠ w.heap.size; omega) (.int .i64 da) (.int .i64 db)
              refine hK.out _ _ ⟨(hd.cell 0).trans rfl, (hd.cell 1).trans rfl⟩ (fun hS => ?_)
              clear hK K
              refine wpAnyH_ready (rs := [6]) (by kernel_rfl) (by simp) ?_
              refine AllReadyH.cons rfl (fun K hK => ?_) AllReadyH.nil
              obtain ⟨amp, hamp⟩ := hb0.two hq2
              go_simp
              refine hK.out _ _ hS (fun hS => ?_)
              clear hK K
              refine wpAnyH_ready (rs := [9]) (by kernel_rfl) (by simp) ?_
              refine AllReadyH.cons rfl (fun K hK => ?_) AllReadyH.nil
              go_simp
              refine hK.out _ _ hS (fun hS => ?_)
              clear hK K
              refine ⟨by kernel_rfl, ?_⟩
              have g0 := hz.cell 0
              have g1 := hz.cell 1
              simp only [List.getElem?_toArray, List.getElem?_cons_zero, List.getElem?_cons_succ] at g0 g1
              have HP := Lib.hid (show PtDrawn w (.returned (.tuple #[.slice A2 m2 c2, .agg #[.int .i64 da, .int .i64 db], .int .i64 amp])) _ from ⟨_, _, _, L, (da, db), amp, rfl, hKO.rd, hB⟩)
              clear hS hKO hB hd hz hb0 hamp
              go_wp2_with fail
              exact bodyPost_ret (v := .tuple #[.slice A2 m2 c2, .agg #[.int .i64 da, .int .i64 db], .int .i64 amp]) (by simp [results, Try.results31, go_sem, g0, g1]) rfl HP.out
        · go_simp
          refine hK.out _ _ hS (fun hS => ?_)
          clear hK K
          refine wpAnyH_ready (rs := [5, 8]) (by kernel_rfl) (by simp) ?_
          refine AllReadyH.cons rfl (fun K hK => ?_) (AllReadyH.cons rfl (fun K hK => ?_) AllReadyH.nil)
          · go_simp
            refine hK.out _ _ hS (fun hS => ?_)
            clear hK K
            refine wpAnyH_ready (rs := [6, 8]) (by kernel_rfl) (by simp) ?_
            refine AllReadyH.cons rfl (fun K hK => ?_) (AllReadyH.cons rfl (fun K hK => ?_) AllReadyH.nil)
            · obtain ⟨amp, hamp⟩ := hb0.two hq2
              go_simp
              refine hK.out _ _ hS (fun hS => ?_)
              clear hK K
              refine wpAnyH_ready (rs := [8]) (by kernel_rfl) (by simp) ?_
              refine AllReadyH.cons rfl (fun K hK => ?_) AllReadyH.nil
              have g0 := hz.cell 0
              have g1 := hz.cell 1
              have g2 := hz.frozen 0
              have g3 := hz.frozen 1
              simp only [List.getElem?_toArray, List.getElem?_cons_zero, List.getElem?_cons_succ] at g0 g1
              go_simp
              clear g0 g1 g2 g3
              replace hz := hz.put2 (.int .i64 da) (.int .i64 db)
              replace hd := hd.set2 ⟨w.heap.size, 0, none⟩ ⟨w.heap.size, 1, none⟩ (by show w3.heap.size ≠ w.heap.size; omega) (by show w3.heap.size ≠ w.heap.size; omega) (.int .i64 da) (.int .i64 db)
              replace hKO := (hKO.set ⟨w.heap.size, 0, none⟩ (by show w.heap.size < _; omega) (.int .i64 da)).set ⟨w.heap.size, 1, none⟩ (by show w.heap.size < _; omega) (.int .i64 db)
              replace hB := bS (bS hB (p := ⟨w.heap.size, 0, none⟩) (Nat.le_refl _) (.int .i64 da)) (p := ⟨w.heap.size, 1, none⟩) (Nat.le_refl _) (.int .i64 db)
              replace hb0 := hb0.set2 ⟨w.heap.size, 0, none⟩ ⟨w.heap.size, 1, none⟩ (by show w6.heap.size ≠ w.heap.size; omega) (by show w6.heap.size ≠ w.heap.size; omega) (.int .i64 da) (.int .i64 db)
              refine hK.out _ _ ⟨(hd.cell 0).trans rfl, (hd.cell 1).trans rfl⟩ (fun hS => ?_)
              clear hK K
              refine wpAnyH_ready (rs := [9]) (by kernel_rfl) (by simp) ?_
              refine AllReadyH.cons rfl (fun K hK => ?_) AllReadyH.nil
              go_simp
              refine hK.out _ _ hS (fun hS => ?_)
              clear hK K
              refine ⟨by kernel_rfl, ?_⟩
              have g0 := hz.cell 0
              have g1 := hz.cell 1
              simp only [List.getElem?_toArray, List.getElem?_cons_zero, List.getElem?_cons_succ] at g0 g1
              have HP := Lib.hid (show PtDrawn w (.returned (.tuple #[.slice A2 m2 c2, .agg #[.int .i64 da, .int .i64 db], .int .i64 amp])) _ from ⟨_, _, _, L, (da, db), amp, rfl, hKO.rd, hB⟩)
              clear hS hKO hB hd hz hb0 hamp
              go_wp2_with fail
              exact bodyPost_ret (v := .tuple #[.slice A2 m2 c2, .agg #[.int .i64 da, .int .i64 db], .int .i64 amp]) (by simp [results, Try.results31, go_sem, g0, g1]) rfl HP.out
            · have g0 := hz.cell 0
              have g1 := hz.cell 1
              have g2 := hz.frozen 0
              have g3 := hz.frozen 1
              simp only [List.getElem?_toArray, List.getElem?_cons_zero, List.getElem?_cons_succ] at g0 g1
              go_simp
              clear g0 g1 g2 g3
              replace hz := hz.put2 (.int .i64 da) (.int .i64 db)
              replace hd := hd.set2 ⟨w.heap.size, 0, none⟩ ⟨w.heap.size, 1, none⟩ (by show w3.heap.size ≠ w.heap.size; omega) (by show w3.heap.size ≠ w.heap.size; omega) (.int .i64 da) (.int .i64 db)
              replace hKO := (hKO.set ⟨w.heap.size, 0, none⟩ (by show w.heap.size < _; omega) (.int .i64 da)).set ⟨w.heap.size, 1, none⟩ (by show w.heap.size < _; omega) (.int .i64 db)
              replace hB := bS (bS hB (p := ⟨w.heap.size, 0, none⟩) (Nat.le_refl _) (.int .i64 da)) (p := ⟨w.heap.size, 1, none⟩) (Nat.le_refl _) (.int .i64 db)
              replace hb0 := hb0.set2 ⟨w.heap.size, 0, none⟩ ⟨w.heap.size, 1, none⟩ (by show w6.heap.size ≠ w.heap.size; omega) (by show w6.heap.size ≠ w.heap.size; omega) (.int .i64 da) (.int .i64 db)
              refine hK.out _ _ ⟨(hd.cell 0).trans rfl, (hd.cell 1).trans rfl⟩ (fun hS => ?_)
              clear hK K
              refine wpAnyH_ready (rs := [6]) (by kernel_rfl) (by simp) ?_
              refine AllReadyH.cons rfl (fun K hK => ?_) AllReadyH.nil
              obtain ⟨amp, hamp⟩ := hb0.two hq2
              go_simp
              refine hK.out _ _ hS (fun hS => ?_)
              clear hK K
              refine wpAnyH_ready (rs := [9]) (by kernel_rfl) (by simp) ?_
              refine AllReadyH.cons rfl (fun K hK => ?_) AllReadyH.nil
              go_simp
              refine hK.out _ _ hS (fun hS => ?_)
              clear hK K
              refine ⟨by kernel_rfl, ?_⟩
              have g0 := hz.cell 0
              have g1 := hz.cell 1
              simp only [List.getElem?_toArray, List.getElem?_cons_zero, List.getElem?_cons_succ] at g0 g1
              have HP := Lib.hid (show PtDrawn w (.returned (.tuple #[.slice A2 m2 c2, .agg #[.int .i64 da, .int .i64 db], .int .i64 amp])) _ from ⟨_, _, _, L, (da, db), amp, rfl, hKO.rd, hB⟩)
              clear hS hKO hB hd hz hb0 hamp
              go_wp2_with fail
              exact bodyPost_ret (v := .tuple #[.slice A2 m2 c2, .agg #[.int .i64 da, .int .i64 db], .int .i64 amp]) (by simp [results, Try.results31, go_sem, g0, g1]) rfl HP.out
          · have g0 := hz.cell 0
            have g1 := hz.cell 1
            have g2 := hz.frozen 0
            have g3 := hz.frozen 1
            simp only [List.getElem?_toArray, List.getElem?_cons_zero, List.getElem?_cons_succ] at g0 g1
            go_simp
            clear g0 g1 g2 g3
            replace hz := hz.put2 (.int .i64 da) (.int .i64 db)
            replace hd := hd.set2 ⟨w.heap.size, 0, none⟩ ⟨w.heap.size, 1, none⟩ (by show w3.heap.size ≠ w.heap.size; omega) (by show w3.heap.size ≠ w.heap.size; omega) (.int .i64 da) (.int .i64 db)
            replace hKO := (hKO.set ⟨w.heap.size, 0, none⟩ (by show w.heap.size < _; omega) (.int .i64 da)).set ⟨w.heap.size, 1, none⟩ (by show w.heap.size < _; omega) (.int .i64 db)
            replace hB := bS (bS hB (p := ⟨w.heap.size, 0, none⟩) (Nat.le_refl _) (.int .i64 da)) (p := ⟨w.heap.size, 1, none⟩) (Nat.le_refl _) (.int .i64 db)
            replace hb0 := hb0.set2 ⟨w.heap.size, 0, none⟩ ⟨w.heap.size, 1, none⟩ (by show w6.heap.size ≠ w.heap.size; omega) (by show w6.heap.size ≠ w.heap.size; omega) (.int .i64 da) (.int .i64 db)
            refine hK.out _ _ ⟨(hd.cell 0).trans rfl, (hd.cell 1).trans rfl⟩ (fun hS => ?_)
            clear hK K
            refine wpAnyH_ready (rs := [5]) (by kernel_rfl) (by simp) ?_
            refine AllReadyH.cons rfl (fun K hK => ?_) AllReadyH.nil
            go_simp
            refine hK.out _ _ hS (fun hS => ?_)
            clear hK K
            refine wpAnyH_ready (rs := [6]) (by kernel_rfl) (by simp) ?_
            refine AllReadyH.cons rfl (fun K hK => ?_) AllReadyH.nil
            obtain ⟨amp, hamp⟩ := hb0.two hq2
            go_simp
            refine hK.out _ _ hS (fun hS => ?_)
            clear hK K
            refine wpAnyH_ready (rs := [9]) (by kernel_rfl) (by simp) ?_
            refine AllReadyH.cons rfl (fun K hK => ?_) AllReadyH.nil
            go_simp
            refine hK.out _ _ hS (fun hS => ?_)
            clear hK K
            refine ⟨by kernel_rfl, ?_⟩
            have g0 := hz.cell 0
            have g1 := hz.cell 1
            simp only [List.getElem?_toArray, List.getElem?_cons_zero, List.getElem?_cons_succ] at g0 g1
            have HP := Lib.hid (show PtDrawn w (.returned (.tuple #[.slice A2 m2 c2, .agg #[.int .i64 da, .int .i64 db], .int .i64 amp])) _ from ⟨_, _, _, L, (da, db), amp, rfl, hKO.rd, hB⟩)
            clear hS hKO hB hd hz hb0 hamp
            go_wp2_with fail
            exact bodyPost_ret (v := .tuple #[.slice A2 m2 c2, .agg #[.int .i64 da, .int .i64 db], .int .i64 amp]) (by simp [results, Try.results31, go_sem, g0, g1]) rfl HP.out
      · go_simp
        refine hK.out _ _ hS (fun hS => ?_)
        clear hK K
        refine wpAnyH_ready (rs := [2, 8]) (by kernel_rfl) (by simp) ?_
        refine AllReadyH.cons rfl (fun K hK => ?_) (AllReadyH.cons rfl (fun K hK => ?_) AllReadyH.nil)
        · go_simp
          have hb0 := hd.mk' #[.int .i64 0, .int .i64 1000001] 3 (w6.heap.size) (by simp)
          have hbl := hb0.lt
          replace hd := hd.al (.cells #[.int .i64 0, .int .i64 1000001] 3)
          replace hz := hz.al (.cells #[.int .i64 0, .int .i64 1000001] 3)
          replace hKO := hKO.below (bA (b0 _) (.cells #[.int .i64 0, .int .i64 1000001] 3))
          replace hB := bA hB (.cells #[.int .i64 0, .int .i64 1000001] 3)
          refine hK.out _ _ ⟨(hd.cell 0).trans rfl, (hd.cell 1).trans rfl⟩ (fun hS => ?_)
          clear hK K
          refine wpAnyH_ready (rs := [5, 8]) (by kernel_rfl) (by simp) ?_
          refine AllReadyH.cons rfl (fun K hK => ?_) (AllReadyH.cons rfl (fun K hK => ?_) AllReadyH.nil)
          · go_simp
            refine hK.out _ _ hS (fun hS => ?_)
            clear hK K
            refine wpAnyH_ready (rs := [6, 8]) (by kernel_rfl) (by simp) ?_
            refine AllReadyH.cons rfl (fun K hK => ?_) (AllReadyH.cons rfl (fun K hK => ?_) AllReadyH.nil)
            · obtain ⟨amp, hamp⟩ := hb0.two hq2
              go_simp
              refine hK.out _ _ hS (fun hS => ?_)
              clear hK K
              refine wpAnyH_ready (rs := [8]) (by kernel_rfl) (by simp) ?_
              refine AllReadyH.cons rfl (fun K hK => ?_) AllReadyH.nil
              have g0 := hz.cell 0
              have g1 := hz.cell 1
              have g2 := hz.frozen 0
              have g3 := hz.frozen 1
              simp only [List.getElem?_toArray, List.getElem?_cons_zero, List.getElem?_cons_succ] at g0 g1
              go_simp
              clear g0 g1 g2 g3
              replace hz := hz.put2 (.int .i64 da) (.int .i64 db)
              replace hd := hd.set2 ⟨w.heap.size, 0, none⟩ ⟨w.heap.size, 1, none⟩ (by show w3.heap.size ≠ w.heap.size; omega) (by show w3.heap.size ≠ w.heap.size; omega) (.int .i64 da) (.int .i64 db)
              replace hKO := (hKO.set ⟨w.heap.size, 0, none⟩ (by show w.heap.size < _; omega) (.int .i64 da)).set ⟨w.heap.size, 1, none⟩ (by show w.heap.size < _; omega) (.int .i64 db)
              replace hB := bS (bS hB (p := ⟨w.heap.size, 0, none⟩) (Nat.le_refl _) (.int .i64 da)) (p := ⟨w.heap.size, 1, none⟩) (Nat.le_refl _) (.int .i64 db)
              replace hb0 := hb0.set2 ⟨w.heap.size, 0, none⟩ ⟨w.heap.size, 1, none⟩ (by show w6.heap.size ≠ w.heap.size; omega) (by show w6.heap.size ≠ w.heap.size; omega) (.int .i64 da) (.int .i64 db)
              refine hK.out _ _ ⟨(hd.cell 0).trans rfl, (hd.cell 1).trans rfl⟩ (fun hS => ?_)
              clear hK K
              refine wpAnyH_ready (rs := [9]) (by kernel_rfl) (by simp) ?_
              refine AllReadyH.cons rfl (fun K hK => ?_) AllReadyH.nil
              go_simp
              refine hK.out _ _ hS (fun hS => ?_)
              clear hK K
              refine ⟨by kernel_rfl, ?_⟩
              have g0 := hz.cell 0
              have g1 := hz.cell 1
              simp only [List.getElem?_toArray, List.getElem?_cons_zero, List.getElem?_cons_succ] at g0 g1
              have HP := Lib.hid (show PtDrawn w (.returned (.tuple #[.slice A2 m2 c2, .agg #[.int .i64 da, .int .i64 db], .int .i64 amp])) _ from ⟨_, _, _, L, (da, db), amp, rfl, hKO.rd, hB⟩)
              clear hS hKO hB hd hz hb0 hamp
              go_wp2_with fail
              exact bodyPost_ret (v := .tuple #[.slice A2 m2 c2, .agg #[.int .i64 da, .int .i64 db], .int .i64 amp]) (by simp [results, Try.results31, go_sem, g0, g1]) rfl HP.out
            · have g0 := hz.cell 0
              have g1 := hz.cell 1
              have g2 := hz.frozen 0
              have g3 := hz.frozen 1
              simp only [List.getElem?_toArray, List.getElem?_cons_zero, List.getElem?_cons_succ] at g0 g1
              go_simp
              clear g0 g1 g2 g3
              replace hz := hz.put2 (.int .i64 da) (.int .i64 db)
              replace hd := hd.set2 ⟨w.heap.size, 0, none⟩ ⟨w.heap.size, 1, none⟩ (by show w3.heap.size ≠ w.heap.size; omega) (by show w3.heap.size ≠ w.heap.size; omega) (.int .i64 da) (.int .i64 db)
              replace hKO := (hKO.set ⟨w.heap.size, 0, none⟩ (by show w.heap.size < _; omega) (.int .i64 da)).set ⟨w.heap.size, 1, none⟩ (by show w.heap.size < _; omega) (.int .i64 db)
              replace hB := bS (bS hB (p := ⟨w.heap.size, 0, none⟩) (Nat.le_refl _) (.int .i64 da)) (p := ⟨w.heap.size, 1, none⟩) (Nat.le_refl _) (.int .i64 db)
              replace hb0 := hb0.set2 ⟨w.heap.size, 0, none⟩ ⟨w.heap.size, 1, none⟩ (by show w6.heap.size ≠ w.heap.size; omega) (by show w6.heap.size ≠ w.heap.size; omega) (.int .i64 da) (.int .i64 db)
              refine hK.out _ _ ⟨(hd.cell 0).trans rfl, (hd.cell 1).trans rfl⟩ (fun hS => ?_)
              clear hK K
              refine wpAnyH_ready (rs := [6]) (by kernel_rfl) (by simp) ?_
              refine AllReadyH.cons rfl (fun K hK => ?_) AllReadyH.nil
              obtain ⟨amp, hamp⟩ := hb0.two hq2
              go_simp
              refine hK.out _ _ hS (fun hS => ?_)
              clear hK K
              refine wpAnyH_ready (rs := [9]) (by kernel_rfl) (by simp) ?_
              refine AllReadyH.cons rfl (fun K hK => ?_) AllReadyH.nil
              go_simp
              refine hK.out _ _ hS (fun hS => ?_)
              clear hK K
              refine ⟨by kernel_rfl, ?_⟩
              have g0 := hz.cell 0
              have g1 := hz.cell 1
              simp only [List.getElem?_toArray, List.getElem?_cons_zero, List.getElem?_cons_succ] at g0 g1
              have HP := Lib.hid (show PtDrawn w (.returned (.tuple #[.slice A2 m2 c2, .agg #[.int .i64 da, .int .i64 db], .int .i64 amp])) _ from ⟨_, _, _, L, (da, db), amp, rfl, hKO.rd, hB⟩)
              clear hS hKO hB hd hz hb0 hamp
              go_wp2_with fail
              exact bodyPost_ret (v := .tuple #[.slice A2 m2 c2, .agg #[.int .i64 da, .int .i64 db], .int .i64 amp]) (by simp [results, Try.results31, go_sem, g0, g1]) rfl HP.out
          · have g0 := hz.cell 0
            have g1 := hz.cell 1
            have g2 := hz.frozen 0
            have g3 := hz.frozen 1
            simp only [List.getElem?_toArray, List.getElem?_cons_zero, List.getElem?_cons_succ] at g0 g1
            go_simp
            clear g0 g1 g2 g3
            replace hz := hz.put2 (.int .i64 da) (.int .i64 db)
            replace hd := hd.set2 ⟨w.heap.size, 0, none⟩ ⟨w.heap.size, 1, none⟩ (by show w3.heap.size ≠ w.heap.size; omega) (by show w3.heap.size ≠ w.heap.size; omega) (.int .i64 da) (.int .i64 db)
            replace hKO := (hKO.set ⟨w.heap.size, 0, none⟩ (by show w.heap.size < _; omega) (.int .i64 da)).set ⟨w.heap.size, 1, none⟩ (by show w.heap.size < _; omega) (.int .i64 db)
            replace hB := bS (bS hB (p := ⟨w.heap.size, 0, none⟩) (Nat.le_refl _) (.int .i64 da)) (p := ⟨w.heap.size, 1, none⟩) (Nat.le_refl _) (.int .i64 db)
            replace hb0 := hb0.set2 ⟨w.heap.size, 0, none⟩ ⟨w.heap.size, 1, none⟩ (by show w6.heap.size ≠ w.heap.size; omega) (by show w6.heap.size ≠ w.heap.size; omega) (.int .i64 da) (.int .i64 db)
            refine hK.out _ _ ⟨(hd.cell 0).trans rfl, (hd.cell 1).trans rfl⟩ (fun hS => ?_)
            clear hK K
            refine wpAnyH_ready (rs := [5]) (by kernel_rfl) (by simp) ?_
            refine AllReadyH.cons rfl (fun K hK => ?_) AllReadyH.nil
            go_simp
            refine hK.out _ _ hS (fun hS => ?_)
            clear hK K
            refine wpAnyH_ready (rs := [6]) (by kernel_rfl) (by simp) ?_
            refine AllReadyH.cons rfl (fun K hK => ?_) AllReadyH.nil
            obtain ⟨amp, hamp⟩ := hb0.two hq2
            go_simp
            refine hK.out _ _ hS (fun hS => ?_)
            clear hK K
            refine wpAnyH_ready (rs := [9]) (by kernel_rfl) (by simp) ?_
            refine AllReadyH.cons rfl (fun K hK => ?_) AllReadyH.nil
            go_simp
            refine hK.out _ _ hS (fun hS => ?_)
            clear hK K
            refine ⟨by kernel_rfl, ?_⟩
            have g0 := hz.cell 0
            have g1 := hz.cell 1
            simp only [List.getElem?_toArray, List.getElem?_cons_zero, List.getElem?_cons_succ] at g0 g1
            have HP := Lib.hid (show PtDrawn w (.returned (.tuple #[.slice A2 m2 c2, .agg #[.int .i64 da, .int .i64 db], .int .i64 amp])) _ from ⟨_, _, _, L, (da, db), amp, rfl, hKO.rd, hB⟩)
            clear hS hKO hB hd hz hb0 hamp
            go_wp2_with fail
            exact bodyPost_ret (v := .tuple #[.slice A2 m2 c2, .agg #[.int .i64 da, .int .i64 db], .int .i64 amp]) (by simp [results, Try.results31, go_sem, g0, g1]) rfl HP.out
        · have g0 := hz.cell 0
          have g1 := hz.cell 1
          have g2 := hz.frozen 0
          have g3 := hz.frozen 1
          simp only [List.getElem?_toArray, List.getElem?_cons_zero, List.getElem?_cons_succ] at g0 g1
          go_simp
          clear g0 g1 g2 g3
          replace hz := hz.put2 (.int .i64 da) (.int .i64 db)
          replace hd := hd.set2 ⟨w.heap.size, 0, none⟩ ⟨w.heap.size, 1, none⟩ (by show w3.heap.size ≠ w.heap.size; omega) (by show w3.heap.size ≠ w.heap.size; omega) (.int .i64 da) (.int .i64 db)
          replace hKO := (hKO.set ⟨w.heap.size, 0, none⟩ (by show w.heap.size < _; omega) (.int .i64 da)).set ⟨w.heap.size, 1, none⟩ (by show w.heap.size < _; omega) (.int .i64 db)
          replace hB := bS (bS hB (p := ⟨w.heap.size, 0, none⟩) (Nat.le_refl _) (.int .i64 da)) (p := ⟨w.heap.size, 1, none⟩) (Nat.le_refl _) (.int .i64 db)
          refine hK.out _ _ ⟨(hd.cell 0).trans rfl, (hd.cell 1).trans rfl⟩ (fun hS => ?_)
          clear hK K
          refine wpAnyH_ready (rs := [2]) (by kernel_rfl) (by simp) ?_
          refine AllReadyH.cons rfl (fun K hK => ?_) AllReadyH.nil
          go_simp
          have hb0 := hd.mk' #[.int .i64 0, .int .i64 1000001] 3 (w6.heap.size) (by simp)
          have hbl := hb0.lt
          replace hd := hd.al (.cells #[.int .i64 0, .int .i64 1000001] 3)
          replace hz := hz.al (.cells #[.int .i64 0, .int .i64 1000001] 3)
          replace hKO := hKO.below (bA (b0 _) (.cells #[.int .i64 0, .int .i64 1000001] 3))
          replace hB := bA hB (.cells #[.int .i64 0, .int .i64 1000001] 3)
          refine hK.out _ _ ⟨(hd.cell 0).trans rfl, (hd.cell 1).trans rfl⟩ (fun hS => ?_)
          clear hK K
          refine wpAnyH_ready (rs := [5]) (by kernel_rfl) (by simp) ?_
          refine AllReadyH.cons rfl (fun K hK => ?_) AllReadyH.nil
          go_simp
          refine hK.out _ _ hS (fun hS => ?_)
          clear hK K
          refine wpAnyH_ready (rs := [6]) (by kernel_rfl) (by simp) ?_
          refine AllReadyH.cons rfl (fun K hK => ?_) AllReadyH.nil
          obtain ⟨amp, hamp⟩ := hb0.two hq2
          go_simp
          refine hK.out _ _ hS (fun hS => ?_)
          clear hK K
          refine wpAnyH_ready (rs := [9]) (by kernel_rfl) (by simp) ?_
          refine AllReadyH.cons rfl (fun K hK => ?_) AllReadyH.nil
          go_simp
          refine hK.out _ _ hS (fun hS => ?_)
          clear hK K
          refine ⟨by kernel_rfl, ?_⟩
          have g0 := hz.cell 0
          have g1 := hz.cell 1
          simp only [List.getElem?_toArray, List.getElem?_cons_zero, List.getElem?_cons_succ] at g0 g1
          have HP := Lib.hid (show PtDrawn w (.returned (.tuple #[.slice A2 m2 c2, .agg #[.int .i64 da, .int .i64 db], .int .i64 amp])) _ from ⟨_, _, _, L, (da, db), amp, rfl, hKO.rd, hB⟩)
          clear hS hKO hB hd hz hb0 hamp
          go_wp2_with fail
          exact bodyPost_ret (v := .tuple #[.slice A2 m2 c2, .agg #[.int .i64 da, .int .i64 db], .int .i64 amp]) (by simp [results, Try.results31, go_sem, g0, g1]) rfl HP.out
  · have e0 : (y == 0) = false := by simp [y0]
    clear y0
    go_wp2_with fail
    refine wp_region_held_drew (S := fun W' => W'.cell? ⟨w3.heap.size, 0, none⟩ = some (.int .i64 da) ∧ W'.cell? ⟨w3.heap.size, 1, none⟩ = some (.int .i64 db)) (by kernel_rfl) ⟨(hd5.cell 0).trans rfl, (hd5.cell 1).trans rfl⟩ (fun hS => ?_)
    refine wpAnyH_take (i := 0) (v := .slice A2 m2 c2) rfl (by kernel_rfl) (by kernel_rfl) (by kernel_rfl) (fun _ _ _ h => h) (Or.inl ⟨by rfl, fun ww hSw => ?_⟩) hS ?_
    · obtain ⟨t0, t1⟩ := hSw; go_simp
    refine wpAnyH_take (i := 1) (v := .agg #[.int .i64 da, .int .i64 db]) rfl (by kernel_rfl) (by kernel_rfl) (by kernel_rfl) (fun _ _ _ h => h) (Or.inl ⟨by rfl, fun ww hSw => ?_⟩) hS ?_
    · obtain ⟨t0, t1⟩ := hSw; go_simp
    refine wpAnyH_take (i := 2) (v := .pointer (some ⟨w.heap.size + 1, 0, none⟩)) rfl (by kernel_rfl) (by kernel_rfl) (by kernel_rfl) (fun _ _ _ h => h) (Or.inl ⟨by rfl, fun ww hSw => ?_⟩) hS ?_
    · obtain ⟨t0, t1⟩ := hSw; go_simp
    refine wpAnyH_ready (rs := [3]) (by kernel_rfl) (by simp) ?_
    refine AllReadyH.cons rfl (fun K hK => ?_) AllReadyH.nil
    go_simp
    refine (pick_any _ _ _ 50 _ (hr5.after (Below.drew (b0 w5))) (by omega) (by omega) (by omega)).mono ?_
    rintro e w6 ⟨x, rfl, x1, x2, hr6, hg6⟩
    have hw1 : IntKind.i64.wrap (1 + x) = 1 + x := IntWalk.i64_in _ (by omega)
    have hz6 : Bx w6 w.heap.size #[.int .i64 0, .int .i64 0] 38 := (hg6.block _ (hz5).lt (fun e => by injection e; omega)).trans (hz5)
    have hd6 : Bx w6 w3.heap.size #[.int .i64 da, .int .i64 db] 38 := (hg6.block _ (hd5).lt (fun e => by injection e; omega)).trans (hd5)
    have hKO6 := (hKO5.below (Below.drew (b0 w5))).g hg6 hRlt
    have hB6 := below_of_g (hB5.drew) hg6 (by omega)
    have g0 := hz6.cell 0
    have g1 := hz6.cell 1
    have g2 := hz6.frozen 0
    have g3 := hz6.frozen 1
    simp only [List.getElem?_toArray, List.getElem?_cons_zero, List.getElem?_cons_succ] at g0 g1
    refine hK.out _ _ ⟨(hd6.cell 0).trans rfl, (hd6.cell 1).trans rfl⟩ (fun hS => ?_)
    clear hK K
    refine wpAnyH_take (i := 4) (v := .int .i64 (1 + x)) rfl (by kernel_rfl) (by kernel_rfl) (by kernel_rfl) (fun _ _ _ h => h) (Or.inl ⟨by rfl, fun ww hSw => ?_⟩) hS ?_
    · obtain ⟨t0, t1⟩ := hSw; go_simp
    refine wpAnyH_ready (rs := [5]) (by kernel_rfl) (by simp) ?_
    refine AllReadyH.cons rfl (fun K hK => ?_) AllReadyH.nil
    go_simp
    refine hK.out _ _ hS (fun hS => ?_)
    clear hK K
    refine wpAnyH_ready (rs := [6]) (by kernel_rfl) (by simp) ?_
    refine AllReadyH.cons rfl (fun K hK => ?_) AllReadyH.nil
    go_simp
    refine hK.out _ _ ⟨(World.cell?_setCell_other _ _ _ _ (by simp)).trans ((World.cell?_setCell_other _ _ _ _ (by simp)).trans hS.1), (World.cell?_setCell_other _ _ _ _ (by simp)).trans ((World.cell?_setCell_other _ _ _ _ (by simp)).trans hS.2)⟩ (fun hS => ?_)
    clear hK K
    refine wpAnyH_ready (rs := [7]) (by kernel_rfl) (by simp) ?_
    refine AllReadyH.cons rfl (fun K hK => ?_) AllReadyH.nil
    go_simp
    refine hK.out _ _ hS (fun hS => ?_)
    clear hK K
    refine ⟨by kernel_rfl, ?_⟩
    obtain ⟨hP, s1, s2⟩ := HF.out w6 (1 + x) hz6 hKO6 hB6
    have HP := Lib.hid hP
    clear hP hS g0 g1 g2 g3 hz6 hd6 hKO6 hB6 hd5 hz5 hKO5 hB5
    go_wp2_with fail
    exact bodyPost_ret (v := .tuple #[.slice A2 m2 c2, .agg #[.int .i64 da, .int .i64 db], .int .i64 (1 + x)]) (by simp [results, Try.results31, go_sem, s1, s2]) rfl HP.out

end Go.Proofs.Ytjpklbkeofjppaa
