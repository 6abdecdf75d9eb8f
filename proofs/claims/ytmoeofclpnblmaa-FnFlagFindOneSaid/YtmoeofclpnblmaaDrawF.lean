/- Contracts: what the laws on solving draw. Written by drawfgen.py. -/
import Derived.Test.YtmoeofclpnblmaaApplied
import Derived.Deep.RegionHeld
namespace Go.Proofs.Ytmoeofclpnblmaa
open Go.RowKit

theorem own_set_other {w : World} {base : Nat} {e : TypeId} {size n c g : Nat} {xs : List Value} (h : w.ownsRow base e size (.slice (some ⟨g, 0, none⟩) n c) n xs) (p : Addr) (hne : g ≠ p.block) (u : Value) : (w.setCell p u).ownsRow base e size (.slice (some ⟨g, 0, none⟩) n c) n xs := by
  obtain ⟨h1, h2⟩ := h
  refine ⟨h1, ?_⟩
  rcases h2 with ⟨h2, h3⟩ | ⟨g', cap, cur, hv, hg, hh, r⟩
  · exact .inl ⟨h2, h3⟩
  · have e1 : g = g' := by simp only [Value.slice.injEq, Option.some.injEq, Addr.mk.injEq] at hv; exact hv.1.1
    subst e1
    exact .inr ⟨g, cap, cur, hv, hg, (heap_setCell_other w p g u hne).trans hh, r⟩
theorem DRow.after {w wr w' : World} {R B N : Nat} {T : TypeId} {size : Nat} {v : Value} {n : Nat} {xs : List Value} (h : DRow w R B N T size v n xs wr) (hb : Below wr.heap.size wr w') : DRow w R B N T size v n xs w' :=
  ⟨own_after h.own hb, h.rdr.after hb, gTrans h.grown (gBelow hb _), h.lt⟩
def TwoDrawn (w : World) (e : Ending) (w' : World) : Prop := ∃ (n : Nat) (A : Option Addr) (m c : Nat) (L : List (Int × Int)) (A' : Option Addr) (m' c' : Nat) (M : List (Int × Int)), (2 ≤ n ∧ n ≤ 7) ∧ e = .returned (.tuple #[.int .i64 n, .slice A m c, .slice A' m' c']) ∧
  Rd w' w'.heap.size 2 A m c (cp L) ∧ Rd w' w'.heap.size 2 A' m' c' (cp M) ∧ Below w.heap.size w w'
theorem TwoDrawn.of {w w1 w3 w' : World} {B N n c m' c' : Nat} {A A' : Option Addr} {L M : List (Int × Int)} (hb : Below w.heap.size w w1) (hg : w1.grownBy w3 (some w.heap.size)) (hn : 2 ≤ n ∧ n ≤ 7)
    (hD : DRow w3 w.heap.size B N 41 2 (.slice A L.length c) L.length (cp L) w') (hKB : KB w.heap.size w3 2 A' m' c' (cp M)) : TwoDrawn w (.returned (.tuple #[.int .i64 n, .slice A L.length c, .slice A' m' c'])) w' :=
  ⟨n, _, _, _, L, _, _, _, M, hn, rfl, Rd.of_own hD.own, hKB.rd hD.grown, below_of_g (below_of_g hb hg (Nat.le_refl _)) hD.grown (Nat.le_refl _)⟩
theorem TwoDrawn.of' {w w1 w3 w' : World} {B N n c m' c' q : Nat} {A A' : Option Addr} {L M : List (Int × Int)} (hb : Below w.heap.size w w1) (hg : w1.grownBy w3 (some w.heap.size)) (hn : 2 ≤ n ∧ n ≤ 7)
    (hD : DRow w3 w.heap.size B N 41 2 (.slice A q c) q (cp L) w') (hKB : KB w.heap.size w3 2 A' m' c' (cp M)) : TwoDrawn w (.returned (.tuple #[.int .i64 n, .slice A q c, .slice A' m' c'])) w' :=
  ⟨n, _, _, _, L, _, _, _, M, hn, rfl, Rd.of_own hD.own, hKB.rd hD.grown, below_of_g (below_of_g hb hg (Nat.le_refl _)) hD.grown (Nat.le_refl _)⟩
set_option maxHeartbeats 2000000 in
theorem DrawSolvePhases_any (A : Option Addr) (n c : Nat) (bs : List Int) (w : World) (h : Rd w w.heap.size 1 A n c (cb bs)) (hx : ∀ x ∈ bs, 0 ≤ x ∧ x ≤ 255) (hn : n ≤ 1048576) : Calls Try.prog 41 #[.slice A n c] w (TwoDrawn w) := by
  have HX := Lib.hid hx
  clear hx
  go_enter Try.func41, Try.ntmps41
  go_wp2_with fail
  refine (l6Open_any _ _ _ bs _ h HX.out hn).mono ?_
  rintro e w1 ⟨rfl, hr, hb⟩
  go_wp2_with fail
  refine (l92Applied_any _ _ _ 2 _ hr (by omega) (by omega) (by omega)).mono ?_
  rintro e w2 ⟨w3, N, v, L, A', m', c', M, hN, _, rfl, hD, hKB, hg⟩
  obtain ⟨A2, c2, rfl⟩ := own_form hD.own
  have H := Lib.hid (TwoDrawn.of hb hg hN hD hKB)
  clear hD hKB hg hb hr
  go_wp2_with fail
  exact bodyPost_ret (by simp [results, Try.results41, go_sem]) rfl H.out
set_option maxRecDepth 100000 in
set_option maxHeartbeats 4000000 in
theorem DrawFlagFind_any (A : Option Addr) (n c : Nat) (bs : List Int) (w : World) (h : Rd w w.heap.size 1 A n c (cb bs)) (hx : ∀ x ∈ bs, 0 ≤ x ∧ x ≤ 255) (hn : n ≤ 1048576) : Calls Try.prog 39 #[.slice A n c] w (TwoDrawn w) := by
  have HX := Lib.hid hx
  clear hx
  go_enter Try.func39, Try.ntmps39
  go_wp2_with fail
  refine (l6Open_any _ _ _ bs _ h HX.out hn).mono ?_
  rintro e w1 ⟨rfl, hr, hb⟩
  go_wp2_with fail
  refine (l92Applied_any _ _ _ 3 _ hr (by omega) (by omega) (by omega)).mono ?_
  rintro e w2 ⟨w3, N, v, L, A', m', c', M, hN, _, rfl, hD, hKB, hg⟩
  obtain ⟨A2, c2, rfl⟩ := own_form hD.own
  clear hr
  by_cases hL : (L.length : Int) = Vm.bmany N
  · have hd : ((L.length : Int) == Vm.bmany N) = true := by simp [hL]
    have hpos : 0 < L.length := by
      have := Vm.bidx_bd (n := N) (i := 0) (j := 1) (by omega) (by omega) (by omega) (by omega)
      omega
    have h21 : L.length ≤ 21 := by have := Vm.bmany_le N; omega
    clear hL
    obtain ⟨g, cg, eg⟩ := hD.form hpos
    simp only [Value.slice.injEq, true_and] at eg
    obtain ⟨rfl, rfl⟩ := eg
    go_wp2_with (go_at_call 46; refine (sBaseMany_any _ _).mono ?_; rintro e w' ⟨rfl, rfl⟩)
    refine (pick_any _ _ _ 3 _ hD.rdr (by omega) (by omega) (by omega)).mono ?_
    rintro e w4 ⟨x, rfl, x1, x2, hr4, hg4⟩
    have hD4 := hD.pick hr4 hg4
    clear hD hr4 hg4 hd
    by_cases hx0 : 0 < x
    · go_wp2_with fail
      refine (pick_any _ _ _ L.length _ hD4.rdr (by omega) (by omega) (by omega)).mono ?_
      rintro e w5 ⟨k, rfl, k1, k2, hr5, hg5⟩
      have hD5 := hD4.pick hr5 hg5
      clear hD4 hr5 hg5
      obtain ⟨q, rfl⟩ := Vm.nat_of k1
      have hql : q < L.length := by omega
      obtain ⟨c1, c2', f1, f2⟩ := hD5.cellV q hql
      obtain ⟨p, hp⟩ : ∃ p, L[q] = p := ⟨_, rfl⟩
      rw [hp] at c1 c2'
      have HP := Lib.hid hp
      clear hp
      obtain ⟨p1, hp1⟩ : ∃ p1, IntKind.i64.wrap (p.2 + 1) = p1 := ⟨_, rfl⟩
      go_wp2_with fail
      refine wp_region_held_drew (S := fun _ => True) (by kernel_rfl) trivial (fun hS => ?_)
      refine wpAnyH_take (i := 0) (v := .slice (some ⟨g, 0, none⟩) L.length c2) rfl (by kernel_rfl) (by kernel_rfl) (by kernel_rfl) (fun _ _ _ h => h) (Or.inl ⟨by rfl, fun ww hSw => ?_⟩) hS ?_
      · go_simp
      refine wpAnyH_take (i := 1) (v := .int .i64 q) rfl (by kernel_rfl) (by kernel_rfl) (by kernel_rfl) (fun _ _ _ h => h) (Or.inl ⟨by rfl, fun ww hSw => ?_⟩) hS ?_
      · go_simp
      refine wpAnyH_take (i := 2) (v := .slice (some ⟨g, 0, none⟩) L.length c2) rfl (by kernel_rfl) (by kernel_rfl) (by kernel_rfl) (fun _ _ _ h => h) (Or.inl ⟨by rfl, fun ww hSw => ?_⟩) hS ?_
      · go_simp
      refine wpAnyH_take (i := 3) (v := .int .i64 q) rfl (by kernel_rfl) (by kernel_rfl) (by kernel_rfl) (fun _ _ _ h => h) (Or.inl ⟨by rfl, fun ww hSw => ?_⟩) hS ?_
      · go_simp
      refine wpAnyH_take (i := 4) (v := .pointer (some ⟨g, q * 2, none⟩)) rfl (by kernel_rfl) (by kernel_rfl) (by kernel_rfl) (fun _ _ _ h => h) (Or.inl ⟨by rfl, fun ww hSw => ?_⟩) hS ?_
      · go_simp
      refine wpAnyH_take (i := 5) (v := .pointer (some ⟨g, q * 2 + 1, none⟩)) rfl (by kernel_rfl) (by kernel_rfl) (by kernel_rfl) (fun _ _ _ h => h) (Or.inl ⟨by rfl, fun ww hSw => ?_⟩) hS ?_
      · go_simp
      refine wpAnyH_take (i := 8) (v := .pointer (some ⟨w.heap.size, 0, none⟩)) rfl (by kernel_rfl) (by kernel_rfl) (by kernel_rfl) (fun _ _ _ h => h) (Or.inl ⟨by rfl, fun ww hSw => ?_⟩) hS ?_
      · go_simp
      refine wpAnyH_ready (rs := [6, 9]) (by kernel_rfl) (by simp) ?_
      refine AllReadyH.cons rfl (fun K hK => ?_) (AllReadyH.cons rfl (fun K hK => ?_) AllReadyH.nil)
      · go_simp
        refine hK.out _ _ trivial (fun hS => ?_)
        clear hK K
        refine wpAnyH_take (i := 7) (v := .int .i64 p1) rfl (by kernel_rfl) (by kernel_rfl) (by kernel_rfl) (fun _ _ _ h => h) (Or.inl ⟨by rfl, fun ww hSw => ?_⟩) hS ?_
        · go_simp
        refine wpAnyH_ready (rs := [9]) (by kernel_rfl) (by simp) ?_
        refine AllReadyH.cons rfl (fun K hK => ?_) AllReadyH.nil
        go_simp
        refine (pick_any _ _ _ 200 _ (hD5.after (Below.drew (b0 w5))).rdr (by omega) (by omega) (by omega)).mono ?_
        rintro e w6 ⟨z, rfl, z1, z2, hr6, hg6⟩
        have hD6 := (hD5.after (Below.drew (b0 w5))).pick hr6 hg6
        obtain ⟨d1, d2, d3, d4⟩ := hD6.cellV q hql
        rw [HP.out] at d1 d2
        have HH := Lib.hid (show ∀ z : Int, TwoDrawn w (.returned (.tuple #[.int .i64 N, .slice (some ⟨g, 0, none⟩) L.length c2, .slice A' m' c'])) (w6.setCell ⟨g, q * 2 + 1, none⟩ (.int .i64 z)) from fun z => by obtain ⟨L', hL', hD7⟩ := hD6.setV (q * 2 + 1) z; exact TwoDrawn.of' hb hg hN hD7 hKB)
        refine hK.out _ _ trivial (fun hS => ?_)
        clear hK K
        refine wpAnyH_ready (rs := [10]) (by kernel_rfl) (by simp) ?_
        refine AllReadyH.cons rfl (fun K hK => ?_) AllReadyH.nil
        go_simp
        refine hK.out _ _ trivial (fun hS => ?_)
        clear hK K
        refine wpAnyH_ready (rs := [11]) (by kernel_rfl) (by simp) ?_
        refine AllReadyH.cons rfl (fun K hK => ?_) AllReadyH.nil
        go_simp
        refine (sPhaseOf_any _ _).mono ?_
        rintro e w' ⟨rfl, rfl⟩
        refine hK.out _ _ trivial (fun hS => ?_)
        clear hK K
        refine wpAnyH_take (i := 12) (v := .pointer (some ⟨g, q * 2, none⟩)) rfl (by kernel_rfl) (by kernel_rfl) (by kernel_rfl) (fun _ _ _ h => h) (Or.inl ⟨by rfl, fun ww hSw => ?_⟩) hS ?_
        · go_simp
        refine wpAnyH_take (i := 13) (v := .pointer (some ⟨g, q * 2 + 1, none⟩)) rfl (by kernel_rfl) (by kernel_rfl) (by kernel_rfl) (fun _ _ _ h => h) (Or.inl ⟨by rfl, fun ww hSw => ?_⟩) hS ?_
        · go_simp
        refine wpAnyH_ready (rs := [14]) (by kernel_rfl) (by simp) ?_
        refine AllReadyH.cons rfl (fun K hK => ?_) AllReadyH.nil
        go_simp
        refine hK.out _ _ trivial (fun hS => ?_)
        clear hK K
        refine ⟨by kernel_rfl, ?_⟩
        clear hp1 hS c1 c2' f1 f2 d1 d2 d3 d4 hD5 hD6
        go_wp2_with fail
        exact bodyPost_ret (by simp [results, Try.results39, go_sem]) rfl (HH.out _)
      · go_simp
        refine (pick_any _ _ _ 200 _ (hD5.after (Below.drew (b0 w5))).rdr (by omega) (by omega) (by omega)).mono ?_
        rintro e w6 ⟨z, rfl, z1, z2, hr6, hg6⟩
        have hD6 := (hD5.after (Below.drew (b0 w5))).pick hr6 hg6
        obtain ⟨d1, d2, d3, d4⟩ := hD6.cellV q hql
        rw [HP.out] at d1 d2
        have HH := Lib.hid (show ∀ z : Int, TwoDrawn w (.returned (.tuple #[.int .i64 N, .slice (some ⟨g, 0, none⟩) L.length c2, .slice A' m' c'])) (w6.setCell ⟨g, q * 2 + 1, none⟩ (.int .i64 z)) from fun z => by obtain ⟨L', hL', hD7⟩ := hD6.setV (q * 2 + 1) z; exact TwoDrawn.of' hb hg hN hD7 hKB)
        refine hK.out _ _ trivial (fun hS => ?_)
        clear hK K
        refine wpAnyH_ready (rs := [6]) (by kernel_rfl) (by simp) ?_
        refine AllReadyH.cons rfl (fun K hK => ?_) AllReadyH.nil
        go_simp
        refine hK.out _ _ trivial (fun hS => ?_)
        clear hK K
        refine wpAnyH_take (i := 7) (v := .int .i64 p1) rfl (by kernel_rfl) (by kernel_rfl) (by kernel_rfl) (fun _ _ _ h => h) (Or.inl ⟨by rfl, fun ww hSw => ?_⟩) hS ?_
        · go_simp
        refine wpAnyH_ready (rs := [10]) (by kernel_rfl) (by simp) ?_
        refine AllReadyH.cons rfl (fun K hK => ?_) AllReadyH.nil
        go_simp
        refine hK.out _ _ trivial (fun hS => ?_)
        clear hK K
        refine wpAnyH_ready (rs := [11]) (by kernel_rfl) (by simp) ?_
        refine AllReadyH.cons rfl (fun K hK => ?_) AllReadyH.nil
        go_simp
        refine (sPhaseOf_any _ _).mono ?_
        rintro e w' ⟨rfl, rfl⟩
        refine hK.out _ _ trivial (fun hS => ?_)
        clear hK K
        refine wpAnyH_take (i := 12) (v := .pointer (some ⟨g, q * 2, none⟩)) rfl (by kernel_rfl) (by kernel_rfl) (by kernel_rfl) (fun _ _ _ h => h) (Or.inl ⟨by rfl, fun ww hSw => ?_⟩) hS ?_
        · go_simp
        refine wpAnyH_take (i := 13) (v := .pointer (some ⟨g, q * 2 + 1, none⟩)) rfl (by kernel_rfl) (by kernel_rfl) (by kernel_rfl) (fun _ _ _ h => h) (Or.inl ⟨by rfl, fun ww hSw => ?_⟩) hS ?_
        · go_simp
        refine wpAnyH_ready (rs := [14]) (by kernel_rfl) (by simp) ?_
        refine AllReadyH.cons rfl (fun K hK => ?_) AllReadyH.nil
        go_simp
        refine hK.out _ _ trivial (fun hS => ?_)
        clear hK K
        refine ⟨by kernel_rfl, ?_⟩
        clear hp1 hS c1 c2' f1 f2 d1 d2 d3 d4 hD5 hD6
        go_wp2_with fail
        exact bodyPost_ret (by simp [results, Try.results39, go_sem]) rfl (HH.out _)
    · have e0 : decide (0 < x) = false := by simpa using hx0
      have H := Lib.hid (TwoDrawn.of hb hg hN hD4 hKB)
      clear hD4 hKB hg hb hx0
      go_wp2_with fail
      exact bodyPost_ret (by simp [results, Try.results39, go_sem]) rfl H.out
  · have hd : ((L.length : Int) == Vm.bmany N) = false := by simp [hL]
    have H := Lib.hid (TwoDrawn.of hb hg hN hD hKB)
    clear hD hKB hg hb hL
    go_wp2_with (go_at_call 46; refine (sBaseMany_any _ _).mono ?_; rintro e w' ⟨rfl, rfl⟩)
    exact bodyPost_ret (by simp [results, Try.results39, go_sem]) rfl H.out
def FourDrawn (w : World) (e : Ending) (w' : World) : Prop := ∃ (n : Nat) (A : Option Addr) (m c : Nat) (L : List (Int × Int)) (A' : Option Addr) (m' c' : Nat) (M : List (Int × Int)) (A'' : Option Addr) (m'' c'' : Nat) (F : List Bool), (2 ≤ n ∧ n ≤ 7) ∧
  e = .returned (.tuple #[.int .i64 n, .slice A m c, .slice A' m' c', .slice A'' m'' c'']) ∧ Rd w' w'.heap.size 2 A m c (cp L) ∧ Rd w' w'.heap.size 2 A' m' c' (cp M) ∧ Rd w' w'.heap.size 1 A'' m'' c'' (cbo F) ∧ Below w.heap.size w w'
theorem FourDrawn.of {w w1 w2 w3 w' : World} {B N N' n c m' c' c'' : Nat} {A A' A'' : Option Addr} {L M : List (Int × Int)} {F : List Bool} (hb : Below w.heap.size w w1) (hg : w1.grownBy w3 (some w.heap.size)) (hn : 2 ≤ n ∧ n ≤ 7)
    (hD : DRow w3 w.heap.size B N 41 2 (.slice A L.length c) L.length (cp L) w') (hKB : KB w.heap.size w3 2 A' m' c' (cp M)) (hF : DRow w2 w.heap.size B N' 4 1 (.slice A'' F.length c'') F.length (cbo F) w') : FourDrawn w (.returned (.tuple #[.int .i64 n, .slice A L.length c, .slice A' m' c', .slice A'' F.length c''])) w' :=
  ⟨n, _, _, _, L, _, _, _, M, _, _, _, F, hn, rfl, Rd.of_own hD.own, hKB.rd hD.grown, Rd.of_own hF.own, below_of_g (below_of_g hb hg (Nat.le_refl _)) hD.grown (Nat.le_refl _)⟩
set_option maxRecDepth 100000 in
set_option maxHeartbeats 4000000 in
theorem DrawFlagSolve_any (A : Option Addr) (n c : Nat) (bs : List Int) (w : World) (h : Rd w w.heap.size 1 A n c (cb bs)) (hx : ∀ x ∈ bs, 0 ≤ x ∧ x ≤ 255) (hn : n ≤ 1048576) : Calls Try.prog 13 #[.slice A n c] w (FourDrawn w) := by
  have HX := Lib.hid hx
  clear hx
  go_enter Try.func13, Try.ntmps13
  go_wp2_with fail
  refine (l6Open_any _ _ _ bs _ h HX.out hn).mono ?_
  rintro e w1 ⟨rfl, hr, hb⟩
  go_wp2_with fail
  refine (l92Applied_any _ _ _ 2 _ hr (by omega) (by omega) (by omega)).mono ?_
  rintro e w2 ⟨w3, N, v, L, A', m', c', M, hN, _, rfl, hD, hKB, hg⟩
  obtain ⟨A2, c2, rfl⟩ := own_form hD.own
  clear hr
  go_wp2_with fail
  refine (l92Flags_any _ _ _ N _ hD.rdr (by omega) (by omega) (by omega)).mono ?_
  rintro e w4 ⟨vF, F, rfl, hF⟩
  obtain ⟨A4, c4, rfl⟩ := own_form hF.own
  have hD4 := hD.pick hF.rdr hF.grown
  have hlist : ∀ g, (Value.slice A2 L.length c2).ownBlock = some g → g < w2.heap.size := fun g hg => (hD.own.lt g hg).2
  clear hD
  go_wp2_with fail
  refine (pick_any _ _ _ 3 _ hF.rdr (by omega) (by omega) (by omega)).mono ?_
  rintro e w5 ⟨x, rfl, x1, x2, hr5, hg5⟩
  have hD5 := hD4.pick hr5 hg5
  have hF5 := hF.pick hr5 hg5
  clear hD4 hF hr5 hg5
  by_cases hall : x = 0 ∧ (L.length : Int) = Vm.bmany N ∧ (F.length : Int) = Vm.bmany N
  · obtain ⟨hx0, hL, hFl⟩ := hall
    have e0 : (x == 0) = true := by simp [hx0]
    have e1 : ((L.length : Int) == Vm.bmany N) = true := by simp [hL]
    have e2 : ((F.length : Int) == Vm.bmany N) = true := by simp [hFl]
    have hm := Vm.bidx_bd (n := N) (i := 0) (j := 1) (by omega) (by omega) (by omega) (by omega)
    have h21 := Vm.bmany_le N
    have hpos : 0 < L.length := by omega
    have hposF : 0 < F.length := by omega
    have hLF : L.length = F.length := by omega
    have hl21 : L.length ≤ 21 := by omega
    have HLF := Lib.hid hLF
    clear hx0 hL hFl hm h21 hLF
    obtain ⟨g, cg, eg⟩ := hD5.form hpos
    simp only [Value.slice.injEq, true_and] at eg
    obtain ⟨rfl, rfl⟩ := eg
    obtain ⟨gf, cf, ef⟩ := hF5.form hposF
    simp only [Value.slice.injEq, true_and] at ef
    obtain ⟨rfl, rfl⟩ := ef
    have hgl := hlist g rfl
    have hgf := (hF5.own.lt gf rfl).1
    have gne : g ≠ gf := by omega
    go_wp2_with (go_at_call 46; refine (sBaseMany_any _ _).mono ?_; rintro e w' ⟨rfl, rfl⟩)
    refine (pick_any _ _ _ L.length _ hD5.rdr (by omega) (by omega) (by omega)).mono ?_
    rintro e w6 ⟨k, rfl, k1, k2, hr6, hg6⟩
    have hD6 := hD5.pick hr6 hg6
    have hF6 := hF5.pick hr6 hg6
    clear hD5 hF5 hr6 hg6 e0 e1 e2
    obtain ⟨q, rfl⟩ := Vm.nat_of k1
    go_wp2_with fail
    refine (l91Phase_any _ _ _ _ hD6.rdr (by omega)).mono ?_
    rintro e w7 ⟨y, rfl, _, hr7, hg7⟩
    have hD7 := hD6.pick hr7 hg7
    have hF7 := hF6.pick hr7 hg7
    clear hD6 hF6 hr7 hg7
    have hql : q < L.length := by omega
    have hqf : q < F.length := by rw [← HLF.out]; omega
    obtain ⟨c1, c2', f1, f2⟩ := hD7.cellV q hql
    obtain ⟨L', hL', hD8⟩ := hD7.setV (q * 2 + 1) y
    have hF8 := own_set_other hF7.own ⟨g, q * 2 + 1, none⟩ (by show gf ≠ g; omega) (.int .i64 y)
    have cf1 := (hF8.cellAt q (by omega)).trans (cbo_at F q hqf)
    have ff1 := hF8.frozenAt q
    have hF9 := (hF8.stored q (.bool true)).1
    rw [← cbo_set] at hF9
    have hL9 := own_set_other hD8.own ⟨gf, q, none⟩ gne (.bool true)
    have hg9 := gSet hD8.grown (p := ⟨gf, q, none⟩) (by have := (hD8.own.lt g rfl).1; show _ ≤ gf; omega) (.bool true)
    have hb9 := below_of_g (below_of_g hb hg (Nat.le_refl _)) hg9 (Nat.le_refl _)
    have H : Hid (FourDrawn w (.returned (.tuple #[.int .i64 N, .slice (some ⟨g, 0, none⟩) L.length c2, .slice A' m' c', .slice (some ⟨gf, 0, none⟩) F.length c4])) ((w7.setCell ⟨g, q * 2 + 1, none⟩ (.int .i64 y)).setCell ⟨gf, q, none⟩ (.bool true))) :=
      ⟨N, _, _, _, L', _, _, _, M, _, _, _, F.set q true, hN, rfl, Rd.of_own hL9, hKB.rd hg9, Rd.of_own hF9, hb9⟩
    have gne2 : gf ≠ g := by omega
    have hqi : (q : Int) < (F.length : Int) := by omega
    clear hL9 hF9 hg9 hb9 hF8 hD8 hD7 hF7 hKB hg hb
    obtain ⟨z, hz⟩ : ∃ z, F[q] = z := ⟨_, rfl⟩
    rw [hz] at cf1
    clear hz
    go_wp2_with fail
    exact bodyPost_ret (by simp [results, Try.results13, go_sem]) rfl H.out
  · have hall2 : (x == 0) = false ∨ ((x == 0) = true ∧ ((L.length : Int) == Vm.bmany N) = false) ∨ ((x == 0) = true ∧ ((L.length : Int) == Vm.bmany N) = true ∧ ((F.length : Int) == Vm.bmany N) = false) := by
      by_cases a : x = 0
      · by_cases b : (L.length : Int) = Vm.bmany N
        · have : ¬ (F.length : Int) = Vm.bmany N := fun d => hall ⟨a, b, d⟩
          exact .inr (.inr ⟨by simp [a], by simp [b], by simp [this]⟩)
        · exact .inr (.inl ⟨by simp [a], by simp [b]⟩)
      · exact .inl (by simp [a])
    have H := Lib.hid (FourDrawn.of hb hg hN hD5 hKB hF5)
    clear hall hD5 hF5 hKB hg hb hlist
    rcases hall2 with e0 | ⟨e0, e1⟩ | ⟨e0, e1, e2⟩
    all_goals
      go_wp2_with (go_at_call 46; refine (sBaseMany_any _ _).mono ?_; rintro e w' ⟨rfl, rfl⟩)
      exact bodyPost_ret (by simp [results, Try.results13, go_sem]) rfl H.out

end Go.Proofs.Ytmoeofclpnblmaa
