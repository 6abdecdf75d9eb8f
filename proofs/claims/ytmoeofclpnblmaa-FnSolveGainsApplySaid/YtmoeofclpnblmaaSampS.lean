/- The program's SolveAmps, SolveGains, GainTurn for applied gains. Written by sampsgen.py. -/
import Derived.Test.YtmoeofclpnblmaaSamp
import Derived.Test.YtmoeofclpnblmaaFlagB
import Derived.Test.YtmoeofclpnblmaaGainV
namespace Go.Proofs.Ytmoeofclpnblmaa
open Go.RowKit

def SolveAPost (N : Nat) (G : List (Int × Int)) (w : World) (e : Ending) (w' : World) : Prop :=
  (N < 3 ∧ e = .returned (.tuple #[.slice none 0 0, .bool false]) ∧ Below w.heap.size w w') ∨
  (3 ≤ N ∧ ∃ v, e = .returned (.tuple #[v, .bool true]) ∧ w'.ownsRow w.heap.size 3 1 v N (ci ((List.range N).map fun i : Nat => Vm.ga G i)) ∧ Below w.heap.size w w')
set_option maxRecDepth 100000 in
set_option maxHeartbeats 4000000 in
theorem SolveAmps_ok (A A' : Option Addr) (m c m' c' N : Nat) (L G : List (Int × Int)) (w : World) (h : Rd w w.heap.size 2 A m c (cp (Vm.gapL N L G))) (h' : Rd w w.heap.size 2 A' m' c' (cp L)) (hO : Vm.OkG N L G) :
    Calls Try.prog 64 #[.int .i64 N, .slice A m c, .slice A' m' c'] w (SolveAPost N G w) := by
  have h2 := hO.ok.lo
  have h7 := hO.ok.hi
  have V1 := Lib.hid hO.out.to
  have V2 := Lib.hid hO.ok.to
  have HO := Lib.hid hO
  have HG0 := Lib.hid (hO.ga_rng (i := 0) (by omega))
  clear hO
  go_enter Try.func64, Try.ntmps64
  go_wp2_with fail
  refine (VisValid_any _ _ _ _ _ _ h).mono ?_
  rintro e w1 ⟨rfl, hB1⟩
  rw [V1.out]
  replace h := h.after hB1
  replace h' := h'.after hB1
  go_wp2_with fail
  refine (VisValid_any _ _ _ _ _ _ h').mono ?_
  rintro e w2 ⟨rfl, hB2⟩
  rw [V2.out]
  replace h := h.after hB2
  replace h' := h'.after hB2
  have hB := bT hB1 hB2
  clear hB1 hB2
  by_cases h3 : N < 3
  · have hd : decide ((N : Int) < 3) = true := by simp; omega
    have HP : Hid (SolveAPost N G w (.returned (.tuple #[.slice none 0 0, .bool false])) w2) := .inl ⟨h3, rfl, hB⟩
    clear h3 h h' hB
    go_wp2_with fail
    go_ret2
    exact HP.out
  · have h3' : 3 ≤ N := by omega
    have H3 := Lib.hid h3'
    clear h3
    have hd : decide ((N : Int) < 3) = false := by simp; omega
    go_wp2_with fail
    clear hd
    go_loopw [8] (fun i wr => ∃ f : Int, 1 ≤ f ∧ f ≤ Vm.ga G 0 ∧ i = .int .i64 f ∧ Below w2.heap.size w2 wr) (fun i _ => 100 - (intOf i).toNat)
    case atStart => exact ⟨1, by omega, HG0.out.1, rfl, b0 _⟩
    case round =>
      obtain ⟨f, f1, f2, rfl, hW⟩ := hrel
      have f9 := HG0.out.2
      have f3 : f ≤ 99 := by omega
      replace h := h.after hW
      replace h' := h'.after hW
      replace hB := bT hB hW
      obtain ⟨g0, hg0⟩ : ∃ x, Vm.ga G 0 = x := ⟨_, rfl⟩
      have HGE := Lib.hid hg0
      rw [hg0] at f2 f9
      clear hg0
      go_wp2_with fail
      refine (ampsFrom_ok _ _ _ _ _ _ N L G f _ h h' HO.out H3.out f1 f3).mono ?_
      rintro e w3 (⟨e1, v, rfl, hown, hB3⟩ | ⟨e1, rfl, hB3⟩)
      · have HP : Hid (SolveAPost N G w (.returned (.tuple #[v, .bool true])) w3) := .inr ⟨H3.out, v, rfl, own_less hown hB.size, bT hB hB3⟩
        clear hown e1
        go_wp2_with fail
        go_ret2
        exact HP.out
      · rw [HGE.out] at e1
        go_wp2_with fail
        go_roundw
        case rel => exact ⟨f + 1, by omega, by rw [HGE.out]; omega, rfl, bT hW hB3⟩
        case measure => simp [intOf]; omega
theorem solv_take {N : Nat} {G : List (Int × Int)} {k : Nat} (h : k < N) : (Vm.solvL N G).take (k + 1) = (Vm.solvL N G).take k ++ [(Vm.ga G k, ((Vm.gat G (k : Int)).2 - (Vm.gat G 0).2) % 360)] := by
  have hl : k < (Vm.solvL N G).length := by simp [Vm.solvL]; exact h
  rw [List.take_succ_eq_append_getElem hl]
  simp [Vm.solvL]
theorem solv_len (N : Nat) (G : List (Int × Int)) : (Vm.solvL N G).length = N := by simp [Vm.solvL]
def SolveGPost (N : Nat) (G : List (Int × Int)) (w : World) (e : Ending) (w' : World) : Prop :=
  (N < 3 ∧ e = .returned (.tuple #[.slice none 0 0, .bool false]) ∧ Below w.heap.size w w') ∨
  (3 ≤ N ∧ ∃ v, e = .returned (.tuple #[v, .bool true]) ∧ w'.ownsRow w.heap.size 41 2 v N (cp (Vm.solvL N G)) ∧ Below w.heap.size w w')
set_option maxRecDepth 100000 in
set_option maxHeartbeats 4000000 in
theorem SolveGains_ok (A A' : Option Addr) (m c m' c' N : Nat) (L G : List (Int × Int)) (w : World) (h : Rd w w.heap.size 2 A m c (cp (Vm.gapL N L G))) (h' : Rd w w.heap.size 2 A' m' c' (cp L)) (hO : Vm.OkG N L G) :
    Calls Try.prog 22 #[.int .i64 N, .slice A m c, .slice A' m' c'] w (SolveGPost N G w) := by
  have h2 := hO.ok.lo
  have h7 := hO.ok.hi
  have HO := Lib.hid hO
  have HBM := Lib.hid (Vm.bmany_nat N ((Vm.manyB_iff _).2 (by omega)))
  clear hO
  obtain ⟨i0, hi, hz0, hz1, hz2⟩ := info_parts infoVis
  go_enter Try.func22, Try.ntmps22
  go_wp2_with fail
  refine (SolveAmps_ok _ _ _ _ _ _ N L G _ h h' HO.out).mono ?_
  rintro e w1 (⟨n3, rfl, hB1⟩ | ⟨n3, va, rfl, hown, hB1⟩)
  · replace h := h.after hB1
    replace h' := h'.after hB1
    have HN := Lib.hid n3
    clear n3
    go_wp2_with fail
    refine (SolvePhases_any _ _ _ _ _ _ (N : Int) (Vm.gapL N L G) L _ h h').mono ?_
    rintro e w2 ⟨v2, ok, P, rfl, hres, hown2, hB2⟩
    have HP : Hid (SolveGPost N G w (.returned (.tuple #[.slice none 0 0, .bool false])) w2) := .inl ⟨HN.out, rfl, bT hB1 hB2⟩
    clear hres hown2
    go_wp2_with fail
    go_ret2
    exact HP.out
  · replace h := h.after hB1
    replace h' := h'.after hB1
    have HN := Lib.hid n3
    clear n3
    go_wp2_with fail
    refine (SolvePhases_any _ _ _ _ _ _ (N : Int) (Vm.gapL N L G) L _ h h').mono ?_
    rintro e w2 ⟨v2, ok, P, rfl, hres, hown2, hB2⟩
    rw [HBM.out, Int.toNat_natCast] at hres
    obtain ⟨e0, hPl, hPv⟩ := HO.out.solve hres
    subst e0
    clear hres h h'
    obtain ⟨A1, c1, rfl⟩ := own_form hown
    obtain ⟨A2, c2, rfl⟩ := own_form hown2
    have ha := (Rd.of_own hown).after hB2
    have hp := Rd.of_own hown2
    have hac := ha.cap
    have ham := ha.most
    have hpc := hp.cap
    have hpm := hp.most
    have hB := bT hB1 hB2
    have hBw := hB
    have HPL := Lib.hid hPl
    have HPV := Lib.hid hPv
    clear hown hown2 hPl hPv hB1 hB2
    go_wp2_with fail
    go_loopw [12, 37] (fun v i wr => ∃ k : Nat, k ≤ N ∧ i = .int .i64 k ∧ wr.ownsRow w2.heap.size 41 2 v k (cp ((Vm.solvL N G).take k)) ∧ Below w2.heap.size w2 wr) (fun _ i _ => N - (intOf i).toNat)
    case atStart => exact ⟨0, Nat.zero_le _, rfl, World.ownsRow_nil _ _ _ _, b0 _⟩
    case round =>
      obtain ⟨k, hk, rfl, hown, hW⟩ := hrel
      replace ha := ha.after hW
      replace hp := hp.after hW
      replace hB := bT hB hW
      by_cases hlt : k < N
      · have hkP : k < P.length := by rw [HPL.out]; exact hlt
        have hkA : k < ((List.range N).map fun i : Nat => Vm.ga G i).length := by simpa using hlt
        obtain ⟨b1, o1, rfl, hb1, cc1⟩ := ha.int_at hkA
        obtain ⟨b2, o2, rfl, hb2, cc2⟩ := hp.int_at hkP
        rw [show ((List.range N).map fun i : Nat => Vm.ga G i)[k] = Vm.ga G k by simp] at cc1
        have hPk : P[k] = ((Vm.gat G (k : Int)).2 - (Vm.gat G 0).2) % 360 := by have := HPV.out k hlt; rw [← this, List.getD_eq_getElem?_getD, List.getElem?_eq_getElem hkP]; rfl
        rw [hPk] at cc2
        have HT := Lib.hid (solv_take (G := G) hlt)
        obtain ⟨x, hx⟩ : ∃ x, Vm.ga G k = x := ⟨_, rfl⟩
        obtain ⟨y, hy⟩ : ∃ y, ((Vm.gat G (k : Int)).2 - (Vm.gat G 0).2) % 360 = y := ⟨_, rfl⟩
        rw [hx] at cc1
        rw [hy] at cc2
        rw [hx, hy] at HT
        have hk0 : (0 : Int) ≤ (k : Int) := by omega
        have hk1 : (k : Int) < (N : Int) := by omega
        have hPl9 := HPL.out
        have hk2 : (k : Int) < (P.length : Int) := by omega
        have hk3 : (k : Int) < ((((List.range N).map fun i : Nat => Vm.ga G i).length : Nat) : Int) := by simp; omega
        have hown1 := hown.alloc (.cells #[.int .i64 x, .int .i64 y] 41)
        have hB2 := bA hW (.cells #[.int .i64 x, .int .i64 y] 41)
        have hsz := hW.size
        clear hPk hx hy hPl9
        go_wp2_with (at_builtin; refine wpList_append_own _ rfl _ _ 23 rfl w2.heap.size 41 i0 _ 2 16 Try.underlying23 hi hz0 hz1 hz2 rfl (by decide) _ _ _ rfl hown1 ⟨wr.heap.size, 0, none⟩ 1 1 [.int .i64 x, .int .i64 y] rfl rfl (new_cells _ _ _) ?c2 ?c3 ?c4 ?c5 ?_)
        case c2 => intro u hu; simp at hu; rcases hu with rfl | rfl <;> rfl
        case c3 => unfold maxLen; omega
        case c4 => omega
        case c5 => simp; omega
        intro v' w9 hown' hgrow _
        have hB3 := own_below hB2 hown1 hgrow
        rw [← cp_snoc, ← HT.out] at hown'
        clear hown1 hgrow hB2
        go_wp2_with fail
        go_roundw
        case rel => exact ⟨k + 1, by omega, by go_num, hown', hB3⟩
        case measure => simp [intOf]; omega
      · obtain rfl : k = N := by omega
        rw [List.take_of_length_le (by rw [solv_len]; omega)] at hown
        have HP : ∀ v, wr.ownsRow w2.heap.size 41 2 v k (cp (Vm.solvL k G)) → SolveGPost k G w (.returned (.tuple #[v, .bool true])) wr := fun v ho => .inr ⟨HN.out, v, rfl, own_less ho (Nat.le_trans hBw.size (Nat.le_refl _)), hB⟩
        obtain ⟨A9, c9, rfl⟩ := own_form hown
        have HQ := Lib.hid (HP _ hown)
        clear HP hown ha hp hB hW
        go_wp2_with fail
        go_ret2
        exact HQ.out
def Bx5 (W : World) (B : Nat) (x : Int × Int) : Prop := W.cell? ⟨B, 0, none⟩ = some (.int .i64 x.1) ∧ W.cell? ⟨B, 1, none⟩ = some (.int .i64 x.2)
def GTurnPost (N : Nat) (G : List (Int × Int)) (by_ : Int) (w : World) (e : Ending) (w' : World) : Prop := ∃ v, e = .returned (.tuple #[v, .bool true]) ∧ w'.ownsRow w.heap.size 41 2 v N (cp (G.map fun g => (g.1, (g.2 + by_) % 360))) ∧ Below w.heap.size w w'
theorem gturn_take {G : List (Int × Int)} {z : Int} {k : Nat} (h : k < G.length) : (G.map fun g => (g.1, (g.2 + z) % 360)).take (k + 1) = (G.map fun g => (g.1, (g.2 + z) % 360)).take k ++ [(G[k].1, (G[k].2 + z) % 360)] := by
  have hl : k < (G.map fun g => (g.1, (g.2 + z) % 360)).length := by simpa using h
  rw [List.take_succ_eq_append_getElem hl]
  simp
set_option maxRecDepth 100000 in
set_option maxHeartbeats 4000000 in
theorem GainTurn_ok (A : Option Addr) (m c N : Nat) (G : List (Int × Int)) (z : Int) (w : World) (h : Rd w w.heap.size 2 A m c (cp G)) (hG : Vm.gainB N G = true) (z1 : 0 ≤ z) (z2 : z < 360) :
    Calls Try.prog 23 #[.int .i64 N, .slice A m c, .int .i64 z] w (GTurnPost N G z w) := by
  have hl : G.length = N := by have := ((Vm.gainB_iff _ _).1 hG).2.1; omega
  have h7 := (Vm.manyB_iff _).1 ((Vm.gainB_iff _ _).1 hG).1
  have HL := Lib.hid hl
  have ml : m = N := by have := h.len; rw [cp_length] at this; omega
  subst ml
  have V1 := Lib.hid hG
  have V2 := Lib.hid (show Vm.phB z = true by simp [Vm.phB]; omega)
  have hmc := h.cap
  have hmm := h.most
  clear hl hG
  obtain ⟨i0, hi, hz0, hz1, hz2⟩ := info_parts infoVis
  go_enter Try.func23, Try.ntmps23
  go_wp2_with fail
  refine (GainsValid_any _ _ _ _ _ _ h).mono ?_
  rintro e w1 ⟨rfl, hB1⟩
  rw [V1.out]
  replace h := h.after hB1
  go_wp2_with (go_at_call 65; refine (isPhase_any _ _).mono ?_; rintro e w' ⟨rfl, rfl⟩; rw [V2.out])
  go_loopw [8, 22] (fun v i wr => ∃ k : Nat, k ≤ m ∧ i = .int .i64 k ∧ wr.ownsRow w1.heap.size 41 2 v k (cp ((G.map fun g => (g.1, (g.2 + z) % 360)).take k)) ∧ Below w1.heap.size w1 wr) (fun _ i _ => m - (intOf i).toNat)
  case atStart => exact ⟨0, Nat.zero_le _, rfl, World.ownsRow_nil _ _ _ _, b0 _⟩
  case round =>
    obtain ⟨k, hk, rfl, hown, hW⟩ := hrel
    replace h := h.after hW
    by_cases hlt : k < m
    · have hkG : k < G.length := by rw [HL.out]; exact hlt
      obtain ⟨b1, o1, rfl, hb1, cc1, cc2⟩ := h.pair_at hkG
      have hg := Vm.gat_rng V1.out (i := (k : Int)) (by omega)
      rw [show Vm.gat G (k : Int) = G[k] by simp [Vm.gat, hkG]] at hg
      have HT := Lib.hid (gturn_take (z := z) hkG)
      obtain ⟨x, hx⟩ : ∃ x, G[k] = x := ⟨_, rfl⟩
      rw [hx] at cc1 cc2 hg HT
      obtain ⟨⟨x1, x2⟩, x3, x4⟩ := hg
      have hk1 : (k : Int) < (m : Int) := by omega
      clear hx
      obtain ⟨Av, cv, rfl⟩ := own_form hown
      obtain ⟨y, hy⟩ : ∃ y, (x.2 + z) % 360 = y := ⟨_, rfl⟩
      rw [hy] at HT
      have HY := Lib.hid hy
      have hwz : IntKind.i64.wrap (x.2 + z) = x.2 + z := IntWalk.i64_in _ (by omega)
      clear hy
      go_wp2_with fail
      obtain ⟨W, hW9⟩ : ∃ W, wr.alloc (.cells #[.int .i64 x.1, .int .i64 x.2] 41) = W := ⟨_, rfl⟩
      have hX : Bx5 W wr.heap.size x := by rw [← hW9]; exact ⟨by simp [go_sem], by simp [go_sem]⟩
      have hBW : Below wr.heap.size wr W := by rw [← hW9]; exact bA (b0 wr) _
      obtain ⟨U, hU⟩ : ∃ U, wr.heap.size = U := ⟨_, rfl⟩
      have hownW := own_after hown hBW
      have hBB := bT hW hBW
      have hBs := hBB.size
      have hne : some wr.heap.size ≠ (Value.slice Av k cv).ownBlock := fun e => Nat.lt_irrefl _ (hown.lt _ e.symm).2
      have hUl : wr.heap.size < W.heap.size := by rw [← hW9]; simp
      have hownL := own_after hownW (bA (Below.drew (b0 W)) (.cells #[.int .i64 x.1, .int .i64 y] 41))
      rw [hW9, hU]
      rw [hU] at hX hne hUl
      clear hW9 hU hown hownW
      obtain ⟨q1, q2⟩ := hX
      refine wp_region_held_drew (S := fun W' => W'.cell? ⟨U, 0, none⟩ = some (.int .i64 x.1) ∧ W'.cell? ⟨U, 1, none⟩ = some (.int .i64 x.2)) (by kernel_rfl) ⟨q1, q2⟩ (fun hS => ?_)
      refine wpAnyH_take (i := 0) (v := .slice Av k cv) rfl (by kernel_rfl) (by kernel_rfl) (by kernel_rfl) (fun _ _ _ h => h) (Or.inl ⟨by rfl, fun ww hSw => ?_⟩) hS ?_
      · obtain ⟨s0, s1⟩ := hSw; go_simp
      refine wpAnyH_take (i := 1) (v := .pointer (some ⟨U, 0, none⟩)) rfl (by kernel_rfl) (by kernel_rfl) (by kernel_rfl) (fun _ _ _ h => h) (Or.inl ⟨by rfl, fun ww hSw => ?_⟩) hS ?_
      · obtain ⟨s0, s1⟩ := hSw; go_simp
      refine wpAnyH_take (i := 2) (v := .int .i64 x.1) rfl (by kernel_rfl) (by kernel_rfl) (by kernel_rfl) (fun _ _ _ h => h) (Or.inl ⟨by rfl, fun ww hSw => ?_⟩) hS ?_
      · obtain ⟨s0, s1⟩ := hSw; go_simp
      refine wpAnyH_take (i := 3) (v := .pointer (some ⟨U, 1, none⟩)) rfl (by kernel_rfl) (by kernel_rfl) (by kernel_rfl) (fun _ _ _ h => h) (Or.inl ⟨by rfl, fun ww hSw => ?_⟩) hS ?_
      · obtain ⟨s0, s1⟩ := hSw; go_simp
      refine wpAnyH_take (i := 4) (v := .int .i64 x.2) rfl (by kernel_rfl) (by kernel_rfl) (by kernel_rfl) (fun _ _ _ h => h) (Or.inl ⟨by rfl, fun ww hSw => ?_⟩) hS ?_
      · obtain ⟨s0, s1⟩ := hSw; go_simp
      refine wpAnyH_take (i := 5) (v := .int .i64 z) rfl (by kernel_rfl) (by kernel_rfl) (by kernel_rfl) (fun _ _ _ h => h) (Or.inl ⟨by rfl, fun ww hSw => ?_⟩) hS ?_
      · obtain ⟨s0, s1⟩ := hSw; go_simp
      refine wpAnyH_take (i := 6) (v := .int .i64 (x.2 + z)) rfl (by kernel_rfl) (by kernel_rfl) (by kernel_rfl) (fun _ _ _ h => h) (Or.inl ⟨by rfl, fun ww hSw => ?_⟩) hS ?_
      · obtain ⟨s0, s1⟩ := hSw; go_simp
      refine wpAnyH_ready (rs := [7]) (by kernel_rfl) (by simp) ?_
      refine AllReadyH.cons rfl (fun K hK => ?_) AllReadyH.nil
      go_simp
      refine (PhaseOf_any _ _).mono ?_
      rintro e w' ⟨rfl, rfl⟩
      rw [HY.out]
      refine hK.out _ _ hS (fun hS => ?_)
      clear hK K
      refine wpAnyH_take (i := 8) (v := .agg #[.int .i64 x.1, .int .i64 y]) rfl (by kernel_rfl) (by kernel_rfl) (by kernel_rfl) (fun _ _ _ h => h) (Or.inl ⟨by rfl, fun ww hSw => ?_⟩) hS ?_
      · obtain ⟨s0, s1⟩ := hSw; go_simp
      refine wpAnyH_ready (rs := [9]) (by kernel_rfl) (by simp) ?_
      refine AllReadyH.cons rfl (fun K hK => ?_) AllReadyH.nil
      go_simp
      refine hK.out _ _ ⟨((bA (b0 _) _).cell (p := ⟨U, 0, none⟩) hUl).trans q1, ((bA (b0 _) _).cell (p := ⟨U, 1, none⟩) hUl).trans q2⟩ (fun hS => ?_)
      clear hK K
      refine wpAnyH_ready (rs := [10]) (by kernel_rfl) (by simp) ?_
      refine AllReadyH.cons rfl (fun K hK => ?_) AllReadyH.nil
      refine step_append_lies _ rfl (.tmp 26) (.tmp 35) 23 rfl w1.heap.size 41 i0 _ 2 16 Try.underlying23 hi hz0 hz1 hz2 rfl (by decide) (.slice Av k cv) k _ rfl hownL ⟨W.heap.size, 0, none⟩ 1 1 [.int .i64 x.1, .int .i64 y] rfl rfl (new_cells W.drew _ _) (by intro u hu; simp at hu; rcases hu with rfl | rfl <;> rfl) (by omega) (by unfold maxLen; omega) (by omega) (by simp; omega) (W.heap.size + 1) (by simp) ?_
      intro g cap w5 hown5 hgrow5 hg5 hlt5
      have hB5 : Below w1.heap.size w1 w5 := own_below (bT hBB (bA (Below.drew (b0 W)) (.cells #[.int .i64 x.1, .int .i64 y] 41))) hownL hgrow5
      rw [← cp_snoc, ← HT.out] at hown5
      refine hK.out _ _ ⟨hgrow5.cell hS.1 hne, hgrow5.cell hS.2 hne⟩ (fun hS => ?_)
      clear hK K
      refine wpAnyH_take (i := 11) (v := .slice (some ⟨g, 0, none⟩) (k + 1) cap) rfl (by kernel_rfl) (by kernel_rfl) (by kernel_rfl) (fun _ _ _ h => h) (Or.inl ⟨by rfl, fun ww hSw => ?_⟩) hS ?_
      · obtain ⟨s0, s1⟩ := hSw; go_simp
      refine ⟨by kernel_rfl, ?_⟩
      go_wp2_with fail
      go_roundw
      case rel => exact ⟨k + 1, by omega, by go_num, hown5, hB5⟩
      case measure => simp [intOf]; omega
    · obtain rfl : k = m := by omega
      rw [List.take_of_length_le (by simp; have := HL.out; omega)] at hown
      obtain ⟨A9, c9, rfl⟩ := own_form hown
      have HQ : Hid (GTurnPost k G z w (.returned (.tuple #[.slice A9 k c9, .bool true])) wr) := ⟨_, rfl, own_less hown hB1.size, bT hB1 hW⟩
      clear hown h hW
      go_wp2_with fail
      go_ret2
      exact HQ.out
end Go.Proofs.Ytmoeofclpnblmaa
