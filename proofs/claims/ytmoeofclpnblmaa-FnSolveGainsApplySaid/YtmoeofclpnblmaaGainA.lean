/- The program's GainApply. Written by gagen.py. -/
import Derived.Test.YtmoeofclpnblmaaGainV
import Derived.Test.YtmoeofclpnblmaaBaseV
import Derived.Test.YtmoeofclpnblmaaDrawC
import Derived.Maps.AppendAt
import Derived.Laws.EntriesVeiled
namespace Go.Proofs.Ytmoeofclpnblmaa
open Go.RowKit Go.Shelf

attribute [local go_sem] Oper.semAt_some

/-- Whatever lies from block lo up to block hi reads as it read. -/
def NK (lo hi : Nat) (X Y : World) : Prop := (hi ≤ Y.heap.size ∧ lo ≤ hi) ∧ ∀ b o, lo ≤ b → b < hi → Y.cell? ⟨b, o, none⟩ = X.cell? ⟨b, o, none⟩
theorem nk_start (X : World) {lo : Nat} (h : lo ≤ X.heap.size) : NK lo X.heap.size X X.drew := ⟨⟨Nat.le_refl _, h⟩, fun _ _ _ _ => rfl⟩
theorem nk_alloc {lo hi : Nat} {X Y : World} (h : NK lo hi X Y) (o : Obj) : NK lo hi X (Y.alloc o) :=
  ⟨⟨by have := h.1.1; simp; omega, h.1.2⟩, fun b q h1 h2 => ((bA (b0 Y) o).cell (p := ⟨b, q, none⟩) (by have := h.1.1; show b < _; omega)).trans (h.2 b q h1 h2)⟩
theorem nk_grown {lo hi : Nat} {X Y Z : World} {row : Option Nat} (h : NK lo hi X Y) (hg : Y.grownBy Z row) (hr : ∀ k, row = some k → k < lo) : NK lo hi X Z :=
  ⟨⟨Nat.le_trans h.1.1 hg.size, h.1.2⟩, fun b q h1 h2 => (World.cell?_of_block (hg.block b (by have := h.1.1; omega) (fun e => by have := hr b e.symm; omega))).trans (h.2 b q h1 h2)⟩
theorem nk_set {lo hi : Nat} {X Y : World} (h : NK lo hi X Y) {p : Addr} (hp : p.block < lo) (u : Value) : NK lo hi X (Y.setCell p u) :=
  ⟨⟨by simpa using h.1.1, h.1.2⟩, fun b q h1 h2 => (World.cell?_setCell_other _ _ _ _ (fun e => by subst e; simp at hp; omega)).trans (h.2 b q h1 h2)⟩
def GapPost (n : Int) (L G : List (Int × Int)) (w : World) (e : Ending) (w' : World) : Prop := ∃ v, e = .returned (.tuple #[v, .bool (Vm.gapB n L G)]) ∧ w'.ownsRow w.heap.size 41 2 v (Vm.gapL n L G).length (cp (Vm.gapL n L G)) ∧ Below w.heap.size w w'
set_option maxRecDepth 100000 in
set_option maxHeartbeats 8000000 in
theorem GainApply_ok (A A' : Option Addr) (m c m' c' N : Nat) (L G : List (Int × Int)) (w : World) (h : Rd w w.heap.size 2 A m c (cp L)) (h' : Rd w w.heap.size 2 A' m' c' (cp G)) (hO : Vm.visB N L = true) (hG : Vm.gainB N G = true) :
    Calls Try.prog 19 #[.int .i64 N, .slice A m c, .slice A' m' c'] w (GapPost N L G w) := by
  have HV := Lib.hid hO
  have HG := Lib.hid hG
  have h7 : N ≤ 7 := by have := (Vm.manyB_iff _).1 ((Vm.visB_iff _ _).1 hO).1; omega
  have h2 : 2 ≤ N := by have := (Vm.manyB_iff _).1 ((Vm.visB_iff _ _).1 hO).1; omega
  obtain ⟨N', e, hOk⟩ := Vm.Ok.of hO
  obtain rfl : N = N' := by omega
  have HO := Lib.hid hOk
  clear hO hG hOk e
  refine callsIn_wide.1 (callsIn_of_wp_marks (n := 6) Try.func19 rfl trivial ?_ rfl)
  simp only [Try.ntmps19, List.size_toArray, List.length_cons, List.length_nil, Nat.reduceAdd, Nat.reduceSub, Array.replicate_succ, Array.replicate_zero, List.push_toArray, List.append_toArray, List.nil_append, List.cons_append]
  refine wpIn_wide.2 ?_
  go_wp2_with fail
  refine (VisValid_any _ _ _ N L _ (h.after (bA (bA (b0 w) _) _))).mono ?_
  rintro e w1 ⟨rfl, hB1⟩
  rw [HV.out]
  obtain ⟨q1, q2⟩ := bcell hB1
  have k0 : w1.cell? ⟨w.heap.size, 0, none⟩ = some (.slice A m c) := (q1 _ _ (by simp; omega)).trans (by simp [go_sem])
  have k1 : w1.cell? ⟨w.heap.size + 1, 0, none⟩ = some (.slice A' m' c') := (q1 _ _ (by simp)).trans (by simp [go_sem])
  have hsz := hB1.size
  simp at hsz
  clear q1 q2
  go_wp2_with fail
  refine (GainsValid_any _ _ _ N G _ ((h'.after (bA (bA (b0 w) _) _)).after hB1)).mono ?_
  rintro e w2 ⟨rfl, hB2⟩
  rw [HG.out]
  have hs2 := hB2.size
  obtain ⟨q1, q2⟩ := bcell hB2
  replace k0 := (q1 _ _ (by omega)).trans k0
  replace k1 := (q1 _ _ (by omega)).trans k1
  have z0 : w.heap.size < w2.heap.size := by omega
  have z1 : w.heap.size + 1 < w2.heap.size := by omega
  clear q1 q2
  go_wp2_with (go_at_call 59; refine (bases_any _ _).mono ?_; rintro e w' ⟨rfl, rfl⟩)
  obtain ⟨i0, hi, hz0, hz1, hz2⟩ := info_parts infoV
  have hB12 := bT hB1 hB2
  have bx0 := boxed_of_below ((Boxed.new w 23 (.slice A m c)).alloc (.cells #[.slice A' m' c'] 23)) hB12
  have bx1 := boxed_of_below (Boxed.new' (w.alloc (.cells #[.slice A m c] 23)) (w.heap.size + 1) (by simp) 23 (.slice A' m' c')) hB12
  have bB1 := bT (bA (bA (b0 w) (.cells #[.slice A m c] 23)) (.cells #[.slice A' m' c'] 23)) hB12
  obtain ⟨W0, hW0⟩ : ∃ W0, (w2.alloc (.cells #[.slice none 0 0] 23)).alloc (.cells #[.int .i64 N] 3) = W0 := ⟨_, rfl⟩
  have hs0 : W0.heap.size = w2.heap.size + 2 := by rw [← hW0]; simp
  have bxo : Boxed W0 w2.heap.size 23 (.slice none 0 0) := by rw [← hW0]; exact (Boxed.new w2 _ _).alloc _
  have bxn : Boxed W0 (w2.heap.size + 1) 3 (.int .i64 N) := by rw [← hW0]; exact Boxed.new' (w2.alloc _) _ (by simp) _ _
  have bB0 : Below w.heap.size w W0 := by rw [← hW0]; exact bA (bA bB1 _) _
  have by0 : Boxed W0 w.heap.size 23 (.slice A m c) := by rw [← hW0]; exact (bx0.alloc _).alloc _
  have by1 : Boxed W0 (w.heap.size + 1) 23 (.slice A' m' c') := by rw [← hW0]; exact (bx1.alloc _).alloc _
  rw [hW0]
  have HW0 := Lib.hid hW0
  have HS0 := Lib.hid hs0
  clear hW0 hs0 bx0 bx1 bB1 hB1 hB2 hB12 k0 k1 hsz hs2
  refine (wpIn_wide (n := 6)).1 ?_
  refine' range_law (n := 6) (gf := 75) (lb := #[.pointer (some ⟨w2.heap.size + 1, 0, none⟩)]) (xs := Vm.basesL N) (encs := encB) (Kp := keepC (w2.heap.size + 1)) rfl (enters_of Try.func75 (by kernel_rfl) rfl)
    (bases_seq 5 N h2 h7 (w2.heap.size + 1) W0 (by rw [HS0.out]; omega) bxn.cell) (Below.refl _ _) keepC_t (keepC_b (by rw [HS0.out]; omega)) (fun _ => rfl)
    (fun pre W => rowI w w2.heap.size (fun p => Vm.gapF N L G p.1 p.2) pre W ∧ Boxed W w.heap.size 23 (.slice A m c) ∧ Boxed W (w.heap.size + 1) 23 (.slice A' m' c') ∧ Boxed W (w2.heap.size + 1) 3 (.int .i64 N) ∧ Below w.heap.size w W)
    (fun _ _ _ => False)
    (OwnFrom.and (rowI_own _ _ _ _) (OwnFrom.and (ownFrom_box _ _ _ _) (OwnFrom.and (ownFrom_box _ _ _ _) (OwnFrom.and (ownFrom_box _ _ _ _) (ownFrom_below (Nat.le_refl _) bB0.size)))))
    (fun _ _ _ _ _ hs _ _ => hs)
    ⟨⟨_, bxo, World.ownsRow_nil _ _ _ _, trivial⟩, by0, by1, bxn, bB0⟩
    _ ?assign ?body ?done ?stop
  case assign =>
    intro l x W K hK
    simp only [encB]
    gi_wp2
    exact hK
  case body =>
    rintro l pre x W ⟨⟨v, hv, hrow, tr⟩, c0, c1, cn, hB⟩ hpre
    clear tr
    have hrd := (h.below hB).more hB.size
    have hrd' := (h'.below hB).more hB.size
    obtain ⟨pl, x12, x2N, plen, pq⟩ := prefix_at h7 hpre
    clear pq
    have hmax := Vm.many_le N (by omega)
    have z0 := c0.lt
    have z1 := c1.lt
    have zo := hv.lt
    have zn := cn.lt
    obtain ⟨Av, cv, rfl⟩ := own_form hrow
    have hkL : pre.length < L.length := by rw [HO.out.len]; exact plen
    have hG1 := ((Vm.gainB_iff _ _).1 HG.out).2.1
    have hx1 : x.1 < G.length := by omega
    have hx2 : x.2 < G.length := by omega
    obtain ⟨b0', off0, rfl, hb0', hp1, hp2⟩ := hrd.pair_at hkL
    obtain ⟨b1', off1, eA, hb1', ha1, ha2⟩ := hrd'.pair_at hx1
    obtain ⟨b2', off2, eA2, hb2', hg1, hg2⟩ := hrd'.pair_at hx2
    rw [eA] at eA2
    injection eA2 with eA2
    injection eA2 with eA2 eA3
    subst eA2 eA3
    subst eA
    have bnd := Vm.gapF_bd HV.out HG.out (i := x.1) (j := x.2) (by omega) (by omega) (by omega)
    have gi := Vm.gat_rng HG.out (i := x.1) (by omega)
    have gj := Vm.gat_rng HG.out (i := x.2) (by omega)
    have ev : Vm.vget N L x.1 x.2 = L[pre.length] := by
      rw [Vm.vget, if_neg (by omega), (Vm.bt_all N (by omega) x.1 (by omega) x.2 x2N x12).1, ← pl, Int.toNat_natCast]; simp [hkL]
    have ea : Vm.gat G x.1 = G[x.1] := by simp [Vm.gat, hx1]
    have eb : Vm.gat G x.2 = G[x.2] := by simp [Vm.gat, hx2]
    have HF := Lib.hid (show Vm.gapF N L G x.1 x.2 = (L[pre.length].1 * G[x.1].1 * G[x.2].1, (L[pre.length].2 + G[x.2].2 - G[x.1].2) % 360) by unfold Vm.gapF; rw [ev, ea, eb])
    rw [ev, ea, eb] at bnd
    rw [ea] at gi
    rw [eb] at gj
    obtain ⟨p, hp⟩ : ∃ p, L[pre.length] = p := ⟨_, rfl⟩
    obtain ⟨a, ha⟩ : ∃ p, G[x.1] = p := ⟨_, rfl⟩
    obtain ⟨b, hb⟩ : ∃ p, G[x.2] = p := ⟨_, rfl⟩
    rw [hp] at hp1 hp2
    rw [ha] at ha1 ha2 gi
    rw [hb] at hg1 hg2 gj
    rw [hp, ha, hb] at bnd HF
    have PL := Lib.hid pl
    have ml : m = L.length := by have := h.len; rw [cp_length] at this; omega
    have ml' : m' = G.length := by have := h'.len; rw [cp_length] at this; omega
    have i1 : (pre.length : Int) < (m : Int) := by omega
    have i2 : (x.1 : Int) < (m' : Int) := by omega
    have i3 : (x.2 : Int) < (m' : Int) := by omega
    obtain ⟨⟨p1, p2⟩, ⟨p3, p4⟩, ⟨p5, p6⟩, p7, p8⟩ := bnd
    obtain ⟨_, a3, a4⟩ := gi
    obtain ⟨_, b3, b4⟩ := gj
    clear hp ha hb ev ea eb pl ml ml' hG1 hkL hx1 hx2 hrd hrd'
    gi_wp2_with fail
    rename_i K7 aK sp7
    have hcont : ∀ (B1 B2 B3 : Nat) (X : World), Below W.heap.size W X → (W.heap.size ≤ B1 ∧ B1 < X.heap.size) → (W.heap.size ≤ B2 ∧ B2 < X.heap.size) → (W.heap.size ≤ B3 ∧ B3 < X.heap.size) →
        X.cell? ⟨B1, 0, none⟩ = some (.int .i64 p.1) → X.cell? ⟨B1, 1, none⟩ = some (.int .i64 p.2) → X.cell? ⟨B2, 0, none⟩ = some (.int .i64 a.1) → X.cell? ⟨B2, 1, none⟩ = some (.int .i64 a.2) → X.cell? ⟨B3, 0, none⟩ = some (.int .i64 b.1) → X.cell? ⟨B3, 1, none⟩ = some (.int .i64 b.2) →
        K7 { tmps := #[.int .i64 N, .slice (some ⟨b0', off0, none⟩) m c, .slice (some ⟨b1', off1, none⟩) m' c', undef, .pointer (some ⟨w.heap.size, 0, none⟩), .pointer (some ⟨w.heap.size + 1, 0, none⟩), .slice none 0 0, .bool false, .pointer (some ⟨w2.heap.size, 0, none⟩), .int .i64 x.1, .int .i64 x.2, .pointer (some ⟨B1, 0, none⟩), .pointer (some ⟨B2, 0, none⟩), .pointer (some ⟨B3, 0, none⟩), .int .i64 N, .slice (some ⟨b0', off0, none⟩) m c, .bool true, .bool false, .bool false, .int .i64 N, .slice (some ⟨b1', off1, none⟩) m' c', .bool true, .bool false, .bool false, .int .i64 N, .func (.func 75) #[] #[.pointer (some ⟨w2.heap.size + 1, 0, none⟩)], .int .i64 x.1, .int .i64 x.2, .slice (some ⟨b0', off0, none⟩) m c, .slice Av pre.length cv, .int .i64 pre.length, .pointer (some ⟨b0', off0 + pre.length * 2, none⟩), .agg #[.int .i64 p.1, .int .i64 p.2], .slice (some ⟨b1', off1, none⟩) m' c', .int .i64 x.1, .pointer (some ⟨b1', off1 + x.1 * 2, none⟩), .agg #[.int .i64 a.1, .int .i64 a.2], .slice (some ⟨b1', off1, none⟩) m' c', .int .i64 x.2, .pointer (some ⟨b1', off1 + x.2 * 2, none⟩), .agg #[.int .i64 b.1, .int .i64 b.2], undef, undef, undef, undef, undef, undef, undef, undef, undef, undef, undef, undef, undef, undef, undef, undef, undef, undef, undef, undef, undef, undef, undef, undef, undef, undef], defers := [] } X := by
      intro B1 B2 B3 X hBX hb1 hb2 hb3 y1 y2 y3 y4 y5 y6
      have hXs := hBX.size
      have hoX := (boxed_of_below hv hBX).cell
      refine aK _ _ ?_
      clear aK
      gi_wp2_with fail
      refine round_held (S := fun Y => NK W.heap.size X.heap.size X Y) (by kernel_rfl) (by kernel_rfl) (noOut_block noOut_own) (nk_start X (by omega)) (fun hS => ?_)
      refine wpAnyH_take (i := 1) (v := .pointer (some ⟨B1, 0, none⟩)) rfl (by kernel_rfl) (by kernel_rfl) (by kernel_rfl) (fun _ _ _ h => h) (Or.inl ⟨by rfl, fun ww hSw => ?_⟩) hS ?_
      · have u1 : IntKind.i64.wrap (p.1 * a.1) = p.1 * a.1 := IntWalk.i64_in _ (by omega); have u2 : IntKind.i64.wrap (p.1 * a.1 * b.1) = p.1 * a.1 * b.1 := IntWalk.i64_in _ (by omega); have u3 : IntKind.i64.wrap (p.2 + b.2) = p.2 + b.2 := IntWalk.i64_in _ (by omega); have u4 : IntKind.i64.wrap (p.2 + b.2 - a.2) = p.2 + b.2 - a.2 := IntWalk.i64_in _ (by omega); have e1 := (hSw.2 B1 0 hb1.1 hb1.2).trans y1; have e2 := (hSw.2 B1 1 hb1.1 hb1.2).trans y2; have e3 := (hSw.2 B2 0 hb2.1 hb2.2).trans y3; have e4 := (hSw.2 B2 1 hb2.1 hb2.2).trans y4; have e5 := (hSw.2 B3 0 hb3.1 hb3.2).trans y5; have e6 := (hSw.2 B3 1 hb3.1 hb3.2).trans y6; clear hSw; go_simp
      refine wpAnyH_take (i := 2) (v := .int .i64 p.1) rfl (by kernel_rfl) (by kernel_rfl) (by kernel_rfl) (fun _ _ _ h => h) (Or.inl ⟨by rfl, fun ww hSw => ?_⟩) hS ?_
      · have u1 : IntKind.i64.wrap (p.1 * a.1) = p.1 * a.1 := IntWalk.i64_in _ (by omega); have u2 : IntKind.i64.wrap (p.1 * a.1 * b.1) = p.1 * a.1 * b.1 := IntWalk.i64_in _ (by omega); have u3 : IntKind.i64.wrap (p.2 + b.2) = p.2 + b.2 := IntWalk.i64_in _ (by omega); have u4 : IntKind.i64.wrap (p.2 + b.2 - a.2) = p.2 + b.2 - a.2 := IntWalk.i64_in _ (by omega); have e1 := (hSw.2 B1 0 hb1.1 hb1.2).trans y1; have e2 := (hSw.2 B1 1 hb1.1 hb1.2).trans y2; have e3 := (hSw.2 B2 0 hb2.1 hb2.2).trans y3; have e4 := (hSw.2 B2 1 hb2.1 hb2.2).trans y4; have e5 := (hSw.2 B3 0 hb3.1 hb3.2).trans y5; have e6 := (hSw.2 B3 1 hb3.1 hb3.2).trans y6; clear hSw; go_simp
      refine wpAnyH_take (i := 3) (v := .pointer (some ⟨B2, 0, none⟩)) rfl (by kernel_rfl) (by kernel_rfl) (by kernel_rfl) (fun _ _ _ h => h) (Or.inl ⟨by rfl, fun ww hSw => ?_⟩) hS ?_
      · have u1 : IntKind.i64.wrap (p.1 * a.1) = p.1 * a.1 := IntWalk.i64_in _ (by omega); have u2 : IntKind.i64.wrap (p.1 * a.1 * b.1) = p.1 * a.1 * b.1 := IntWalk.i64_in _ (by omega); have u3 : IntKind.i64.wrap (p.2 + b.2) = p.2 + b.2 := IntWalk.i64_in _ (by omega); have u4 : IntKind.i64.wrap (p.2 + b.2 - a.2) = p.2 + b.2 - a.2 := IntWalk.i64_in _ (by omega); have e1 := (hSw.2 B1 0 hb1.1 hb1.2).trans y1; have e2 := (hSw.2 B1 1 hb1.1 hb1.2).trans y2; have e3 := (hSw.2 B2 0 hb2.1 hb2.2).trans y3; have e4 := (hSw.2 B2 1 hb2.1 hb2.2).trans y4; have e5 := (hSw.2 B3 0 hb3.1 hb3.2).trans y5; have e6 := (hSw.2 B3 1 hb3.1 hb3.2).trans y6; clear hSw; go_simp
      refine wpAnyH_take (i := 4) (v := .int .i64 a.1) rfl (by kernel_rfl) (by kernel_rfl) (by kernel_rfl) (fun _ _ _ h => h) (Or.inl ⟨by rfl, fun ww hSw => ?_⟩) hS ?_
      · have u1 : IntKind.i64.wrap (p.1 * a.1) = p.1 * a.1 := IntWalk.i64_in _ (by omega); have u2 : IntKind.i64.wrap (p.1 * a.1 * b.1) = p.1 * a.1 * b.1 := IntWalk.i64_in _ (by omega); have u3 : IntKind.i64.wrap (p.2 + b.2) = p.2 + b.2 := IntWalk.i64_in _ (by omega); have u4 : IntKind.i64.wrap (p.2 + b.2 - a.2) = p.2 + b.2 - a.2 := IntWalk.i64_in _ (by omega); have e1 := (hSw.2 B1 0 hb1.1 hb1.2).trans y1; have e2 := (hSw.2 B1 1 hb1.1 hb1.2).trans y2; have e3 := (hSw.2 B2 0 hb2.1 hb2.2).trans y3; have e4 := (hSw.2 B2 1 hb2.1 hb2.2).trans y4; have e5 := (hSw.2 B3 0 hb3.1 hb3.2).trans y5; have e6 := (hSw.2 B3 1 hb3.1 hb3.2).trans y6; clear hSw; go_simp
      refine wpAnyH_take (i := 5) (v := .int .i64 (p.1 * a.1)) rfl (by kernel_rfl) (by kernel_rfl) (by kernel_rfl) (fun _ _ _ h => h) (Or.inl ⟨by rfl, fun ww hSw => ?_⟩) hS ?_
      · have u1 : IntKind.i64.wrap (p.1 * a.1) = p.1 * a.1 := IntWalk.i64_in _ (by omega); have u2 : IntKind.i64.wrap (p.1 * a.1 * b.1) = p.1 * a.1 * b.1 := IntWalk.i64_in _ (by omega); have u3 : IntKind.i64.wrap (p.2 + b.2) = p.2 + b.2 := IntWalk.i64_in _ (by omega); have u4 : IntKind.i64.wrap (p.2 + b.2 - a.2) = p.2 + b.2 - a.2 := IntWalk.i64_in _ (by omega); have e1 := (hSw.2 B1 0 hb1.1 hb1.2).trans y1; have e2 := (hSw.2 B1 1 hb1.1 hb1.2).trans y2; have e3 := (hSw.2 B2 0 hb2.1 hb2.2).trans y3; have e4 := (hSw.2 B2 1 hb2.1 hb2.2).trans y4; have e5 := (hSw.2 B3 0 hb3.1 hb3.2).trans y5; have e6 := (hSw.2 B3 1 hb3.1 hb3.2).trans y6; clear hSw; go_simp
      refine wpAnyH_take (i := 6) (v := .pointer (some ⟨B3, 0, none⟩)) rfl (by kernel_rfl) (by kernel_rfl) (by kernel_rfl) (fun _ _ _ h => h) (Or.inl ⟨by rfl, fun ww hSw => ?_⟩) hS ?_
      · have u1 : IntKind.i64.wrap (p.1 * a.1) = p.1 * a.1 := IntWalk.i64_in _ (by omega); have u2 : IntKind.i64.wrap (p.1 * a.1 * b.1) = p.1 * a.1 * b.1 := IntWalk.i64_in _ (by omega); have u3 : IntKind.i64.wrap (p.2 + b.2) = p.2 + b.2 := IntWalk.i64_in _ (by omega); have u4 : IntKind.i64.wrap (p.2 + b.2 - a.2) = p.2 + b.2 - a.2 := IntWalk.i64_in _ (by omega); have e1 := (hSw.2 B1 0 hb1.1 hb1.2).trans y1; have e2 := (hSw.2 B1 1 hb1.1 hb1.2).trans y2; have e3 := (hSw.2 B2 0 hb2.1 hb2.2).trans y3; have e4 := (hSw.2 B2 1 hb2.1 hb2.2).trans y4; have e5 := (hSw.2 B3 0 hb3.1 hb3.2).trans y5; have e6 := (hSw.2 B3 1 hb3.1 hb3.2).trans y6; clear hSw; go_simp
      refine wpAnyH_take (i := 7) (v := .int .i64 b.1) rfl (by kernel_rfl) (by kernel_rfl) (by kernel_rfl) (fun _ _ _ h => h) (Or.inl ⟨by rfl, fun ww hSw => ?_⟩) hS ?_
      · have u1 : IntKind.i64.wrap (p.1 * a.1) = p.1 * a.1 := IntWalk.i64_in _ (by omega); have u2 : IntKind.i64.wrap (p.1 * a.1 * b.1) = p.1 * a.1 * b.1 := IntWalk.i64_in _ (by omega); have u3 : IntKind.i64.wrap (p.2 + b.2) = p.2 + b.2 := IntWalk.i64_in _ (by omega); have u4 : IntKind.i64.wrap (p.2 + b.2 - a.2) = p.2 + b.2 - a.2 := IntWalk.i64_in _ (by omega); have e1 := (hSw.2 B1 0 hb1.1 hb1.2).trans y1; have e2 := (hSw.2 B1 1 hb1.1 hb1.2).trans y2; have e3 := (hSw.2 B2 0 hb2.1 hb2.2).trans y3; have e4 := (hSw.2 B2 1 hb2.1 hb2.2).trans y4; have e5 := (hSw.2 B3 0 hb3.1 hb3.2).trans y5; have e6 := (hSw.2 B3 1 hb3.1 hb3.2).trans y6; clear hSw; go_simp
      refine wpAnyH_take (i := 8) (v := .int .i64 (p.1 * a.1 * b.1)) rfl (by kernel_rfl) (by kernel_rfl) (by kernel_rfl) (fun _ _ _ h => h) (Or.inl ⟨by rfl, fun ww hSw => ?_⟩) hS ?_
      · have u1 : IntKind.i64.wrap (p.1 * a.1) = p.1 * a.1 := IntWalk.i64_in _ (by omega); have u2 : IntKind.i64.wrap (p.1 * a.1 * b.1) = p.1 * a.1 * b.1 := IntWalk.i64_in _ (by omega); have u3 : IntKind.i64.wrap (p.2 + b.2) = p.2 + b.2 := IntWalk.i64_in _ (by omega); have u4 : IntKind.i64.wrap (p.2 + b.2 - a.2) = p.2 + b.2 - a.2 := IntWalk.i64_in _ (by omega); have e1 := (hSw.2 B1 0 hb1.1 hb1.2).trans y1; have e2 := (hSw.2 B1 1 hb1.1 hb1.2).trans y2; have e3 := (hSw.2 B2 0 hb2.1 hb2.2).trans y3; have e4 := (hSw.2 B2 1 hb2.1 hb2.2).trans y4; have e5 := (hSw.2 B3 0 hb3.1 hb3.2).trans y5; have e6 := (hSw.2 B3 1 hb3.1 hb3.2).trans y6; clear hSw; go_simp
      refine wpAnyH_take (i := 9) (v := .pointer (some ⟨B1, 1, none⟩)) rfl (by kernel_rfl) (by kernel_rfl) (by kernel_rfl) (fun _ _ _ h => h) (Or.inl ⟨by rfl, fun ww hSw => ?_⟩) hS ?_
      · have u1 : IntKind.i64.wrap (p.1 * a.1) = p.1 * a.1 := IntWalk.i64_in _ (by omega); have u2 : IntKind.i64.wrap (p.1 * a.1 * b.1) = p.1 * a.1 * b.1 := IntWalk.i64_in _ (by omega); have u3 : IntKind.i64.wrap (p.2 + b.2) = p.2 + b.2 := IntWalk.i64_in _ (by omega); have u4 : IntKind.i64.wrap (p.2 + b.2 - a.2) = p.2 + b.2 - a.2 := IntWalk.i64_in _ (by omega); have e1 := (hSw.2 B1 0 hb1.1 hb1.2).trans y1; have e2 := (hSw.2 B1 1 hb1.1 hb1.2).trans y2; have e3 := (hSw.2 B2 0 hb2.1 hb2.2).trans y3; have e4 := (hSw.2 B2 1 hb2.1 hb2.2).trans y4; have e5 := (hSw.2 B3 0 hb3.1 hb3.2).trans y5; have e6 := (hSw.2 B3 1 hb3.1 hb3.2).trans y6; clear hSw; go_simp
      refine wpAnyH_take (i := 10) (v := .int .i64 p.2) rfl (by kernel_rfl) (by kernel_rfl) (by kernel_rfl) (fun _ _ _ h => h) (Or.inl ⟨by rfl, fun ww hSw => ?_⟩) hS ?_
      · have u1 : IntKind.i64.wrap (p.1 * a.1) = p.1 * a.1 := IntWalk.i64_in _ (by omega); have u2 : IntKind.i64.wrap (p.1 * a.1 * b.1) = p.1 * a.1 * b.1 := IntWalk.i64_in _ (by omega); have u3 : IntKind.i64.wrap (p.2 + b.2) = p.2 + b.2 := IntWalk.i64_in _ (by omega); have u4 : IntKind.i64.wrap (p.2 + b.2 - a.2) = p.2 + b.2 - a.2 := IntWalk.i64_in _ (by omega); have e1 := (hSw.2 B1 0 hb1.1 hb1.2).trans y1; have e2 := (hSw.2 B1 1 hb1.1 hb1.2).trans y2; have e3 := (hSw.2 B2 0 hb2.1 hb2.2).trans y3; have e4 := (hSw.2 B2 1 hb2.1 hb2.2).trans y4; have e5 := (hSw.2 B3 0 hb3.1 hb3.2).trans y5; have e6 := (hSw.2 B3 1 hb3.1 hb3.2).trans y6; clear hSw; go_simp
      refine wpAnyH_take (i := 11) (v := .pointer (some ⟨B3, 1, none⟩)) rfl (by kernel_rfl) (by kernel_rfl) (by kernel_rfl) (fun _ _ _ h => h) (Or.inl ⟨by rfl, fun ww hSw => ?_⟩) hS ?_
      · have u1 : IntKind.i64.wrap (p.1 * a.1) = p.1 * a.1 := IntWalk.i64_in _ (by omega); have u2 : IntKind.i64.wrap (p.1 * a.1 * b.1) = p.1 * a.1 * b.1 := IntWalk.i64_in _ (by omega); have u3 : IntKind.i64.wrap (p.2 + b.2) = p.2 + b.2 := IntWalk.i64_in _ (by omega); have u4 : IntKind.i64.wrap (p.2 + b.2 - a.2) = p.2 + b.2 - a.2 := IntWalk.i64_in _ (by omega); have e1 := (hSw.2 B1 0 hb1.1 hb1.2).trans y1; have e2 := (hSw.2 B1 1 hb1.1 hb1.2).trans y2; have e3 := (hSw.2 B2 0 hb2.1 hb2.2).trans y3; have e4 := (hSw.2 B2 1 hb2.1 hb2.2).trans y4; have e5 := (hSw.2 B3 0 hb3.1 hb3.2).trans y5; have e6 := (hSw.2 B3 1 hb3.1 hb3.2).trans y6; clear hSw; go_simp
      refine wpAnyH_take (i := 12) (v := .int .i64 b.2) rfl (by kernel_rfl) (by kernel_rfl) (by kernel_rfl) (fun _ _ _ h => h) (Or.inl ⟨by rfl, fun ww hSw => ?_⟩) hS ?_
      · have u1 : IntKind.i64.wrap (p.1 * a.1) = p.1 * a.1 := IntWalk.i64_in _ (by omega); have u2 : IntKind.i64.wrap (p.1 * a.1 * b.1) = p.1 * a.1 * b.1 := IntWalk.i64_in _ (by omega); have u3 : IntKind.i64.wrap (p.2 + b.2) = p.2 + b.2 := IntWalk.i64_in _ (by omega); have u4 : IntKind.i64.wrap (p.2 + b.2 - a.2) = p.2 + b.2 - a.2 := IntWalk.i64_in _ (by omega); have e1 := (hSw.2 B1 0 hb1.1 hb1.2).trans y1; have e2 := (hSw.2 B1 1 hb1.1 hb1.2).trans y2; have e3 := (hSw.2 B2 0 hb2.1 hb2.2).trans y3; have e4 := (hSw.2 B2 1 hb2.1 hb2.2).trans y4; have e5 := (hSw.2 B3 0 hb3.1 hb3.2).trans y5; have e6 := (hSw.2 B3 1 hb3.1 hb3.2).trans y6; clear hSw; go_simp
      refine wpAnyH_take (i := 13) (v := .int .i64 (p.2 + b.2)) rfl (by kernel_rfl) (by kernel_rfl) (by kernel_rfl) (fun _ _ _ h => h) (Or.inl ⟨by rfl, fun ww hSw => ?_⟩) hS ?_
      · have u1 : IntKind.i64.wrap (p.1 * a.1) = p.1 * a.1 := IntWalk.i64_in _ (by omega); have u2 : IntKind.i64.wrap (p.1 * a.1 * b.1) = p.1 * a.1 * b.1 := IntWalk.i64_in _ (by omega); have u3 : IntKind.i64.wrap (p.2 + b.2) = p.2 + b.2 := IntWalk.i64_in _ (by omega); have u4 : IntKind.i64.wrap (p.2 + b.2 - a.2) = p.2 + b.2 - a.2 := IntWalk.i64_in _ (by omega); have e1 := (hSw.2 B1 0 hb1.1 hb1.2).trans y1; have e2 := (hSw.2 B1 1 hb1.1 hb1.2).trans y2; have e3 := (hSw.2 B2 0 hb2.1 hb2.2).trans y3; have e4 := (hSw.2 B2 1 hb2.1 hb2.2).trans y4; have e5 := (hSw.2 B3 0 hb3.1 hb3.2).trans y5; have e6 := (hSw.2 B3 1 hb3.1 hb3.2).trans y6; clear hSw; go_simp
      refine wpAnyH_take (i := 14) (v := .pointer (some ⟨B2, 1, none⟩)) rfl (by kernel_rfl) (by kernel_rfl) (by kernel_rfl) (fun _ _ _ h => h) (Or.inl ⟨by rfl, fun ww hSw => ?_⟩) hS ?_
      · have u1 : IntKind.i64.wrap (p.1 * a.1) = p.1 * a.1 := IntWalk.i64_in _ (by omega); have u2 : IntKind.i64.wrap (p.1 * a.1 * b.1) = p.1 * a.1 * b.1 := IntWalk.i64_in _ (by omega); have u3 : IntKind.i64.wrap (p.2 + b.2) = p.2 + b.2 := IntWalk.i64_in _ (by omega); have u4 : IntKind.i64.wrap (p.2 + b.2 - a.2) = p.2 + b.2 - a.2 := IntWalk.i64_in _ (by omega); have e1 := (hSw.2 B1 0 hb1.1 hb1.2).trans y1; have e2 := (hSw.2 B1 1 hb1.1 hb1.2).trans y2; have e3 := (hSw.2 B2 0 hb2.1 hb2.2).trans y3; have e4 := (hSw.2 B2 1 hb2.1 hb2.2).trans y4; have e5 := (hSw.2 B3 0 hb3.1 hb3.2).trans y5; have e6 := (hSw.2 B3 1 hb3.1 hb3.2).trans y6; clear hSw; go_simp
      refine wpAnyH_take (i := 15) (v := .int .i64 a.2) rfl (by kernel_rfl) (by kernel_rfl) (by kernel_rfl) (fun _ _ _ h => h) (Or.inl ⟨by rfl, fun ww hSw => ?_⟩) hS ?_
      · have u1 : IntKind.i64.wrap (p.1 * a.1) = p.1 * a.1 := IntWalk.i64_in _ (by omega); have u2 : IntKind.i64.wrap (p.1 * a.1 * b.1) = p.1 * a.1 * b.1 := IntWalk.i64_in _ (by omega); have u3 : IntKind.i64.wrap (p.2 + b.2) = p.2 + b.2 := IntWalk.i64_in _ (by omega); have u4 : IntKind.i64.wrap (p.2 + b.2 - a.2) = p.2 + b.2 - a.2 := IntWalk.i64_in _ (by omega); have e1 := (hSw.2 B1 0 hb1.1 hb1.2).trans y1; have e2 := (hSw.2 B1 1 hb1.1 hb1.2).trans y2; have e3 := (hSw.2 B2 0 hb2.1 hb2.2).trans y3; have e4 := (hSw.2 B2 1 hb2.1 hb2.2).trans y4; have e5 := (hSw.2 B3 0 hb3.1 hb3.2).trans y5; have e6 := (hSw.2 B3 1 hb3.1 hb3.2).trans y6; clear hSw; go_simp
      refine wpAnyH_take (i := 16) (v := .int .i64 (p.2 + b.2 - a.2)) rfl (by kernel_rfl) (by kernel_rfl) (by kernel_rfl) (fun _ _ _ h => h) (Or.inl ⟨by rfl, fun ww hSw => ?_⟩) hS ?_
      · have u1 : IntKind.i64.wrap (p.1 * a.1) = p.1 * a.1 := IntWalk.i64_in _ (by omega); have u2 : IntKind.i64.wrap (p.1 * a.1 * b.1) = p.1 * a.1 * b.1 := IntWalk.i64_in _ (by omega); have u3 : IntKind.i64.wrap (p.2 + b.2) = p.2 + b.2 := IntWalk.i64_in _ (by omega); have u4 : IntKind.i64.wrap (p.2 + b.2 - a.2) = p.2 + b.2 - a.2 := IntWalk.i64_in _ (by omega); have e1 := (hSw.2 B1 0 hb1.1 hb1.2).trans y1; have e2 := (hSw.2 B1 1 hb1.1 hb1.2).trans y2; have e3 := (hSw.2 B2 0 hb2.1 hb2.2).trans y3; have e4 := (hSw.2 B2 1 hb2.1 hb2.2).trans y4; have e5 := (hSw.2 B3 0 hb3.1 hb3.2).trans y5; have e6 := (hSw.2 B3 1 hb3.1 hb3.2).trans y6; clear hSw; go_simp
      refine wpAnyH_ready (rs := [0, 17]) (by kernel_rfl) (by simp) ?_
      refine AllReadyH.cons rfl (fun K hK => ?_) (AllReadyH.cons rfl (fun K hK => ?_) AllReadyH.nil)
      · go_simp
        refine hK.out _ _ hS (fun hS => ?_)
        clear hK K
        refine wpAnyH_ready (rs := [17]) (by kernel_rfl) (by simp) ?_
        refine AllReadyH.cons rfl (fun K hK => ?_) AllReadyH.nil
        go_simp
        refine (PhaseOf_any _ _).mono ?_
        rintro e w' ⟨rfl, rfl⟩
        refine hK.out _ _ hS (fun hS => ?_)
        clear hK K
        refine wpAnyH_take (i := 18) (v := .agg #[.int .i64 (p.1 * a.1 * b.1), .int .i64 ((p.2 + b.2 - a.2) % 360)]) rfl (by kernel_rfl) (by kernel_rfl) (by kernel_rfl) (fun _ _ _ h => h) (Or.inl ⟨by rfl, fun ww hSw => ?_⟩) hS ?_
        · have u1 : IntKind.i64.wrap (p.1 * a.1) = p.1 * a.1 := IntWalk.i64_in _ (by omega); have u2 : IntKind.i64.wrap (p.1 * a.1 * b.1) = p.1 * a.1 * b.1 := IntWalk.i64_in _ (by omega); have u3 : IntKind.i64.wrap (p.2 + b.2) = p.2 + b.2 := IntWalk.i64_in _ (by omega); have u4 : IntKind.i64.wrap (p.2 + b.2 - a.2) = p.2 + b.2 - a.2 := IntWalk.i64_in _ (by omega); have e1 := (hSw.2 B1 0 hb1.1 hb1.2).trans y1; have e2 := (hSw.2 B1 1 hb1.1 hb1.2).trans y2; have e3 := (hSw.2 B2 0 hb2.1 hb2.2).trans y3; have e4 := (hSw.2 B2 1 hb2.1 hb2.2).trans y4; have e5 := (hSw.2 B3 0 hb3.1 hb3.2).trans y5; have e6 := (hSw.2 B3 1 hb3.1 hb3.2).trans y6; clear hSw; go_simp
        refine wpAnyH_ready (rs := [19]) (by kernel_rfl) (by simp) ?_
        refine AllReadyH.cons rfl (fun K hK => ?_) AllReadyH.nil
        go_simp
        have hcX1 := ((boxed_of_below hv hBX).alloc (.cells #[.int .i64 (p.1 * a.1 * b.1), .int .i64 ((p.2 + b.2 - a.2) % 360)] 41)).cell
        refine hK.out _ _ (nk_alloc hS _) (fun hS => ?_)
        clear hK K
        refine wpAnyH_ready (rs := [20]) (by kernel_rfl) (by simp) ?_
        refine AllReadyH.cons rfl (fun K hK => ?_) AllReadyH.nil
        have hr3 := (own_after (own_after hrow hBX) (Below.drew (b0 X))).alloc (.cells #[.int .i64 (p.1 * a.1 * b.1), .int .i64 ((p.2 + b.2 - a.2) % 360)] 41)
        refine step_append_lies _ rfl (.tmp 41) (.tmp 60) 23 rfl w.heap.size 41 i0 _ 2 16 Try.underlying23 hi hz0 hz1 hz2 rfl (by decide) (.slice Av pre.length cv) pre.length (cp (pre.map (fun p : Nat × Nat => Vm.gapF N L G p.1 p.2))) rfl hr3 ⟨X.heap.size, 0, none⟩ 1 1 [.int .i64 (p.1 * a.1 * b.1), .int .i64 ((p.2 + b.2 - a.2) % 360)] rfl rfl (new_cells _ _ _) (by intro u hu; simp at hu; rcases hu with rfl | rfl <;> rfl) (by omega) (by unfold maxLen; omega) (by omega) (by simp; omega) _ rfl ?_
        intro g cap w3 hown3 hgrow3 _ _
        have hrl : ∀ k, (Value.slice Av pre.length cv).ownBlock = some k → k < W.heap.size := fun k hk => (hrow.lt k hk).2
        have hown3' : w3.ownsRow w.heap.size 41 2 (.slice (some ⟨g, 0, none⟩) (pre.length + 1) cap) (pre.length + 1) (cp (pre.map (fun p : Nat × Nat => Vm.gapF N L G p.1 p.2)) ++ [.int .i64 (Vm.gapF N L G x.1 x.2).1, .int .i64 (Vm.gapF N L G x.1 x.2).2]) := by rw [HF.out]; exact hown3
        obtain ⟨r1, r2, r3, r4, r5⟩ := row_step (w := w) (f := (fun p : Nat × Nat => Vm.gapF N L G p.1 p.2)) (x := x) hv hrow hB (by omega) (bT hBX (Below.drew (b0 X))) hown3' hgrow3
        have hc4 := r1.cell
        have hf4 := r1.frozen
        have hS3 := nk_grown hS hgrow3 hrl
        refine hK.out _ _ hS3 (fun hS => ?_)
        clear hK K
        refine wpAnyH_ready (rs := [21]) (by kernel_rfl) (by simp) ?_
        refine AllReadyH.cons rfl (fun K hK => ?_) AllReadyH.nil
        go_simp
        refine hK.out _ _ (nk_set hS3 (by show w2.heap.size < W.heap.size; exact zo) _) (fun hS => ?_)
        clear hK K
        refine ⟨by kernel_rfl, ?_⟩
        exact ⟨(r3.from _), (r5 _ _ _ cn (by decide) (by omega)).2.cell.trans cn.cell.symm, r2, (r5 _ _ _ c0 (by decide) (by omega)).2, (r5 _ _ _ c1 (by decide) (by omega)).2, (r5 _ _ _ cn (by decide) (by omega)).2, r4⟩
      · go_simp
        refine (PhaseOf_any _ _).mono ?_
        rintro e w' ⟨rfl, rfl⟩
        refine hK.out _ _ hS (fun hS => ?_)
        clear hK K
        refine wpAnyH_take (i := 18) (v := .agg #[.int .i64 (p.1 * a.1 * b.1), .int .i64 ((p.2 + b.2 - a.2) % 360)]) rfl (by kernel_rfl) (by kernel_rfl) (by kernel_rfl) (fun _ _ _ h => h) (Or.inl ⟨by rfl, fun ww hSw => ?_⟩) hS ?_
        · have u1 : IntKind.i64.wrap (p.1 * a.1) = p.1 * a.1 := IntWalk.i64_in _ (by omega); have u2 : IntKind.i64.wrap (p.1 * a.1 * b.1) = p.1 * a.1 * b.1 := IntWalk.i64_in _ (by omega); have u3 : IntKind.i64.wrap (p.2 + b.2) = p.2 + b.2 := IntWalk.i64_in _ (by omega); have u4 : IntKind.i64.wrap (p.2 + b.2 - a.2) = p.2 + b.2 - a.2 := IntWalk.i64_in _ (by omega); have e1 := (hSw.2 B1 0 hb1.1 hb1.2).trans y1; have e2 := (hSw.2 B1 1 hb1.1 hb1.2).trans y2; have e3 := (hSw.2 B2 0 hb2.1 hb2.2).trans y3; have e4 := (hSw.2 B2 1 hb2.1 hb2.2).trans y4; have e5 := (hSw.2 B3 0 hb3.1 hb3.2).trans y5; have e6 := (hSw.2 B3 1 hb3.1 hb3.2).trans y6; clear hSw; go_simp
        refine wpAnyH_ready (rs := [0, 19]) (by kernel_rfl) (by simp) ?_
        refine AllReadyH.cons rfl (fun K hK => ?_) (AllReadyH.cons rfl (fun K hK => ?_) AllReadyH.nil)
        · go_simp
          refine hK.out _ _ hS (fun hS => ?_)
          clear hK K
          refine wpAnyH_ready (rs := [19]) (by kernel_rfl) (by simp) ?_
          refine AllReadyH.cons rfl (fun K hK => ?_) AllReadyH.nil
          go_simp
          have hcX1 := ((boxed_of_below hv hBX).alloc (.cells #[.int .i64 (p.1 * a.1 * b.1), .int .i64 ((p.2 + b.2 - a.2) % 360)] 41)).cell
          refine hK.out _ _ (nk_alloc hS _) (fun hS => ?_)
          clear hK K
          refine wpAnyH_ready (rs := [20]) (by kernel_rfl) (by simp) ?_
          refine AllReadyH.cons rfl (fun K hK => ?_) AllReadyH.nil
          have hr3 := (own_after (own_after hrow hBX) (Below.drew (b0 X))).alloc (.cells #[.int .i64 (p.1 * a.1 * b.1), .int .i64 ((p.2 + b.2 - a.2) % 360)] 41)
          refine step_append_lies _ rfl (.tmp 41) (.tmp 60) 23 rfl w.heap.size 41 i0 _ 2 16 Try.underlying23 hi hz0 hz1 hz2 rfl (by decide) (.slice Av pre.length cv) pre.length (cp (pre.map (fun p : Nat × Nat => Vm.gapF N L G p.1 p.2))) rfl hr3 ⟨X.heap.size, 0, none⟩ 1 1 [.int .i64 (p.1 * a.1 * b.1), .int .i64 ((p.2 + b.2 - a.2) % 360)] rfl rfl (new_cells _ _ _) (by intro u hu; simp at hu; rcases hu with rfl | rfl <;> rfl) (by omega) (by unfold maxLen; omega) (by omega) (by simp; omega) _ rfl ?_
          intro g cap w3 hown3 hgrow3 _ _
          have hrl : ∀ k, (Value.slice Av pre.length cv).ownBlock = some k → k < W.heap.size := fun k hk => (hrow.lt k hk).2
          have hown3' : w3.ownsRow w.heap.size 41 2 (.slice (some ⟨g, 0, none⟩) (pre.length + 1) cap) (pre.length + 1) (cp (pre.map (fun p : Nat × Nat => Vm.gapF N L G p.1 p.2)) ++ [.int .i64 (Vm.gapF N L G x.1 x.2).1, .int .i64 (Vm.gapF N L G x.1 x.2).2]) := by rw [HF.out]; exact hown3
          obtain ⟨r1, r2, r3, r4, r5⟩ := row_step (w := w) (f := (fun p : Nat × Nat => Vm.gapF N L G p.1 p.2)) (x := x) hv hrow hB (by omega) (bT hBX (Below.drew (b0 X))) hown3' hgrow3
          have hc4 := r1.cell
          have hf4 := r1.frozen
          have hS3 := nk_grown hS hgrow3 hrl
          refine hK.out _ _ hS3 (fun hS => ?_)
          clear hK K
          refine wpAnyH_ready (rs := [21]) (by kernel_rfl) (by simp) ?_
          refine AllReadyH.cons rfl (fun K hK => ?_) AllReadyH.nil
          go_simp
          refine hK.out _ _ (nk_set hS3 (by show w2.heap.size < W.heap.size; exact zo) _) (fun hS => ?_)
          clear hK K
          refine ⟨by kernel_rfl, ?_⟩
          exact ⟨(r3.from _), (r5 _ _ _ cn (by decide) (by omega)).2.cell.trans cn.cell.symm, r2, (r5 _ _ _ c0 (by decide) (by omega)).2, (r5 _ _ _ c1 (by decide) (by omega)).2, (r5 _ _ _ cn (by decide) (by omega)).2, r4⟩
        · go_simp
          have hcX1 := ((boxed_of_below hv hBX).alloc (.cells #[.int .i64 (p.1 * a.1 * b.1), .int .i64 ((p.2 + b.2 - a.2) % 360)] 41)).cell
          refine hK.out _ _ (nk_alloc hS _) (fun hS => ?_)
          clear hK K
          refine wpAnyH_ready (rs := [0]) (by kernel_rfl) (by simp) ?_
          refine AllReadyH.cons rfl (fun K hK => ?_) AllReadyH.nil
          go_simp
          refine hK.out _ _ hS (fun hS => ?_)
          clear hK K
          refine wpAnyH_ready (rs := [20]) (by kernel_rfl) (by simp) ?_
          refine AllReadyH.cons rfl (fun K hK => ?_) AllReadyH.nil
          have hr3 := (own_after (own_after hrow hBX) (Below.drew (b0 X))).alloc (.cells #[.int .i64 (p.1 * a.1 * b.1), .int .i64 ((p.2 + b.2 - a.2) % 360)] 41)
          refine step_append_lies _ rfl (.tmp 41) (.tmp 60) 23 rfl w.heap.size 41 i0 _ 2 16 Try.underlying23 hi hz0 hz1 hz2 rfl (by decide) (.slice Av pre.length cv) pre.length (cp (pre.map (fun p : Nat × Nat => Vm.gapF N L G p.1 p.2))) rfl hr3 ⟨X.heap.size, 0, none⟩ 1 1 [.int .i64 (p.1 * a.1 * b.1), .int .i64 ((p.2 + b.2 - a.2) % 360)] rfl rfl (new_cells _ _ _) (by intro u hu; simp at hu; rcases hu with rfl | rfl <;> rfl) (by omega) (by unfold maxLen; omega) (by omega) (by simp; omega) _ rfl ?_
          intro g cap w3 hown3 hgrow3 _ _
          have hrl : ∀ k, (Value.slice Av pre.length cv).ownBlock = some k → k < W.heap.size := fun k hk => (hrow.lt k hk).2
          have hown3' : w3.ownsRow w.heap.size 41 2 (.slice (some ⟨g, 0, none⟩) (pre.length + 1) cap) (pre.length + 1) (cp (pre.map (fun p : Nat × Nat => Vm.gapF N L G p.1 p.2)) ++ [.int .i64 (Vm.gapF N L G x.1 x.2).1, .int .i64 (Vm.gapF N L G x.1 x.2).2]) := by rw [HF.out]; exact hown3
          obtain ⟨r1, r2, r3, r4, r5⟩ := row_step (w := w) (f := (fun p : Nat × Nat => Vm.gapF N L G p.1 p.2)) (x := x) hv hrow hB (by omega) (bT hBX (Below.drew (b0 X))) hown3' hgrow3
          have hc4 := r1.cell
          have hf4 := r1.frozen
          have hS3 := nk_grown hS hgrow3 hrl
          refine hK.out _ _ hS3 (fun hS => ?_)
          clear hK K
          refine wpAnyH_ready (rs := [21]) (by kernel_rfl) (by simp) ?_
          refine AllReadyH.cons rfl (fun K hK => ?_) AllReadyH.nil
          go_simp
          refine hK.out _ _ (nk_set hS3 (by show w2.heap.size < W.heap.size; exact zo) _) (fun hS => ?_)
          clear hK K
          refine ⟨by kernel_rfl, ?_⟩
          exact ⟨(r3.from _), (r5 _ _ _ cn (by decide) (by omega)).2.cell.trans cn.cell.symm, r2, (r5 _ _ _ c0 (by decide) (by omega)).2, (r5 _ _ _ c1 (by decide) (by omega)).2, (r5 _ _ _ cn (by decide) (by omega)).2, r4⟩
    clear aK
    refine round_held (S := fun W' => Below W.heap.size W W') (by kernel_rfl) (by kernel_rfl) (noOut_then (noOut_block noOut_own)) (Below.drew (b0 W)) (fun hS => ?_)
    refine wpAnyH_take (i := 0) (v := .slice (some ⟨b0', off0, none⟩) m c) rfl (by kernel_rfl) (by kernel_rfl) (by kernel_rfl) (fun _ _ _ h => h) (Or.inl ⟨by rfl, fun ww hSw => ?_⟩) hS ?_
    · have e0 := (hSw.cell (p := ⟨w.heap.size, 0, none⟩) z0).trans c0.cell; have e1 := (hSw.cell (p := ⟨w.heap.size + 1, 0, none⟩) z1).trans c1.cell; have eo := (hSw.cell (p := ⟨w2.heap.size, 0, none⟩) zo).trans hv.cell; have e2 := (hSw.cell (p := ⟨b0', off0 + pre.length * 2, none⟩) hb0').trans hp1; have e3 := (hSw.cell (p := ⟨b0', off0 + pre.length * 2 + 1, none⟩) hb0').trans hp2; have e4 := (hSw.cell (p := ⟨b1', off1 + x.1 * 2, none⟩) hb1').trans ha1; have e5 := (hSw.cell (p := ⟨b1', off1 + x.1 * 2 + 1, none⟩) hb1').trans ha2; have e6 := (hSw.cell (p := ⟨b1', off1 + x.2 * 2, none⟩) hb1').trans hg1; have e7 := (hSw.cell (p := ⟨b1', off1 + x.2 * 2 + 1, none⟩) hb1').trans hg2; clear hSw; go_simp
    refine wpAnyH_take (i := 1) (v := .slice Av pre.length cv) rfl (by kernel_rfl) (by kernel_rfl) (by kernel_rfl) (fun _ _ _ h => h) (Or.inl ⟨by rfl, fun ww hSw => ?_⟩) hS ?_
    · have e0 := (hSw.cell (p := ⟨w.heap.size, 0, none⟩) z0).trans c0.cell; have e1 := (hSw.cell (p := ⟨w.heap.size + 1, 0, none⟩) z1).trans c1.cell; have eo := (hSw.cell (p := ⟨w2.heap.size, 0, none⟩) zo).trans hv.cell; have e2 := (hSw.cell (p := ⟨b0', off0 + pre.length * 2, none⟩) hb0').trans hp1; have e3 := (hSw.cell (p := ⟨b0', off0 + pre.length * 2 + 1, none⟩) hb0').trans hp2; have e4 := (hSw.cell (p := ⟨b1', off1 + x.1 * 2, none⟩) hb1').trans ha1; have e5 := (hSw.cell (p := ⟨b1', off1 + x.1 * 2 + 1, none⟩) hb1').trans ha2; have e6 := (hSw.cell (p := ⟨b1', off1 + x.2 * 2, none⟩) hb1').trans hg1; have e7 := (hSw.cell (p := ⟨b1', off1 + x.2 * 2 + 1, none⟩) hb1').trans hg2; clear hSw; go_simp
    refine wpAnyH_take (i := 2) (v := .int .i64 pre.length) rfl (by kernel_rfl) (by kernel_rfl) (by kernel_rfl) (fun _ _ _ h => h) (Or.inl ⟨by rfl, fun ww hSw => ?_⟩) hS ?_
    · have e0 := (hSw.cell (p := ⟨w.heap.size, 0, none⟩) z0).trans c0.cell; have e1 := (hSw.cell (p := ⟨w.heap.size + 1, 0, none⟩) z1).trans c1.cell; have eo := (hSw.cell (p := ⟨w2.heap.size, 0, none⟩) zo).trans hv.cell; have e2 := (hSw.cell (p := ⟨b0', off0 + pre.length * 2, none⟩) hb0').trans hp1; have e3 := (hSw.cell (p := ⟨b0', off0 + pre.length * 2 + 1, none⟩) hb0').trans hp2; have e4 := (hSw.cell (p := ⟨b1', off1 + x.1 * 2, none⟩) hb1').trans ha1; have e5 := (hSw.cell (p := ⟨b1', off1 + x.1 * 2 + 1, none⟩) hb1').trans ha2; have e6 := (hSw.cell (p := ⟨b1', off1 + x.2 * 2, none⟩) hb1').trans hg1; have e7 := (hSw.cell (p := ⟨b1', off1 + x.2 * 2 + 1, none⟩) hb1').trans hg2; clear hSw; go_simp
    refine wpAnyH_take (i := 3) (v := .pointer (some ⟨b0', off0 + pre.length * 2, none⟩)) rfl (by kernel_rfl) (by kernel_rfl) (by kernel_rfl) (fun _ _ _ h => h) (Or.inl ⟨by rfl, fun ww hSw => ?_⟩) hS ?_
    · have e0 := (hSw.cell (p := ⟨w.heap.size, 0, none⟩) z0).trans c0.cell; have e1 := (hSw.cell (p := ⟨w.heap.size + 1, 0, none⟩) z1).trans c1.cell; have eo := (hSw.cell (p := ⟨w2.heap.size, 0, none⟩) zo).trans hv.cell; have e2 := (hSw.cell (p := ⟨b0', off0 + pre.length * 2, none⟩) hb0').trans hp1; have e3 := (hSw.cell (p := ⟨b0', off0 + pre.length * 2 + 1, none⟩) hb0').trans hp2; have e4 := (hSw.cell (p := ⟨b1', off1 + x.1 * 2, none⟩) hb1').trans ha1; have e5 := (hSw.cell (p := ⟨b1', off1 + x.1 * 2 + 1, none⟩) hb1').trans ha2; have e6 := (hSw.cell (p := ⟨b1', off1 + x.2 * 2, none⟩) hb1').trans hg1; have e7 := (hSw.cell (p := ⟨b1', off1 + x.2 * 2 + 1, none⟩) hb1').trans hg2; clear hSw; go_simp
    refine wpAnyH_take (i := 4) (v := .agg #[.int .i64 p.1, .int .i64 p.2]) rfl (by kernel_rfl) (by kernel_rfl) (by kernel_rfl) (fun _ _ _ h => h) (Or.inl ⟨by rfl, fun ww hSw => ?_⟩) hS ?_
    · have e0 := (hSw.cell (p := ⟨w.heap.size, 0, none⟩) z0).trans c0.cell; have e1 := (hSw.cell (p := ⟨w.heap.size + 1, 0, none⟩) z1).trans c1.cell; have eo := (hSw.cell (p := ⟨w2.heap.size, 0, none⟩) zo).trans hv.cell; have e2 := (hSw.cell (p := ⟨b0', off0 + pre.length * 2, none⟩) hb0').trans hp1; have e3 := (hSw.cell (p := ⟨b0', off0 + pre.length * 2 + 1, none⟩) hb0').trans hp2; have e4 := (hSw.cell (p := ⟨b1', off1 + x.1 * 2, none⟩) hb1').trans ha1; have e5 := (hSw.cell (p := ⟨b1', off1 + x.1 * 2 + 1, none⟩) hb1').trans ha2; have e6 := (hSw.cell (p := ⟨b1', off1 + x.2 * 2, none⟩) hb1').trans hg1; have e7 := (hSw.cell (p := ⟨b1', off1 + x.2 * 2 + 1, none⟩) hb1').trans hg2; clear hSw; go_simp
    refine wpAnyH_take (i := 5) (v := .slice (some ⟨b1', off1, none⟩) m' c') rfl (by kernel_rfl) (by kernel_rfl) (by kernel_rfl) (fun _ _ _ h => h) (Or.inl ⟨by rfl, fun ww hSw => ?_⟩) hS ?_
    · have e0 := (hSw.cell (p := ⟨w.heap.size, 0, none⟩) z0).trans c0.cell; have e1 := (hSw.cell (p := ⟨w.heap.size + 1, 0, none⟩) z1).trans c1.cell; have eo := (hSw.cell (p := ⟨w2.heap.size, 0, none⟩) zo).trans hv.cell; have e2 := (hSw.cell (p := ⟨b0', off0 + pre.length * 2, none⟩) hb0').trans hp1; have e3 := (hSw.cell (p := ⟨b0', off0 + pre.length * 2 + 1, none⟩) hb0').trans hp2; have e4 := (hSw.cell (p := ⟨b1', off1 + x.1 * 2, none⟩) hb1').trans ha1; have e5 := (hSw.cell (p := ⟨b1', off1 + x.1 * 2 + 1, none⟩) hb1').trans ha2; have e6 := (hSw.cell (p := ⟨b1', off1 + x.2 * 2, none⟩) hb1').trans hg1; have e7 := (hSw.cell (p := ⟨b1', off1 + x.2 * 2 + 1, none⟩) hb1').trans hg2; clear hSw; go_simp
    refine wpAnyH_take (i := 6) (v := .int .i64 x.1) rfl (by kernel_rfl) (by kernel_rfl) (by kernel_rfl) (fun _ _ _ h => h) (Or.inl ⟨by rfl, fun ww hSw => ?_⟩) hS ?_
    · have e0 := (hSw.cell (p := ⟨w.heap.size, 0, none⟩) z0).trans c0.cell; have e1 := (hSw.cell (p := ⟨w.heap.size + 1, 0, none⟩) z1).trans c1.cell; have eo := (hSw.cell (p := ⟨w2.heap.size, 0, none⟩) zo).trans hv.cell; have e2 := (hSw.cell (p := ⟨b0', off0 + pre.length * 2, none⟩) hb0').trans hp1; have e3 := (hSw.cell (p := ⟨b0', off0 + pre.length * 2 + 1, none⟩) hb0').trans hp2; have e4 := (hSw.cell (p := ⟨b1', off1 + x.1 * 2, none⟩) hb1').trans ha1; have e5 := (hSw.cell (p := ⟨b1', off1 + x.1 * 2 + 1, none⟩) hb1').trans ha2; have e6 := (hSw.cell (p := ⟨b1', off1 + x.2 * 2, none⟩) hb1').trans hg1; have e7 := (hSw.cell (p := ⟨b1', off1 + x.2 * 2 + 1, none⟩) hb1').trans hg2; clear hSw; go_simp
    refine wpAnyH_take (i := 7) (v := .pointer (some ⟨b1', off1 + x.1 * 2, none⟩)) rfl (by kernel_rfl) (by kernel_rfl) (by kernel_rfl) (fun _ _ _ h => h) (Or.inl ⟨by rfl, fun ww hSw => ?_⟩) hS ?_
    · have e0 := (hSw.cell (p := ⟨w.heap.size, 0, none⟩) z0).trans c0.cell; have e1 := (hSw.cell (p := ⟨w.heap.size + 1, 0, none⟩) z1).trans c1.cell; have eo := (hSw.cell (p := ⟨w2.heap.size, 0, none⟩) zo).trans hv.cell; have e2 := (hSw.cell (p := ⟨b0', off0 + pre.length * 2, none⟩) hb0').trans hp1; have e3 := (hSw.cell (p := ⟨b0', off0 + pre.length * 2 + 1, none⟩) hb0').trans hp2; have e4 := (hSw.cell (p := ⟨b1', off1 + x.1 * 2, none⟩) hb1').trans ha1; have e5 := (hSw.cell (p := ⟨b1', off1 + x.1 * 2 + 1, none⟩) hb1').trans ha2; have e6 := (hSw.cell (p := ⟨b1', off1 + x.2 * 2, none⟩) hb1').trans hg1; have e7 := (hSw.cell (p := ⟨b1', off1 + x.2 * 2 + 1, none⟩) hb1').trans hg2; clear hSw; go_simp
    refine wpAnyH_take (i := 8) (v := .agg #[.int .i64 a.1, .int .i64 a.2]) rfl (by kernel_rfl) (by kernel_rfl) (by kernel_rfl) (fun _ _ _ h => h) (Or.inl ⟨by rfl, fun ww hSw => ?_⟩) hS ?_
    · have e0 := (hSw.cell (p := ⟨w.heap.size, 0, none⟩) z0).trans c0.cell; have e1 := (hSw.cell (p := ⟨w.heap.size + 1, 0, none⟩) z1).trans c1.cell; have eo := (hSw.cell (p := ⟨w2.heap.size, 0, none⟩) zo).trans hv.cell; have e2 := (hSw.cell (p := ⟨b0', off0 + pre.length * 2, none⟩) hb0').trans hp1; have e3 := (hSw.cell (p := ⟨b0', off0 + pre.length * 2 + 1, none⟩) hb0').trans hp2; have e4 := (hSw.cell (p := ⟨b1', off1 + x.1 * 2, none⟩) hb1').trans ha1; have e5 := (hSw.cell (p := ⟨b1', off1 + x.1 * 2 + 1, none⟩) hb1').trans ha2; have e6 := (hSw.cell (p := ⟨b1', off1 + x.2 * 2, none⟩) hb1').trans hg1; have e7 := (hSw.cell (p := ⟨b1', off1 + x.2 * 2 + 1, none⟩) hb1').trans hg2; clear hSw; go_simp
    refine wpAnyH_take (i := 9) (v := .slice (some ⟨b1', off1, none⟩) m' c') rfl (by kernel_rfl) (by kernel_rfl) (by kernel_rfl) (fun _ _ _ h => h) (Or.inl ⟨by rfl, fun ww hSw => ?_⟩) hS ?_
    · have e0 := (hSw.cell (p := ⟨w.heap.size, 0, none⟩) z0).trans c0.cell; have e1 := (hSw.cell (p := ⟨w.heap.size + 1, 0, none⟩) z1).trans c1.cell; have eo := (hSw.cell (p := ⟨w2.heap.size, 0, none⟩) zo).trans hv.cell; have e2 := (hSw.cell (p := ⟨b0', off0 + pre.length * 2, none⟩) hb0').trans hp1; have e3 := (hSw.cell (p := ⟨b0', off0 + pre.length * 2 + 1, none⟩) hb0').trans hp2; have e4 := (hSw.cell (p := ⟨b1', off1 + x.1 * 2, none⟩) hb1').trans ha1; have e5 := (hSw.cell (p := ⟨b1', off1 + x.1 * 2 + 1, none⟩) hb1').trans ha2; have e6 := (hSw.cell (p := ⟨b1', off1 + x.2 * 2, none⟩) hb1').trans hg1; have e7 := (hSw.cell (p := ⟨b1', off1 + x.2 * 2 + 1, none⟩) hb1').trans hg2; clear hSw; go_simp
    refine wpAnyH_take (i := 10) (v := .int .i64 x.2) rfl (by kernel_rfl) (by kernel_rfl) (by kernel_rfl) (fun _ _ _ h => h) (Or.inl ⟨by rfl, fun ww hSw => ?_⟩) hS ?_
    · have e0 := (hSw.cell (p := ⟨w.heap.size, 0, none⟩) z0).trans c0.cell; have e1 := (hSw.cell (p := ⟨w.heap.size + 1, 0, none⟩) z1).trans c1.cell; have eo := (hSw.cell (p := ⟨w2.heap.size, 0, none⟩) zo).trans hv.cell; have e2 := (hSw.cell (p := ⟨b0', off0 + pre.length * 2, none⟩) hb0').trans hp1; have e3 := (hSw.cell (p := ⟨b0', off0 + pre.length * 2 + 1, none⟩) hb0').trans hp2; have e4 := (hSw.cell (p := ⟨b1', off1 + x.1 * 2, none⟩) hb1').trans ha1; have e5 := (hSw.cell (p := ⟨b1', off1 + x.1 * 2 + 1, none⟩) hb1').trans ha2; have e6 := (hSw.cell (p := ⟨b1', off1 + x.2 * 2, none⟩) hb1').trans hg1; have e7 := (hSw.cell (p := ⟨b1', off1 + x.2 * 2 + 1, none⟩) hb1').trans hg2; clear hSw; go_simp
    refine wpAnyH_take (i := 11) (v := .pointer (some ⟨b1', off1 + x.2 * 2, none⟩)) rfl (by kernel_rfl) (by kernel_rfl) (by kernel_rfl) (fun _ _ _ h => h) (Or.inl ⟨by rfl, fun ww hSw => ?_⟩) hS ?_
    · have e0 := (hSw.cell (p := ⟨w.heap.size, 0, none⟩) z0).trans c0.cell; have e1 := (hSw.cell (p := ⟨w.heap.size + 1, 0, none⟩) z1).trans c1.cell; have eo := (hSw.cell (p := ⟨w2.heap.size, 0, none⟩) zo).trans hv.cell; have e2 := (hSw.cell (p := ⟨b0', off0 + pre.length * 2, none⟩) hb0').trans hp1; have e3 := (hSw.cell (p := ⟨b0', off0 + pre.length * 2 + 1, none⟩) hb0').trans hp2; have e4 := (hSw.cell (p := ⟨b1', off1 + x.1 * 2, none⟩) hb1').trans ha1; have e5 := (hSw.cell (p := ⟨b1', off1 + x.1 * 2 + 1, none⟩) hb1').trans ha2; have e6 := (hSw.cell (p := ⟨b1', off1 + x.2 * 2, none⟩) hb1').trans hg1; have e7 := (hSw.cell (p := ⟨b1', off1 + x.2 * 2 + 1, none⟩) hb1').trans hg2; clear hSw; go_simp
    refine wpAnyH_take (i := 12) (v := .agg #[.int .i64 b.1, .int .i64 b.2]) rfl (by kernel_rfl) (by kernel_rfl) (by kernel_rfl) (fun _ _ _ h => h) (Or.inl ⟨by rfl, fun ww hSw => ?_⟩) hS ?_
    · have e0 := (hSw.cell (p := ⟨w.heap.size, 0, none⟩) z0).trans c0.cell; have e1 := (hSw.cell (p := ⟨w.heap.size + 1, 0, none⟩) z1).trans c1.cell; have eo := (hSw.cell (p := ⟨w2.heap.size, 0, none⟩) zo).trans hv.cell; have e2 := (hSw.cell (p := ⟨b0', off0 + pre.length * 2, none⟩) hb0').trans hp1; have e3 := (hSw.cell (p := ⟨b0', off0 + pre.length * 2 + 1, none⟩) hb0').trans hp2; have e4 := (hSw.cell (p := ⟨b1', off1 + x.1 * 2, none⟩) hb1').trans ha1; have e5 := (hSw.cell (p := ⟨b1', off1 + x.1 * 2 + 1, none⟩) hb1').trans ha2; have e6 := (hSw.cell (p := ⟨b1', off1 + x.2 * 2, none⟩) hb1').trans hg1; have e7 := (hSw.cell (p := ⟨b1', off1 + x.2 * 2 + 1, none⟩) hb1').trans hg2; clear hSw; go_simp
    refine wpAnyH_ready (rs := [13, 14, 15]) (by kernel_rfl) (by simp) ?_
    refine AllReadyH.cons rfl (fun K hK => ?_) (AllReadyH.cons rfl (fun K hK => ?_) (AllReadyH.cons rfl (fun K hK => ?_) AllReadyH.nil))
    · go_simp
      refine hK.out _ _ (bA hS _) (fun hS => ?_)
      clear hK K
      refine wpAnyH_ready (rs := [14, 15]) (by kernel_rfl) (by simp) ?_
      refine AllReadyH.cons rfl (fun K hK => ?_) (AllReadyH.cons rfl (fun K hK => ?_) AllReadyH.nil)
      · go_simp
        refine hK.out _ _ (bA hS _) (fun hS => ?_)
        clear hK K
        refine wpAnyH_ready (rs := [15]) (by kernel_rfl) (by simp) ?_
        refine AllReadyH.cons rfl (fun K hK => ?_) AllReadyH.nil
        go_simp
        refine hK.out _ _ (bA hS _) (fun hS => ?_)
        clear hK K
        refine wpAnyH_ready (rs := [16]) (by kernel_rfl) (by simp) ?_
        refine AllReadyH.cons rfl (fun K hK => ?_) AllReadyH.nil
        go_simp
        refine hK.out _ _ (Below.drew (bA (bA (bA (b0 W) _) _) _)) (fun hS => ?_)
        clear hK K
        refine wpAnyH_ready (rs := [17]) (by kernel_rfl) (by simp) ?_
        refine AllReadyH.cons rfl (fun K hK => ?_) AllReadyH.nil
        go_simp
        refine hK.out _ _ (Below.drew (bA (bA (bA (b0 W) _) _) _)) (fun hS => ?_)
        clear hK K
        refine wpAnyH_ready (rs := [18]) (by kernel_rfl) (by simp) ?_
        refine AllReadyH.cons rfl (fun K hK => ?_) AllReadyH.nil
        go_simp
        refine hK.out _ _ (Below.drew (bA (bA (bA (b0 W) _) _) _)) (fun hS => ?_)
        clear hK K
        refine ⟨by kernel_rfl, ?_⟩
        exact hcont (W.heap.size) (W.heap.size + 1) (W.heap.size + 1 + 1) _ (Below.drew (bA (bA (bA (b0 W) _) _) _)) ⟨by omega, by simp <;> omega⟩ ⟨by omega, by simp <;> omega⟩ ⟨by omega, by simp <;> omega⟩ (by simp [go_sem]) (by simp [go_sem]) (by simp [go_sem]) (by simp [go_sem]) (by simp [go_sem]) (by simp [go_sem])
      · go_simp
        refine hK.out _ _ (bA hS _) (fun hS => ?_)
        clear hK K
        refine wpAnyH_ready (rs := [14]) (by kernel_rfl) (by simp) ?_
        refine AllReadyH.cons rfl (fun K hK => ?_) AllReadyH.nil
        go_simp
        refine hK.out _ _ (bA hS _) (fun hS => ?_)
        clear hK K
        refine wpAnyH_ready (rs := [16]) (by kernel_rfl) (by simp) ?_
        refine AllReadyH.cons rfl (fun K hK => ?_) AllReadyH.nil
        go_simp
        refine hK.out _ _ (Below.drew (bA (bA (bA (b0 W) _) _) _)) (fun hS => ?_)
        clear hK K
        refine wpAnyH_ready (rs := [17]) (by kernel_rfl) (by simp) ?_
        refine AllReadyH.cons rfl (fun K hK => ?_) AllReadyH.nil
        go_simp
        refine hK.out _ _ (Below.drew (bA (bA (bA (b0 W) _) _) _)) (fun hS => ?_)
        clear hK K
        refine wpAnyH_ready (rs := [18]) (by kernel_rfl) (by simp) ?_
        refine AllReadyH.cons rfl (fun K hK => ?_) AllReadyH.nil
        go_simp
        refine hK.out _ _ (Below.drew (bA (bA (bA (b0 W) _) _) _)) (fun hS => ?_)
        clear hK K
        refine ⟨by kernel_rfl, ?_⟩
        exact hcont (W.heap.size) (W.heap.size + 1 + 1) (W.heap.size + 1) _ (Below.drew (bA (bA (bA (b0 W) _) _) _)) ⟨by omega, by simp <;> omega⟩ ⟨by omega, by simp <;> omega⟩ ⟨by omega, by simp <;> omega⟩ (by simp [go_sem]) (by simp [go_sem]) (by simp [go_sem]) (by simp [go_sem]) (by simp [go_sem]) (by simp [go_sem])
    · go_simp
      refine hK.out _ _ (bA hS _) (fun hS => ?_)
      clear hK K
      refine wpAnyH_ready (rs := [13, 15]) (by kernel_rfl) (by simp) ?_
      refine AllReadyH.cons rfl (fun K hK => ?_) (AllReadyH.cons rfl (fun K hK => ?_) AllReadyH.nil)
      · go_simp
        refine hK.out _ _ (bA hS _) (fun hS => ?_)
        clear hK K
        refine wpAnyH_ready (rs := [15]) (by kernel_rfl) (by simp) ?_
        refine AllReadyH.cons rfl (fun K hK => ?_) AllReadyH.nil
        go_simp
        refine hK.out _ _ (bA hS _) (fun hS => ?_)
        clear hK K
        refine wpAnyH_ready (rs := [16]) (by kernel_rfl) (by simp) ?_
        refine AllReadyH.cons rfl (fun K hK => ?_) AllReadyH.nil
        go_simp
        refine hK.out _ _ (Below.drew (bA (bA (bA (b0 W) _) _) _)) (fun hS => ?_)
        clear hK K
        refine wpAnyH_ready (rs := [17]) (by kernel_rfl) (by simp) ?_
        refine AllReadyH.cons rfl (fun K hK => ?_) AllReadyH.nil
        go_simp
        refine hK.out _ _ (Below.drew (bA (bA (bA (b0 W) _) _) _)) (fun hS => ?_)
        clear hK K
        refine wpAnyH_ready (rs := [18]) (by kernel_rfl) (by simp) ?_
        refine AllReadyH.cons rfl (fun K hK => ?_) AllReadyH.nil
        go_simp
        refine hK.out _ _ (Below.drew (bA (bA (bA (b0 W) _) _) _)) (fun hS => ?_)
        clear hK K
        refine ⟨by kernel_rfl, ?_⟩
        exact hcont (W.heap.size + 1) (W.heap.size) (W.heap.size + 1 + 1) _ (Below.drew (bA (bA (bA (b0 W) _) _) _)) ⟨by omega, by simp <;> omega⟩ ⟨by omega, by simp <;> omega⟩ ⟨by omega, by simp <;> omega⟩ (by simp [go_sem]) (by simp [go_sem]) (by simp [go_sem]) (by simp [go_sem]) (by simp [go_sem]) (by simp [go_sem])
      · go_simp
        refine hK.out _ _ (bA hS _) (fun hS => ?_)
        clear hK K
        refine wpAnyH_ready (rs := [13]) (by kernel_rfl) (by simp) ?_
        refine AllReadyH.cons rfl (fun K hK => ?_) AllReadyH.nil
        go_simp
        refine hK.out _ _ (bA hS _) (fun hS => ?_)
        clear hK K
        refine wpAnyH_ready (rs := [16]) (by kernel_rfl) (by simp) ?_
        refine AllReadyH.cons rfl (fun K hK => ?_) AllReadyH.nil
        go_simp
        refine hK.out _ _ (Below.drew (bA (bA (bA (b0 W) _) _) _)) (fun hS => ?_)
        clear hK K
        refine wpAnyH_ready (rs := [17]) (by kernel_rfl) (by simp) ?_
        refine AllReadyH.cons rfl (fun K hK => ?_) AllReadyH.nil
        go_simp
        refine hK.out _ _ (Below.drew (bA (bA (bA (b0 W) _) _) _)) (fun hS => ?_)
        clear hK K
        refine wpAnyH_ready (rs := [18]) (by kernel_rfl) (by simp) ?_
        refine AllReadyH.cons rfl (fun K hK => ?_) AllReadyH.nil
        go_simp
        refine hK.out _ _ (Below.drew (bA (bA (bA (b0 W) _) _) _)) (fun hS => ?_)
        clear hK K
        refine ⟨by kernel_rfl, ?_⟩
        exact hcont (W.heap.size + 1 + 1) (W.heap.size) (W.heap.size + 1) _ (Below.drew (bA (bA (bA (b0 W) _) _) _)) ⟨by omega, by simp <;> omega⟩ ⟨by omega, by simp <;> omega⟩ ⟨by omega, by simp <;> omega⟩ (by simp [go_sem]) (by simp [go_sem]) (by simp [go_sem]) (by simp [go_sem]) (by simp [go_sem]) (by simp [go_sem])
    · go_simp
      refine hK.out _ _ (bA hS _) (fun hS => ?_)
      clear hK K
      refine wpAnyH_ready (rs := [13, 14]) (by kernel_rfl) (by simp) ?_
      refine AllReadyH.cons rfl (fun K hK => ?_) (AllReadyH.cons rfl (fun K hK => ?_) AllReadyH.nil)
      · go_simp
        refine hK.out _ _ (bA hS _) (fun hS => ?_)
        clear hK K
        refine wpAnyH_ready (rs := [14]) (by kernel_rfl) (by simp) ?_
        refine AllReadyH.cons rfl (fun K hK => ?_) AllReadyH.nil
        go_simp
        refine hK.out _ _ (bA hS _) (fun hS => ?_)
        clear hK K
        refine wpAnyH_ready (rs := [16]) (by kernel_rfl) (by simp) ?_
        refine AllReadyH.cons rfl (fun K hK => ?_) AllReadyH.nil
        go_simp
        refine hK.out _ _ (Below.drew (bA (bA (bA (b0 W) _) _) _)) (fun hS => ?_)
        clear hK K
        refine wpAnyH_ready (rs := [17]) (by kernel_rfl) (by simp) ?_
        refine AllReadyH.cons rfl (fun K hK => ?_) AllReadyH.nil
        go_simp
        refine hK.out _ _ (Below.drew (bA (bA (bA (b0 W) _) _) _)) (fun hS => ?_)
        clear hK K
        refine wpAnyH_ready (rs := [18]) (by kernel_rfl) (by simp) ?_
        refine AllReadyH.cons rfl (fun K hK => ?_) AllReadyH.nil
        go_simp
        refine hK.out _ _ (Below.drew (bA (bA (bA (b0 W) _) _) _)) (fun hS => ?_)
        clear hK K
        refine ⟨by kernel_rfl, ?_⟩
        exact hcont (W.heap.size + 1) (W.heap.size + 1 + 1) (W.heap.size) _ (Below.drew (bA (bA (bA (b0 W) _) _) _)) ⟨by omega, by simp <;> omega⟩ ⟨by omega, by simp <;> omega⟩ ⟨by omega, by simp <;> omega⟩ (by simp [go_sem]) (by simp [go_sem]) (by simp [go_sem]) (by simp [go_sem]) (by simp [go_sem]) (by simp [go_sem])
      · go_simp
        refine hK.out _ _ (bA hS _) (fun hS => ?_)
        clear hK K
        refine wpAnyH_ready (rs := [13]) (by kernel_rfl) (by simp) ?_
        refine AllReadyH.cons rfl (fun K hK => ?_) AllReadyH.nil
        go_simp
        refine hK.out _ _ (bA hS _) (fun hS => ?_)
        clear hK K
        refine wpAnyH_ready (rs := [16]) (by kernel_rfl) (by simp) ?_
        refine AllReadyH.cons rfl (fun K hK => ?_) AllReadyH.nil
        go_simp
        refine hK.out _ _ (Below.drew (bA (bA (bA (b0 W) _) _) _)) (fun hS => ?_)
        clear hK K
        refine wpAnyH_ready (rs := [17]) (by kernel_rfl) (by simp) ?_
        refine AllReadyH.cons rfl (fun K hK => ?_) AllReadyH.nil
        go_simp
        refine hK.out _ _ (Below.drew (bA (bA (bA (b0 W) _) _) _)) (fun hS => ?_)
        clear hK K
        refine wpAnyH_ready (rs := [18]) (by kernel_rfl) (by simp) ?_
        refine AllReadyH.cons rfl (fun K hK => ?_) AllReadyH.nil
        go_simp
        refine hK.out _ _ (Below.drew (bA (bA (bA (b0 W) _) _) _)) (fun hS => ?_)
        clear hK K
        refine ⟨by kernel_rfl, ?_⟩
        exact hcont (W.heap.size + 1 + 1) (W.heap.size + 1) (W.heap.size) _ (Below.drew (bA (bA (bA (b0 W) _) _) _)) ⟨by omega, by simp <;> omega⟩ ⟨by omega, by simp <;> omega⟩ ⟨by omega, by simp <;> omega⟩ (by simp [go_sem]) (by simp [go_sem]) (by simp [go_sem]) (by simp [go_sem]) (by simp [go_sem]) (by simp [go_sem])
  case done =>
    rintro D W hD ⟨⟨v, hv, hrow, tr⟩, c0, c1, cn, hB⟩ hK
    clear tr
    have hc := hv.cell
    have el : (Vm.basesL N).length = (Vm.mk N (Vm.gapF N L G)).length := by rw [Vm.mk, List.length_map]
    have hrow' : W.ownsRow w.heap.size 41 2 v (Vm.mk N (Vm.gapF N L G)).length (cp (Vm.mk N (Vm.gapF N L G))) := by rw [← el]; exact hrow
    obtain ⟨Av, cv, rfl⟩ := own_form hrow'
    have EL := Lib.hid el
    clear el hrow
    have hgb : Vm.gapB N L G = Vm.visB N (Vm.mk N (Vm.gapF N L G)) := by simp [Vm.gapB, HV.out, HG.out]
    have HGB := Lib.hid hgb
    clear hgb
    obtain ⟨X, hX⟩ : ∃ X, Vm.mk N (Vm.gapF N L G) = X := ⟨_, rfl⟩
    have HX := Lib.hid hX
    rw [hX] at hrow' HGB
    have hcX : W.cell? ⟨w2.heap.size, 0, none⟩ = some (.slice Av X.length cv) := by rw [← HX.out]; exact hc
    clear hX hc EL
    go_wp2_with fail
    refine (VisValid_any _ _ _ N X _ (Rd.of_own hrow')).mono ?_
    rintro e w3 ⟨rfl, hB3⟩
    have hK3 := (hB3.block D (Array.getElem?_eq_some_iff.1 hK).1).trans hK
    have hB4 := bT hB hB3
    have hrow3 := own_after hrow' hB3
    have hcX3 := (hB3.cell (p := ⟨w2.heap.size, 0, none⟩) hv.lt).trans hcX
    cases hok : Vm.visB N X
    · have H1 := Lib.hid (HGB.out.trans hok)
      go_wp2_with fail
      refine ⟨by simp, .inl ⟨_, _, rfl, run_takeDeferred hK3, ?_⟩⟩
      refine ⟨.tuple #[.slice none 0 0, .bool false], by simp [results, Try.results19, go_sem], _, by rw [H1.out], ?_, ?_⟩
      · rw [Vm.gapL_no H1.out]; exact World.ownsRow_nil _ _ _ _
      · exact hB4.trans (belowK_b (w := w) (Nat.le_refl _) w3 D _ _ (Nat.le_trans bB0.size hD) hK3 rfl rfl)
    · have H1 := Lib.hid (HGB.out.trans hok)
      go_wp2_with fail
      refine ⟨by simp, .inl ⟨_, _, rfl, run_takeDeferred hK3, ?_⟩⟩
      refine ⟨.tuple #[.slice Av X.length cv, .bool true], by simp [results, Try.results19, go_sem], _, by rw [H1.out], ?_, ?_⟩
      · rw [Vm.gapL_yes H1.out, Int.toNat_natCast, HX.out]; exact ownsRow_putObj hrow3 _ hK3 rfl
      · exact hB4.trans (belowK_b (w := w) (Nat.le_refl _) w3 D _ _ (Nat.le_trans bB0.size hD) hK3 rfl rfl)
  case stop =>
    rintro D c pre W _ _ h _
    exact h.elim

end Go.Proofs.Ytmoeofclpnblmaa
