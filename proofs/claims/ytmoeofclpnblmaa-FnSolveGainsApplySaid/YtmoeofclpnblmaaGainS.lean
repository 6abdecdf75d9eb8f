/- Contracts: GainApply of the program and of the reference. Written by gasgen.py. -/
import Derived.Test.YtmoeofclpnblmaaGainA
import Derived.Test.YtmoeofclpnblmaaMkN
import Derived.Deep.RegionHeld
namespace Go.Proofs.Ytmoeofclpnblmaa
open Go.RowKit

theorem gap_no1 {n : Int} {L G : List (Int × Int)} (h : Vm.visB n L = false) : Vm.gapB n L G = false := by simp [Vm.gapB, h]
theorem gap_no2 {n : Int} {L G : List (Int × Int)} (h : Vm.gainB n G = false) : Vm.gapB n L G = false := by simp [Vm.gapB, h]
theorem GapPost.no {n : Int} {L G : List (Int × Int)} {w w' : World} (h : Vm.gapB n L G = false) (hB : Below w.heap.size w w') : GapPost n L G w (.returned (.tuple #[.slice none 0 0, .bool false])) w' :=
  ⟨_, by rw [h], by rw [Vm.gapL_no h]; exact World.ownsRow_nil _ _ _ _, hB⟩
set_option maxHeartbeats 2000000 in
theorem GainApply_any (A A' : Option Addr) (m c m' c' : Nat) (n : Int) (L G : List (Int × Int)) (w : World) (h : Rd w w.heap.size 2 A m c (cp L)) (h' : Rd w w.heap.size 2 A' m' c' (cp G)) :
    Calls Try.prog 19 #[.int .i64 n, .slice A m c, .slice A' m' c'] w (GapPost n L G w) := by
  cases hv : Vm.visB n L
  · have H := Lib.hid (gap_no1 (G := G) hv)
    go_enter Try.func19, Try.ntmps19
    go_wp2_with fail
    refine (VisValid_any _ _ _ n L _ (h.after (bA (bA (b0 w) _) _))).mono ?_
    rintro e w1 ⟨rfl, hB1⟩
    rw [hv]
    obtain ⟨q1, q2⟩ := bcell hB1
    have k1 : w1.cell? ⟨w.heap.size + 1, 0, none⟩ = some (.slice A' m' c') := (q1 _ _ (by simp)).trans (by simp [go_sem])
    clear q1 q2
    go_wp2_with fail
    go_ret2
    exact GapPost.no H.out (bT (bA (bA (b0 w) _) _) hB1)
  · cases hg : Vm.gainB n G
    · have H := Lib.hid (gap_no2 (L := L) hg)
      have HG := Lib.hid hg
      have HV := Lib.hid hv
      clear hg hv
      go_enter Try.func19, Try.ntmps19
      go_wp2_with fail
      refine (VisValid_any _ _ _ n L _ (h.after (bA (bA (b0 w) _) _))).mono ?_
      rintro e w1 ⟨rfl, hB1⟩
      rw [HV.out]
      obtain ⟨q1, q2⟩ := bcell hB1
      have k1 : w1.cell? ⟨w.heap.size + 1, 0, none⟩ = some (.slice A' m' c') := (q1 _ _ (by simp)).trans (by simp [go_sem])
      clear q1 q2
      go_wp2_with fail
      refine (GainsValid_any _ _ _ n G _ ((h'.after (bA (bA (b0 w) _) _)).after hB1)).mono ?_
      rintro e w2 ⟨rfl, hB2⟩
      rw [HG.out]
      go_wp2_with fail
      go_ret2
      exact GapPost.no H.out (bT (bT (bA (bA (b0 w) _) _) hB1) hB2)
    · obtain ⟨N, rfl, hO⟩ := Vm.Ok.of hv
      exact GainApply_ok A A' m c m' c' N L G w h h' hv hg
set_option maxHeartbeats 4000000 in
theorem sGainApply_any (A A' : Option Addr) (m c m' c' : Nat) (n : Int) (L G : List (Int × Int)) (w : World) (h : Rd w w.heap.size 2 A m c (cp L)) (h' : Rd w w.heap.size 2 A' m' c' (cp G)) :
    Calls Try.prog 20 #[.int .i64 n, .slice A m c, .slice A' m' c'] w (GapPost n L G w) := by
  have hO0 : (w.alloc (.cells #[] 41)).ownsRow w.heap.size 41 2 (.slice (some ⟨w.heap.size, 0, none⟩) 0 0) 0 [] := World.ownsRow_lit w #[] 0 (Nat.le_refl _) (by decide) rfl
  have hrA := h.after (bA (b0 w) (.cells #[] 41))
  have hrB := h'.after (bA (b0 w) (.cells #[] 41))
  have hno : ∀ w1, w1 = w.alloc (.cells #[] 41) → Vm.gapB n L G = false → GapPost n L G w (.returned (.tuple #[.slice (some ⟨w.heap.size, 0, none⟩) 0 0, .bool false])) w1 := fun w1 e hf => by
    subst e; exact ⟨_, by rw [hf], by rw [Vm.gapL_no hf]; exact hO0, bA (b0 w) _⟩
  cases hv : Vm.visB n L
  · have H := Lib.hid (hno _ rfl (gap_no1 (G := G) hv))
    clear hO0 hno
    go_enter Try.func20, Try.ntmps20
    go_wp2_with fail
    refine (sVisValid_any _ _ _ n L _ hrA).mono ?_
    rintro e w' ⟨rfl, rfl⟩
    rw [hv]
    go_wp2_with fail
    go_ret2
    exact H.out
  · cases hg : Vm.gainB n G
    · have H := Lib.hid (hno _ rfl (gap_no2 (L := L) hg))
      have HG := Lib.hid hg
      have HV := Lib.hid hv
      clear hO0 hno hv hg
      go_enter Try.func20, Try.ntmps20
      go_wp2_with fail
      refine (sVisValid_any _ _ _ n L _ hrA).mono ?_
      rintro e w' ⟨rfl, rfl⟩
      rw [HV.out]
      go_wp2_with fail
      refine (sGainsValid_any _ _ _ n G _ hrB).mono ?_
      rintro e w' ⟨rfl, rfl⟩
      rw [HG.out]
      go_wp2_with fail
      go_ret2
      exact H.out
    · obtain ⟨N, rfl, hOk⟩ := Vm.Ok.of hv
      have HO := Lib.hid hOk
      have HG := Lib.hid hg
      have HV := Lib.hid hv
      have h2 := hOk.lo
      have h7 := hOk.hi
      have gl : G.length = N := by have := ((Vm.gainB_iff _ _).1 hg).2.1; omega
      have ml' : m' = G.length := by have := h'.len; rw [cp_length] at this; omega
      have hgb : Vm.gapB N L G = Vm.visB N (Vm.mk N (Vm.gapF N L G)) := by simp [Vm.gapB, hv, hg]
      have HGB := Lib.hid hgb
      have GL := Lib.hid gl
      have ML := Lib.hid ml'
      clear hv hg hOk gl ml' hno hgb
      obtain ⟨i0, hi, hz0, hz1, hz2⟩ := info_parts infoVis
      go_enter Try.func20, Try.ntmps20
      go_wp2_with fail
      refine (sVisValid_any _ _ _ N L _ hrA).mono ?_
      rintro e w' ⟨rfl, rfl⟩
      rw [HV.out]
      go_wp2_with fail
      refine (sGainsValid_any _ _ _ N G _ hrB).mono ?_
      rintro e w' ⟨rfl, rfl⟩
      rw [HG.out]
      go_wp2_with fail
      go_loopw [8, 9] (fun v i wr => ∃ q : Nat, q ≤ N ∧ i = .int .i64 q ∧ wr.ownsRow w.heap.size 41 2 v (mkN N (Vm.bt N q (q + 1)) (Vm.gapF N L G)).length (cp (mkN N (Vm.bt N q (q + 1)) (Vm.gapF N L G))) ∧ Below w.heap.size w wr) (fun _ i _ => N - (intOf i).toNat)
      case atStart => exact ⟨0, Nat.zero_le _, rfl, by rw [(Vm.bt_zero_all N (by omega)).1, mkN_zero]; exact hO0, bA (b0 w) _⟩
      case round =>
        clear hO0 hrA hrB
        obtain ⟨q, hq, rfl, hown, hB⟩ := hrel
        by_cases hlt : q < N
        · go_wp2_with fail
          go_loopw [8, 10] (fun v i wr => ∃ r : Nat, q < r ∧ r ≤ N ∧ i = .int .i64 r ∧ wr.ownsRow w.heap.size 41 2 v (mkN N (Vm.bt N q r) (Vm.gapF N L G)).length (cp (mkN N (Vm.bt N q r) (Vm.gapF N L G))) ∧ Below w.heap.size w wr) (fun _ i _ => N - (intOf i).toNat)
          case atStart => exact ⟨q + 1, by omega, by omega, by go_num, hown, hB⟩
          case round =>
            clear hown hB
            obtain ⟨r, hqr, hr, rfl, hown, hB⟩ := hrel
            by_cases hrl : r < N
            · have hM := mkN_step h7 hqr hrl (Vm.gapF N L G)
              have hlen := mkN_len h7 (Vm.bt N q r) (Vm.gapF N L G)
              have hqG : q < G.length := by have := GL.out; omega
              have hrG : r < G.length := by have := GL.out; omega
              have bnd := Vm.gapF_bd HV.out HG.out (i := q) (j := r) (by omega) (by omega) (by omega)
              have gi := Vm.gat_rng HG.out (i := q) (by omega)
              have gj := Vm.gat_rng HG.out (i := r) (by omega)
              have ea : Vm.gat G q = G[q] := by simp [Vm.gat, hqG]
              have eb : Vm.gat G r = G[r] := by simp [Vm.gat, hrG]
              have eF : Vm.gapF N L G q r = ((Vm.vget N L q r).1 * (Vm.gat G q).1 * (Vm.gat G r).1, ((Vm.vget N L q r).2 + (Vm.gat G r).2 - (Vm.gat G q).2) % 360) := rfl
              rw [eF, ea, eb] at hM
              rw [ea, eb] at bnd
              clear eF
              rw [ea] at gi
              rw [eb] at gj
              have i2 : (q : Int) < (m' : Int) := by have := ML.out; omega
              have i3 : (r : Int) < (m' : Int) := by have := ML.out; omega
              obtain ⟨a, ha⟩ : ∃ p, G[q] = p := ⟨_, rfl⟩
              obtain ⟨b, hb⟩ : ∃ p, G[r] = p := ⟨_, rfl⟩
              rw [ha, hb] at hM bnd
              rw [ha] at gi
              rw [hb] at gj
              have AA := Lib.hid ha
              have BB := Lib.hid hb
              clear ea eb ha hb
              go_wp2_with fail
              refine (l11Get_any A m c N q r L _ ((h.below hB).more hB.size) HV.out (by omega) (by omega) (by omega)).mono ?_
              rintro e w1 ⟨rfl, hB1⟩
              obtain ⟨p, hp⟩ : ∃ p, Vm.vget N L q r = p := ⟨_, rfl⟩
              rw [hp] at hM bnd ⊢
              have HM := Lib.hid hM
              clear hp hM
              obtain ⟨⟨p1, p2⟩, ⟨p3, p4⟩, ⟨p5, p6⟩, p7, p8⟩ := bnd
              obtain ⟨_, a3, a4⟩ := gi
              obtain ⟨_, b3, b4⟩ := gj
              have hBB := bT hB hB1
              have hrd := (h'.below hBB).more hBB.size
              obtain ⟨b1, off1, eA, hb1, ha1, ha2⟩ := hrd.pair_at hqG
              obtain ⟨b2, off2, eA2, hb2, hg1, hg2⟩ := hrd.pair_at hrG
              rw [eA] at eA2
              injection eA2 with eA2
              injection eA2 with eA2 eA3
              subst eA2 eA3
              rw [AA.out] at ha1 ha2
              rw [BB.out] at hg1 hg2
              have hown1 := (((own_after hown hB1).alloc (.cells #[.int .i64 (p.1 * a.1 * b.1), .int .i64 ((p.2 + b.2 - a.2) % 360)] 41)).alloc (.cells #[.int .i64 (p.1 * a.1 * b.1), .int .i64 ((p.2 + b.2 - a.2) % 360)] 41)).drew.drew
              have hB2 := Below.drew (Below.drew (bA (bA hBB (.cells #[.int .i64 (p.1 * a.1 * b.1), .int .i64 ((p.2 + b.2 - a.2) % 360)] 41)) (.cells #[.int .i64 (p.1 * a.1 * b.1), .int .i64 ((p.2 + b.2 - a.2) % 360)] 41)))
              have hsz := hBB.size
              clear hown hB1 hrd hBB
              subst eA
              unfold gv
              go_wp2_with fail
              have u1 : IntKind.i64.wrap (p.1 * a.1) = p.1 * a.1 := IntWalk.i64_in _ (by omega)
              have u2 : IntKind.i64.wrap (p.1 * a.1 * b.1) = p.1 * a.1 * b.1 := IntWalk.i64_in _ (by omega)
              have u3 : IntKind.i64.wrap (p.2 + b.2) = p.2 + b.2 := IntWalk.i64_in _ (by omega)
              have u4 : IntKind.i64.wrap (p.2 + b.2 - a.2) = p.2 + b.2 - a.2 := IntWalk.i64_in _ (by omega)
              refine wp_region_held_drew (S := fun W' => Below w1.heap.size w1 W') (by kernel_rfl) (Below.drew (bA (b0 w1) _)) (fun hS => ?_)
              refine wpAnyH_take (i := 0) (v := .pointer (some ⟨w1.heap.size, 0, none⟩)) rfl (by kernel_rfl) (by kernel_rfl) (by kernel_rfl) (fun _ _ _ h => h) (Or.inl ⟨by rfl, fun ww hSw => ?_⟩) hS ?_
              · have e1 := (hSw.cell (p := ⟨b1, off1 + q * 2, none⟩) hb1).trans ha1; have e2 := (hSw.cell (p := ⟨b1, off1 + q * 2 + 1, none⟩) hb1).trans ha2; have e3 := (hSw.cell (p := ⟨b1, off1 + r * 2, none⟩) hb1).trans hg1; have e4 := (hSw.cell (p := ⟨b1, off1 + r * 2 + 1, none⟩) hb1).trans hg2; clear hSw; go_simp
              refine wpAnyH_take (i := 2) (v := .slice (some ⟨b1, off1, none⟩) m' c') rfl (by kernel_rfl) (by kernel_rfl) (by kernel_rfl) (fun _ _ _ h => h) (Or.inl ⟨by rfl, fun ww hSw => ?_⟩) hS ?_
              · have e1 := (hSw.cell (p := ⟨b1, off1 + q * 2, none⟩) hb1).trans ha1; have e2 := (hSw.cell (p := ⟨b1, off1 + q * 2 + 1, none⟩) hb1).trans ha2; have e3 := (hSw.cell (p := ⟨b1, off1 + r * 2, none⟩) hb1).trans hg1; have e4 := (hSw.cell (p := ⟨b1, off1 + r * 2 + 1, none⟩) hb1).trans hg2; clear hSw; go_simp
              refine wpAnyH_take (i := 3) (v := .int .i64 q) rfl (by kernel_rfl) (by kernel_rfl) (by kernel_rfl) (fun _ _ _ h => h) (Or.inl ⟨by rfl, fun ww hSw => ?_⟩) hS ?_
              · have e1 := (hSw.cell (p := ⟨b1, off1 + q * 2, none⟩) hb1).trans ha1; have e2 := (hSw.cell (p := ⟨b1, off1 + q * 2 + 1, none⟩) hb1).trans ha2; have e3 := (hSw.cell (p := ⟨b1, off1 + r * 2, none⟩) hb1).trans hg1; have e4 := (hSw.cell (p := ⟨b1, off1 + r * 2 + 1, none⟩) hb1).trans hg2; clear hSw; go_simp
              refine wpAnyH_take (i := 4) (v := .pointer (some ⟨b1, off1 + q * 2, none⟩)) rfl (by kernel_rfl) (by kernel_rfl) (by kernel_rfl) (fun _ _ _ h => h) (Or.inl ⟨by rfl, fun ww hSw => ?_⟩) hS ?_
              · have e1 := (hSw.cell (p := ⟨b1, off1 + q * 2, none⟩) hb1).trans ha1; have e2 := (hSw.cell (p := ⟨b1, off1 + q * 2 + 1, none⟩) hb1).trans ha2; have e3 := (hSw.cell (p := ⟨b1, off1 + r * 2, none⟩) hb1).trans hg1; have e4 := (hSw.cell (p := ⟨b1, off1 + r * 2 + 1, none⟩) hb1).trans hg2; clear hSw; go_simp
              refine wpAnyH_take (i := 5) (v := .pointer (some ⟨b1, off1 + q * 2, none⟩)) rfl (by kernel_rfl) (by kernel_rfl) (by kernel_rfl) (fun _ _ _ h => h) (Or.inl ⟨by rfl, fun ww hSw => ?_⟩) hS ?_
              · have e1 := (hSw.cell (p := ⟨b1, off1 + q * 2, none⟩) hb1).trans ha1; have e2 := (hSw.cell (p := ⟨b1, off1 + q * 2 + 1, none⟩) hb1).trans ha2; have e3 := (hSw.cell (p := ⟨b1, off1 + r * 2, none⟩) hb1).trans hg1; have e4 := (hSw.cell (p := ⟨b1, off1 + r * 2 + 1, none⟩) hb1).trans hg2; clear hSw; go_simp
              refine wpAnyH_take (i := 6) (v := .int .i64 a.1) rfl (by kernel_rfl) (by kernel_rfl) (by kernel_rfl) (fun _ _ _ h => h) (Or.inl ⟨by rfl, fun ww hSw => ?_⟩) hS ?_
              · have e1 := (hSw.cell (p := ⟨b1, off1 + q * 2, none⟩) hb1).trans ha1; have e2 := (hSw.cell (p := ⟨b1, off1 + q * 2 + 1, none⟩) hb1).trans ha2; have e3 := (hSw.cell (p := ⟨b1, off1 + r * 2, none⟩) hb1).trans hg1; have e4 := (hSw.cell (p := ⟨b1, off1 + r * 2 + 1, none⟩) hb1).trans hg2; clear hSw; go_simp
              refine wpAnyH_take (i := 8) (v := .slice (some ⟨b1, off1, none⟩) m' c') rfl (by kernel_rfl) (by kernel_rfl) (by kernel_rfl) (fun _ _ _ h => h) (Or.inl ⟨by rfl, fun ww hSw => ?_⟩) hS ?_
              · have e1 := (hSw.cell (p := ⟨b1, off1 + q * 2, none⟩) hb1).trans ha1; have e2 := (hSw.cell (p := ⟨b1, off1 + q * 2 + 1, none⟩) hb1).trans ha2; have e3 := (hSw.cell (p := ⟨b1, off1 + r * 2, none⟩) hb1).trans hg1; have e4 := (hSw.cell (p := ⟨b1, off1 + r * 2 + 1, none⟩) hb1).trans hg2; clear hSw; go_simp
              refine wpAnyH_take (i := 9) (v := .int .i64 r) rfl (by kernel_rfl) (by kernel_rfl) (by kernel_rfl) (fun _ _ _ h => h) (Or.inl ⟨by rfl, fun ww hSw => ?_⟩) hS ?_
              · have e1 := (hSw.cell (p := ⟨b1, off1 + q * 2, none⟩) hb1).trans ha1; have e2 := (hSw.cell (p := ⟨b1, off1 + q * 2 + 1, none⟩) hb1).trans ha2; have e3 := (hSw.cell (p := ⟨b1, off1 + r * 2, none⟩) hb1).trans hg1; have e4 := (hSw.cell (p := ⟨b1, off1 + r * 2 + 1, none⟩) hb1).trans hg2; clear hSw; go_simp
              refine wpAnyH_take (i := 10) (v := .pointer (some ⟨b1, off1 + r * 2, none⟩)) rfl (by kernel_rfl) (by kernel_rfl) (by kernel_rfl) (fun _ _ _ h => h) (Or.inl ⟨by rfl, fun ww hSw => ?_⟩) hS ?_
              · have e1 := (hSw.cell (p := ⟨b1, off1 + q * 2, none⟩) hb1).trans ha1; have e2 := (hSw.cell (p := ⟨b1, off1 + q * 2 + 1, none⟩) hb1).trans ha2; have e3 := (hSw.cell (p := ⟨b1, off1 + r * 2, none⟩) hb1).trans hg1; have e4 := (hSw.cell (p := ⟨b1, off1 + r * 2 + 1, none⟩) hb1).trans hg2; clear hSw; go_simp
              refine wpAnyH_take (i := 11) (v := .pointer (some ⟨b1, off1 + r * 2, none⟩)) rfl (by kernel_rfl) (by kernel_rfl) (by kernel_rfl) (fun _ _ _ h => h) (Or.inl ⟨by rfl, fun ww hSw => ?_⟩) hS ?_
              · have e1 := (hSw.cell (p := ⟨b1, off1 + q * 2, none⟩) hb1).trans ha1; have e2 := (hSw.cell (p := ⟨b1, off1 + q * 2 + 1, none⟩) hb1).trans ha2; have e3 := (hSw.cell (p := ⟨b1, off1 + r * 2, none⟩) hb1).trans hg1; have e4 := (hSw.cell (p := ⟨b1, off1 + r * 2 + 1, none⟩) hb1).trans hg2; clear hSw; go_simp
              refine wpAnyH_take (i := 12) (v := .int .i64 b.1) rfl (by kernel_rfl) (by kernel_rfl) (by kernel_rfl) (fun _ _ _ h => h) (Or.inl ⟨by rfl, fun ww hSw => ?_⟩) hS ?_
              · have e1 := (hSw.cell (p := ⟨b1, off1 + q * 2, none⟩) hb1).trans ha1; have e2 := (hSw.cell (p := ⟨b1, off1 + q * 2 + 1, none⟩) hb1).trans ha2; have e3 := (hSw.cell (p := ⟨b1, off1 + r * 2, none⟩) hb1).trans hg1; have e4 := (hSw.cell (p := ⟨b1, off1 + r * 2 + 1, none⟩) hb1).trans hg2; clear hSw; go_simp
              refine wpAnyH_ready (rs := [1]) (by kernel_rfl) (by simp) ?_
              refine AllReadyH.cons rfl (fun K hK => ?_) AllReadyH.nil
              go_simp
              refine hK.out _ _ hS (fun hS => ?_)
              clear hK K
              refine wpAnyH_ready (rs := [7]) (by kernel_rfl) (by simp) ?_
              refine AllReadyH.cons rfl (fun K hK => ?_) AllReadyH.nil
              go_simp
              refine hK.out _ _ hS (fun hS => ?_)
              clear hK K
              refine wpAnyH_ready (rs := [13]) (by kernel_rfl) (by simp) ?_
              refine AllReadyH.cons rfl (fun K hK => ?_) AllReadyH.nil
              go_simp
              refine hK.out _ _ hS (fun hS => ?_)
              clear hK K
              refine wpAnyH_take (i := 14) (v := .pointer (some ⟨w1.heap.size, 0, none⟩)) rfl (by kernel_rfl) (by kernel_rfl) (by kernel_rfl) (fun _ _ _ h => h) (Or.inl ⟨by rfl, fun ww hSw => ?_⟩) hS ?_
              · have e1 := (hSw.cell (p := ⟨b1, off1 + q * 2, none⟩) hb1).trans ha1; have e2 := (hSw.cell (p := ⟨b1, off1 + q * 2 + 1, none⟩) hb1).trans ha2; have e3 := (hSw.cell (p := ⟨b1, off1 + r * 2, none⟩) hb1).trans hg1; have e4 := (hSw.cell (p := ⟨b1, off1 + r * 2 + 1, none⟩) hb1).trans hg2; clear hSw; go_simp
              refine wpAnyH_ready (rs := [15]) (by kernel_rfl) (by simp) ?_
              refine AllReadyH.cons rfl (fun K hK => ?_) AllReadyH.nil
              go_simp
              refine hK.out _ _ (by first | exact Below.drew (bA (b0 w1) _) | exact Below.drew (Below.drew (bA (b0 w1) _)) | exact Below.drew (Below.drew (Below.drew (bA (b0 w1) _)))) (fun hS => ?_)
              clear hK K
              refine ⟨by kernel_rfl, ?_⟩
              clear hS u1 u2
              go_wp2_with fail
              refine wp_region_held_drew (S := fun W' => Below w1.heap.size w1 W') (by kernel_rfl) (by first | exact Below.drew (bA (b0 w1) _) | exact Below.drew (Below.drew (bA (b0 w1) _)) | exact Below.drew (Below.drew (Below.drew (bA (b0 w1) _)))) (fun hS => ?_)
              refine wpAnyH_take (i := 0) (v := .pointer (some ⟨w1.heap.size, 1, none⟩)) rfl (by kernel_rfl) (by kernel_rfl) (by kernel_rfl) (fun _ _ _ h => h) (Or.inl ⟨by rfl, fun ww hSw => ?_⟩) hS ?_
              · have e1 := (hSw.cell (p := ⟨b1, off1 + q * 2, none⟩) hb1).trans ha1; have e2 := (hSw.cell (p := ⟨b1, off1 + q * 2 + 1, none⟩) hb1).trans ha2; have e3 := (hSw.cell (p := ⟨b1, off1 + r * 2, none⟩) hb1).trans hg1; have e4 := (hSw.cell (p := ⟨b1, off1 + r * 2 + 1, none⟩) hb1).trans hg2; clear hSw; go_simp
              refine wpAnyH_take (i := 2) (v := .slice (some ⟨b1, off1, none⟩) m' c') rfl (by kernel_rfl) (by kernel_rfl) (by kernel_rfl) (fun _ _ _ h => h) (Or.inl ⟨by rfl, fun ww hSw => ?_⟩) hS ?_
              · have e1 := (hSw.cell (p := ⟨b1, off1 + q * 2, none⟩) hb1).trans ha1; have e2 := (hSw.cell (p := ⟨b1, off1 + q * 2 + 1, none⟩) hb1).trans ha2; have e3 := (hSw.cell (p := ⟨b1, off1 + r * 2, none⟩) hb1).trans hg1; have e4 := (hSw.cell (p := ⟨b1, off1 + r * 2 + 1, none⟩) hb1).trans hg2; clear hSw; go_simp
              refine wpAnyH_take (i := 3) (v := .int .i64 r) rfl (by kernel_rfl) (by kernel_rfl) (by kernel_rfl) (fun _ _ _ h => h) (Or.inl ⟨by rfl, fun ww hSw => ?_⟩) hS ?_
              · have e1 := (hSw.cell (p := ⟨b1, off1 + q * 2, none⟩) hb1).trans ha1; have e2 := (hSw.cell (p := ⟨b1, off1 + q * 2 + 1, none⟩) hb1).trans ha2; have e3 := (hSw.cell (p := ⟨b1, off1 + r * 2, none⟩) hb1).trans hg1; have e4 := (hSw.cell (p := ⟨b1, off1 + r * 2 + 1, none⟩) hb1).trans hg2; clear hSw; go_simp
              refine wpAnyH_take (i := 4) (v := .pointer (some ⟨b1, off1 + r * 2, none⟩)) rfl (by kernel_rfl) (by kernel_rfl) (by kernel_rfl) (fun _ _ _ h => h) (Or.inl ⟨by rfl, fun ww hSw => ?_⟩) hS ?_
              · have e1 := (hSw.cell (p := ⟨b1, off1 + q * 2, none⟩) hb1).trans ha1; have e2 := (hSw.cell (p := ⟨b1, off1 + q * 2 + 1, none⟩) hb1).trans ha2; have e3 := (hSw.cell (p := ⟨b1, off1 + r * 2, none⟩) hb1).trans hg1; have e4 := (hSw.cell (p := ⟨b1, off1 + r * 2 + 1, none⟩) hb1).trans hg2; clear hSw; go_simp
              refine wpAnyH_take (i := 5) (v := .pointer (some ⟨b1, off1 + r * 2 + 1, none⟩)) rfl (by kernel_rfl) (by kernel_rfl) (by kernel_rfl) (fun _ _ _ h => h) (Or.inl ⟨by rfl, fun ww hSw => ?_⟩) hS ?_
              · have e1 := (hSw.cell (p := ⟨b1, off1 + q * 2, none⟩) hb1).trans ha1; have e2 := (hSw.cell (p := ⟨b1, off1 + q * 2 + 1, none⟩) hb1).trans ha2; have e3 := (hSw.cell (p := ⟨b1, off1 + r * 2, none⟩) hb1).trans hg1; have e4 := (hSw.cell (p := ⟨b1, off1 + r * 2 + 1, none⟩) hb1).trans hg2; clear hSw; go_simp
              refine wpAnyH_take (i := 6) (v := .int .i64 b.2) rfl (by kernel_rfl) (by kernel_rfl) (by kernel_rfl) (fun _ _ _ h => h) (Or.inl ⟨by rfl, fun ww hSw => ?_⟩) hS ?_
              · have e1 := (hSw.cell (p := ⟨b1, off1 + q * 2, none⟩) hb1).trans ha1; have e2 := (hSw.cell (p := ⟨b1, off1 + q * 2 + 1, none⟩) hb1).trans ha2; have e3 := (hSw.cell (p := ⟨b1, off1 + r * 2, none⟩) hb1).trans hg1; have e4 := (hSw.cell (p := ⟨b1, off1 + r * 2 + 1, none⟩) hb1).trans hg2; clear hSw; go_simp
              refine wpAnyH_take (i := 8) (v := .slice (some ⟨b1, off1, none⟩) m' c') rfl (by kernel_rfl) (by kernel_rfl) (by kernel_rfl) (fun _ _ _ h => h) (Or.inl ⟨by rfl, fun ww hSw => ?_⟩) hS ?_
              · have e1 := (hSw.cell (p := ⟨b1, off1 + q * 2, none⟩) hb1).trans ha1; have e2 := (hSw.cell (p := ⟨b1, off1 + q * 2 + 1, none⟩) hb1).trans ha2; have e3 := (hSw.cell (p := ⟨b1, off1 + r * 2, none⟩) hb1).trans hg1; have e4 := (hSw.cell (p := ⟨b1, off1 + r * 2 + 1, none⟩) hb1).trans hg2; clear hSw; go_simp
              refine wpAnyH_take (i := 9) (v := .int .i64 q) rfl (by kernel_rfl) (by kernel_rfl) (by kernel_rfl) (fun _ _ _ h => h) (Or.inl ⟨by rfl, fun ww hSw => ?_⟩) hS ?_
              · have e1 := (hSw.cell (p := ⟨b1, off1 + q * 2, none⟩) hb1).trans ha1; have e2 := (hSw.cell (p := ⟨b1, off1 + q * 2 + 1, none⟩) hb1).trans ha2; have e3 := (hSw.cell (p := ⟨b1, off1 + r * 2, none⟩) hb1).trans hg1; have e4 := (hSw.cell (p := ⟨b1, off1 + r * 2 + 1, none⟩) hb1).trans hg2; clear hSw; go_simp
              refine wpAnyH_take (i := 10) (v := .pointer (some ⟨b1, off1 + q * 2, none⟩)) rfl (by kernel_rfl) (by kernel_rfl) (by kernel_rfl) (fun _ _ _ h => h) (Or.inl ⟨by rfl, fun ww hSw => ?_⟩) hS ?_
              · have e1 := (hSw.cell (p := ⟨b1, off1 + q * 2, none⟩) hb1).trans ha1; have e2 := (hSw.cell (p := ⟨b1, off1 + q * 2 + 1, none⟩) hb1).trans ha2; have e3 := (hSw.cell (p := ⟨b1, off1 + r * 2, none⟩) hb1).trans hg1; have e4 := (hSw.cell (p := ⟨b1, off1 + r * 2 + 1, none⟩) hb1).trans hg2; clear hSw; go_simp
              refine wpAnyH_take (i := 11) (v := .pointer (some ⟨b1, off1 + q * 2 + 1, none⟩)) rfl (by kernel_rfl) (by kernel_rfl) (by kernel_rfl) (fun _ _ _ h => h) (Or.inl ⟨by rfl, fun ww hSw => ?_⟩) hS ?_
              · have e1 := (hSw.cell (p := ⟨b1, off1 + q * 2, none⟩) hb1).trans ha1; have e2 := (hSw.cell (p := ⟨b1, off1 + q * 2 + 1, none⟩) hb1).trans ha2; have e3 := (hSw.cell (p := ⟨b1, off1 + r * 2, none⟩) hb1).trans hg1; have e4 := (hSw.cell (p := ⟨b1, off1 + r * 2 + 1, none⟩) hb1).trans hg2; clear hSw; go_simp
              refine wpAnyH_take (i := 12) (v := .int .i64 a.2) rfl (by kernel_rfl) (by kernel_rfl) (by kernel_rfl) (fun _ _ _ h => h) (Or.inl ⟨by rfl, fun ww hSw => ?_⟩) hS ?_
              · have e1 := (hSw.cell (p := ⟨b1, off1 + q * 2, none⟩) hb1).trans ha1; have e2 := (hSw.cell (p := ⟨b1, off1 + q * 2 + 1, none⟩) hb1).trans ha2; have e3 := (hSw.cell (p := ⟨b1, off1 + r * 2, none⟩) hb1).trans hg1; have e4 := (hSw.cell (p := ⟨b1, off1 + r * 2 + 1, none⟩) hb1).trans hg2; clear hSw; go_simp
              refine wpAnyH_ready (rs := [1]) (by kernel_rfl) (by simp) ?_
              refine AllReadyH.cons rfl (fun K hK => ?_) AllReadyH.nil
              go_simp
              refine hK.out _ _ hS (fun hS => ?_)
              clear hK K
              refine wpAnyH_ready (rs := [7]) (by kernel_rfl) (by simp) ?_
              refine AllReadyH.cons rfl (fun K hK => ?_) AllReadyH.nil
              go_simp
              refine hK.out _ _ hS (fun hS => ?_)
              clear hK K
              refine wpAnyH_ready (rs := [13]) (by kernel_rfl) (by simp) ?_
              refine AllReadyH.cons rfl (fun K hK => ?_) AllReadyH.nil
              go_simp
              refine hK.out _ _ hS (fun hS => ?_)
              clear hK K
              refine wpAnyH_ready (rs := [14]) (by kernel_rfl) (by simp) ?_
              refine AllReadyH.cons rfl (fun K hK => ?_) AllReadyH.nil
              go_simp
              refine (sPhaseOf_any _ _).mono ?_
              rintro e w' ⟨rfl, rfl⟩
              refine hK.out _ _ hS (fun hS => ?_)
              clear hK K
              refine wpAnyH_take (i := 15) (v := .pointer (some ⟨w1.heap.size, 1, none⟩)) rfl (by kernel_rfl) (by kernel_rfl) (by kernel_rfl) (fun _ _ _ h => h) (Or.inl ⟨by rfl, fun ww hSw => ?_⟩) hS ?_
              · have e1 := (hSw.cell (p := ⟨b1, off1 + q * 2, none⟩) hb1).trans ha1; have e2 := (hSw.cell (p := ⟨b1, off1 + q * 2 + 1, none⟩) hb1).trans ha2; have e3 := (hSw.cell (p := ⟨b1, off1 + r * 2, none⟩) hb1).trans hg1; have e4 := (hSw.cell (p := ⟨b1, off1 + r * 2 + 1, none⟩) hb1).trans hg2; clear hSw; go_simp
              refine wpAnyH_ready (rs := [16]) (by kernel_rfl) (by simp) ?_
              refine AllReadyH.cons rfl (fun K hK => ?_) AllReadyH.nil
              go_simp
              refine hK.out _ _ (by first | exact Below.drew (bA (b0 w1) _) | exact Below.drew (Below.drew (bA (b0 w1) _)) | exact Below.drew (Below.drew (Below.drew (bA (b0 w1) _)))) (fun hS => ?_)
              clear hK K
              refine ⟨by kernel_rfl, ?_⟩
              clear hS u3 u4
              go_wp2_with (at_builtin; refine wpList_append_own _ rfl _ _ 23 rfl w.heap.size 41 i0 _ 2 16 Try.underlying23 hi hz0 hz1 hz2 rfl (by decide) _ _ _ rfl hown1 ⟨w1.heap.size + 1, 0, none⟩ 1 1 [.int .i64 (p.1 * a.1 * b.1), .int .i64 ((p.2 + b.2 - a.2) % 360)] rfl rfl ?c1 ?c2 ?c3 ?c4 ?c5 ?_)
              case c1 => exact new_cells' _ _ _ _ (by simp)
              case c2 => intro u hu; simp at hu; rcases hu with rfl | rfl <;> rfl
              case c3 => unfold maxLen; omega
              case c4 => omega
              case c5 => simp; omega
              intro v' w3 hown' hgrow _
              have hB3 := own_below (a := w) hB2 hown1 hgrow
              clear hown1 hgrow hB2 hB
              go_wp2_with fail
              go_roundw
              case rel => exact ⟨r + 1, by omega, by omega, by go_num, by rw [HM.out.1, HM.out.2]; exact hown', hB3⟩
              case measure => simp [intOf]; omega
            · have hre : r = N := by omega
              subst hre
              have HB := Lib.hid (Vm.bt_row_all r (by omega) q hlt)
              go_wp2_with fail
              go_roundw
              case rel => exact ⟨q + 1, by omega, by go_num, by rw [← HB.out]; exact hown, hB⟩
              case measure => simp [intOf]; omega
        · have hqe : q = N := by omega
          subst hqe
          rw [mkN_all h7] at hown
          obtain ⟨A', c', rfl⟩ := own_form hown
          obtain ⟨X, hX⟩ : ∃ X, Vm.mk q (Vm.gapF q L G) = X := ⟨_, rfl⟩
          have HX := Lib.hid hX
          rw [hX] at hown HGB ⊢
          clear hX
          go_wp2_with fail
          refine (sVisValid_any _ _ _ q X _ (Rd.of_own hown)).mono ?_
          rintro e w' ⟨rfl, rfl⟩
          cases hok : Vm.visB q X
          · have HH := HGB.out.trans hok
            have H : Hid (GapPost q L G w (.returned (.tuple #[.slice (some ⟨wr.heap.size, 0, none⟩) 0 0, .bool false])) (wr.alloc (.cells #[] 41))) := ⟨_, by rw [HH], by rw [Vm.gapL_no HH]; exact own_less (World.ownsRow_lit wr #[] 0 (Nat.le_refl _) (by decide) rfl) hB.size, bA hB _⟩
            clear hown hB HH
            go_wp2_with fail
            go_ret2
            exact H.out
          · have HH := HGB.out.trans hok
            have H : Hid (GapPost q L G w (.returned (.tuple #[.slice A' X.length c', .bool true])) wr) := ⟨_, by rw [HH], by rw [Vm.gapL_yes HH, Int.toNat_natCast, HX.out]; exact hown, hB⟩
            clear hown hB HH
            go_wp2_with fail
            go_ret2
            exact H.out

end Go.Proofs.Ytmoeofclpnblmaa
