/- The law FnFoldTransform. Written by lawsA2.py. -/
import Derived.Test.YtdcabfobmkdlmaaFoldS
import Derived.Test.YtdcabfobmkdlmaaLawShift
namespace Go.Proofs.Ytdcabfobmkdlmaa
open Go.RowKit

theorem sameInts_selfA (A B : Option Addr) (n c m d : Nat) (L : List Int) (w : World) (h : Rd w w.heap.size 1 A n c (ci L)) (h' : Rd w w.heap.size 1 B m d (ci L)) :
    Calls Try.prog 20 #[.slice A n c, .slice B m d] w fun e w' => e = .returned (.bool true) ∧ Below w.heap.size w w' :=
  (sameInts_any A B n c m d L L w h h').mono fun e w' ⟨he, nq, hw⟩ => ⟨by rw [he]; simp, by rw [hw]; exact below_drewN (b0 _) _⟩
theorem fold_at (L M : List Int) (k : Nat) (hk : k < 16) :
    Sky.T (Sky.real (cells16 (foldL L M 16))) 1 k = Sky.gmul (Sky.T (Sky.real (cells16 L)) 1 k) (Sky.T (Sky.real (cells16 M)) 1 k) := by
  rw [← Sky.T_fold (cells16 L) (cells16 M) k hk]
  exact Sky.Tn_congr 16 _ _ 1 k (fun j hj => by simp only [Sky.real, foldL_cells, if_pos hj])
set_option maxRecDepth 100000 in
set_option maxHeartbeats 4000000 in
theorem law_fold (A : Option Addr) (n c : Nat) (bs : List Int) (w : World) (h : Rd w w.heap.size 1 A n c (cb bs)) (hx : ∀ x ∈ bs, 0 ≤ x ∧ x ≤ 255) :
    Calls Try.prog 4 #[.slice A n c] w fun e w' => e = .returned (.bool true) ∧ Below w.heap.size w w' := by
  have hm := h.most
  have hcap := h.cap
  have HX := Lib.hid hx
  clear hx
  by_cases hz0 : 1048576 < n
  · have hd0 : decide ((1048576 : Int) < (n : Int)) = true := by simp; omega
    clear hz0
    go_enter Try.func4, Try.ntmps4
    go_wp2
    go_ret
    exact ⟨rfl, b0 _⟩
  have hd0 : decide ((1048576 : Int) < (n : Int)) = false := by simp; omega
  go_enter Try.func4, Try.ntmps4
  go_wp2_with fail
  refine (DrawSkyFold_any _ _ _ bs _ h HX.out (by omega)).mono ?_
  rintro e w1 ⟨A1, n1, c1, s, A1b, n1b, c1b, t, rfl, hr, hr2, hB⟩
  go_wp2_with fail
  refine (SkyFold_any _ _ _ _ _ _ s t _ hr hr2).mono ?_
  rintro e w2 ⟨v2, rfl, ho2, hB2⟩
  obtain ⟨A2, c2, rfl⟩ := own_form ho2
  replace hr := hr.after hB2
  replace hr2 := hr2.after hB2
  replace hB := bT hB hB2
  clear hB2
  have hu := Rd.of_own ho2
  clear ho2
  go_wp2_with fail
  refine (sSkyFold_any _ _ _ _ _ _ s t _ hr hr2).mono ?_
  rintro e w3 ⟨v3, rfl, ho3, hB3⟩
  obtain ⟨A3, c3, rfl⟩ := own_form ho3
  replace hr := hr.after hB3
  replace hr2 := hr2.after hB3
  replace hu := hu.after hB3
  replace hB := bT hB hB3
  clear hB3
  have hv := Rd.of_own ho3
  clear ho3
  cases hok : skyFoB s t
  ·
    go_wp2_with fail
    with_reducible refine (sameInts_selfA _ _ _ _ _ _ _ _ hu hv).mono ?_
    rintro e w4 ⟨rfl, hB4⟩
    replace hr := hr.after hB4
    replace hr2 := hr2.after hB4
    replace hu := hu.after hB4
    replace hv := hv.after hB4
    replace hB := bT hB hB4
    clear hB4
    go_wp2_with fail
    with_reducible refine (sameInts_selfA _ _ _ _ _ _ _ _ hu hv).mono ?_
    rintro e w5 ⟨rfl, hB5⟩
    replace hr := hr.after hB5
    replace hr2 := hr2.after hB5
    replace hu := hu.after hB5
    replace hv := hv.after hB5
    replace hB := bT hB hB5
    clear hB5
    go_wp2_with fail
    go_ret
    exact ⟨rfl, hB⟩
  · obtain ⟨k1, k2, k3⟩ := (skyFoB_iff _ _).1 hok
    have e1 : skyFo s t = foldL s t 16 := by simp [skyFo, hok]
    rw [e1] at hu hv ⊢
    have hlen := hr.len
    rw [ci_length, Nat.mul_one, skyB_len k1] at hlen
    subst hlen
    have FA := Lib.hid (fold_at s t)
    obtain ⟨X, hX⟩ : ∃ X, foldL s t 16 = X := ⟨_, rfl⟩
    rw [hX] at hu hv k3 FA ⊢
    have hXl := skyB_len k3
    have K1 := Lib.hid k1
    have K2 := Lib.hid k2
    have K3 := Lib.hid k3
    have XL := Lib.hid hXl
    clear k1 k2 k3 hX e1 hok hXl
    go_wp2_with fail
    with_reducible refine (sameInts_selfA _ _ _ _ _ _ _ _ hu hv).mono ?_
    rintro e w4 ⟨rfl, hB4⟩
    replace hr := hr.after hB4
    replace hr2 := hr2.after hB4
    replace hu := hu.after hB4
    replace hv := hv.after hB4
    replace hB := bT hB hB4
    clear hB4
    go_wp2_with fail
    refine (SkyTransform_any _ _ _ s _ hr).mono ?_
    rintro e w5 ⟨v5, rfl, ho5, hB5⟩
    rw [K1.out]
    rw [skyTr_len K1.out] at ho5
    obtain ⟨A5, c5, rfl⟩ := own_form ho5
    replace hr := hr.after hB5
    replace hr2 := hr2.after hB5
    replace hu := hu.after hB5
    replace hv := hv.after hB5
    replace hB := bT hB hB5
    clear hB5
    have tx := Rd.of_own ho5
    clear ho5
    go_wp2_with fail
    refine (SkyTransform_any _ _ _ t _ hr2).mono ?_
    rintro e w6 ⟨v6, rfl, ho6, hB6⟩
    rw [K2.out]
    rw [skyTr_len K2.out] at ho6
    obtain ⟨A6, c6, rfl⟩ := own_form ho6
    replace hr := hr.after hB6
    replace hr2 := hr2.after hB6
    replace hu := hu.after hB6
    replace hv := hv.after hB6
    replace tx := tx.after hB6
    replace hB := bT hB hB6
    clear hB6
    have ty := Rd.of_own ho6
    clear ho6
    go_wp2_with fail
    refine (SkyTransform_any _ _ _ X _ hu).mono ?_
    rintro e w7 ⟨v7, rfl, ho7, hB7⟩
    rw [K3.out]
    rw [skyTr_len K3.out] at ho7
    obtain ⟨A7, c7, rfl⟩ := own_form ho7
    replace hr := hr.after hB7
    replace hr2 := hr2.after hB7
    replace hu := hu.after hB7
    replace hv := hv.after hB7
    replace tx := tx.after hB7
    replace ty := ty.after hB7
    replace hB := bT hB hB7
    clear hB7
    have tz := Rd.of_own ho7
    clear ho7
    clear hr hr2 hu hv
    go_wp2_with fail
    go_loopw [15] (fun v wr => ∃ k : Nat, k ≤ 16 ∧ v = .int .i64 k ∧ Below w7.heap.size w7 wr) (fun v _ => 16 - (intOf v).toNat)
    case atStart => exact ⟨0, by omega, rfl, b0 _⟩
    case round =>
      obtain ⟨k, hk, rfl, hBr⟩ := hrel
      by_cases hk16 : k < 16
      · obtain ⟨b1, o1, rfl, hb1, hp1, hp2⟩ := (tx.below hBr).pair_at (k := k) (by rw [skyTr_len K1.out]; exact hk16)
        obtain ⟨b2, o2, rfl, hb2, hq1, hq2⟩ := (ty.below hBr).pair_at (k := k) (by rw [skyTr_len K2.out]; exact hk16)
        obtain ⟨b3, o3, rfl, hb3, hy1, hy2⟩ := (tz.below hBr).pair_at (k := k) (by rw [skyTr_len K3.out]; exact hk16)
        rw [skyTr_at K1.out] at hp1 hp2
        rw [skyTr_at K2.out] at hq1 hq2
        have hzv := tr_valid K3.out k
        rw [skyTr_at K3.out, FA.out k hk16] at hy1 hy2
        rw [FA.out k hk16] at hzv
        have hpv := tr_valid K1.out k
        have hqv := tr_valid K2.out k
        obtain ⟨p, hp⟩ : ∃ p, Sky.T (Sky.real (cells16 s)) 1 k = p := ⟨_, rfl⟩
        obtain ⟨q, hq⟩ : ∃ q, Sky.T (Sky.real (cells16 t)) 1 k = q := ⟨_, rfl⟩
        rw [hp] at hp1 hp2 hy1 hy2 hpv hzv
        rw [hq] at hq1 hq2 hy1 hy2 hqv hzv
        obtain ⟨z, hz⟩ : ∃ z, Sky.gmul p q = z := ⟨_, rfl⟩
        rw [hz] at hy1 hy2 hzv
        have HM := Lib.hid (show gchk (Sky.gmul p q) = z by rw [hz]; simp [gchk, hzv])
        have HV := Lib.hid (show gaussB (Sky.gmul p q) = true by rw [hz]; exact hzv)
        clear hp hq hz
        have hzz := hBr.size
        have hb1r : b1 < wr.heap.size := by omega
        have hb2r : b2 < wr.heap.size := by omega
        have hb3r : b3 < wr.heap.size := by omega
        have hb1t : b1 ≤ wr.heap.size := by omega
        have hb2t : b2 ≤ wr.heap.size := by omega
        have hi0 : (0 : Int) ≤ (k : Int) := by omega
        have hi1 : (k : Int) < 16 := by omega
        have hi2 : decide ((k : Int) < 16) = true := by simp; omega
        go_upto_region 16 with fail
        go_cut [16, 17] (fun s16 s17 wx => ∃ g : Nat, s16 = .pointer (some ⟨g, 0, none⟩) ∧ s17 = .bool true ∧ wx.cell? ⟨g, 0, none⟩ = some (.int .i64 z.1) ∧ wx.cell? ⟨g, 1, none⟩ = some (.int .i64 z.2) ∧ Below wr.heap.size wr wx)
        case first =>
          go_region_with (go_at_call 15; refine (GaussMul_ok p q _ hpv hqv).mono ?_; rintro e wb ⟨rfl, hbb⟩; rw [HM.out, HV.out]; obtain ⟨q3, q4⟩ := bcell hbb; have zc := hbb.size; (try simp at zc); unfold gv)
          all_goals
            go_wp2_with fail
            go_meet
            first
              | exact ⟨wb.heap.size, rfl, rfl, by simp [go_sem], by simp [go_sem], bA (bT (Below.drew (b0 wr)) hbb) _⟩
              | exact ⟨wr.heap.size, rfl, rfl, (two_read ((q3 wr.heap.size 0 (by simp)).trans (v0 _ _)) ((q3 wr.heap.size 1 (by simp)).trans (v1 _ _))).1, (two_read ((q3 wr.heap.size 0 (by simp)).trans (v0 _ _)) ((q3 wr.heap.size 1 (by simp)).trans (v1 _ _))).2,
                  bS (p := ⟨wr.heap.size, 1, none⟩) (bS (p := ⟨wr.heap.size, 0, none⟩) (bT (Below.drew (bA (b0 wr) _)) hbb) (Nat.le_refl _) _) (Nat.le_refl _) _⟩
        case rest =>
          obtain ⟨g, rfl, rfl, hz1, hz2, hBx⟩ := hcut
          have hy1' := (hBx.cell (p := ⟨b3, o3 + k * 2, none⟩) hb3r).trans hy1
          have hy2' := (hBx.cell (p := ⟨b3, o3 + k * 2 + 1, none⟩) hb3r).trans hy2
          have hne := run_neq_Gauss
          have hpe : peq z.1 z.2 z.1 z.2 = true := peq_true ⟨rfl, rfl⟩
          go_wp2_with fail
          go_quiet (fail)
          go_wp2_with fail
          go_roundw
          case rel => exact ⟨k + 1, by omega, by go_num, bD (bT hBr hBx) _⟩
          case measure => simp [intOf]; omega
      · have he : k = 16 := by omega
        subst he
        go_wp2_with fail
        go_ret
        exact ⟨rfl, bT hB hBr⟩

end Go.Proofs.Ytdcabfobmkdlmaa
