/- FnTransformShift: a shift turns a transform; for every input. -/
import Derived.Test.YtdcabfobmkdlmaaShift
import Derived.Deep.DeepCutAuto
namespace Go.Proofs.Ytdcabfobmkdlmaa
open Go.RowKit

theorem skyTr_len {L : List Int} (h : skyB L = true) : (skyTr L).length = 16 := by simp [skyTr, h]
theorem skyTr_at {L : List Int} (h : skyB L = true) (k : Nat) (hk : k < (skyTr L).length) : (skyTr L)[k] = Sky.T (Sky.real (cells16 L)) 1 k := by
  have : (skyTr L)[k]? = some (Sky.T (Sky.real (cells16 L)) 1 k) := by
    rw [skyTr_len h] at hk
    simp [skyTr, h, hk]
  exact List.getElem_eq_iff hk |>.2 this
theorem shL_skyB {L : List Int} (h : skyB L = true) (sh : Nat) : skyB (shL L sh) = true := by
  have h2 := skyB_all h
  have hl := skyB_len h
  simp only [skyB, Bool.and_eq_true, decide_eq_true_eq]
  refine ⟨by simp [shL], ?_⟩
  rw [List.all_eq_true]
  intro x hx
  simp only [shL, List.mem_map, List.mem_range] at hx
  obtain ⟨j, hj, rfl⟩ := hx
  have key : Sky.shn 16 (cells16 L) sh j = 0 ∨ ∃ l, l < 16 ∧ Sky.shn 16 (cells16 L) sh j = cells16 L l := by
    by_cases hex : ∃ l, l < 16 ∧ Sky.at2 sh l = j
    · obtain ⟨l, hl', e⟩ := hex
      right
      refine ⟨l, hl', ?_⟩
      unfold Sky.shn
      rw [Sky.S_single 16 l hl' _ (fun k hk hne => by
        rw [if_neg]; intro e'; exact hne (Sky.at2_inj sh k l hk hl' (e'.trans e.symm))), if_pos e]
    · left
      exact shn_miss _ _ _ _ (fun l hl' e => hex ⟨l, hl', e⟩)
  rw [inR_iff]
  rcases key with e | ⟨l, hl', e⟩
  · rw [e]; omega
  · rw [e]
    have hll : l < L.length := by omega
    have := (inR_iff L[l] 100000).1 (List.all_eq_true.1 h2 _ (List.getElem_mem hll))
    simp [cells16, hll]
    omega
theorem shL_cells (L : List Int) (sh j : Nat) (hj : j < 16) : cells16 (shL L sh) j = Sky.shn 16 (cells16 L) sh j := by
  simp [cells16, shL, hj]
theorem shift_at (L : List Int) (sh k : Nat) (hsh : sh < 16) (hk : k < 16) :
    Sky.T (Sky.real (cells16 (shL L sh))) 1 k = Sky.gmul (Sky.T (Sky.real (cells16 L)) 1 k) (Sky.unit (Sky.ex k sh)) := by
  rw [← Sky.T_sh (cells16 L) sh k hsh hk]
  exact Sky.Tn_congr 16 _ _ 1 k (fun j hj => by simp only [Sky.real, shL_cells L sh j hj])
theorem tr_valid {L : List Int} (h : skyB L = true) (k : Nat) : gaussB (Sky.T (Sky.real (cells16 L)) 1 k) = true := by
  rw [gaussB_iff]
  have := sum_bd h 16 k (by omega)
  show -1000000000 ≤ (Sky.Tn 16 (Sky.real (cells16 L)) 1 k).1 ∧ _ ≤ _ ∧ _
  unfold Sky.T
  omega
theorem unit_valid (k : Int) : gaussB (Sky.unit k) = true := by
  rw [gaussB_iff]
  have := Sky.unit_bound k
  omega
theorem arg2_eq (k a b : Nat) (hk : k < 16) (ha : a < 4) (hb : b < 4) :
    IntKind.i64.wrap (IntKind.i64.wrap ((k : Int).tmod 4 * (a : Int)) + IntKind.i64.wrap (IntKind.i64.wrap ((k : Int) / 4) * (b : Int))) = Sky.ex k (4 * b + a) := by
  have b1 := mul_bd (a := (k : Int) % 4) (b := (a : Int)) (A := 3) (B := 3) (by omega) (by omega) (by omega) (by omega)
  have b2 := mul_bd (a := (k : Int) / 4) (b := (b : Int)) (A := 3) (B := 3) (by omega) (by omega) (by omega) (by omega)
  rw [Int.tmod_eq_emod_of_nonneg (by omega), IntWalk.i64_in ((k : Int) / 4) (by omega), IntWalk.i64_in ((k : Int) % 4 * (a : Int)) (by omega), IntWalk.i64_in ((k : Int) / 4 * (b : Int)) (by omega), IntWalk.i64_in (_ + _) (by omega), ← ex_eq]
  have h1 : ((4 * b + a : Nat) : Int) % 4 = a := by omega
  have h2 : ((4 * b + a : Nat) : Int) / 4 = b := by omega
  rw [h1, h2]

theorem dec_self (L : List (Int × Int)) : decide (L = L) = true := by simp

theorem two_read {w : World} {g : Nat} {a b x y : Value} (h0 : w.cell? ⟨g, 0, none⟩ = some x) (h1 : w.cell? ⟨g, 1, none⟩ = some y) :
    ((w.setCell ⟨g, 0, none⟩ a).setCell ⟨g, 1, none⟩ b).cell? ⟨g, 0, none⟩ = some a ∧ ((w.setCell ⟨g, 0, none⟩ a).setCell ⟨g, 1, none⟩ b).cell? ⟨g, 1, none⟩ = some b := by
  have e0 : (w.setCell ⟨g, 0, none⟩ a).cell? ⟨g, 0, none⟩ = some a := World.cell?_setCell_same' _ _ _ (by rw [h0]; rfl)
  have e1 : (w.setCell ⟨g, 0, none⟩ a).cell? ⟨g, 1, none⟩ = some y := (World.cell?_setCell_other _ _ _ _ (by simp)).trans h1
  exact ⟨(World.cell?_setCell_other _ _ _ _ (by simp)).trans e0, World.cell?_setCell_same' _ _ _ (by rw [e1]; rfl)⟩
theorem v0 (w : World) (T : TypeId) : (w.alloc (.cells #[.int .i64 0, .int .i64 0] T)).cell? ⟨w.heap.size, 0, none⟩ = some (.int .i64 0) := by simp [go_sem]
theorem v1 (w : World) (T : TypeId) : (w.alloc (.cells #[.int .i64 0, .int .i64 0] T)).cell? ⟨w.heap.size, 1, none⟩ = some (.int .i64 0) := by simp [go_sem]

set_option maxRecDepth 100000 in
set_option maxHeartbeats 4000000 in
theorem law_shift (A A' : Option Addr) (n c n' c' : Nat) (bs : List Int) (w : World) (h : Rd w w.heap.size 1 A n c (cb bs)) (hx : ∀ x ∈ bs, 0 ≤ x ∧ x ≤ 255) (hn' : n' ≤ 9223372036854775807) :
    Calls Try.prog 3 #[.slice A n c, .slice A' n' c'] w fun e w' => e = .returned (.bool true) ∧ Below w.heap.size w w' := by
  have hm := h.most
  have hcap := h.cap
  have HX := Lib.hid hx
  clear hx
  by_cases hn : 1048576 < n
  · have hd : decide ((1048576 : Int) < (n : Int)) = true := by simp; omega
    go_enter Try.func3, Try.ntmps3
    go_wp2
    go_ret
    exact ⟨rfl, b0 _⟩
  have hd : decide ((1048576 : Int) < (n : Int)) = false := by simp; omega
  by_cases hn2 : 1048576 < n'
  · have hd2 : decide ((1048576 : Int) < (n' : Int)) = true := by simp; omega
    go_enter Try.func3, Try.ntmps3
    go_wp2
    go_ret
    exact ⟨rfl, b0 _⟩
  have hd2 : decide ((1048576 : Int) < (n' : Int)) = false := by simp; omega
  go_enter Try.func3, Try.ntmps3
  go_wp2_with fail
  refine (DrawSkyTransform_any _ _ _ bs _ h HX.out (by omega)).mono ?_
  rintro e w1 ⟨A1, n1, c1, l, rfl, hL, ⟨L, rfl⟩, hB1⟩
  go_wp2_with fail
  refine (SkyTransform_any _ _ _ L _ hL).mono ?_
  rintro e w2 ⟨v2, rfl, hown2, hB2⟩
  obtain ⟨A2, c2, rfl⟩ := own_form hown2
  go_wp2_with fail
  refine (sSkyTransform_any _ _ _ L _ (hL.after hB2)).mono ?_
  rintro e w3 ⟨v3, rfl, hown3, hB3⟩
  obtain ⟨A3, c3, rfl⟩ := own_form hown3
  have hr2 := (Rd.of_own hown2).after hB3
  have hr3 := Rd.of_own hown3
  have hdd := dec_self (skyTr L)
  cases hs : skyB L
  · go_wp2_with fail
    refine (sameGrid_any _ _ _ _ _ _ (skyTr L) (skyTr L) _ hr2 hr3).mono ?_
    rintro e w4 ⟨rfl, nq, rfl⟩
    go_wp2_with fail
    refine (sameGrid_any _ _ _ _ _ _ (skyTr L) (skyTr L) _ (hr2.after (bD (b0 _) nq)) (hr3.after (bD (b0 _) nq))).mono ?_
    rintro e w4 ⟨rfl, nq', rfl⟩
    go_wp2_with fail
    go_ret
    exact ⟨rfl, bD (bT (bT hB1 hB2) hB3) _⟩
  · have HT := Lib.hid (skyTr_len hs)
    have HS := Lib.hid hs
    have hlen := hL.len
    rw [ci_length, Nat.mul_one, skyB_len hs] at hlen
    subst hlen
    rw [skyTr_len hs] at hr2 hr3 ⊢
    clear hown2 hown3
    go_wp2_with fail
    refine (sameGrid_any _ _ _ _ _ _ (skyTr L) (skyTr L) _ hr2 hr3).mono ?_
    rintro e w4 ⟨rfl, nq, rfl⟩
    obtain ⟨a, ha⟩ : ∃ a : Nat, n' % 4 = a := ⟨_, rfl⟩
    obtain ⟨b, hb⟩ : ∃ b : Nat, n' / 4 % 4 = b := ⟨_, rfl⟩
    have ha4 : a < 4 := by omega
    have hb4 : b < 4 := by omega
    have HAa := Lib.hid (show ((n' : Int) % 4) = (a : Int) by omega)
    have HBb := Lib.hid (show ((n' : Int) / 4 % 4) = (b : Int) by omega)
    clear ha hb
    have hB5 := bD (bT (bT hB1 hB2) hB3) nq
    have hL5 := hL.after (bD (bT hB2 hB3) nq)
    have hr5 := hr2.after (bD (b0 _) nq)
    obtain ⟨W, hW⟩ : ∃ W, w3.drewN nq = W := ⟨_, rfl⟩
    rw [hW] at hB5 hL5 hr5 ⊢
    clear hW hr2 hr3 hL hB1 hB2 hB3 w1 w2 w3
    go_wp2_with fail
    rw [HAa.out, HBb.out]
    refine (SkyShift_ok A1 c1 L a b _ hL5 ha4 hb4 HS.out).mono ?_
    rintro e w6 ⟨v6, rfl, hown6, hB6⟩
    obtain ⟨A6, c6, rfl⟩ := own_form hown6
    have HS6 := Lib.hid (shL_skyB hs (4 * b + a))
    go_wp2_with fail
    refine (SkyTransform_any _ _ _ (shL L (4 * b + a)) _ (Rd.of_own hown6)).mono ?_
    rintro e w7 ⟨v7, rfl, hown7, hB7⟩
    rw [skyTr_len HS6.out] at hown7
    rw [HS6.out]
    obtain ⟨A7, c7, rfl⟩ := own_form hown7
    have hry := Rd.of_own hown7
    have hro := hr5.after (bT hB6 hB7)
    have hB8 := bT (bT hB5 hB6) hB7
    clear hown6 hown7 hB6 hB7 hB5 hr5 hL5
    go_wp2_with fail
    go_loopw [16] (fun v wr => ∃ k : Nat, k ≤ 16 ∧ v = .int .i64 k ∧ Below w7.heap.size w7 wr) (fun v _ => 16 - (intOf v).toNat)
    case atStart => exact ⟨0, by omega, rfl, b0 _⟩
    case round =>
      obtain ⟨k, hk, rfl, hBr⟩ := hrel
      by_cases hk16 : k < 16
      · obtain ⟨b1, o1, rfl, hb1, hp1, hp2⟩ := (hro.below hBr).pair_at (k := k) (by rw [HT.out]; exact hk16)
        obtain ⟨b2, o2, rfl, hb2, hy1, hy2⟩ := (hry.below hBr).pair_at (k := k) (by rw [skyTr_len HS6.out]; exact hk16)
        rw [skyTr_at HS.out] at hp1 hp2
        rw [skyTr_at HS6.out, shift_at L _ k (by omega) hk16] at hy1 hy2
        obtain ⟨p, hp⟩ : ∃ p, Sky.T (Sky.real (cells16 L)) 1 k = p := ⟨_, rfl⟩
        obtain ⟨u, hu⟩ : ∃ u, Sky.unit (Sky.ex k (4 * b + a)) = u := ⟨_, rfl⟩
        have HX := Lib.hid (show Sky.unit (IntKind.i64.wrap (IntKind.i64.wrap ((k : Int).tmod 4 * (a : Int)) + IntKind.i64.wrap (IntKind.i64.wrap ((k : Int) / 4) * (b : Int)))) = u by
          rw [arg2_eq k a b hk16 ha4 hb4]; exact hu)
        have hpv := tr_valid HS.out k
        have huv := unit_valid (Sky.ex k (4 * b + a))
        have hzv := tr_valid HS6.out k
        rw [shift_at L _ k (by omega) hk16] at hzv
        rw [hp] at hp1 hp2 hy1 hy2 hpv hzv
        rw [hu] at hy1 hy2 huv hzv
        obtain ⟨z, hz⟩ : ∃ z, Sky.gmul p u = z := ⟨_, rfl⟩
        rw [hz] at hy1 hy2 hzv
        have HM := Lib.hid (show gchk (Sky.gmul p u) = z by rw [hz]; simp [gchk, hzv])
        have HV := Lib.hid (show gaussB (Sky.gmul p u) = true by rw [hz]; exact hzv)
        clear hp hu hz
        have hzz := hBr.size
        have hb1r : b1 < wr.heap.size := by omega
        have hb2r : b2 < wr.heap.size := by omega
        have hb1s : b1 < wr.heap.size + 1 := by omega
        have hb1t : b1 ≤ wr.heap.size := by omega
        have hi0 : (0 : Int) ≤ (k : Int) := by omega
        have hi1 : (k : Int) < 16 := by omega
        have hi2 : decide ((k : Int) < 16) = true := by simp; omega
        go_upto_region 15 with fail
        go_cut [17, 18] (fun s17 s18 wx => ∃ g : Nat, s17 = .pointer (some ⟨g, 0, none⟩) ∧ s18 = .bool true ∧ wx.cell? ⟨g, 0, none⟩ = some (.int .i64 z.1) ∧ wx.cell? ⟨g, 1, none⟩ = some (.int .i64 z.2) ∧ Below wr.heap.size wr wx)
        case first =>
          go_region_with ((first
            | (go_at_call 16; refine (GaussUnit_any _ _).mono ?_; rintro e wa ⟨rfl, hba⟩; rw [HX.out]; obtain ⟨q1, q2⟩ := bcell hba; have c1 : wa.cell? ⟨b1, o1 + k * 2, none⟩ = some (.int .i64 p.1) := ((q1 b1 (o1 + k * 2) (by simp; omega)).trans (by simp [go_sem, hb1r, hp1])); have c2 : wa.cell? ⟨b1, o1 + k * 2 + 1, none⟩ = some (.int .i64 p.2) := ((q1 b1 (o1 + k * 2 + 1) (by simp; omega)).trans (by simp [go_sem, hb1r, hp2])); have za : b1 < wa.heap.size := (by have := hba.size; simp at this; omega); (try have ze : wr.heap.size < wa.heap.size := (by have := hba.size; simp at this; omega)))
            | (go_at_call 15; refine (GaussMul_ok p u _ hpv huv).mono ?_; rintro e wb ⟨rfl, hbb⟩; rw [HM.out, HV.out]; obtain ⟨q3, q4⟩ := bcell hbb; have zc := hbb.size; (try simp at zc); unfold gv)))
          all_goals
            go_wp2_with fail
            go_meet
            first
              | exact ⟨wb.heap.size, rfl, rfl, by simp [go_sem], by simp [go_sem], bA (bT (bT (Below.drew (b0 wr)) hba) hbb) _⟩
              | exact ⟨wa.heap.size, rfl, rfl, (two_read ((q3 wa.heap.size 0 (by simp)).trans (v0 _ _)) ((q3 wa.heap.size 1 (by simp)).trans (v1 _ _))).1, (two_read ((q3 wa.heap.size 0 (by simp)).trans (v0 _ _)) ((q3 wa.heap.size 1 (by simp)).trans (v1 _ _))).2,
                  bS (p := ⟨wa.heap.size, 1, none⟩) (bS (p := ⟨wa.heap.size, 0, none⟩) (bT (bA (bT (Below.drew (b0 wr)) hba) _) hbb) hba.size _) hba.size _⟩
              | exact ⟨wr.heap.size, rfl, rfl, (two_read ((q3 wr.heap.size 0 ze).trans ((q1 wr.heap.size 0 (by simp)).trans (v0 _ _))) ((q3 wr.heap.size 1 ze).trans ((q1 wr.heap.size 1 (by simp)).trans (v1 _ _)))).1, (two_read ((q3 wr.heap.size 0 ze).trans ((q1 wr.heap.size 0 (by simp)).trans (v0 _ _))) ((q3 wr.heap.size 1 ze).trans ((q1 wr.heap.size 1 (by simp)).trans (v1 _ _)))).2,
                  bS (p := ⟨wr.heap.size, 1, none⟩) (bS (p := ⟨wr.heap.size, 0, none⟩) (bT (bT (Below.drew (bA (b0 wr) _)) hba) hbb) (Nat.le_refl _) _) (Nat.le_refl _) _⟩
        case rest =>
          obtain ⟨g, rfl, rfl, hz1, hz2, hBx⟩ := hcut
          have hy1' := (hBx.cell (p := ⟨b2, o2 + k * 2, none⟩) hb2r).trans hy1
          have hy2' := (hBx.cell (p := ⟨b2, o2 + k * 2 + 1, none⟩) hb2r).trans hy2
          have hne := run_neq_Gauss
          have hpe : peq z.1 z.2 z.1 z.2 = true := peq_true ⟨rfl, rfl⟩
          go_wp2_with fail
          go_quiet (fail)
          go_wp2_with fail
          go_roundw
          case rel => exact ⟨k + 1, by omega, by go_num, bD (bT hBr hBx) _⟩
          case measure => simp [intOf]; omega
      · go_wp2_with fail
        go_ret
        exact ⟨rfl, bT hB8 hBr⟩

end Go.Proofs.Ytdcabfobmkdlmaa
