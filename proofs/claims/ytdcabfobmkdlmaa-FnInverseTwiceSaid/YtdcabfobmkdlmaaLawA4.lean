/- The law FnInverseTwice. Written by lawsA4.py. -/
import Derived.Test.YtdcabfobmkdlmaaLawA3
namespace Go.Proofs.Ytdcabfobmkdlmaa
open Go.RowKit

attribute [local go_sem] Oper.semAt_some

theorem twice_next {G : List (Int × Int)} {k : Nat} (hk : k < G.length) : cp ((twice G).take (k + 1)) = cp ((twice G).take k) ++ [.int .i64 (2 * G[k].1), .int .i64 (2 * G[k].2)] := by
  have hk' : k < (twice G).length := by simpa [twice] using hk
  rw [List.take_succ_eq_append_getElem hk', cp_append]
  simp [twice, cp]
theorem twice_all {G : List (Int × Int)} {k : Nat} (hk : G.length ≤ k) : (twice G).take k = twice G := List.take_of_length_le (by simpa [twice] using hk)
theorem twice_len (G : List (Int × Int)) : (twice G).length = G.length := by simp [twice]
theorem twice_cells {G : List (Int × Int)} (h : invB G = true) : ∀ k, k < (invL (twice G)).length → k < 16 ∧ (invL (twice G)).getD k 0 = 2 * (invL G).getD k 0 := by
  intro k hk
  cases h2 : invB (twice G)
  · rw [invL_no h2] at hk; simp at hk
  · rw [invL_yes h2] at hk ⊢
    have hk16 : k < 16 := by simpa [invO] using hk
    rw [invL_yes h]
    exact ⟨hk16, inv_twice h k hk16⟩
theorem twice_or (G : List (Int × Int)) : invB (twice G) = true ∨ (invL (twice G)).length = 0 := by
  cases h2 : invB (twice G)
  · exact .inr (by rw [invL_no h2]; rfl)
  · exact .inl rfl
set_option maxRecDepth 100000 in
set_option maxHeartbeats 4000000 in
theorem law_inverseTwice (A : Option Addr) (n c : Nat) (bs : List Int) (w : World) (h : Rd w w.heap.size 1 A n c (cb bs)) (hx : ∀ x ∈ bs, 0 ≤ x ∧ x ≤ 255) :
    Calls Try.prog 8 #[.slice A n c] w fun e w' => e = .returned (.bool true) ∧ Below w.heap.size w w' := by
  have hm := h.most
  have hcap := h.cap
  have HX := Lib.hid hx
  clear hx
  by_cases hz0 : 1048576 < n
  · have hd0 : decide ((1048576 : Int) < (n : Int)) = true := by simp; omega
    clear hz0
    go_enter Try.func8, Try.ntmps8
    go_wp2
    go_ret
    exact ⟨rfl, b0 _⟩
  have hd0 : decide ((1048576 : Int) < (n : Int)) = false := by simp; omega
  go_enter Try.func8, Try.ntmps8
  go_wp2_with fail
  refine (DrawGridInverse_any _ _ _ bs _ h HX.out (by omega)).mono ?_
  rintro e w1 ⟨A1, n1, c1, l, rfl, hr, ⟨G, rfl⟩, hB⟩
  go_wp2_with fail
  refine (GridInverse_any _ _ _ G _ hr).mono ?_
  rintro e w2 ⟨v2, rfl, ho2, hB2⟩
  obtain ⟨A2, c2, rfl⟩ := own_form ho2
  replace hr := hr.after hB2
  replace hB := bT hB hB2
  clear hB2
  have hz := Rd.of_own ho2
  clear ho2
  go_wp2_with fail
  refine (sGridInverse_any _ _ _ G _ hr).mono ?_
  rintro e w3 ⟨v3, rfl, ho3, hB3⟩
  obtain ⟨A3, c3, rfl⟩ := own_form ho3
  replace hr := hr.after hB3
  replace hz := hz.after hB3
  replace hB := bT hB hB3
  clear hB3
  have hy := Rd.of_own ho3
  clear ho3
  cases hok : invB G
  ·
    go_wp2_with fail
    with_reducible refine (sameInts_selfA _ _ _ _ _ _ _ _ hz hy).mono ?_
    rintro e w4 ⟨rfl, hB4⟩
    replace hr := hr.after hB4
    replace hz := hz.after hB4
    replace hy := hy.after hB4
    replace hB := bT hB hB4
    clear hB4
    go_wp2_with fail
    with_reducible refine (sameInts_selfA _ _ _ _ _ _ _ _ hz hy).mono ?_
    rintro e w5 ⟨rfl, hB5⟩
    replace hr := hr.after hB5
    replace hz := hz.after hB5
    replace hy := hy.after hB5
    replace hB := bT hB hB5
    clear hB5
    go_wp2_with fail
    go_ret
    exact ⟨rfl, hB⟩
  · have hgr := ((invB_iff G).1 hok).1
    have hl16 := gridB_len hgr
    have HGB := Lib.hid (gridB_all hgr)
    have HL16 := Lib.hid hl16
    have HC := Lib.hid (twice_cells hok)
    have HO := Lib.hid (twice_or G)
    have HSK := Lib.hid (inv_back hok).1
    obtain ⟨X, hX⟩ : ∃ X, invL G = X := ⟨_, rfl⟩
    rw [hX] at hz hy HC HSK ⊢
    clear hok hgr hl16 hX
    go_wp2_with fail
    with_reducible refine (sameInts_selfA _ _ _ _ _ _ _ _ hz hy).mono ?_
    rintro e w4 ⟨rfl, hB4⟩
    replace hr := hr.after hB4
    replace hz := hz.after hB4
    replace hy := hy.after hB4
    replace hB := bT hB hB4
    clear hB4
    have ml : n1 = G.length := by have := hr.len; rw [cp_length] at this; omega
    subst ml
    obtain ⟨i0, hi, hq0, hq1, hq2⟩ := info_parts infoGauss
    clear hy
    go_wp2_with fail
    go_loopw [8, 9] (fun vo v wr => ∃ k : Nat, k ≤ G.length ∧ v = .int .i64 k ∧ wr.ownsRow w4.heap.size 32 2 vo k (cp ((twice G).take k)) ∧ Below w4.heap.size w4 wr) (fun _ v _ => G.length - (intOf v).toNat)
    case atStart => exact ⟨0, Nat.zero_le _, rfl, World.ownsRow_lit w4 #[] 0 (Nat.le_refl _) (by decide) rfl, bA (b0 w4) _⟩
    case round =>
      obtain ⟨k, hk, rfl, hown, hBr⟩ := hrel
      by_cases hlt : k < G.length
      · obtain ⟨Av, cv, rfl⟩ := own_form hown
        obtain ⟨b0', off0, eA, hb0'⟩ : ∃ b off, A1 = some ⟨b, off, none⟩ ∧ b < w4.heap.size := by
          obtain ⟨b, off, e, hb, _⟩ := hr.pair_at hlt
          exact ⟨b, off, e, hb⟩
        obtain ⟨b, off, rfl, hb, hc1, hc2⟩ := (hr.below hBr).pair_at hlt
        simp only [Option.some.injEq, Addr.mk.injEq, and_true] at eA
        obtain ⟨rfl, rfl⟩ := eA
        have hne : some b ≠ (Value.slice Av k cv).ownBlock := fun e => by have := (hown.lt _ e.symm).1; omega
        have hk16 : k ≤ 16 := by have := HL16.out; omega
        have pb := (gaussB_iff _).1 (List.all_eq_true.1 HGB.out _ (List.getElem_mem hlt))
        have HN := Lib.hid (twice_next hlt)
        obtain ⟨p, hp⟩ : ∃ p, G[k] = p := ⟨_, rfl⟩
        rw [hp] at hc1 hc2 pb HN
        obtain ⟨pb1, pb2, pb3, pb4⟩ := pb
        have hi0 : (0 : Int) ≤ (k : Int) := by omega
        have hi1 : (k : Int) < (G.length : Int) := by omega
        clear hp
        go_wp2_with fail
        refine wp_region_held_drew (S := fun W' => W'.cell? ⟨b, off + k * 2, none⟩ = some (.int .i64 p.1) ∧ W'.cell? ⟨b, off + k * 2 + 1, none⟩ = some (.int .i64 p.2)) (by kernel_rfl) ⟨hc1, hc2⟩ (fun hS => ?_)
        refine wpAnyH_take (i := 0) (v := .slice Av k cv) rfl (by kernel_rfl) (by kernel_rfl) (by kernel_rfl) (fun _ _ _ h => h) (Or.inl ⟨by rfl, fun ww hSw => ?_⟩) hS ?_
        · have u1 : IntKind.i64.wrap (2 * p.1) = 2 * p.1 := IntWalk.i64_in _ (by omega); have u2 : IntKind.i64.wrap (2 * p.2) = 2 * p.2 := IntWalk.i64_in _ (by omega); obtain ⟨e1, e2⟩ := hSw; go_simp
        refine wpAnyH_take (i := 1) (v := .slice (some ⟨b, off, none⟩) G.length c1) rfl (by kernel_rfl) (by kernel_rfl) (by kernel_rfl) (fun _ _ _ h => h) (Or.inl ⟨by rfl, fun ww hSw => ?_⟩) hS ?_
        · have u1 : IntKind.i64.wrap (2 * p.1) = 2 * p.1 := IntWalk.i64_in _ (by omega); have u2 : IntKind.i64.wrap (2 * p.2) = 2 * p.2 := IntWalk.i64_in _ (by omega); obtain ⟨e1, e2⟩ := hSw; go_simp
        refine wpAnyH_take (i := 2) (v := .int .i64 (k)) rfl (by kernel_rfl) (by kernel_rfl) (by kernel_rfl) (fun _ _ _ h => h) (Or.inl ⟨by rfl, fun ww hSw => ?_⟩) hS ?_
        · have u1 : IntKind.i64.wrap (2 * p.1) = 2 * p.1 := IntWalk.i64_in _ (by omega); have u2 : IntKind.i64.wrap (2 * p.2) = 2 * p.2 := IntWalk.i64_in _ (by omega); obtain ⟨e1, e2⟩ := hSw; go_simp
        refine wpAnyH_take (i := 3) (v := .pointer (some ⟨b, off + k * 2, none⟩)) rfl (by kernel_rfl) (by kernel_rfl) (by kernel_rfl) (fun _ _ _ h => h) (Or.inl ⟨by rfl, fun ww hSw => ?_⟩) hS ?_
        · have u1 : IntKind.i64.wrap (2 * p.1) = 2 * p.1 := IntWalk.i64_in _ (by omega); have u2 : IntKind.i64.wrap (2 * p.2) = 2 * p.2 := IntWalk.i64_in _ (by omega); obtain ⟨e1, e2⟩ := hSw; go_simp
        refine wpAnyH_take (i := 4) (v := .pointer (some ⟨b, off + k * 2, none⟩)) rfl (by kernel_rfl) (by kernel_rfl) (by kernel_rfl) (fun _ _ _ h => h) (Or.inl ⟨by rfl, fun ww hSw => ?_⟩) hS ?_
        · have u1 : IntKind.i64.wrap (2 * p.1) = 2 * p.1 := IntWalk.i64_in _ (by omega); have u2 : IntKind.i64.wrap (2 * p.2) = 2 * p.2 := IntWalk.i64_in _ (by omega); obtain ⟨e1, e2⟩ := hSw; go_simp
        refine wpAnyH_take (i := 5) (v := .int .i64 (p.1)) rfl (by kernel_rfl) (by kernel_rfl) (by kernel_rfl) (fun _ _ _ h => h) (Or.inl ⟨by rfl, fun ww hSw => ?_⟩) hS ?_
        · have u1 : IntKind.i64.wrap (2 * p.1) = 2 * p.1 := IntWalk.i64_in _ (by omega); have u2 : IntKind.i64.wrap (2 * p.2) = 2 * p.2 := IntWalk.i64_in _ (by omega); obtain ⟨e1, e2⟩ := hSw; go_simp
        refine wpAnyH_take (i := 6) (v := .int .i64 (2 * p.1)) rfl (by kernel_rfl) (by kernel_rfl) (by kernel_rfl) (fun _ _ _ h => h) (Or.inl ⟨by rfl, fun ww hSw => ?_⟩) hS ?_
        · have u1 : IntKind.i64.wrap (2 * p.1) = 2 * p.1 := IntWalk.i64_in _ (by omega); have u2 : IntKind.i64.wrap (2 * p.2) = 2 * p.2 := IntWalk.i64_in _ (by omega); obtain ⟨e1, e2⟩ := hSw; go_simp
        refine wpAnyH_take (i := 7) (v := .slice (some ⟨b, off, none⟩) G.length c1) rfl (by kernel_rfl) (by kernel_rfl) (by kernel_rfl) (fun _ _ _ h => h) (Or.inl ⟨by rfl, fun ww hSw => ?_⟩) hS ?_
        · have u1 : IntKind.i64.wrap (2 * p.1) = 2 * p.1 := IntWalk.i64_in _ (by omega); have u2 : IntKind.i64.wrap (2 * p.2) = 2 * p.2 := IntWalk.i64_in _ (by omega); obtain ⟨e1, e2⟩ := hSw; go_simp
        refine wpAnyH_take (i := 8) (v := .int .i64 (k)) rfl (by kernel_rfl) (by kernel_rfl) (by kernel_rfl) (fun _ _ _ h => h) (Or.inl ⟨by rfl, fun ww hSw => ?_⟩) hS ?_
        · have u1 : IntKind.i64.wrap (2 * p.1) = 2 * p.1 := IntWalk.i64_in _ (by omega); have u2 : IntKind.i64.wrap (2 * p.2) = 2 * p.2 := IntWalk.i64_in _ (by omega); obtain ⟨e1, e2⟩ := hSw; go_simp
        refine wpAnyH_take (i := 9) (v := .pointer (some ⟨b, off + k * 2, none⟩)) rfl (by kernel_rfl) (by kernel_rfl) (by kernel_rfl) (fun _ _ _ h => h) (Or.inl ⟨by rfl, fun ww hSw => ?_⟩) hS ?_
        · have u1 : IntKind.i64.wrap (2 * p.1) = 2 * p.1 := IntWalk.i64_in _ (by omega); have u2 : IntKind.i64.wrap (2 * p.2) = 2 * p.2 := IntWalk.i64_in _ (by omega); obtain ⟨e1, e2⟩ := hSw; go_simp
        refine wpAnyH_take (i := 10) (v := .pointer (some ⟨b, off + k * 2 + 1, none⟩)) rfl (by kernel_rfl) (by kernel_rfl) (by kernel_rfl) (fun _ _ _ h => h) (Or.inl ⟨by rfl, fun ww hSw => ?_⟩) hS ?_
        · have u1 : IntKind.i64.wrap (2 * p.1) = 2 * p.1 := IntWalk.i64_in _ (by omega); have u2 : IntKind.i64.wrap (2 * p.2) = 2 * p.2 := IntWalk.i64_in _ (by omega); obtain ⟨e1, e2⟩ := hSw; go_simp
        refine wpAnyH_take (i := 11) (v := .int .i64 (p.2)) rfl (by kernel_rfl) (by kernel_rfl) (by kernel_rfl) (fun _ _ _ h => h) (Or.inl ⟨by rfl, fun ww hSw => ?_⟩) hS ?_
        · have u1 : IntKind.i64.wrap (2 * p.1) = 2 * p.1 := IntWalk.i64_in _ (by omega); have u2 : IntKind.i64.wrap (2 * p.2) = 2 * p.2 := IntWalk.i64_in _ (by omega); obtain ⟨e1, e2⟩ := hSw; go_simp
        refine wpAnyH_take (i := 12) (v := .int .i64 (2 * p.2)) rfl (by kernel_rfl) (by kernel_rfl) (by kernel_rfl) (fun _ _ _ h => h) (Or.inl ⟨by rfl, fun ww hSw => ?_⟩) hS ?_
        · have u1 : IntKind.i64.wrap (2 * p.1) = 2 * p.1 := IntWalk.i64_in _ (by omega); have u2 : IntKind.i64.wrap (2 * p.2) = 2 * p.2 := IntWalk.i64_in _ (by omega); obtain ⟨e1, e2⟩ := hSw; go_simp
        refine wpAnyH_ready (rs := [13]) (by kernel_rfl) (by simp) ?_
        refine AllReadyH.cons rfl (fun K hK => ?_) AllReadyH.nil
        go_simp
        refine (gauss_any _ _ _).mono ?_
        rintro e wb ⟨rfl, hbb⟩
        unfold gv
        refine hK.out _ _ ⟨(hbb.cell (p := ⟨b, off + k * 2, none⟩) (block_lt_of_cell hc1)).trans hc1, (hbb.cell (p := ⟨b, off + k * 2 + 1, none⟩) (block_lt_of_cell hc2)).trans hc2⟩ (fun hS => ?_)
        clear hK K
        refine wpAnyH_ready (rs := [14]) (by kernel_rfl) (by simp) ?_
        refine AllReadyH.cons rfl (fun K hK => ?_) AllReadyH.nil
        go_simp
        refine hK.out _ _ ⟨(World.cell?_alloc_past _ _ _ (block_lt_of_cell hS.1)).trans hS.1, (World.cell?_alloc_past _ _ _ (block_lt_of_cell hS.2)).trans hS.2⟩ (fun hS => ?_)
        clear hK K
        refine wpAnyH_ready (rs := [15]) (by kernel_rfl) (by simp) ?_
        refine AllReadyH.cons rfl (fun K hK => ?_) AllReadyH.nil
        have hr3 := (own_after hown.drew hbb).alloc (.cells #[.int .i64 (2 * p.1), .int .i64 (2 * p.2)] 32)
        refine step_append_lies _ rfl (.tmp 56) (.tmp 70) 25 rfl w4.heap.size 32 i0 _ 2 16 Try.underlying25 hi hq0 hq1 hq2 rfl (by decide) (.slice Av k cv) k (cp ((twice G).take k)) rfl hr3 ⟨wb.heap.size, 0, none⟩ 1 1 [.int .i64 (2 * p.1), .int .i64 (2 * p.2)] rfl rfl (new_cells _ _ _) (by intro u hu; simp at hu; rcases hu with rfl | rfl <;> rfl) (by omega) (by unfold maxLen; omega) (by omega) (by have := hbb.size; have := hBr.size; simp at *; omega) _ rfl ?_
        intro g cap w9 hown9 hgrow9 hx1 hx2
        refine hK.out _ _ ⟨hgrow9.cell hS.1 hne, hgrow9.cell hS.2 hne⟩ (fun hS => ?_)
        clear hK K
        refine wpAnyH_ready (rs := [16]) (by kernel_rfl) (by simp) ?_
        refine AllReadyH.cons rfl (fun K hK => ?_) AllReadyH.nil
        go_simp
        refine hK.out _ _ hS (fun hS => ?_)
        clear hK K
        refine ⟨by kernel_rfl, ?_⟩
        have hB9 := own_below (a := w4) (bA (bT (Below.drew hBr) hbb) _) hr3 hgrow9
        go_wp2_with fail
        go_roundw
        case rel => exact ⟨k + 1, by omega, by go_num, by rw [HN.out]; exact hown9, hB9⟩
        case measure => simp [intOf]; omega
      · have ht := twice_all (G := G) (k := k) (by omega)
        have hkG : k = (twice G).length := by rw [twice_len]; omega
        rw [ht] at hown
        subst hkG
        obtain ⟨Av, cv, rfl⟩ := own_form hown
        have hrt := Rd.of_own hown
        replace hz := hz.after hBr
        have hBn := bT hB hBr
        have hTL := Lib.hid (twice_len G)
        clear hr hB hown ht hBr
        have hlt2 : ¬ ((twice G).length : Int) < (G.length : Int) := by rw [hTL.out]; omega
        go_wp2_with fail
        refine (GridInverse_any _ _ _ (twice G) _ hrt).mono ?_
        rintro e w9 ⟨v9, rfl, ho9, hB9⟩
        obtain ⟨A9, c9, rfl⟩ := own_form ho9
        replace hz := hz.after hB9
        have hBm := bT hBn hB9
        have hy := Rd.of_own ho9
        obtain ⟨Z, hZ⟩ : ∃ Z, invL (twice G) = Z := ⟨_, rfl⟩
        obtain ⟨q, hq⟩ : ∃ q, invB (twice G) = q := ⟨_, rfl⟩
        rw [hZ] at hy HC HO ⊢
        rw [hq] at HO ⊢
        clear hZ hq ho9 hBn hB9 hrt
        go_wp2_with fail
        go_loopw [12] (fun v wr => ∃ k : Nat, k ≤ Z.length ∧ v = .int .i64 k ∧ Below w9.heap.size w9 wr) (fun v _ => Z.length - (intOf v).toNat)
        case atStart => exact ⟨0, Nat.zero_le _, rfl, b0 _⟩
        case round =>
          obtain ⟨k, hk, rfl, hBr⟩ := hrel
          by_cases hk2 : k < Z.length
          · obtain ⟨f1, f2⟩ := HC.out k hk2
            have hXl := skyB_len HSK.out
            have hkX : k < X.length := by omega
            have xb := (inR_iff X[k] 100000).1 (List.all_eq_true.1 (skyB_all HSK.out) _ (List.getElem_mem hkX))
            obtain ⟨b, off, rfl, hb, hc1⟩ := (hy.below hBr).int_at hk2
            obtain ⟨b2, o2, rfl, hb2, hc2⟩ := (hz.below hBr).int_at hkX
            have f3 : Z.getD k 0 = Z[k] := by simp [hk2]
            have f4 : X.getD k 0 = X[k] := by simp [hkX]
            rw [f3, f4] at f2
            rw [f2] at hc1
            obtain ⟨x, hx⟩ : ∃ x, X[k] = x := ⟨_, rfl⟩
            rw [hx] at hc1 hc2 xb
            obtain ⟨xb1, xb2⟩ := xb
            have hi0 : (0 : Int) ≤ (k : Int) := by omega
            have hi1 : (k : Int) < (Z.length : Int) := by omega
            have hi2 : (k : Int) < (X.length : Int) := by omega
            have hne : (2 * x != 2 * x) = false := by simp
            clear f2 f3 f4 hx hXl
            go_wp2_with fail
            go_quiet (fail)
            go_wp2_with fail
            go_roundw
            case rel => exact ⟨k + 1, by omega, by go_num, bD hBr _⟩
            case measure => simp [intOf]; omega
          · have hBe := bT hBm hBr
            rcases HO.out with rfl | h0
            · go_wp2_with fail
              go_ret
              exact ⟨rfl, hBe⟩
            · have hd : ((Z.length : Int) == 0) = true := by rw [h0]; rfl
              cases q
              · go_wp2_with fail
                go_ret
                exact ⟨rfl, hBe⟩
              · go_wp2_with fail
                go_ret
                exact ⟨rfl, hBe⟩

end Go.Proofs.Ytdcabfobmkdlmaa
