/- The law FnTransform. Written by lawsA.py. -/
import Derived.Test.YtdcabfobmkdlmaaInvG
import Derived.Test.YtdcabfobmkdlmaaSpecA
import Derived.Test.YtdcabfobmkdlmaaDrawA
import Derived.Deep.RegionHeld
namespace Go.Proofs.Ytdcabfobmkdlmaa
open Go.RowKit

theorem sameGrid_self (A B : Option Addr) (n c m d : Nat) (L : List (Int × Int)) (w : World) (h : Rd w w.heap.size 2 A n c (cp L)) (h' : Rd w w.heap.size 2 B m d (cp L)) :
    Calls Try.prog 13 #[.slice A n c, .slice B m d] w fun e w' => e = .returned (.bool true) ∧ Below w.heap.size w w' :=
  (sameGrid_any A B n c m d L L w h h').mono fun e w' ⟨he, nq, hw⟩ => ⟨by rw [he]; simp, by rw [hw]; exact below_drewN (b0 _) _⟩
theorem sameInts_selfA (A B : Option Addr) (n c m d : Nat) (L : List Int) (w : World) (h : Rd w w.heap.size 1 A n c (ci L)) (h' : Rd w w.heap.size 1 B m d (ci L)) :
    Calls Try.prog 20 #[.slice A n c, .slice B m d] w fun e w' => e = .returned (.bool true) ∧ Below w.heap.size w w' :=
  (sameInts_any A B n c m d L L w h h').mono fun e w' ⟨he, nq, hw⟩ => ⟨by rw [he]; simp, by rw [hw]; exact below_drewN (b0 _) _⟩
set_option maxRecDepth 100000 in
set_option maxHeartbeats 4000000 in
theorem law_transform (A : Option Addr) (n c : Nat) (bs : List Int) (w : World) (h : Rd w w.heap.size 1 A n c (cb bs)) (hx : ∀ x ∈ bs, 0 ≤ x ∧ x ≤ 255) :
    Calls Try.prog 5 #[.slice A n c] w fun e w' => e = .returned (.bool true) ∧ Below w.heap.size w w' := by
  have hm := h.most
  have hcap := h.cap
  have HX := Lib.hid hx
  clear hx
  by_cases hz0 : 1048576 < n
  · have hd0 : decide ((1048576 : Int) < (n : Int)) = true := by simp; omega
    clear hz0
    go_enter Try.func5, Try.ntmps5
    go_wp2
    go_ret
    exact ⟨rfl, b0 _⟩
  have hd0 : decide ((1048576 : Int) < (n : Int)) = false := by simp; omega
  go_enter Try.func5, Try.ntmps5
  go_wp2_with fail
  refine (DrawSkyTransform_any _ _ _ bs _ h HX.out (by omega)).mono ?_
  rintro e w1 ⟨A1, n1, c1, l, rfl, hr, ⟨s, rfl⟩, hB⟩
  go_wp2_with fail
  refine (SkyTransform_any _ _ _ s _ hr).mono ?_
  rintro e w2 ⟨v2, rfl, ho2, hB2⟩
  obtain ⟨A2, c2, rfl⟩ := own_form ho2
  replace hr := hr.after hB2
  replace hB := bT hB hB2
  clear hB2
  have hx := Rd.of_own ho2
  clear ho2
  go_wp2_with fail
  refine (sSkyTransform_any _ _ _ s _ hr).mono ?_
  rintro e w3 ⟨v3, rfl, ho3, hB3⟩
  obtain ⟨A3, c3, rfl⟩ := own_form ho3
  replace hr := hr.after hB3
  replace hx := hx.after hB3
  replace hB := bT hB hB3
  clear hB3
  have hy := Rd.of_own ho3
  clear ho3
  cases hok : skyB s
  ·
    go_wp2_with fail
    with_reducible refine (sameGrid_self _ _ _ _ _ _ _ _ hx hy).mono ?_
    rintro e w4 ⟨rfl, hB4⟩
    replace hr := hr.after hB4
    replace hx := hx.after hB4
    replace hy := hy.after hB4
    replace hB := bT hB hB4
    clear hB4
    go_wp2_with fail
    with_reducible refine (sameGrid_self _ _ _ _ _ _ _ _ hx hy).mono ?_
    rintro e w5 ⟨rfl, hB5⟩
    replace hr := hr.after hB5
    replace hx := hx.after hB5
    replace hy := hy.after hB5
    replace hB := bT hB hB5
    clear hB5
    go_wp2_with fail
    go_ret
    exact ⟨rfl, hB⟩
  · obtain ⟨e1, e2⟩ := tr_inv hok
    have e3 := skyTr_grid hok
    have e4 := skyTr_first hok
    have hok2 := hok
    obtain ⟨X, hX⟩ : ∃ X, skyTr s = X := ⟨_, rfl⟩
    rw [hX] at hx hy e1 e2 e3 e4 ⊢
    have E1 := Lib.hid e1
    have E2 := Lib.hid e2
    have E3 := Lib.hid e3
    have HOK := Lib.hid hok2
    obtain ⟨z0, z1⟩ := List.getElem?_eq_some_iff.1 e4
    have Z1 := Lib.hid z1
    have hl16 : X.length = 16 := gridB_len e3
    have HL16 := Lib.hid hl16
    clear e1 e2 e3 e4 z1 hX hok hok2 hl16
    go_wp2_with fail
    with_reducible refine (sameGrid_self _ _ _ _ _ _ _ _ hx hy).mono ?_
    rintro e w4 ⟨rfl, hB4⟩
    replace hr := hr.after hB4
    replace hx := hx.after hB4
    replace hy := hy.after hB4
    replace hB := bT hB hB4
    clear hB4
    go_wp2_with fail
    refine (GridInverse_any _ _ _ X _ hx).mono ?_
    rintro e w5 ⟨v5, rfl, ho5, hB5⟩
    rw [E1.out]
    rw [E2.out] at ho5
    obtain ⟨A5, c5, rfl⟩ := own_form ho5
    replace hr := hr.after hB5
    replace hx := hx.after hB5
    replace hy := hy.after hB5
    replace hB := bT hB hB5
    clear hB5
    have hz := Rd.of_own ho5
    clear ho5
    go_wp2_with fail
    refine (SkySum_any _ _ _ s _ hr HOK.out).mono ?_
    rintro e w' ⟨rfl, rfl⟩
    obtain ⟨bb, off, eA, hbb, ca, cb⟩ := hx.pair_at z0
    rw [Z1.out] at ca cb
    have hl0 : (0 : Int) < (X.length : Int) := by omega
    have heq := run_eql_Gauss
    subst eA
    rw [Nat.zero_mul, Nat.add_zero] at ca cb
    obtain ⟨S, hS0⟩ : ∃ S, Sky.S 16 (cells16 s) = S := ⟨_, rfl⟩
    rw [hS0] at ca cb ⊢
    clear hS0
    have hpq : peq S 0 S 0 = true := peq_true ⟨rfl, rfl⟩
    go_wp2_with fail
    refine wp_region_held_drew (S := fun W' => Below w5.heap.size w5 W') (by kernel_rfl) (Below.drew (b0 w5)) (fun hS => ?_)
    refine wpAnyH_take (i := 0) (v := .bool true) rfl (by kernel_rfl) (by kernel_rfl) (by kernel_rfl) (fun _ _ _ h => h) (Or.inl ⟨by rfl, fun ww hSw => ?_⟩) hS ?_
    · have e1 := (hSw.cell (p := ⟨bb, off, none⟩) hbb).trans ca; have e2 := (hSw.cell (p := ⟨bb, off + 1, none⟩) hbb).trans cb; clear hSw; go_simp
    refine wpAnyH_take (i := 1) (v := .bool true) rfl (by kernel_rfl) (by kernel_rfl) (by kernel_rfl) (fun _ _ _ h => h) (Or.inl ⟨by rfl, fun ww hSw => ?_⟩) hS ?_
    · have e1 := (hSw.cell (p := ⟨bb, off, none⟩) hbb).trans ca; have e2 := (hSw.cell (p := ⟨bb, off + 1, none⟩) hbb).trans cb; clear hSw; go_simp
    refine wpAnyH_take (i := 2) (v := .bool true) rfl (by kernel_rfl) (by kernel_rfl) (by kernel_rfl) (fun _ _ _ h => h) (Or.inl ⟨by rfl, fun ww hSw => ?_⟩) hS ?_
    · have e1 := (hSw.cell (p := ⟨bb, off, none⟩) hbb).trans ca; have e2 := (hSw.cell (p := ⟨bb, off + 1, none⟩) hbb).trans cb; clear hSw; go_simp
    refine wpAnyH_take (i := 3) (v := .bool true) rfl (by kernel_rfl) (by kernel_rfl) (by kernel_rfl) (fun _ _ _ h => h) (Or.inl ⟨by rfl, fun ww hSw => ?_⟩) hS ?_
    · have e1 := (hSw.cell (p := ⟨bb, off, none⟩) hbb).trans ca; have e2 := (hSw.cell (p := ⟨bb, off + 1, none⟩) hbb).trans cb; clear hSw; go_simp
    refine wpAnyH_take (i := 4) (v := .bool true) rfl (by kernel_rfl) (by kernel_rfl) (by kernel_rfl) (fun _ _ _ h => h) (Or.inl ⟨by rfl, fun ww hSw => ?_⟩) hS ?_
    · have e1 := (hSw.cell (p := ⟨bb, off, none⟩) hbb).trans ca; have e2 := (hSw.cell (p := ⟨bb, off + 1, none⟩) hbb).trans cb; clear hSw; go_simp
    refine wpAnyH_take (i := 5) (v := .slice A5 s.length c5) rfl (by kernel_rfl) (by kernel_rfl) (by kernel_rfl) (fun _ _ _ h => h) (Or.inl ⟨by rfl, fun ww hSw => ?_⟩) hS ?_
    · have e1 := (hSw.cell (p := ⟨bb, off, none⟩) hbb).trans ca; have e2 := (hSw.cell (p := ⟨bb, off + 1, none⟩) hbb).trans cb; clear hSw; go_simp
    refine wpAnyH_take (i := 6) (v := .slice A1 n1 c1) rfl (by kernel_rfl) (by kernel_rfl) (by kernel_rfl) (fun _ _ _ h => h) (Or.inl ⟨by rfl, fun ww hSw => ?_⟩) hS ?_
    · have e1 := (hSw.cell (p := ⟨bb, off, none⟩) hbb).trans ca; have e2 := (hSw.cell (p := ⟨bb, off + 1, none⟩) hbb).trans cb; clear hSw; go_simp
    refine wpAnyH_ready (rs := [7]) (by kernel_rfl) (by simp) ?_
    refine AllReadyH.cons rfl (fun K hK => ?_) AllReadyH.nil
    go_simp
    refine (sameInts_selfA _ _ _ _ _ _ _ _ (hz.after (Below.drew (b0 w5))) (hr.after (Below.drew (b0 w5)))).mono ?_
    rintro e w20 ⟨rfl, hb20⟩
    refine hK.out _ _ (bT (Below.drew (b0 w5)) hb20) (fun hS => ?_)
    clear hK K
    refine wpAnyH_take (i := 8) (v := .bool true) rfl (by kernel_rfl) (by kernel_rfl) (by kernel_rfl) (fun _ _ _ h => h) (Or.inl ⟨by rfl, fun ww hSw => ?_⟩) hS ?_
    · have e1 := (hSw.cell (p := ⟨bb, off, none⟩) hbb).trans ca; have e2 := (hSw.cell (p := ⟨bb, off + 1, none⟩) hbb).trans cb; clear hSw; go_simp
    refine wpAnyH_take (i := 9) (v := .bool true) rfl (by kernel_rfl) (by kernel_rfl) (by kernel_rfl) (fun _ _ _ h => h) (Or.inl ⟨by rfl, fun ww hSw => ?_⟩) hS ?_
    · have e1 := (hSw.cell (p := ⟨bb, off, none⟩) hbb).trans ca; have e2 := (hSw.cell (p := ⟨bb, off + 1, none⟩) hbb).trans cb; clear hSw; go_simp
    refine wpAnyH_take (i := 10) (v := .slice (some ⟨bb, off, none⟩) X.length c2) rfl (by kernel_rfl) (by kernel_rfl) (by kernel_rfl) (fun _ _ _ h => h) (Or.inl ⟨by rfl, fun ww hSw => ?_⟩) hS ?_
    · have e1 := (hSw.cell (p := ⟨bb, off, none⟩) hbb).trans ca; have e2 := (hSw.cell (p := ⟨bb, off + 1, none⟩) hbb).trans cb; clear hSw; go_simp
    refine wpAnyH_ready (rs := [11]) (by kernel_rfl) (by simp) ?_
    refine AllReadyH.cons rfl (fun K hK => ?_) AllReadyH.nil
    go_simp
    refine (GridValid_any _ _ _ X _ (hx.after hS)).mono ?_
    rintro e w21 ⟨rfl, hb21⟩
    rw [E3.out]
    refine hK.out _ _ (bT hS hb21) (fun hS => ?_)
    clear hK K
    refine wpAnyH_take (i := 12) (v := .bool true) rfl (by kernel_rfl) (by kernel_rfl) (by kernel_rfl) (fun _ _ _ h => h) (Or.inl ⟨by rfl, fun ww hSw => ?_⟩) hS ?_
    · have e1 := (hSw.cell (p := ⟨bb, off, none⟩) hbb).trans ca; have e2 := (hSw.cell (p := ⟨bb, off + 1, none⟩) hbb).trans cb; clear hSw; go_simp
    refine wpAnyH_take (i := 13) (v := .bool true) rfl (by kernel_rfl) (by kernel_rfl) (by kernel_rfl) (fun _ _ _ h => h) (Or.inl ⟨by rfl, fun ww hSw => ?_⟩) hS ?_
    · have e1 := (hSw.cell (p := ⟨bb, off, none⟩) hbb).trans ca; have e2 := (hSw.cell (p := ⟨bb, off + 1, none⟩) hbb).trans cb; clear hSw; go_simp
    refine wpAnyH_take (i := 14) (v := .slice (some ⟨bb, off, none⟩) X.length c2) rfl (by kernel_rfl) (by kernel_rfl) (by kernel_rfl) (fun _ _ _ h => h) (Or.inl ⟨by rfl, fun ww hSw => ?_⟩) hS ?_
    · have e1 := (hSw.cell (p := ⟨bb, off, none⟩) hbb).trans ca; have e2 := (hSw.cell (p := ⟨bb, off + 1, none⟩) hbb).trans cb; clear hSw; go_simp
    refine wpAnyH_take (i := 15) (v := .pointer (some ⟨bb, off, none⟩)) rfl (by kernel_rfl) (by kernel_rfl) (by kernel_rfl) (fun _ _ _ h => h) (Or.inl ⟨by rfl, fun ww hSw => ?_⟩) hS ?_
    · have e1 := (hSw.cell (p := ⟨bb, off, none⟩) hbb).trans ca; have e2 := (hSw.cell (p := ⟨bb, off + 1, none⟩) hbb).trans cb; clear hSw; go_simp
    refine wpAnyH_take (i := 16) (v := .agg #[.int .i64 S, .int .i64 0]) rfl (by kernel_rfl) (by kernel_rfl) (by kernel_rfl) (fun _ _ _ h => h) (Or.inl ⟨by rfl, fun ww hSw => ?_⟩) hS ?_
    · have e1 := (hSw.cell (p := ⟨bb, off, none⟩) hbb).trans ca; have e2 := (hSw.cell (p := ⟨bb, off + 1, none⟩) hbb).trans cb; clear hSw; go_simp
    refine wpAnyH_take (i := 17) (v := .int .i64 S) rfl (by kernel_rfl) (by kernel_rfl) (by kernel_rfl) (fun _ _ _ h => h) (Or.inl ⟨by rfl, fun ww hSw => ?_⟩) hS ?_
    · have e1 := (hSw.cell (p := ⟨bb, off, none⟩) hbb).trans ca; have e2 := (hSw.cell (p := ⟨bb, off + 1, none⟩) hbb).trans cb; clear hSw; go_simp
    refine wpAnyH_ready (rs := [18]) (by kernel_rfl) (by simp) ?_
    refine AllReadyH.cons rfl (fun K hK => ?_) AllReadyH.nil
    go_simp
    refine (gauss_any _ _ _).mono ?_
    rintro e w22 ⟨rfl, hb22⟩
    unfold gv
    refine hK.out _ _ (bT hS hb22) (fun hS => ?_)
    clear hK K
    refine wpAnyH_take (i := 19) (v := .bool true) rfl (by kernel_rfl) (by kernel_rfl) (by kernel_rfl) (fun _ _ _ h => h) (Or.inl ⟨by rfl, fun ww hSw => ?_⟩) hS ?_
    · have e1 := (hSw.cell (p := ⟨bb, off, none⟩) hbb).trans ca; have e2 := (hSw.cell (p := ⟨bb, off + 1, none⟩) hbb).trans cb; clear hSw; go_simp
    refine wpAnyH_take (i := 20) (v := .bool true) rfl (by kernel_rfl) (by kernel_rfl) (by kernel_rfl) (fun _ _ _ h => h) (Or.inl ⟨by rfl, fun ww hSw => ?_⟩) hS ?_
    · have e1 := (hSw.cell (p := ⟨bb, off, none⟩) hbb).trans ca; have e2 := (hSw.cell (p := ⟨bb, off + 1, none⟩) hbb).trans cb; clear hSw; go_simp
    refine wpAnyH_take (i := 21) (v := .bool true) rfl (by kernel_rfl) (by kernel_rfl) (by kernel_rfl) (fun _ _ _ h => h) (Or.inl ⟨by rfl, fun ww hSw => ?_⟩) hS ?_
    · have e1 := (hSw.cell (p := ⟨bb, off, none⟩) hbb).trans ca; have e2 := (hSw.cell (p := ⟨bb, off + 1, none⟩) hbb).trans cb; clear hSw; go_simp
    refine ⟨by kernel_rfl, ?_⟩
    go_wp2_with fail
    go_ret
    exact ⟨rfl, bT hB hS⟩

end Go.Proofs.Ytdcabfobmkdlmaa
