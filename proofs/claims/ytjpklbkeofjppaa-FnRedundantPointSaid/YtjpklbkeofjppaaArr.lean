/- Contracts: valid arrays. -/
import Derived.Test.YtjpklbkeofjppaaPlace
import Derived.Deep.RegionWith
import Derived.Deep.RegionHeld
namespace Go.Proofs.Ytjpklbkeofjppaa
open Go.RowKit

set_option maxHeartbeats 4000000 in
theorem ArrayValid_any (A : Option Addr) (n c : Nat) (L : List (Int × Int)) (w : World) (h : Rd w w.heap.size 2 A n c (cp L)) :
    Calls Try.prog 38 #[.slice A n c] w fun e w' => e = .returned (.bool (Vm.arrB L)) ∧ Below w.heap.size w w' := by
  have hn := h.len
  rw [cp_length] at hn
  have hm := h.most
  have hcap := h.cap
  obtain rfl : L.length = n := by omega
  clear hn
  by_cases h2 : L.length < 2
  · have H := Lib.hid (show Vm.arrB L = false by rw [arrB_K]; simp; omega)
    have hd : decide ((L.length : Int) < 2) = true := by simp; omega
    clear h2
    go_enter Try.func38, Try.ntmps38
    go_wp2
    go_ret
    exact ⟨ret_bool H.out.symm, b0 _⟩
  have hd : decide ((L.length : Int) < 2) = false := by simp; omega
  by_cases h7 : 7 < L.length
  · have H := Lib.hid (show Vm.arrB L = false by rw [arrB_K]; simp; omega)
    have hd2 : decide ((7 : Int) < (L.length : Int)) = true := by simp; omega
    clear h2 h7
    go_enter Try.func38, Try.ntmps38
    go_wp2
    go_ret
    exact ⟨ret_bool H.out.symm, b0 _⟩
  have hd2 : decide ((7 : Int) < (L.length : Int)) = false := by simp; omega
  have HK := Lib.hid (show Vm.arrB L = (List.range L.length).all (arrK L) by rw [arrB_K, decide_eq_true (by omega : 2 ≤ L.length), decide_eq_true (by omega : L.length ≤ 7)]; rfl)
  clear h2 h7
  go_enter Try.func38, Try.ntmps38
  go_wp2
  go_loopw [3, 4, 15] (fun _ _ i wr => ∃ k : Nat, k ≤ L.length ∧ i = .int .i64 k ∧ Hid ((List.range k).all (arrK L) = true) ∧ Below w.heap.size w wr) (fun _ _ i _ => L.length - (intOf i).toNat)
  case atStart => exact ⟨0, Nat.zero_le _, rfl, by simp [Hid], b0 _⟩
  case round =>
    obtain ⟨k, hk, rfl, hall, hB⟩ := hrel
    by_cases hlt : k < L.length
    · have hrd := (h.after hB).take k hk
      rw [cp_take] at hrd
      have hrd0 := (h.after hB)
      obtain ⟨b, off, rfl, hb, hc1, hc2⟩ := (h.below hB).pair_at hlt
      have hsp := arrK_at hlt
      have hNo := fun hh => @arr_no L k hlt hh
      have hYes : arrK L k = true → (List.range (k + 1)).all (arrK L) = true := fun hh => by rw [all_rs, hall.out, hh]; rfl
      obtain ⟨p, hp⟩ : ∃ p, L[k] = p := ⟨_, rfl⟩
      rw [hp] at hsp hc1 hc2
      have hi0 : (0 : Int) ≤ (k : Int) := by omega
      have hi1 : (k : Int) < (L.length : Int) := by omega
      have hi2 : (k : Int) ≤ (c : Int) := by omega
      clear hp
      obtain ⟨q, hq⟩ : ∃ q, Vm.plB p = q := ⟨_, rfl⟩
      obtain ⟨r, hr⟩ : ∃ r, (L.take k).contains p = r := ⟨_, rfl⟩
      have HQ := Lib.hid hq
      have HR := Lib.hid hr
      rw [hq, hr] at hsp
      clear hq hr
      cases q
      · have H := Lib.hid (hNo (by rw [hsp]; rfl))
        clear hNo hYes hsp hrd hrd0
        go_wp2_with fail
        obtain ⟨U, hU⟩ : ∃ U, wr.heap.size = U := ⟨_, rfl⟩
        obtain ⟨W, hW⟩ : ∃ W, wr.alloc (.cells #[.int .i64 p.1, .int .i64 p.2] 38) = W := ⟨_, rfl⟩
        have c1 : W.cell? ⟨U, 0, none⟩ = some (.int .i64 p.1) := by rw [← hW, ← hU]; simp [go_sem]
        have c2 : W.cell? ⟨U, 1, none⟩ = some (.int .i64 p.2) := by rw [← hW, ← hU]; simp [go_sem]
        replace hB : Below w.heap.size w W := by rw [← hW]; exact bA hB _
        rw [hW, hU]
        clear hW hU hc1 hc2
        --R0
        refine wp_region_held_drew (S := fun W' => Below W.heap.size W W') (by kernel_rfl) (Below.drew (b0 W)) (fun hS => ?_)
        refine wpAnyH_take (i := 0) (v := .agg #[.int .i64 p.1, .int .i64 p.2]) rfl (by kernel_rfl) (by kernel_rfl) (by kernel_rfl) (fun _ _ _ h => h) (Or.inl ⟨by rfl, fun ww hSw => ?_⟩) hS ?_
        · have e1 := (hSw.cell (p := ⟨U, 0, none⟩) (block_lt_of_cell c1)).trans c1; have e2 := (hSw.cell (p := ⟨U, 1, none⟩) (block_lt_of_cell c2)).trans c2; clear hSw; go_simp
        refine wpAnyH_ready (rs := [1]) (by kernel_rfl) (by simp) ?_
        refine AllReadyH.cons rfl (fun K hK => ?_) AllReadyH.nil
        go_simp
        refine (isPlace_any p _).mono ?_
        rintro e w1 ⟨rfl, hb1⟩
        rw [HQ.out]
        refine hK.out _ _ (bT (Below.drew (b0 W)) hb1) (fun hS => ?_)
        clear hK K
        refine wpAnyH_take (i := 2) (v := .bool true) rfl (by kernel_rfl) (by kernel_rfl) (by kernel_rfl) (fun _ _ _ h => h) (Or.inl ⟨by rfl, fun ww hSw => ?_⟩) hS ?_
        · have e1 := (hSw.cell (p := ⟨U, 0, none⟩) (block_lt_of_cell c1)).trans c1; have e2 := (hSw.cell (p := ⟨U, 1, none⟩) (block_lt_of_cell c2)).trans c2; clear hSw; go_simp
        refine wpAnyH_take (i := 3) (v := .bool true) rfl (by kernel_rfl) (by kernel_rfl) (by kernel_rfl) (fun _ _ _ h => h) (Or.inl ⟨by rfl, fun ww hSw => ?_⟩) hS ?_
        · have e1 := (hSw.cell (p := ⟨U, 0, none⟩) (block_lt_of_cell c1)).trans c1; have e2 := (hSw.cell (p := ⟨U, 1, none⟩) (block_lt_of_cell c2)).trans c2; clear hSw; go_simp
        refine wpAnyH_take (i := 4) (v := undef) rfl (by kernel_rfl) (by kernel_rfl) (by kernel_rfl) (fun _ _ _ h => h) (Or.inr ⟨by rfl, rfl⟩) hS ?_
        refine wpAnyH_take (i := 5) (v := undef) rfl (by kernel_rfl) (by kernel_rfl) (by kernel_rfl) (fun _ _ _ h => h) (Or.inr ⟨by rfl, rfl⟩) hS ?_
        refine wpAnyH_take (i := 6) (v := undef) rfl (by kernel_rfl) (by kernel_rfl) (by kernel_rfl) (fun _ _ _ h => h) (Or.inr ⟨by rfl, rfl⟩) hS ?_
        refine wpAnyH_take (i := 7) (v := undef) rfl (by kernel_rfl) (by kernel_rfl) (by kernel_rfl) (fun _ _ _ h => h) (Or.inr ⟨by rfl, rfl⟩) hS ?_
        refine wpAnyH_take (i := 8) (v := undef) rfl (by kernel_rfl) (by kernel_rfl) (by kernel_rfl) (fun _ _ _ h => h) (Or.inr ⟨by rfl, rfl⟩) hS ?_
        refine wpAnyH_take (i := 9) (v := .bool true) rfl (by kernel_rfl) (by kernel_rfl) (by kernel_rfl) (fun _ _ _ h => h) (Or.inl ⟨by rfl, fun ww hSw => ?_⟩) hS ?_
        · have e1 := (hSw.cell (p := ⟨U, 0, none⟩) (block_lt_of_cell c1)).trans c1; have e2 := (hSw.cell (p := ⟨U, 1, none⟩) (block_lt_of_cell c2)).trans c2; clear hSw; go_simp
        refine ⟨by kernel_rfl, ?_⟩
        have hBS := bT hB hS
        clear hS
        go_simp
        go_wp2_with fail
        go_ret
        exact ⟨ret_bool H.out.symm, hBS⟩
        --ER0
      · cases r
        · have H := Lib.hid (hYes (by rw [hsp]; rfl))
          clear hNo hYes hsp
          go_wp2_with fail
          obtain ⟨U, hU⟩ : ∃ U, wr.heap.size = U := ⟨_, rfl⟩
          obtain ⟨W, hW⟩ : ∃ W, wr.alloc (.cells #[.int .i64 p.1, .int .i64 p.2] 38) = W := ⟨_, rfl⟩
          have c1 : W.cell? ⟨U, 0, none⟩ = some (.int .i64 p.1) := by rw [← hW, ← hU]; simp [go_sem]
          have c2 : W.cell? ⟨U, 1, none⟩ = some (.int .i64 p.2) := by rw [← hW, ← hU]; simp [go_sem]
          replace hB : Below w.heap.size w W := by rw [← hW]; exact bA hB _
          replace hrd : Rd W W.heap.size 2 (some ⟨b, off, none⟩) k c (cp (L.take k)) := by rw [← hW]; exact hrd.after (bA (b0 wr) _)
          rw [hW, hU]
          clear hW hU hc1 hc2
          --R1
          refine wp_region_held_drew (S := fun W' => Below W.heap.size W W') (by kernel_rfl) (Below.drew (b0 W)) (fun hS => ?_)
          refine wpAnyH_take (i := 0) (v := .agg #[.int .i64 p.1, .int .i64 p.2]) rfl (by kernel_rfl) (by kernel_rfl) (by kernel_rfl) (fun _ _ _ h => h) (Or.inl ⟨by rfl, fun ww hSw => ?_⟩) hS ?_
          · have e1 := (hSw.cell (p := ⟨U, 0, none⟩) (block_lt_of_cell c1)).trans c1; have e2 := (hSw.cell (p := ⟨U, 1, none⟩) (block_lt_of_cell c2)).trans c2; clear hSw; go_simp
          refine wpAnyH_ready (rs := [1]) (by kernel_rfl) (by simp) ?_
          refine AllReadyH.cons rfl (fun K hK => ?_) AllReadyH.nil
          go_simp
          refine (isPlace_any p _).mono ?_
          rintro e w1 ⟨rfl, hb1⟩
          rw [HQ.out]
          refine hK.out _ _ (bT (Below.drew (b0 W)) hb1) (fun hS => ?_)
          clear hK K
          refine wpAnyH_take (i := 2) (v := .bool false) rfl (by kernel_rfl) (by kernel_rfl) (by kernel_rfl) (fun _ _ _ h => h) (Or.inl ⟨by rfl, fun ww hSw => ?_⟩) hS ?_
          · have e1 := (hSw.cell (p := ⟨U, 0, none⟩) (block_lt_of_cell c1)).trans c1; have e2 := (hSw.cell (p := ⟨U, 1, none⟩) (block_lt_of_cell c2)).trans c2; clear hSw; go_simp
          refine wpAnyH_take (i := 3) (v := .bool false) rfl (by kernel_rfl) (by kernel_rfl) (by kernel_rfl) (fun _ _ _ h => h) (Or.inl ⟨by rfl, fun ww hSw => ?_⟩) hS ?_
          · have e1 := (hSw.cell (p := ⟨U, 0, none⟩) (block_lt_of_cell c1)).trans c1; have e2 := (hSw.cell (p := ⟨U, 1, none⟩) (block_lt_of_cell c2)).trans c2; clear hSw; go_simp
          refine wpAnyH_take (i := 4) (v := .slice (some ⟨b, off, none⟩) L.length c) rfl (by kernel_rfl) (by kernel_rfl) (by kernel_rfl) (fun _ _ _ h => h) (Or.inl ⟨by rfl, fun ww hSw => ?_⟩) hS ?_
          · have e1 := (hSw.cell (p := ⟨U, 0, none⟩) (block_lt_of_cell c1)).trans c1; have e2 := (hSw.cell (p := ⟨U, 1, none⟩) (block_lt_of_cell c2)).trans c2; clear hSw; go_simp
          refine wpAnyH_take (i := 5) (v := .int .i64 k) rfl (by kernel_rfl) (by kernel_rfl) (by kernel_rfl) (fun _ _ _ h => h) (Or.inl ⟨by rfl, fun ww hSw => ?_⟩) hS ?_
          · have e1 := (hSw.cell (p := ⟨U, 0, none⟩) (block_lt_of_cell c1)).trans c1; have e2 := (hSw.cell (p := ⟨U, 1, none⟩) (block_lt_of_cell c2)).trans c2; clear hSw; go_simp
          refine wpAnyH_take (i := 6) (v := .slice (some ⟨b, off, none⟩) k c) rfl (by kernel_rfl) (by kernel_rfl) (by kernel_rfl) (fun _ _ _ h => h) (Or.inl ⟨by rfl, fun ww hSw => ?_⟩) hS ?_
          · have e1 := (hSw.cell (p := ⟨U, 0, none⟩) (block_lt_of_cell c1)).trans c1; have e2 := (hSw.cell (p := ⟨U, 1, none⟩) (block_lt_of_cell c2)).trans c2; clear hSw; go_simp
          refine wpAnyH_take (i := 7) (v := .agg #[.int .i64 p.1, .int .i64 p.2]) rfl (by kernel_rfl) (by kernel_rfl) (by kernel_rfl) (fun _ _ _ h => h) (Or.inl ⟨by rfl, fun ww hSw => ?_⟩) hS ?_
          · have e1 := (hSw.cell (p := ⟨U, 0, none⟩) (block_lt_of_cell c1)).trans c1; have e2 := (hSw.cell (p := ⟨U, 1, none⟩) (block_lt_of_cell c2)).trans c2; clear hSw; go_simp
          refine wpAnyH_ready (rs := [8]) (by kernel_rfl) (by simp) ?_
          refine AllReadyH.cons rfl (fun K hK => ?_) AllReadyH.nil
          go_simp
          refine (ContainsA_any _ _ _ (L.take k) p _ (hrd.after hS)).mono ?_
          rintro e w2 ⟨rfl, hb2⟩
          rw [HR.out]
          refine hK.out _ _ (bT hS hb2) (fun hS => ?_)
          clear hK K
          refine wpAnyH_take (i := 9) (v := .bool false) rfl (by kernel_rfl) (by kernel_rfl) (by kernel_rfl) (fun _ _ _ h => h) (Or.inl ⟨by rfl, fun ww hSw => ?_⟩) hS ?_
          · have e1 := (hSw.cell (p := ⟨U, 0, none⟩) (block_lt_of_cell c1)).trans c1; have e2 := (hSw.cell (p := ⟨U, 1, none⟩) (block_lt_of_cell c2)).trans c2; clear hSw; go_simp
          refine ⟨by kernel_rfl, ?_⟩
          have hBS := bT hB hS
          clear hS
          go_simp
          go_wp2_with fail
          go_roundw
          case rel => exact ⟨k + 1, by omega, by go_num, H, hBS⟩
          case measure => simp [intOf]; omega
          --ER1
        · have H := Lib.hid (hNo (by rw [hsp]; rfl))
          clear hNo hYes hsp
          go_wp2_with fail
          obtain ⟨U, hU⟩ : ∃ U, wr.heap.size = U := ⟨_, rfl⟩
          obtain ⟨W, hW⟩ : ∃ W, wr.alloc (.cells #[.int .i64 p.1, .int .i64 p.2] 38) = W := ⟨_, rfl⟩
          have c1 : W.cell? ⟨U, 0, none⟩ = some (.int .i64 p.1) := by rw [← hW, ← hU]; simp [go_sem]
          have c2 : W.cell? ⟨U, 1, none⟩ = some (.int .i64 p.2) := by rw [← hW, ← hU]; simp [go_sem]
          replace hB : Below w.heap.size w W := by rw [← hW]; exact bA hB _
          replace hrd : Rd W W.heap.size 2 (some ⟨b, off, none⟩) k c (cp (L.take k)) := by rw [← hW]; exact hrd.after (bA (b0 wr) _)
          rw [hW, hU]
          clear hW hU hc1 hc2
          --R2
          refine wp_region_held_drew (S := fun W' => Below W.heap.size W W') (by kernel_rfl) (Below.drew (b0 W)) (fun hS => ?_)
          refine wpAnyH_take (i := 0) (v := .agg #[.int .i64 p.1, .int .i64 p.2]) rfl (by kernel_rfl) (by kernel_rfl) (by kernel_rfl) (fun _ _ _ h => h) (Or.inl ⟨by rfl, fun ww hSw => ?_⟩) hS ?_
          · have e1 := (hSw.cell (p := ⟨U, 0, none⟩) (block_lt_of_cell c1)).trans c1; have e2 := (hSw.cell (p := ⟨U, 1, none⟩) (block_lt_of_cell c2)).trans c2; clear hSw; go_simp
          refine wpAnyH_ready (rs := [1]) (by kernel_rfl) (by simp) ?_
          refine AllReadyH.cons rfl (fun K hK => ?_) AllReadyH.nil
          go_simp
          refine (isPlace_any p _).mono ?_
          rintro e w1 ⟨rfl, hb1⟩
          rw [HQ.out]
          refine hK.out _ _ (bT (Below.drew (b0 W)) hb1) (fun hS => ?_)
          clear hK K
          refine wpAnyH_take (i := 2) (v := .bool false) rfl (by kernel_rfl) (by kernel_rfl) (by kernel_rfl) (fun _ _ _ h => h) (Or.inl ⟨by rfl, fun ww hSw => ?_⟩) hS ?_
          · have e1 := (hSw.cell (p := ⟨U, 0, none⟩) (block_lt_of_cell c1)).trans c1; have e2 := (hSw.cell (p := ⟨U, 1, none⟩) (block_lt_of_cell c2)).trans c2; clear hSw; go_simp
          refine wpAnyH_take (i := 3) (v := .bool false) rfl (by kernel_rfl) (by kernel_rfl) (by kernel_rfl) (fun _ _ _ h => h) (Or.inl ⟨by rfl, fun ww hSw => ?_⟩) hS ?_
          · have e1 := (hSw.cell (p := ⟨U, 0, none⟩) (block_lt_of_cell c1)).trans c1; have e2 := (hSw.cell (p := ⟨U, 1, none⟩) (block_lt_of_cell c2)).trans c2; clear hSw; go_simp
          refine wpAnyH_take (i := 4) (v := .slice (some ⟨b, off, none⟩) L.length c) rfl (by kernel_rfl) (by kernel_rfl) (by kernel_rfl) (fun _ _ _ h => h) (Or.inl ⟨by rfl, fun ww hSw => ?_⟩) hS ?_
          · have e1 := (hSw.cell (p := ⟨U, 0, none⟩) (block_lt_of_cell c1)).trans c1; have e2 := (hSw.cell (p := ⟨U, 1, none⟩) (block_lt_of_cell c2)).trans c2; clear hSw; go_simp
          refine wpAnyH_take (i := 5) (v := .int .i64 k) rfl (by kernel_rfl) (by kernel_rfl) (by kernel_rfl) (fun _ _ _ h => h) (Or.inl ⟨by rfl, fun ww hSw => ?_⟩) hS ?_
          · have e1 := (hSw.cell (p := ⟨U, 0, none⟩) (block_lt_of_cell c1)).trans c1; have e2 := (hSw.cell (p := ⟨U, 1, none⟩) (block_lt_of_cell c2)).trans c2; clear hSw; go_simp
          refine wpAnyH_take (i := 6) (v := .slice (some ⟨b, off, none⟩) k c) rfl (by kernel_rfl) (by kernel_rfl) (by kernel_rfl) (fun _ _ _ h => h) (Or.inl ⟨by rfl, fun ww hSw => ?_⟩) hS ?_
          · have e1 := (hSw.cell (p := ⟨U, 0, none⟩) (block_lt_of_cell c1)).trans c1; have e2 := (hSw.cell (p := ⟨U, 1, none⟩) (block_lt_of_cell c2)).trans c2; clear hSw; go_simp
          refine wpAnyH_take (i := 7) (v := .agg #[.int .i64 p.1, .int .i64 p.2]) rfl (by kernel_rfl) (by kernel_rfl) (by kernel_rfl) (fun _ _ _ h => h) (Or.inl ⟨by rfl, fun ww hSw => ?_⟩) hS ?_
          · have e1 := (hSw.cell (p := ⟨U, 0, none⟩) (block_lt_of_cell c1)).trans c1; have e2 := (hSw.cell (p := ⟨U, 1, none⟩) (block_lt_of_cell c2)).trans c2; clear hSw; go_simp
          refine wpAnyH_ready (rs := [8]) (by kernel_rfl) (by simp) ?_
          refine AllReadyH.cons rfl (fun K hK => ?_) AllReadyH.nil
          go_simp
          refine (ContainsA_any _ _ _ (L.take k) p _ (hrd.after hS)).mono ?_
          rintro e w2 ⟨rfl, hb2⟩
          rw [HR.out]
          refine hK.out _ _ (bT hS hb2) (fun hS => ?_)
          clear hK K
          refine wpAnyH_take (i := 9) (v := .bool true) rfl (by kernel_rfl) (by kernel_rfl) (by kernel_rfl) (fun _ _ _ h => h) (Or.inl ⟨by rfl, fun ww hSw => ?_⟩) hS ?_
          · have e1 := (hSw.cell (p := ⟨U, 0, none⟩) (block_lt_of_cell c1)).trans c1; have e2 := (hSw.cell (p := ⟨U, 1, none⟩) (block_lt_of_cell c2)).trans c2; clear hSw; go_simp
          refine ⟨by kernel_rfl, ?_⟩
          have hBS := bT hB hS
          clear hS
          go_simp
          go_wp2_with fail
          go_ret
          exact ⟨ret_bool H.out.symm, hBS⟩
          --ER2
    · have hke : k = L.length := by omega
      subst hke
      have H := Lib.hid (HK.out.trans hall.out)
      go_wp2
      go_ret
      exact ⟨ret_bool H.out.symm, hB⟩

end Go.Proofs.Ytjpklbkeofjppaa
