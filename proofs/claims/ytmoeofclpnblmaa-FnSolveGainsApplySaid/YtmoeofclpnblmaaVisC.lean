/- Contracts: the reference's visibilities and closure phases. -/
import Derived.Test.YtmoeofclpnblmaaVisB
namespace Go.Proofs.Ytmoeofclpnblmaa
open Go.RowKit

theorem visOk_in3 (m : Int) (v : Int × Int) : Vm.visOk m v = (in3 v.1 1 m && Vm.phB v.2) := rfl
set_option maxHeartbeats 1000000 in
theorem sVisValid_any (A : Option Addr) (m c : Nat) (n : Int) (L : List (Int × Int)) (w : World) (h : Rd w w.heap.size 2 A m c (cp L)) :
    Calls Try.prog 60 #[.int .i64 n, .slice A m c] w fun e w' => e = .returned (.bool (Vm.visB n L)) ∧ w = w' := by
  have hn := h.len
  rw [cp_length] at hn
  have hm := h.most
  have hcap := h.cap
  obtain rfl : L.length = m := by omega
  clear hn
  cases hmb : Vm.manyB n
  · have H := Lib.hid (vis_false1 (L := L) hmb)
    have hz : (Vm.bmany n == 0) = true := by rw [bmany_zero, hmb]; rfl
    go_enter Try.func60, Try.ntmps60
    go_wp2_with (go_at_call 46; refine (sBaseMany_any _ _).mono ?_; rintro e w' ⟨rfl, rfl⟩)
    go_ret
    exact ⟨ret_bool H.out.symm, rfl⟩
  · have hz : (Vm.bmany n == 0) = false := by rw [bmany_zero, hmb]; rfl
    by_cases hl : (L.length : Int) = Vm.bmany n
    · have H := Lib.hid (vis_last hmb hl)
      have hd : ((L.length : Int) != Vm.bmany n) = false := by simp [hl]
      clear hl
      go_enter Try.func60, Try.ntmps60
      go_wp2_with (go_at_call 46; refine (sBaseMany_any _ _).mono ?_; rintro e w' ⟨rfl, rfl⟩)
      go_loop [5] (fun i => ∃ k : Nat, k ≤ L.length ∧ i = .int .i64 k ∧ Hid ((L.take k).all (Vm.visOk 1000000) = true)) (fun i => L.length - (intOf i).toNat)
      case atStart => exact ⟨0, Nat.zero_le _, rfl, by simp [Hid]⟩
      case round =>
        obtain ⟨k, hk, rfl, hall⟩ := hrel
        by_cases hlt : k < L.length
        · obtain ⟨b, off, rfl, hb, hc1, hc2⟩ := h.pair_at hlt
          have hsp := visOk_in3 1000000 L[k]
          have hf := all_false_of (Vm.visOk 1000000) L k hlt
          have ht := all_take_succ (Vm.visOk 1000000) L k hlt
          rw [hall.out] at ht
          obtain ⟨v, hv⟩ : ∃ v, L[k] = v := ⟨_, rfl⟩
          rw [hv] at hc1 hc2 hsp hf ht
          clear hv
          cases h1 : in3 v.1 1 1000000
          · have HF := Lib.hid (H.out.trans (hf (by rw [hsp, h1]; rfl)))
            clear hf ht hsp
            go_wp2_with (go_at_call 72; refine (l6In_any _ _ _ _).mono ?_; rintro e w' ⟨rfl, rfl⟩)
            go_ret
            exact ⟨ret_bool HF.out.symm, rfl⟩
          · cases h2 : Vm.phB v.2
            · have HF := Lib.hid (H.out.trans (hf (by rw [hsp, h1, h2]; rfl)))
              clear hf ht hsp
              go_wp2_with (first
                | (go_at_call 72; refine (l6In_any _ _ _ _).mono ?_; rintro e w' ⟨rfl, rfl⟩)
                | (go_at_call 76; refine (l2Phase_any _ _).mono ?_; rintro e w' ⟨rfl, rfl⟩))
              go_ret
              exact ⟨ret_bool HF.out.symm, rfl⟩
            · have HT := Lib.hid (ht.trans (by rw [hsp, h1, h2]))
              clear hf ht hsp
              go_wp2_with (first
                | (go_at_call 72; refine (l6In_any _ _ _ _).mono ?_; rintro e w' ⟨rfl, rfl⟩)
                | (go_at_call 76; refine (l2Phase_any _ _).mono ?_; rintro e w' ⟨rfl, rfl⟩))
              go_round
              case rel => exact ⟨k + 1, by omega, by go_num, HT⟩
              case measure => simp [intOf]; omega
        · have HF := Lib.hid (show Vm.visB n L = true by rw [H.out, ← List.take_of_length_le (Nat.le_of_not_lt hlt)]; exact hall.out)
          go_wp2
          go_ret
          exact ⟨ret_bool HF.out.symm, rfl⟩
    · have H := Lib.hid (vis_false2 hl)
      have hd : ((L.length : Int) != Vm.bmany n) = true := by simp [hl]
      clear hl
      go_enter Try.func60, Try.ntmps60
      go_wp2_with (go_at_call 46; refine (sBaseMany_any _ _).mono ?_; rintro e w' ⟨rfl, rfl⟩)
      go_ret
      exact ⟨ret_bool H.out.symm, rfl⟩

theorem bix_eq {n i j : Int} (hn : 2 ≤ n ∧ n ≤ 7) (hi : 0 ≤ i ∧ i < n) (hj : 0 ≤ j ∧ j < n) (hne : i ≠ j) : bix n i j = Vm.bidx n i j := by
  have h1 := (Vm.manyB_iff n).2 hn
  have h2 := (Vm.antB_iff n i).2 hi
  have h3 := (Vm.antB_iff n j).2 hj
  have h4 : (i == j) = false := by simp [hne]
  rw [bix, h1, h2, h3, h4]; rfl
set_option maxHeartbeats 1000000 in
theorem l11Get_any (A : Option Addr) (m c : Nat) (n i j : Int) (L : List (Int × Int)) (w : World) (h : Rd w w.heap.size 2 A m c (cp L)) (hv : Vm.visB n L = true) (hi : 0 ≤ i ∧ i < n) (hj : 0 ≤ j ∧ j < n) (hne : i ≠ j) :
    Calls Try.prog 62 #[.int .i64 n, .slice A m c, .int .i64 i, .int .i64 j] w fun e w' => e = .returned (gv (Vm.vget n L i j)) ∧ Below w.heap.size w w' := by
  have hn := h.len
  rw [cp_length] at hn
  have hm := h.most
  have hcap := h.cap
  obtain rfl : L.length = m := by omega
  clear hn
  obtain ⟨⟨n1, n2⟩, k, hk, hkk, hk21, hgd, hp1, hp2⟩ := vis_at hv hi hj hne
  have HK := Lib.hid ((bix_eq ⟨n1, n2⟩ hi hj hne).trans hkk)
  obtain ⟨i1, i2⟩ := hi
  obtain ⟨j1, j2⟩ := hj
  obtain ⟨b, off, rfl, hb, hc1, hc2⟩ := h.pair_at hk
  obtain ⟨v, hvv⟩ : ∃ v, L[k] = v := ⟨_, rfl⟩
  rw [hvv] at hgd hp1 hp2 hc1 hc2
  have HG := Lib.hid (show L.getD (Vm.bidx n i j).toNat (0, 0) = v by rw [hkk, Int.toNat_natCast]; exact hgd)
  clear hvv hgd hkk hv
  by_cases hlt : j < i
  · have H := Lib.hid ((vget_gt hlt).trans (by rw [HG.out]) : Vm.vget n L i j = Vm.opp v)
    have HZ := Lib.hid (show (0 - v.2) % 360 = (-v.2) % 360 by congr 1; omega)
    go_enter Try.func62, Try.ntmps62
    go_wp2_with (first
      | (go_at_call 74; refine (sBaseIndex_any _ _ _ _).mono ?_; rintro e w' ⟨rfl, rfl⟩; rw [HK.out])
      | (go_at_call 63; refine (sPhaseOf_any _ _).mono ?_; rintro e w' ⟨rfl, rfl⟩))
    refine bodyPost_ret (v := .agg #[.int .i64 (Vm.opp v).1, .int .i64 (Vm.opp v).2]) (by simp [results, Try.results62, go_sem, Vm.opp]) rfl ⟨by rw [H.out]; rfl, ?_⟩
    go_grown
  · have H := Lib.hid ((vget_le hlt).trans HG.out : Vm.vget n L i j = v)
    go_enter Try.func62, Try.ntmps62
    go_wp2_with (go_at_call 74; refine (sBaseIndex_any _ _ _ _).mono ?_; rintro e w' ⟨rfl, rfl⟩; rw [HK.out])
    refine bodyPost_ret (v := .agg #[.int .i64 v.1, .int .i64 v.2]) (by simp [results, Try.results62, go_sem]) rfl ⟨by rw [H.out]; rfl, ?_⟩
    go_grown



end Go.Proofs.Ytmoeofclpnblmaa
