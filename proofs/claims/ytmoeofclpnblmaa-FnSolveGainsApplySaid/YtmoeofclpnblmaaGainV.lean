/- Contracts: valid gains. -/
import Derived.Test.YtmoeofclpnblmaaVisB
import Derived.Test.YtmoeofclpnblmaaVisC
import Derived.Test.YtmoeofclpnblmaaGainM
namespace Go.Proofs.Ytmoeofclpnblmaa
open Go.RowKit

theorem gain_false1 {n : Int} {L : List (Int × Int)} (h : Vm.manyB n = false) : Vm.gainB n L = false := by simp [Vm.gainB, h]
theorem gain_false2 {n : Int} {L : List (Int × Int)} (h : ¬ (L.length : Int) = n) : Vm.gainB n L = false := by simp [Vm.gainB, h]
theorem gain_last {n : Int} {L : List (Int × Int)} (h : Vm.manyB n = true) (h' : (L.length : Int) = n) : Vm.gainB n L = L.all (Vm.visOk 99) := by simp [Vm.gainB, h, h']
set_option maxHeartbeats 400000 in
theorem GainsValid_any (A : Option Addr) (m c : Nat) (n : Int) (L : List (Int × Int)) (w : World) (h : Rd w w.heap.size 2 A m c (cp L)) :
    Calls Try.prog 58 #[.int .i64 n, .slice A m c] w fun e w' => e = .returned (.bool (Vm.gainB n L)) ∧ Below w.heap.size w w' := by
  have hn := h.len
  rw [cp_length] at hn
  have hm := h.most
  have hcap := h.cap
  obtain rfl : L.length = m := by omega
  clear hn
  cases hmb : Vm.manyB n
  · have H := Lib.hid (gain_false1 (L := L) hmb)
    go_enter Try.func58, Try.ntmps58
    go_wp2_with (go_at_call 69; refine (isMany_any _ _).mono ?_; rintro e w' ⟨rfl, rfl⟩)
    go_ret
    exact ⟨ret_bool H.out.symm, b0 _⟩
  · by_cases hl : (L.length : Int) = n
    · have H := Lib.hid (gain_last hmb hl)
      have hd : ((L.length : Int) == n) = true := by simp [hl]
      have HM := Lib.hid hmb
      clear hl hmb
      go_enter Try.func58, Try.ntmps58
      go_wp2_with (go_at_call 69; refine (isMany_any _ _).mono ?_; rintro e w' ⟨rfl, rfl⟩; rw [HM.out])
      refine (visInRange_any _ _ _ L _ _ h).mono ?_
      rintro e w1 ⟨rfl, hB⟩
      go_wp2_with fail
      go_ret
      exact ⟨ret_bool H.out.symm, hB⟩
    · have H := Lib.hid (gain_false2 hl)
      have hd : ((L.length : Int) == n) = false := by simp [hl]
      clear hl
      go_enter Try.func58, Try.ntmps58
      go_wp2_with (go_at_call 69; refine (isMany_any _ _).mono ?_; rintro e w' ⟨rfl, rfl⟩)
      go_ret
      exact ⟨ret_bool H.out.symm, b0 _⟩
set_option maxHeartbeats 400000 in
theorem sGainsValid_any (A : Option Addr) (m c : Nat) (n : Int) (L : List (Int × Int)) (w : World) (h : Rd w w.heap.size 2 A m c (cp L)) :
    Calls Try.prog 61 #[.int .i64 n, .slice A m c] w fun e w' => e = .returned (.bool (Vm.gainB n L)) ∧ w = w' := by
  have hn := h.len
  rw [cp_length] at hn
  have hm := h.most
  have hcap := h.cap
  obtain rfl : L.length = m := by omega
  clear hn
  cases hmb : Vm.manyB n
  · have H := Lib.hid (gain_false1 (L := L) hmb)
    have hz : (Vm.bmany n == 0) = true := by rw [bmany_zero, hmb]; rfl
    go_enter Try.func61, Try.ntmps61
    go_wp2_with (go_at_call 46; refine (sBaseMany_any _ _).mono ?_; rintro e w' ⟨rfl, rfl⟩)
    go_ret
    exact ⟨ret_bool H.out.symm, rfl⟩
  · have hz : (Vm.bmany n == 0) = false := by rw [bmany_zero, hmb]; rfl
    by_cases hl : (L.length : Int) = n
    · have H := Lib.hid (gain_last hmb hl)
      subst hl
      have hd : ((L.length : Int) != (L.length : Int)) = false := by simp
      clear hmb
      go_enter Try.func61, Try.ntmps61
      go_wp2_with (go_at_call 46; refine (sBaseMany_any _ _).mono ?_; rintro e w' ⟨rfl, rfl⟩)
      go_loop [5] (fun i => ∃ k : Nat, k ≤ L.length ∧ i = .int .i64 k ∧ Hid ((L.take k).all (Vm.visOk 99) = true)) (fun i => L.length - (intOf i).toNat)
      case atStart => exact ⟨0, Nat.zero_le _, rfl, by simp [Hid]⟩
      case round =>
        obtain ⟨k, hk, rfl, hall⟩ := hrel
        by_cases hlt : k < L.length
        · obtain ⟨b, off, rfl, hb, hc1, hc2⟩ := h.pair_at hlt
          have hsp := visOk_in3 99 L[k]
          have hf := all_false_of (Vm.visOk 99) L k hlt
          have ht := all_take_succ (Vm.visOk 99) L k hlt
          rw [hall.out] at ht
          obtain ⟨v, hv⟩ : ∃ v, L[k] = v := ⟨_, rfl⟩
          rw [hv] at hc1 hc2 hsp hf ht
          clear hv
          cases h1 : in3 v.1 1 99
          · have HF := Lib.hid (H.out.trans (hf (by rw [hsp, h1]; rfl)))
            clear hf ht hsp
            go_wp2_with (go_at_call 72; refine (l6In_any _ _ _ _).mono ?_; rintro e w' ⟨rfl, rfl⟩)
            go_ret
            exact ⟨ret_bool HF.out.symm, rfl⟩
          · cases h2 : Vm.phB v.2
            · have HF := Lib.hid (H.out.trans (hf (by rw [hsp, h1, h2]; rfl)))
              clear hf ht hsp
              go_wp2_with (first
                | (go_at_call 72; refine (l6In_any _ _ _ _).mono ?_; rintro e w' ⟨rfl, rfl⟩)
                | (go_at_call 76; refine (l2Phase_any _ _).mono ?_; rintro e w' ⟨rfl, rfl⟩))
              go_ret
              exact ⟨ret_bool HF.out.symm, rfl⟩
            · have HT := Lib.hid (ht.trans (by rw [hsp, h1, h2]))
              clear hf ht hsp
              go_wp2_with (first
                | (go_at_call 72; refine (l6In_any _ _ _ _).mono ?_; rintro e w' ⟨rfl, rfl⟩)
                | (go_at_call 76; refine (l2Phase_any _ _).mono ?_; rintro e w' ⟨rfl, rfl⟩))
              go_round
              case rel => exact ⟨k + 1, by omega, by go_num, HT⟩
              case measure => simp [intOf]; omega
        · have HF := Lib.hid (show Vm.gainB L.length L = true by rw [H.out, ← List.take_of_length_le (Nat.le_of_not_lt hlt)]; exact hall.out)
          go_wp2
          go_ret
          exact ⟨ret_bool HF.out.symm, rfl⟩
    · have H := Lib.hid (gain_false2 hl)
      have hd : ((L.length : Int) != n) = true := by simp [hl]
      clear hl
      go_enter Try.func61, Try.ntmps61
      go_wp2_with (go_at_call 46; refine (sBaseMany_any _ _).mono ?_; rintro e w' ⟨rfl, rfl⟩)
      go_ret
      exact ⟨ret_bool H.out.symm, rfl⟩

end Go.Proofs.Ytmoeofclpnblmaa
