/- Contracts: valid arrays of the reference; delays. -/
import Derived.Test.YtjpklbkeofjppaaArr
import Derived.Test.YtjpklbkeofjppaaVisC
namespace Go.Proofs.Ytjpklbkeofjppaa
open Go.RowKit

theorem arr_end {L : List (Int × Int)} (h : (List.range L.length).all (arrK L) = true) : Vm.arrB L = in3 (L.length : Int) 2 7 := by
  rw [arrB_K, h, Bool.and_true, Bool.eq_iff_iff]; simp [in3]; omega
set_option maxHeartbeats 4000000 in
theorem sArrayValid_any (A : Option Addr) (n c : Nat) (L : List (Int × Int)) (w : World) (h : Rd w w.heap.size 2 A n c (cp L)) :
    Calls Try.prog 36 #[.slice A n c] w fun e w' => e = .returned (.bool (Vm.arrB L)) ∧ Below w.heap.size w w' := by
  have hn := h.len
  rw [cp_length] at hn
  have hm := h.most
  have hcap := h.cap
  obtain rfl : L.length = n := by omega
  clear hn
  have heq := run_eql_Ant
  go_enter Try.func36, Try.ntmps36
  go_wp2
  go_loopw [3] (fun i wr => ∃ k : Nat, k ≤ L.length ∧ i = .int .i64 k ∧ Hid ((List.range k).all (arrK L) = true) ∧ Below w.heap.size w wr) (fun i _ => L.length - (intOf i).toNat)
  case atStart => exact ⟨0, Nat.zero_le _, rfl, by simp [Hid], b0 _⟩
  case round =>
    obtain ⟨k, hk, rfl, hall, hB⟩ := hrel
    by_cases hlt : k < L.length
    · obtain ⟨b, off, rfl, hb, hc1, hc2⟩ := (h.below hB).pair_at hlt
      have hsp := arrK_at hlt
      have hNo := fun hh => @arr_no L k hlt hh
      have hYes : arrK L k = true → (List.range (k + 1)).all (arrK L) = true := fun hh => by rw [all_rs, hall.out, hh]; rfl
      obtain ⟨p, hp⟩ : ∃ p, L[k] = p := ⟨_, rfl⟩
      rw [hp] at hsp hc1 hc2
      have hi0 : (0 : Int) ≤ (k : Int) := by omega
      have hi1 : (k : Int) < (L.length : Int) := by omega
      have HP := Lib.hid hp
      clear hp
      cases hq : Vm.plB p
      · have H := Lib.hid (hNo (by rw [hsp, hq]; rfl))
        have HQ := Lib.hid hq
        clear hNo hYes hsp hq
        go_wp2_with fail
        refine (l3Place_any p _).mono ?_
        rintro e w1 ⟨rfl, hb1⟩
        rw [HQ.out]
        go_wp2_with fail
        go_ret
        exact ⟨ret_bool H.out.symm, bT hB hb1⟩
      · have HQ := Lib.hid hq
        rw [hq] at hsp
        have HNo := Lib.hid hNo
        have HYes := Lib.hid hYes
        have HSp := Lib.hid hsp
        clear hNo hYes hsp hq
        go_wp2_with fail
        refine (l3Place_any p _).mono ?_
        rintro e w1 ⟨rfl, hb1⟩
        rw [HQ.out]
        have hB1 := bT hB hb1
        clear hB hb1 hc1 hc2
        go_wp2_with fail
        go_loopw [4] (fun i wr => ∃ m : Nat, m ≤ k ∧ i = .int .i64 m ∧ Hid (p ∉ L.take m) ∧ Below w.heap.size w wr) (fun i _ => k - (intOf i).toNat)
        case atStart => exact ⟨0, Nat.zero_le _, rfl, by simp [Hid], hB1⟩
        case round =>
          clear hB1
          obtain ⟨m, hm', rfl, hnot, hB⟩ := hrel
          obtain ⟨_, _, eA, _, hc1, hc2⟩ := (h.below hB).pair_at hlt
          simp only [Option.some.injEq, Addr.mk.injEq, and_true] at eA
          obtain ⟨rfl, rfl⟩ := eA
          rw [HP.out] at hc1 hc2
          by_cases hmk : m < k
          · have hml : m < L.length := by omega
            obtain ⟨_, _, eA, _, hd1, hd2⟩ := (h.below hB).pair_at hml
            simp only [Option.some.injEq, Addr.mk.injEq, and_true] at eA
            obtain ⟨rfl, rfl⟩ := eA
            have hj0 : (0 : Int) ≤ (m : Int) := by omega
            have hj1 : (m : Int) < (L.length : Int) := by omega
            by_cases he : L[m] = p
            · have H := Lib.hid (HNo.out (by
                rw [HSp.out]
                have : p ∈ L.take k := List.mem_take_iff_getElem.2 ⟨m, by omega, he⟩
                simp [this]))
              have hd : peq L[m].1 L[m].2 p.1 p.2 = true := peq_true (by rw [he]; exact ⟨rfl, rfl⟩)
              clear he
              go_wp2_with fail
              go_quiet (fail)
              go_wp2_with fail
              go_ret
              exact ⟨ret_bool H.out.symm, bD hB _⟩
            · have H := Lib.hid (has_notA hml hnot.out (fun e => he e.symm))
              have hd : peq L[m].1 L[m].2 p.1 p.2 = false := peq_false (fun e => he (Prod.ext e.1 e.2))
              clear he
              go_wp2_with fail
              go_quiet (fail)
              go_wp2_with fail
              go_roundw
              case rel => exact ⟨m + 1, by omega, by go_num, H, bD hB _⟩
              case measure => simp [intOf]; omega
          · have hmk2 : m = k := by omega
            have H := Lib.hid (HYes.out (by
              rw [HSp.out]
              have h1 := hnot.out
              rw [hmk2] at h1
              simp [h1]))
            subst hmk2
            go_wp2_with fail
            go_roundw
            case rel => exact ⟨m + 1, by omega, by go_num, H, hB⟩
            case measure => simp [intOf]; omega
    · have hke : k = L.length := by omega
      subst hke
      have H := Lib.hid (arr_end hall.out)
      go_wp2_with fail
      refine (l6In_any _ _ _ _).mono ?_
      rintro e w' ⟨rfl, rfl⟩
      go_wp2_with fail
      go_ret
      exact ⟨ret_bool H.out.symm, hB⟩

end Go.Proofs.Ytjpklbkeofjppaa
