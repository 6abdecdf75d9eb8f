/- The laws on exchanged antennas: FnSwap, FnSwapGet, FnCloseSwap. -/
import Derived.Test.YtjpklbkeofjppaaSwap2
import Derived.Test.YtjpklbkeofjppaaLawC1
namespace Go.Proofs.Ytjpklbkeofjppaa
open Go.RowKit

def sameVRel (L M : List (Int × Int)) (w : World) (i : Value) (wr : World) : Prop := ∃ k : Nat, k ≤ L.length ∧ i = .int .i64 k ∧ L.take k = M.take k ∧ ∃ nq, wr = w.drewN nq
set_option maxHeartbeats 400000 in
theorem sameVis_any (A B : Option Addr) (n c m d : Nat) (L M : List (Int × Int)) (w : World) (h : Rd w w.heap.size 2 A n c (cp L)) (h' : Rd w w.heap.size 2 B m d (cp M)) :
    Calls Try.prog 34 #[.slice A n c, .slice B m d] w fun e w' => e = .returned (.bool (decide (L = M))) ∧ ∃ nq, w' = w.drewN nq := by
  have hn := h.len
  rw [cp_length] at hn
  have hn' := h'.len
  rw [cp_length] at hn'
  have hm := h.most
  have hcap := h.cap
  have hm' := h'.most
  have hcap' := h'.cap
  obtain rfl : L.length = n := by omega
  obtain rfl : M.length = m := by omega
  clear hn hn'
  by_cases hl : L.length = M.length
  · have hL := Lib.hid hl
    have hd : ((L.length : Int) != (M.length : Int)) = false := by simp [hl]
    have hle : L.length ≤ M.length := by omega
    clear hl
    have hne := run_neq_Vis
    go_enter Try.func34, Try.ntmps34
    go_wp2
    go_loopw [5] (fun i wr => sameVRel L M w i wr) (fun i _ => L.length - (intOf i).toNat)
    case atStart => exact ⟨0, Nat.zero_le _, rfl, by simp, 0, rfl⟩
    case round =>
      obtain ⟨k, hk, rfl, hall, nq, rfl⟩ := hrel
      have HA := Lib.hid hall
      clear hall
      by_cases hlt : k < L.length
      · have hlt' : k < M.length := by omega
        obtain ⟨b, off, rfl, hb, hc, hcy⟩ := h.pair_at hlt
        obtain ⟨b', off', rfl, hb', hc', hcy'⟩ := h'.pair_at hlt'
        by_cases he : L[k] = M[k]
        · have ht : peq L[k].1 L[k].2 M[k].1 M[k].2 = true := peq_true (by simp [he])
          have H : Hid (L.take (k + 1) = M.take (k + 1)) := by
            show _ = _
            rw [List.take_succ_eq_append_getElem hlt, List.take_succ_eq_append_getElem hlt', HA.out, he]
          clear he
          go_wp2
          go_quiet (fail)
          go_wp2
          go_roundw
          case rel => exact ⟨k + 1, by omega, by go_num, H.out, _, rfl⟩
          case measure => simp [intOf]; omega
        · have ht : peq L[k].1 L[k].2 M[k].1 M[k].2 = false := peq_false (fun e => he (Prod.ext e.1 e.2))
          have H := Lib.hid (show decide (L = M) = false by
            rw [decide_eq_false_iff_not]; intro e; subst e; exact he rfl)
          clear he
          go_wp2
          go_quiet (fail)
          go_wp2
          go_ret
          exact ⟨ret_bool H.out.symm, drewN2 _ _ _⟩
      · have H := Lib.hid (show decide (L = M) = true by
          have h1 := HA.out
          rw [List.take_of_length_le (by omega), List.take_of_length_le (by rw [← hL.out]; omega)] at h1
          simpa using h1)
        go_wp2
        go_ret
        exact ⟨ret_bool H.out.symm, nq, rfl⟩
  · have hd : ((L.length : Int) != (M.length : Int)) = true := by simp; omega
    have H := Lib.hid (show decide (L = M) = false by
      rw [decide_eq_false_iff_not]; intro e; subst e; exact hl rfl)
    clear hl
    go_enter Try.func34, Try.ntmps34
    go_wp2
    go_ret
    exact ⟨ret_bool H.out.symm, 0, rfl⟩
theorem sameVis_self (A B : Option Addr) (n c m d : Nat) (L : List (Int × Int)) (w : World) (h : Rd w w.heap.size 2 A n c (cp L)) (h' : Rd w w.heap.size 2 B m d (cp L)) :
    Calls Try.prog 34 #[.slice A n c, .slice B m d] w fun e w' => e = .returned (.bool true) ∧ Below w.heap.size w w' :=
  (sameVis_any A B n c m d L L w h h').mono fun e w' ⟨he, nq, hw⟩ => ⟨by rw [he]; simp, by rw [hw]; exact bD (b0 _) _⟩

end Go.Proofs.Ytjpklbkeofjppaa
