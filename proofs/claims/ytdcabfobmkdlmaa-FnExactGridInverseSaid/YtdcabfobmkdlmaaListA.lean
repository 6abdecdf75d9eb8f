/- Contracts of the functions that only read lists. -/
import Derived.Test.YtdcabfobmkdlmaaGauss
namespace Go.Proofs.Ytdcabfobmkdlmaa
open Go.RowKit

theorem all_take_succ {α : Type} (p : α → Bool) (L : List α) (k : Nat) (h : k < L.length) : (L.take (k + 1)).all p = ((L.take k).all p && p L[k]) := by
  rw [List.take_succ_eq_append_getElem h, List.all_append]; simp
theorem all_false_of {α : Type} (p : α → Bool) (L : List α) (k : Nat) (h : k < L.length) (hp : p L[k] = false) : L.all p = false := by
  rw [List.all_eq_false]; exact ⟨L[k], List.getElem_mem h, by simp [hp]⟩

theorem drewN2 (w : World) (a b : Nat) : ∃ n, (w.drewN a).drewN b = w.drewN n := ⟨_, World.drewN_drewN _ _ _⟩
theorem below_drewN {B : Nat} {a w : World} (h : Below B a w) (n : Nat) : Below B a (w.drewN n) := ⟨h.os, h.tape, h.output, h.size, h.block⟩

set_option maxHeartbeats 400000 in
theorem allInRange_any (A : Option Addr) (n c : Nat) (L : List Int) (l : Int) (w : World) (h : Rd w w.heap.size 1 A n c (ci L)) (h0 : 0 ≤ l) (h1 : l ≤ 4000000000) :
    Calls Try.prog 57 #[.slice A n c, .int .i64 l] w fun e w' => e = .returned (.bool (L.all (inR · l))) ∧ w = w' := by
  have hn := h.len
  rw [ci_length, Nat.mul_one] at hn
  have hm := h.most
  have hcap := h.cap
  subst hn
  go_enter Try.func57, Try.ntmps57
  go_wp2
  go_loop [9] (fun i => ∃ k : Nat, k ≤ L.length ∧ i = .int .i64 k ∧ Hid ((L.take k).all (inR · l) = true)) (fun i => L.length - (intOf i).toNat)
  case atStart => exact ⟨0, Nat.zero_le _, rfl, by simp [Hid]⟩
  case round =>
    obtain ⟨k, hk, rfl, hall⟩ := hrel
    by_cases hlt : k < L.length
    · obtain ⟨b, off, rfl, hb, hc⟩ := h.int_at hlt
      cases hin : inR L[k] l
      · have H := Lib.hid (all_false_of (inR · l) L k hlt hin)
        go_wp2_with (go_at_call 62; refine (inRange_any _ _ _ (by omega) (by omega)).mono ?_; rintro e w' ⟨rfl, rfl⟩)
        go_ret
        exact ⟨ret_bool H.out.symm, rfl⟩
      · have H := Lib.hid ((all_take_succ (inR · l) L k hlt).trans (by rw [hall.out, hin]))
        go_wp2_with (go_at_call 62; refine (inRange_any _ _ _ (by omega) (by omega)).mono ?_; rintro e w' ⟨rfl, rfl⟩)
        go_round
        case rel => exact ⟨k + 1, by omega, by go_num, H⟩
        case measure => simp [intOf]; omega
    · have H := Lib.hid (show L.all (inR · l) = true by rw [← List.take_of_length_le (Nat.le_of_not_lt hlt)]; exact hall.out)
      go_wp2
      go_ret
      exact ⟨ret_bool H.out.symm, rfl⟩

set_option maxHeartbeats 400000 in
theorem allGauss_any (A : Option Addr) (n c : Nat) (L : List (Int × Int)) (w : World) (h : Rd w w.heap.size 2 A n c (cp L)) :
    Calls Try.prog 50 #[.slice A n c] w fun e w' => e = .returned (.bool (L.all gaussB)) ∧ Below w.heap.size w w' := by
  have hn := h.len
  rw [cp_length] at hn
  have hm := h.most
  have hcap := h.cap
  obtain rfl : L.length = n := by omega
  clear hn
  go_enter Try.func50, Try.ntmps50
  go_wp2
  go_loopw [7] (fun i wr => ∃ k : Nat, k ≤ L.length ∧ i = .int .i64 k ∧ Hid ((L.take k).all gaussB = true) ∧ Below w.heap.size w wr) (fun i _ => L.length - (intOf i).toNat)
  case atStart => exact ⟨0, Nat.zero_le _, rfl, by simp [Hid], Below.refl _ _⟩
  case round =>
    obtain ⟨k, hk, rfl, hall, hB⟩ := hrel
    by_cases hlt : k < L.length
    · obtain ⟨b, off, rfl, hb, hc1, hc2⟩ := (h.below hB).pair_at hlt
      have hz := hB.size
      cases hin : gaussB L[k]
      · have H := Lib.hid (all_false_of gaussB L k hlt hin)
        go_wp2_with (go_at_call 44; refine (GaussValid_any L[k] _).mono ?_; rintro e w' ⟨rfl, hb1⟩)
        go_ret
        exact ⟨ret_bool H.out.symm, bT (bA hB _) hb1⟩
      · have H := Lib.hid ((all_take_succ gaussB L k hlt).trans (by rw [hall.out, hin]))
        go_wp2_with (go_at_call 44; refine (GaussValid_any L[k] _).mono ?_; rintro e w' ⟨rfl, hb1⟩)
        go_roundw
        case rel => exact ⟨k + 1, by omega, by go_num, H, bT (bA hB _) hb1⟩
        case measure => simp [intOf]; omega
    · have H := Lib.hid (show L.all gaussB = true by rw [← List.take_of_length_le (Nat.le_of_not_lt hlt)]; exact hall.out)
      go_wp2
      go_ret
      exact ⟨ret_bool H.out.symm, hB⟩

def sameRel (L M : List Int) (w : World) (i : Value) (wr : World) : Prop := ∃ k : Nat, k ≤ L.length ∧ i = .int .i64 k ∧ L.take k = M.take k ∧ ∃ nq, wr = w.drewN nq
set_option maxHeartbeats 400000 in
theorem sameInts_any (A B : Option Addr) (n c m d : Nat) (L M : List Int) (w : World) (h : Rd w w.heap.size 1 A n c (ci L)) (h' : Rd w w.heap.size 1 B m d (ci M)) :
    Calls Try.prog 20 #[.slice A n c, .slice B m d] w fun e w' => e = .returned (.bool (decide (L = M))) ∧ ∃ nq, w' = w.drewN nq := by
  have hn := h.len
  rw [ci_length, Nat.mul_one] at hn
  have hn' := h'.len
  rw [ci_length, Nat.mul_one] at hn'
  have hm := h.most
  have hcap := h.cap
  have hm' := h'.most
  have hcap' := h'.cap
  subst hn hn'
  by_cases hl : L.length = M.length
  · have hL := Lib.hid hl
    have hd : ((L.length : Int) != (M.length : Int)) = false := by simp [hl]
    have hle : L.length ≤ M.length := by omega
    clear hl
    go_enter Try.func20, Try.ntmps20
    go_wp2
    go_loopw [5] (fun i wr => sameRel L M w i wr) (fun i _ => L.length - (intOf i).toNat)
    case atStart => exact ⟨0, Nat.zero_le _, rfl, by simp, 0, rfl⟩
    case round =>
      obtain ⟨k, hk, rfl, hall, nq, rfl⟩ := hrel
      have HA := Lib.hid hall
      clear hall
      by_cases hlt : k < L.length
      · have hlt' : k < M.length := by omega
        obtain ⟨b, off, rfl, hb, hc⟩ := h.int_at hlt
        obtain ⟨b', off', rfl, hb', hc'⟩ := h'.int_at hlt'
        by_cases he : L[k] = M[k]
        · have ht : (L[k] != M[k]) = false := by simp [he]
          have H : Hid (L.take (k + 1) = M.take (k + 1)) := by
            show _ = _
            rw [List.take_succ_eq_append_getElem hlt, List.take_succ_eq_append_getElem hlt', HA.out, he]
          clear he
          go_wp2
          go_quiet (fail)
          go_wp2
          go_roundw
          case rel => exact ⟨k + 1, by omega, by go_num, H.out, _, rfl⟩
          case measure => simp [intOf]; omega
        · have ht : (L[k] != M[k]) = true := by simp [he]
          have H := Lib.hid (show decide (L = M) = false by
            rw [decide_eq_false_iff_not]; intro e; subst e; exact he rfl)
          clear he
          go_wp2
          go_quiet (fail)
          go_wp2
          go_ret
          exact ⟨ret_bool H.out.symm, drewN2 _ _ _⟩
      · have H := Lib.hid (show decide (L = M) = true by
          have h1 := HA.out
          rw [List.take_of_length_le (by omega), List.take_of_length_le (by rw [← hL.out]; omega)] at h1
          simpa using h1)
        go_wp2
        go_ret
        exact ⟨ret_bool H.out.symm, nq, rfl⟩
  · have hd : ((L.length : Int) != (M.length : Int)) = true := by simp; omega
    have H := Lib.hid (show decide (L = M) = false by
      rw [decide_eq_false_iff_not]; intro e; subst e; exact hl rfl)
    clear hl
    go_enter Try.func20, Try.ntmps20
    go_wp2
    go_ret
    exact ⟨ret_bool H.out.symm, 0, rfl⟩

def samePRel (L M : List (Int × Int)) (w : World) (i : Value) (wr : World) : Prop := ∃ k : Nat, k ≤ L.length ∧ i = .int .i64 k ∧ L.take k = M.take k ∧ ∃ nq, wr = w.drewN nq
set_option maxHeartbeats 400000 in
theorem sameGrid_any (A B : Option Addr) (n c m d : Nat) (L M : List (Int × Int)) (w : World) (h : Rd w w.heap.size 2 A n c (cp L)) (h' : Rd w w.heap.size 2 B m d (cp M)) :
    Calls Try.prog 13 #[.slice A n c, .slice B m d] w fun e w' => e = .returned (.bool (decide (L = M))) ∧ ∃ nq, w' = w.drewN nq := by
  have hn := h.len
  rw [cp_length] at hn
  have hn' := h'.len
  rw [cp_length] at hn'
  have hm := h.most
  have hcap := h.cap
  have hm' := h'.most
  have hcap' := h'.cap
  obtain rfl : L.length = n := by omega
  obtain rfl : M.length = m := by omega
  clear hn hn'
  by_cases hl : L.length = M.length
  · have hL := Lib.hid hl
    have hd : ((L.length : Int) != (M.length : Int)) = false := by simp [hl]
    have hle : L.length ≤ M.length := by omega
    clear hl
    have hne := run_neq_Gauss
    go_enter Try.func13, Try.ntmps13
    go_wp2
    go_loopw [5] (fun i wr => samePRel L M w i wr) (fun i _ => L.length - (intOf i).toNat)
    case atStart => exact ⟨0, Nat.zero_le _, rfl, by simp, 0, rfl⟩
    case round =>
      obtain ⟨k, hk, rfl, hall, nq, rfl⟩ := hrel
      have HA := Lib.hid hall
      clear hall
      by_cases hlt : k < L.length
      · have hlt' : k < M.length := by omega
        obtain ⟨b, off, rfl, hb, hc, hcy⟩ := h.pair_at hlt
        obtain ⟨b', off', rfl, hb', hc', hcy'⟩ := h'.pair_at hlt'
        by_cases he : L[k] = M[k]
        · have ht : peq L[k].1 L[k].2 M[k].1 M[k].2 = true := peq_true (by simp [he])
          have H : Hid (L.take (k + 1) = M.take (k + 1)) := by
            show _ = _
            rw [List.take_succ_eq_append_getElem hlt, List.take_succ_eq_append_getElem hlt', HA.out, he]
          clear he
          go_wp2
          go_quiet (fail)
          go_wp2
          go_roundw
          case rel => exact ⟨k + 1, by omega, by go_num, H.out, _, rfl⟩
          case measure => simp [intOf]; omega
        · have ht : peq L[k].1 L[k].2 M[k].1 M[k].2 = false := peq_false (fun e => he (Prod.ext e.1 e.2))
          have H := Lib.hid (show decide (L = M) = false by
            rw [decide_eq_false_iff_not]; intro e; subst e; exact he rfl)
          clear he
          go_wp2
          go_quiet (fail)
          go_wp2
          go_ret
          exact ⟨ret_bool H.out.symm, drewN2 _ _ _⟩
      · have H := Lib.hid (show decide (L = M) = true by
          have h1 := HA.out
          rw [List.take_of_length_le (by omega), List.take_of_length_le (by rw [← hL.out]; omega)] at h1
          simpa using h1)
        go_wp2
        go_ret
        exact ⟨ret_bool H.out.symm, nq, rfl⟩
  · have hd : ((L.length : Int) != (M.length : Int)) = true := by simp; omega
    have H := Lib.hid (show decide (L = M) = false by
      rw [decide_eq_false_iff_not]; intro e; subst e; exact hl rfl)
    clear hl
    go_enter Try.func13, Try.ntmps13
    go_wp2
    go_ret
    exact ⟨ret_bool H.out.symm, 0, rfl⟩

end Go.Proofs.Ytdcabfobmkdlmaa
