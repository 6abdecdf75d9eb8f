/- Contracts: places and arrays. -/
import Derived.Test.YtjpklbkeofjppaaPointM
import Derived.Test.YtjpklbkeofjppaaVisB
import Derived.Deep.RegionWith
namespace Go.Proofs.Ytjpklbkeofjppaa
open Go.RowKit

theorem plB_inR (p : Int × Int) : Vm.plB p = (inR p.1 1000 && inR p.2 1000) := by
  rw [Bool.eq_iff_iff, Vm.plB_iff, Bool.and_eq_true, inR_iff, inR_iff]
theorem plB_in3 (p : Int × Int) : Vm.plB p = (in3 p.1 (-1000) 1000 && in3 p.2 (-1000) 1000) := by rw [plB_inR, in3_inR, in3_inR]
set_option maxHeartbeats 400000 in
theorem isPlace_any (p : Int × Int) (w : World) : Calls Try.prog 56 #[gv p] w fun e w' => e = .returned (.bool (Vm.plB p)) ∧ Below w.heap.size w w' := by
  obtain ⟨a, b⟩ := p
  unfold gv
  cases hc : inR a 1000
  · have H := Lib.hid (show Vm.plB (a, b) = false by rw [plB_inR]; simp [hc])
    go_enter Try.func56, Try.ntmps56
    go_wp2_with (go_at_call 50; refine (inRange_any _ _ _ (by omega) (by omega)).mono ?_; rintro e w' ⟨rfl, rfl⟩)
    go_ret
    exact ⟨ret_bool H.out.symm, by go_grown⟩
  · have H := Lib.hid (show Vm.plB (a, b) = inR b 1000 by rw [plB_inR]; simp [hc])
    go_enter Try.func56, Try.ntmps56
    go_wp2_with (go_at_call 50; refine (inRange_any _ _ _ (by omega) (by omega)).mono ?_; rintro e w' ⟨rfl, rfl⟩)
    go_ret
    exact ⟨ret_bool H.out.symm, by go_grown⟩
set_option maxHeartbeats 400000 in
theorem l3Place_any (p : Int × Int) (w : World) : Calls Try.prog 58 #[gv p] w fun e w' => e = .returned (.bool (Vm.plB p)) ∧ Below w.heap.size w w' := by
  obtain ⟨a, b⟩ := p
  unfold gv
  cases hc : in3 a (-1000) 1000
  · have H := Lib.hid (show Vm.plB (a, b) = false by rw [plB_in3]; simp [hc])
    go_enter Try.func58, Try.ntmps58
    go_wp2_with (go_at_call 59; refine (l6In_any _ _ _ _).mono ?_; rintro e w' ⟨rfl, rfl⟩)
    go_ret
    exact ⟨ret_bool H.out.symm, by go_grown⟩
  · have H := Lib.hid (show Vm.plB (a, b) = in3 b (-1000) 1000 by rw [plB_in3]; simp [hc])
    go_enter Try.func58, Try.ntmps58
    go_wp2_with (go_at_call 59; refine (l6In_any _ _ _ _).mono ?_; rintro e w' ⟨rfl, rfl⟩)
    go_ret
    exact ⟨ret_bool H.out.symm, by go_grown⟩
def IdxPostA (L : List (Int × Int)) (p : Int × Int) (w : World) (e : Ending) (w' : World) : Prop := ∃ r : Int, e = .returned (.int .i64 r) ∧ decide (0 ≤ r) = L.contains p ∧ Below w.heap.size w w'
theorem has_notA {L : List (Int × Int)} {x : Int × Int} {k : Nat} (h : k < L.length) (h1 : x ∉ L.take k) (h2 : x ≠ L[k]) : x ∉ L.take (k + 1) := by
  rw [List.take_succ_eq_append_getElem h, List.mem_append, List.mem_singleton, not_or]; exact ⟨h1, h2⟩
set_option maxHeartbeats 1000000 in
theorem IndexA_any (A : Option Addr) (n c : Nat) (L : List (Int × Int)) (p : Int × Int) (w : World) (h : Rd w w.heap.size 2 A n c (cp L)) : Calls Try.prog 76 #[.slice A n c, gv p] w (IdxPostA L p w) := by
  have hn := h.len
  rw [cp_length] at hn
  have hm := h.most
  have hcap := h.cap
  obtain rfl : L.length = n := by omega
  clear hn
  have heq := run_eql_Ant
  unfold gv
  go_enter Try.func76, Try.ntmps76
  go_wp2
  go_loopw [5, 8] (fun _ i wr => ∃ k : Nat, k ≤ L.length ∧ i = .int .i64 k ∧ Hid (p ∉ L.take k) ∧ Below w.heap.size w wr ∧ wr.cell? ⟨w.heap.size, 0, none⟩ = some (.int .i64 p.1) ∧ wr.cell? ⟨w.heap.size, 1, none⟩ = some (.int .i64 p.2)) (fun _ i _ => L.length - (intOf i).toNat)
  case atStart => exact ⟨0, Nat.zero_le _, rfl, by simp [Hid], bA (b0 w) _, by simp [go_sem], by simp [go_sem]⟩
  case round =>
    obtain ⟨k, hk, rfl, hall, hB, q1, q2⟩ := hrel
    by_cases hlt : k < L.length
    · obtain ⟨b, off, rfl, hb, hc1, hc2⟩ := (h.below hB).pair_at hlt
      have hi0 : (0 : Int) ≤ (k : Int) := by omega
      have hi1 : (k : Int) < (L.length : Int) := by omega
      by_cases he : p = L[k]
      · have H : ∀ w', Below w.heap.size w w' → IdxPostA L p w (.returned (.int .i64 k)) w' := fun w' hb => ⟨k, rfl, by rw [he]; simp, hb⟩
        have HH := Lib.hid H
        have hd : peq p.1 p.2 L[k].1 L[k].2 = true := peq_true (by rw [he]; exact ⟨rfl, rfl⟩)
        clear H he
        go_wp2
        go_quiet (fail)
        go_wp2
        go_ret
        exact HH.out _ (bD hB _)
      · have H := Lib.hid (has_notA hlt hall.out he)
        have hd : peq p.1 p.2 L[k].1 L[k].2 = false := peq_false (fun e => he (Prod.ext e.1 e.2))
        clear he
        go_wp2
        go_quiet (fail)
        go_wp2
        go_roundw
        case rel => exact ⟨k + 1, by omega, by go_num, H, bD hB _, q1, q2⟩
        case measure => simp [intOf]; omega
    · have H : IdxPostA L p w (.returned (.int .i64 (-1))) wr := ⟨-1, rfl, by
        have h1 := hall.out
        rw [List.take_of_length_le (by omega)] at h1
        simp [h1], hB⟩
      go_wp2
      go_ret
      exact H
set_option maxHeartbeats 400000 in
theorem ContainsA_any (A : Option Addr) (n c : Nat) (L : List (Int × Int)) (p : Int × Int) (w : World) (h : Rd w w.heap.size 2 A n c (cp L)) : Calls Try.prog 63 #[.slice A n c, gv p] w fun e w' => e = .returned (.bool (L.contains p)) ∧ Below w.heap.size w w' := by
  unfold gv
  go_enter Try.func63, Try.ntmps63
  go_wp2_with fail
  refine (IndexA_any _ _ _ L p _ (h.after (bA (b0 w) _))).mono ?_
  rintro e w' ⟨r, rfl, hr, hB⟩
  have H := Lib.hid hr
  clear hr
  go_wp2
  go_ret
  exact ⟨ret_bool H.out, bT (bA (b0 w) _) hB⟩
theorem all_rs (f : Nat → Bool) (k : Nat) : (List.range (k + 1)).all f = ((List.range k).all f && f k) := by
  rw [List.range_succ, List.all_append]; simp
def arrK (L : List (Int × Int)) (k : Nat) : Bool := Vm.plB (L.getD k (0, 0)) && !(L.take k).contains (L.getD k (0, 0))
theorem arrB_K (L : List (Int × Int)) : Vm.arrB L = (decide (2 ≤ L.length) && decide (L.length ≤ 7) && (List.range L.length).all (arrK L)) := rfl
theorem arr_no {L : List (Int × Int)} {k : Nat} (h : k < L.length) (hk : arrK L k = false) : Vm.arrB L = false := by
  have : (List.range L.length).all (arrK L) = false := by rw [List.all_eq_false]; exact ⟨k, by simpa using h, by simp [hk]⟩
  rw [arrB_K, this, Bool.and_false]
theorem arrK_at {L : List (Int × Int)} {k : Nat} (h : k < L.length) : arrK L k = (Vm.plB L[k] && !(L.take k).contains L[k]) := by simp [arrK, h]
theorem cp_take (L : List (Int × Int)) (k : Nat) : (cp L).take (k * 2) = cp (L.take k) := by
  induction L generalizing k with
  | nil => simp [cp]
  | cons p l ih =>
    cases k with
    | zero => simp [cp]
    | succ k =>
      have : (k + 1) * 2 = k * 2 + 1 + 1 := by omega
      rw [this]
      simp only [List.take_succ_cons]
      show (cp (p :: l)).take (k * 2 + 1 + 1) = cp (p :: l.take k)
      have e : cp (p :: l) = .int .i64 p.1 :: .int .i64 p.2 :: cp l := by simp [cp]
      have e2 : cp (p :: l.take k) = .int .i64 p.1 :: .int .i64 p.2 :: cp (l.take k) := by simp [cp]
      rw [e, e2, List.take_succ_cons, List.take_succ_cons, ih]

end Go.Proofs.Ytjpklbkeofjppaa
