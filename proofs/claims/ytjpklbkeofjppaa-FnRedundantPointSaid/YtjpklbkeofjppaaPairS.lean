/- The reference's BasePair and l17Vector; the program's baseVector. -/
import Derived.Test.YtjpklbkeofjppaaPair
import Derived.Test.YtjpklbkeofjppaaVec
import Derived.Test.YtjpklbkeofjppaaVisC
namespace Go.Proofs.Ytjpklbkeofjppaa
open Go.RowKit

set_option maxHeartbeats 4000000 in
theorem sBasePair_at (N k : Nat) (w : World) (h2 : 2 ≤ N) (h7 : N ≤ 7) (hk : k < N * (N - 1) / 2) : Calls Try.prog 64 #[.int .i64 N, .int .i64 k] w (PairPost N k w) := by
  have hbm : 0 < Vm.bmany (N : Int) := by
    rw [Vm.bmany_nat N ((Vm.manyB_iff _).2 (by omega))]
    omega
  obtain ⟨bm, hbe⟩ : ∃ bm, Vm.bmany (N : Int) = bm := ⟨_, rfl⟩
  have HK := Lib.hid hk
  have HBM := Lib.hid hbe
  rw [hbe] at hbm
  clear hk hbe
  have hk21 : k < 22 := by have := Vm.many_le N (by omega); have := HK.out; omega
  go_enter Try.func64, Try.ntmps64
  go_wp2_with fail
  go_loopw [7] (fun i wr => ∃ q : Nat, q ≤ N ∧ i = .int .i64 q ∧ Hid (Vm.bt N q (q + 1) ≤ k) ∧ Below w.heap.size w wr) (fun i _ => N - (intOf i).toNat)
  case atStart => exact ⟨0, Nat.zero_le _, rfl, by rw [(Vm.bt_zero_all N (by omega)).1]; exact Nat.zero_le _, b0 w⟩
  case round =>
    obtain ⟨q, hq, rfl, hle, hB⟩ := hrel
    by_cases hlt : q < N
    · go_wp2_with (go_at_call 40; refine (sBaseMany_any _ _).mono ?_; rintro e w' ⟨rfl, rfl⟩; rw [HBM.out])
      go_loopw [8] (fun i wr => ∃ r : Nat, q < r ∧ r ≤ N ∧ i = .int .i64 r ∧ Hid (Vm.bt N q r ≤ k) ∧ Below w.heap.size w wr) (fun i _ => N - (intOf i).toNat)
      case atStart => exact ⟨q + 1, by omega, by omega, by go_num, hle, hB⟩
      case round =>
        clear hle hB
        obtain ⟨r, hqr, hr, rfl, hle, hB⟩ := hrel
        by_cases hrl : r < N
        · have HX := Lib.hid (bix_bt h2 h7 hqr hrl)
          obtain ⟨t, ht⟩ : ∃ t, Vm.bt N q r = t := ⟨_, rfl⟩
          have HT := Lib.hid ht
          by_cases he : t = k
          · have HP : Hid (∀ w', Below w.heap.size w w' → PairPost N k w (.returned (.tuple #[.int .i64 q, .int .i64 r, .bool true])) w') := fun w' hb => ⟨q, r, by rw [← he, ← HT.out]; exact (Vm.bt_all N (by omega) q (by omega) r hrl hqr).2.2.2.1, rfl, hb⟩
            clear ht hle
            subst he
            go_wp2_with (go_at_call 77; refine (sBaseIndex_any _ _ _ _).mono ?_; rintro e w' ⟨rfl, rfl⟩; rw [HX.out, HT.out])
            refine bodyPost_ret (by simp [results, Try.results64, go_sem]) rfl (HP.out _ hB)
          · have hne : ¬ (t : Int) = (k : Int) := by omega
            have hle2 : Hid (Vm.bt N q (r + 1) ≤ k) := by
              have e1 := (Vm.bt_all N (by omega) q (by omega) r hrl hqr).2.2.2.2
              have e2 := hle.out
              show Vm.bt N q (r + 1) ≤ k
              rw [ht] at e1 e2
              omega
            clear ht hle he
            go_wp2_with (go_at_call 77; refine (sBaseIndex_any _ _ _ _).mono ?_; rintro e w' ⟨rfl, rfl⟩; rw [HX.out, HT.out])
            go_roundw
            case rel => exact ⟨r + 1, by omega, by omega, by go_num, hle2, hB⟩
            case measure => simp [intOf]; omega
        · have hre : r = N := by omega
          subst hre
          have HB := Lib.hid (Vm.bt_row_all r (by omega) q hlt)
          have hle2 : Hid (Vm.bt r (q + 1) (q + 2) ≤ k) := by
            show Vm.bt r (q + 1) (q + 2) ≤ k
            rw [← HB.out]; exact hle.out
          clear hle
          go_wp2_with fail
          go_roundw
          case rel => exact ⟨q + 1, by omega, by go_num, hle2, hB⟩
          case measure => simp [intOf]; omega
    · have hqe : q = N := by omega
      subst hqe
      have e1 := (Vm.bt_zero_all q (by omega)).2.2
      have e2 := hle.out
      have e3 := HK.out
      omega
set_option maxHeartbeats 2000000 in
theorem l17Vector_ok (A : Option Addr) (n c : Nat) (L : List (Int × Int)) (k : Nat) (w : World) (h : Rd w w.heap.size 2 A n c (cp L)) (ha : Vm.arrB L = true) (hk : k < (Vm.vecs L).length) :
    Calls Try.prog 42 #[.slice A n c, .int .i64 k] w fun e w' => e = .returned (gv ((Vm.vecs L).getD k (0, 0))) ∧ Below w.heap.size w w' := by
  have hn := h.len
  rw [cp_length] at hn
  have hm := h.most
  have hcap := h.cap
  obtain rfl : L.length = n := by omega
  clear hn
  have hl7 := ((Vm.arrB_iff L).1 ha).1
  rw [Vm.vecs_len hl7.2] at hk
  have HA := Lib.hid ha
  have HK := Lib.hid hk
  clear ha hk
  go_enter Try.func42, Try.ntmps42
  go_wp2_with fail
  refine (sBasePair_at L.length k _ hl7.1 hl7.2 HK.out).mono ?_
  rintro e w1 ⟨i, j, hij, rfl, hB1⟩
  have hBw := bT (bA (b0 w) (.cells #[.int .i64 0, .int .i64 0] 38)) hB1
  obtain ⟨m1, m2⟩ := bases_mem2 (List.mem_of_getElem? hij)
  have HV := Lib.hid (show (Vm.vecs L).getD k (0, 0) = Vm.vec L (i, j) by rw [List.getD_eq_getElem?_getD, Vm.vecs_get hij]; rfl)
  clear hij
  go_wp2_with fail
  refine (sBaseVector_ok _ _ _ L i j _ (h.after hBw) HA.out (by omega) m2).mono ?_
  rintro e w2 ⟨rfl, hB2⟩
  have hB12 := bT hB1 hB2
  clear hB1 hB2 hBw
  obtain ⟨k0, k1, k2⟩ := box2 hB12
  obtain ⟨f0, f1⟩ := box2f hB12
  have hBw := bT (bA (b0 w) (.cells #[.int .i64 0, .int .i64 0] 38)) hB12
  obtain ⟨va, vb, hvv⟩ : ∃ va vb, Vm.vec L (i, j) = (va, vb) := ⟨_, _, rfl⟩
  rw [hvv] at HV ⊢
  unfold gv
  obtain ⟨t1, t2, t3⟩ := st2 k0 k1 (.int .i64 va) (.int .i64 vb)
  have u2 := ((bcell (bA (b0 ((w2.setCell ⟨w.heap.size, 0, none⟩ (.int .i64 va)).setCell ⟨w.heap.size, 1, none⟩ (.int .i64 vb))) (.cells #[.int .i64 va, .int .i64 vb] 38))).1 w.heap.size 1 (by simpa using k2)).trans t2
  have u3 := ((bcell (bA (b0 ((w2.setCell ⟨w.heap.size, 0, none⟩ (.int .i64 va)).setCell ⟨w.heap.size, 1, none⟩ (.int .i64 vb))) (.cells #[.int .i64 va, .int .i64 vb] 38))).1 w.heap.size 0 (by simpa using k2)).trans t3
  have hBw2 := bA (bS (bS hBw (p := ⟨w.heap.size, 0, none⟩) (Nat.le_refl _) (.int .i64 va)) (p := ⟨w.heap.size, 1, none⟩) (Nat.le_refl _) (.int .i64 vb)) (.cells #[.int .i64 va, .int .i64 vb] 38)
  clear hB12
  go_wp2_with fail
  refine bodyPost_ret (v := .agg #[.int .i64 va, .int .i64 vb]) (by simp [results, Try.results42, go_sem, u2, u3]) rfl ⟨by rw [HV.out]; rfl, hBw2⟩
end Go.Proofs.Ytjpklbkeofjppaa
