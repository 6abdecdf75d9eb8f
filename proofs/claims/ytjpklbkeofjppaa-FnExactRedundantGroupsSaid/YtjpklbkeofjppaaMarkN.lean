/- Contracts: marks that are laid and found again. -/
import Derived.Test.YtjpklbkeofjppaaExactN
import Derived.Test.YtjpklbkeofjppaaPick
namespace Go.Proofs.Ytjpklbkeofjppaa
open Go.RowKit

def marks (n : Nat) (k : Int) : List (Int × Int) := (List.range n).map fun i : Nat => (k + 2 * (i : Int), k + 2 * (i : Int) + 1)
theorem marks_len (n : Nat) (k : Int) : (marks n k).length = n := by simp [marks]
theorem marks_at (n : Nat) (k : Int) (q : Nat) (h : q < n) : (marks n k)[q]'(by rw [marks_len]; exact h) = (k + 2 * (q : Int), k + 2 * (q : Int) + 1) := by simp [marks]
def markM (M : List (Int × Int)) (n : Nat) (k : Int) (q : Nat) : Prop := M.length = n ∧ ∀ j, j < q → M[j]? = some (k + 2 * (j : Int), k + 2 * (j : Int) + 1)
theorem markM_set {M : List (Int × Int)} {n : Nat} {k : Int} {q : Nat} (h : markM M n k q) (hq : q < n) : markM (M.set q (k + 2 * q, k + 2 * q + 1)) n k (q + 1) := by
  refine ⟨by simpa using h.1, fun j hj => ?_⟩
  by_cases e : j = q
  · subst e; rw [List.getElem?_set_self (by rw [h.1]; exact hq)]
  · rw [List.getElem?_set_ne (fun e' => e e'.symm)]; exact h.2 j (by omega)
theorem markM_done {M : List (Int × Int)} {n : Nat} {k : Int} (h : markM M n k n) : M = marks n k := by
  apply List.ext_getElem?
  intro j
  by_cases hj : j < n
  · rw [h.2 j hj]; simp [marks, hj]
  · rw [List.getElem?_eq_none (by rw [h.1]; omega), List.getElem?_eq_none (by rw [marks_len]; omega)]
def marksI (n : Nat) (k : Int) : List Int := (List.range n).map fun i : Nat => k + (i : Int)
theorem marksI_len (n : Nat) (k : Int) : (marksI n k).length = n := by simp [marksI]
theorem marksI_at (n : Nat) (k : Int) (q : Nat) (h : q < n) : (marksI n k)[q]'(by rw [marksI_len]; exact h) = k + (q : Int) := by simp [marksI]
def markI (M : List Int) (n : Nat) (k : Int) (q : Nat) : Prop := M.length = n ∧ ∀ j, j < q → M[j]? = some (k + (j : Int))
theorem markI_set {M : List Int} {n : Nat} {k : Int} {q : Nat} (h : markI M n k q) (hq : q < n) : markI (M.set q (k + q)) n k (q + 1) := by
  refine ⟨by simpa using h.1, fun j hj => ?_⟩
  by_cases e : j = q
  · subst e; rw [List.getElem?_set_self (by rw [h.1]; exact hq)]
  · rw [List.getElem?_set_ne (fun e' => e e'.symm)]; exact h.2 j (by omega)
theorem markI_done {M : List Int} {n : Nat} {k : Int} (h : markI M n k n) : M = marksI n k := by
  apply List.ext_getElem?
  intro j
  by_cases hj : j < n
  · rw [h.2 j hj]; simp [marksI, hj]
  · rw [List.getElem?_eq_none (by rw [h.1]; omega), List.getElem?_eq_none (by rw [marksI_len]; omega)]
/-- What lies below a row of the call's own is kept where that row alone is written. -/
theorem Rd.past {w w' : World} {B size n c base size' n' : Nat} {A : Option Addr} {xs ys : List Value} {e : TypeId} {v : Value} (h : Rd w B size A n c xs) (hown : w.ownsRow base e size' v n' ys) (hB : B ≤ base) (hw : B ≤ w.heap.size) (hg : w.grownBy w' v.ownBlock) : Rd w' B size A n c xs :=
  h.keep fun p hp => World.cell?_of_block (hg.block p.block (by omega) (fun e => by have := (hown.lt p.block e.symm).1; omega))
theorem own_past2 {w w' : World} {base base2 size size' n n' : Nat} {xs ys : List Value} {e e' : TypeId} {v v' : Value} (h : w.ownsRow base2 e size v n xs) (_ : w.ownsRow base e' size' v' n' ys) (hlt : ∀ k, v'.ownBlock = some k → k < base2) (hg : w.grownBy w' v'.ownBlock) : w'.ownsRow base2 e size v n xs :=
  h.kept hg (by
    rcases hv2 : v.ownBlock with _ | k
    · exact .inl rfl
    · refine .inr (fun e => ?_)
      have h1 := (h.lt k hv2).1
      have h2 := hlt k e.symm
      omega)

set_option maxHeartbeats 2000000 in
theorem markIntS_any (v : Value) (base n : Nat) (L : List Int) (k : Int) (w : World) (h : w.ownsRow base 3 1 v n (ci L)) (hn : n ≤ 1048576) (k1 : 0 ≤ k) (k2 : k ≤ 1000000000) :
    Calls Try.prog 21 #[v, .int .i64 k] w fun e w' => e = .returned (.int .i64 (k + n)) ∧ w'.ownsRow base 3 1 v n (ci (marksI n k)) ∧ w.grownBy w' v.ownBlock := by
  have hL : L.length = n := by have := h.1; rw [ci_length] at this; omega
  obtain ⟨A, c, rfl⟩ := own_form h
  have hcap := (Rd.of_own h).cap
  have hmost := (Rd.of_own h).most
  have hform : 0 < n → ∃ g, A = some ⟨g, 0, none⟩ := fun hp => by
    rcases h.2 with ⟨_, h0⟩ | ⟨g, cap, cur, e, _⟩
    · omega
    · injection e with e _ _; exact ⟨g, e⟩
  have HF := Lib.hid hform
  have H0 := Lib.hid hL
  clear hform hL
  go_enter Try.func21, Try.ntmps21
  go_wp2_with fail
  go_loopw [1, 5] (fun s i wr => ∃ (q : Nat) (M : List Int), q ≤ n ∧ i = .int .i64 q ∧ s = .int .i64 (k + q) ∧ Hid (markI M n k q) ∧ wr.ownsRow base 3 1 (.slice A n c) n (ci M) ∧ w.grownBy wr (Value.slice A n c).ownBlock) (fun _ i _ => n - (intOf i).toNat)
  case atStart => exact ⟨0, L, Nat.zero_le _, rfl, by simp, ⟨H0.out, fun j hj => by omega⟩, h, World.grownBy.refl w _⟩
  case round =>
    clear h
    obtain ⟨q, M, hq, rfl, rfl, hM, hown, hg⟩ := hrel
    by_cases hlt : q < n
    · obtain ⟨g, rfl⟩ := HF.out (by omega)
      have hqM : q < M.length := by rw [hM.out.1]; exact hlt
      have c1 := (hown.cellAt q (by omega)).trans (ci_at M q hqM)
      have f1 := hown.frozenAt q
      have s1 := hown.stored q (.int .i64 (k + q))
      have hown2 := s1.1
      rw [← ci_set M q (k + q)] at hown2
      have hg2 := gTrans hg s1.2
      have HM := Lib.hid (markI_set hM.out hlt)
      clear hown hg s1
      go_wp2_with fail
      go_roundw
      case rel => exact ⟨q + 1, _, by omega, by go_num, by congr 1; omega, HM, hown2, hg2⟩
      case measure => simp [intOf]; omega
    · have hqe : q = n := by omega
      subst hqe
      have HN := Lib.hid (markI_done hM.out)
      go_wp2_with fail
      go_ret
      exact ⟨rfl, by have h2 := hown; rw [HN.out] at h2; exact h2, hg⟩
set_option maxHeartbeats 1000000 in
theorem heldIntS_any (A : Option Addr) (n c : Nat) (k : Int) (w : World) (h : Rd w w.heap.size 1 A n c (ci (marksI n k))) (hn : n ≤ 1048576) (k1 : 0 ≤ k) (k2 : k ≤ 1000000000) :
    Calls Try.prog 22 #[.slice A n c, .int .i64 k] w fun e w' => e = .returned (.int .i64 (k + n)) ∧ w = w' := by
  have hcap := h.cap
  have hmost := h.most
  go_enter Try.func22, Try.ntmps22
  go_wp2_with fail
  go_loop [1, 5] (fun s i => ∃ q : Nat, q ≤ n ∧ i = .int .i64 q ∧ s = .int .i64 (k + q)) (fun _ i => n - (intOf i).toNat)
  case atStart => exact ⟨0, Nat.zero_le _, rfl, by simp⟩
  case round =>
    obtain ⟨q, hq, rfl, rfl⟩ := hrel
    by_cases hlt : q < n
    · obtain ⟨b, off, rfl, hb, c1⟩ := h.int_at (k := q) (by rw [marksI_len]; exact hlt)
      rw [marksI_at n k q hlt] at c1
      go_wp2_with fail
      go_round
      case rel => exact ⟨q + 1, by omega, by go_num, by congr 1; omega⟩
      case measure => simp [intOf]; omega
    · have hqe : q = n := by omega
      subst hqe
      go_wp2_with fail
      go_ret
      exact ⟨rfl, rfl⟩
set_option maxHeartbeats 2000000 in
theorem markAntS_any (v : Value) (base n : Nat) (L : List (Int × Int)) (k : Int) (w : World) (h : w.ownsRow base 38 2 v n (cp L)) (hn : n ≤ 1048576) (k1 : 0 ≤ k) (k2 : k ≤ 1000000000) :
    Calls Try.prog 20 #[v, .int .i64 k] w fun e w' => e = .returned (.int .i64 (k + 2 * n)) ∧ w'.ownsRow base 38 2 v n (cp (marks n k)) ∧ w.grownBy w' v.ownBlock := by
  have hL : L.length = n := by have := h.1; rw [cp_length] at this; omega
  obtain ⟨A, c, rfl⟩ := own_form h
  have hcap := (Rd.of_own h).cap
  have hmost := (Rd.of_own h).most
  have hform : 0 < n → ∃ g, A = some ⟨g, 0, none⟩ := fun hp => by
    rcases h.2 with ⟨_, h0⟩ | ⟨g, cap, cur, e, _⟩
    · omega
    · injection e with e _ _; exact ⟨g, e⟩
  have HF := Lib.hid hform
  have H0 := Lib.hid hL
  clear hform hL
  go_enter Try.func20, Try.ntmps20
  go_wp2_with fail
  go_loopw [1, 5] (fun s i wr => ∃ (q : Nat) (M : List (Int × Int)), q ≤ n ∧ i = .int .i64 q ∧ s = .int .i64 (k + 2 * q) ∧ Hid (markM M n k q) ∧ wr.ownsRow base 38 2 (.slice A n c) n (cp M) ∧ w.grownBy wr (Value.slice A n c).ownBlock) (fun _ i _ => n - (intOf i).toNat)
  case atStart => exact ⟨0, L, Nat.zero_le _, rfl, by simp, ⟨H0.out, fun j hj => by omega⟩, h, World.grownBy.refl w _⟩
  case round =>
    clear h
    obtain ⟨q, M, hq, rfl, rfl, hM, hown, hg⟩ := hrel
    by_cases hlt : q < n
    · obtain ⟨g, rfl⟩ := HF.out (by omega)
      have hqM : q < M.length := by rw [hM.out.1]; exact hlt
      have hxm := cp_at M q hqM
      rw [Nat.mul_comm 2 q] at hxm
      have c1 := (hown.cellAt (q * 2) (by omega)).trans hxm.1
      have c2 := (hown.cellAt (q * 2 + 1) (by omega)).trans hxm.2
      have f1 := hown.frozenAt (q * 2)
      have f2 := hown.frozenAt (q * 2 + 1)
      have s1 := hown.stored (q * 2) (.int .i64 (k + 2 * q))
      have s2 := s1.1.stored (q * 2 + 1) (.int .i64 (k + 2 * q + 1))
      have hcs : (wr.setCell ⟨g, q * 2, none⟩ (.int .i64 (k + 2 * q))).cell? ⟨g, q * 2 + 1, none⟩ = some (.int .i64 M[q].2) := (World.cell?_setCell_other _ _ _ _ (by simp)).trans c2
      have hown2 := s2.1
      rw [← cp_set M q (k + 2 * q, k + 2 * q + 1)] at hown2
      have hg2 := gTrans hg (gTrans s1.2 s2.2)
      have HM := Lib.hid (markM_set hM.out hlt)
      clear hown hg s1 s2 hxm
      go_wp2_with fail
      go_roundw
      case rel => exact ⟨q + 1, _, by omega, by go_num, by congr 1; omega, HM, hown2, hg2⟩
      case measure => simp [intOf]; omega
    · have hqe : q = n := by omega
      subst hqe
      have HN := Lib.hid (markM_done hM.out)
      go_wp2_with fail
      go_ret
      exact ⟨rfl, by have h2 := hown; rw [HN.out] at h2; exact h2, hg⟩

end Go.Proofs.Ytjpklbkeofjppaa
