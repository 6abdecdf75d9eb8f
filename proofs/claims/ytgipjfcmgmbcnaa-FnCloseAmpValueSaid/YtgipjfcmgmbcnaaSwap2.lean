/- VisSwap of the program and of the reference; VisGet; drawing and comparing visibilities. -/
import Derived.Test.YtgipjfcmgmbcnaaSwap
import Derived.Test.YtgipjfcmgmbcnaaDrawC
import Derived.Test.YtgipjfcmgmbcnaaMkN
namespace Go.Proofs.Ytgipjfcmgmbcnaa
open Go.RowKit

def getB (n : Int) (L : List (Int × Int)) (i j : Int) : Bool := Vm.visB n L && Vm.antB n i && Vm.antB n j && !(i == j)
set_option maxHeartbeats 1000000 in
theorem VisGet_ok (A : Option Addr) (m c : Nat) (n i j : Int) (L : List (Int × Int)) (w : World) (h : Rd w w.heap.size 2 A m c (cp L)) (hv : Vm.visB n L = true) (hi : 0 ≤ i ∧ i < n) (hj : 0 ≤ j ∧ j < n) (hne : i ≠ j) :
    Calls Try.prog 42 #[.int .i64 n, .slice A m c, .int .i64 i, .int .i64 j] w fun e w' => e = .returned (.tuple #[gv (Vm.vget n L i j), .bool true]) ∧ Below w.heap.size w w' := by
  have HV := Lib.hid hv
  have h1 : Vm.antB n i = true := (Vm.antB_iff _ _).2 hi
  have h2 : Vm.antB n j = true := (Vm.antB_iff _ _).2 hj
  have h3 : (i == j) = false := by simp [hne]
  clear hv
  go_enter Try.func42, Try.ntmps42
  go_wp2_with fail
  refine (VisValid_any _ _ _ n L _ (h.after (bA (b0 w) _))).mono ?_
  rintro e w1 ⟨rfl, hB1⟩
  rw [HV.out]
  go_wp2_with (go_at_call 64; refine (isAnt_any _ _ _).mono ?_; rintro e w' ⟨rfl, rfl⟩)
  refine (visGet_any _ _ _ n i j L _ ((h.after (bA (b0 w) _)).after hB1) HV.out hi hj hne).mono ?_
  rintro e w2 ⟨rfl, hB2⟩
  have hBB := bT hB1 hB2
  obtain ⟨q1, q2⟩ := bcell hBB
  have c0 : w2.cell? ⟨w.heap.size, 0, none⟩ = some (.int .i64 0) := (q1 _ _ (by simp)).trans (by simp [go_sem])
  have c1 : w2.cell? ⟨w.heap.size, 1, none⟩ = some (.int .i64 0) := (q1 _ _ (by simp)).trans (by simp [go_sem])
  obtain ⟨v, hvv⟩ : ∃ v, Vm.vget n L i j = v := ⟨_, rfl⟩
  rw [hvv]
  have HVV := Lib.hid hvv
  clear hvv
  obtain ⟨_, s1, s2⟩ := st2 c0 c1 (.int .i64 v.1) (.int .i64 v.2)
  unfold gv
  go_wp2_with fail
  refine bodyPost_ret (v := .tuple #[.agg #[.int .i64 v.1, .int .i64 v.2], .bool true]) (by simp [results, Try.results42, go_sem, s1, s2]) rfl ⟨by rw [HVV.out]; rfl, ?_⟩
  exact bS (p := ⟨w.heap.size, 1, none⟩) (bS (p := ⟨w.heap.size, 0, none⟩) (bT (bA (b0 w) _) hBB) (Nat.le_refl _) _) (Nat.le_refl _) _


end Go.Proofs.Ytgipjfcmgmbcnaa
