/- VisSwap of the program and of the reference; VisGet; drawing and comparing visibilities. -/
import Derived.Test.YtcolajhjjnkpmaaSwap
import Derived.Test.YtcolajhjjnkpmaaDrawC
import Derived.Test.YtcolajhjjnkpmaaMkN
namespace Go.Proofs.Ytcolajhjjnkpmaa
open Go.RowKit


def SwapPost (n : Int) (L : List (Int × Int)) (a b : Int) (w : World) (e : Ending) (w' : World) : Prop := ∃ v, e = .returned (.tuple #[v, .bool (Vm.swapB n L a b)]) ∧ w'.ownsRow w.heap.size 30 2 v (Vm.swapL n L a b).length (cp (Vm.swapL n L a b)) ∧ Below w.heap.size w w'
theorem SwapPost.no {n : Int} {L : List (Int × Int)} {a b : Int} {w w' : World} (h : Vm.swapB n L a b = false) (hB : Below w.heap.size w w') : SwapPost n L a b w (.returned (.tuple #[.slice none 0 0, .bool false])) w' :=
  ⟨_, by rw [h], by rw [Vm.swapL_no h]; exact World.ownsRow_nil _ _ _ _, hB⟩
theorem swap_no1 {n : Int} {L : List (Int × Int)} {a b : Int} (h : Vm.visB n L = false) : Vm.swapB n L a b = false := by simp [Vm.swapB, h]
theorem swap_no2 {n : Int} {L : List (Int × Int)} {a b : Int} (h : Vm.antB n a = false) : Vm.swapB n L a b = false := by simp [Vm.swapB, h]
theorem swap_no3 {n : Int} {L : List (Int × Int)} {a b : Int} (h : Vm.antB n b = false) : Vm.swapB n L a b = false := by simp [Vm.swapB, h]
set_option maxHeartbeats 2000000 in
theorem VisSwap_any (A : Option Addr) (m c : Nat) (n : Int) (L : List (Int × Int)) (a b : Int) (w : World) (h : Rd w w.heap.size 2 A m c (cp L)) :
    Calls Try.prog 15 #[.int .i64 n, .slice A m c, .int .i64 a, .int .i64 b] w (SwapPost n L a b w) := by
  cases hs : Vm.swapB n L a b
  · have H := Lib.hid hs
    have hbb : ∀ w1, Below ((((w.alloc (.cells #[.int .i64 n] 3)).alloc (.cells #[.slice A m c] 23)).alloc (.cells #[.int .i64 a] 3)).alloc (.cells #[.int .i64 b] 3)).heap.size ((((w.alloc (.cells #[.int .i64 n] 3)).alloc (.cells #[.slice A m c] 23)).alloc (.cells #[.int .i64 a] 3)).alloc (.cells #[.int .i64 b] 3)) w1 →
        w1.cell? ⟨w.heap.size, 0, none⟩ = some (.int .i64 n) ∧ w1.cell? ⟨w.heap.size + 1 + 1, 0, none⟩ = some (.int .i64 a) ∧ w1.cell? ⟨w.heap.size + 1 + 1 + 1, 0, none⟩ = some (.int .i64 b) := fun w1 hB1 => by
      obtain ⟨q1, _⟩ := bcell hB1
      exact ⟨(q1 _ _ (by simp; omega)).trans (by simp [go_sem]), (q1 _ _ (by simp)).trans (by simp [go_sem]), (q1 _ _ (by simp)).trans (by simp [go_sem])⟩
    have HBB := Lib.hid hbb
    clear hbb
    cases hv : Vm.visB n L
    · clear hs
      go_enter Try.func15, Try.ntmps15
      go_wp2_with fail
      refine (VisValid_any _ _ _ n L _ (h.after (bA (bA (bA (bA (b0 w) _) _) _) _))).mono ?_
      rintro e w1 ⟨rfl, hB1⟩
      rw [hv]
      obtain ⟨k0, k2, k3⟩ := HBB.out w1 hB1
      go_wp2_with (go_at_call 38; refine (isAnt_any _ _ _).mono ?_; rintro e w' ⟨rfl, rfl⟩)
      go_ret2
      exact SwapPost.no H.out (bT (bA (bA (bA (bA (b0 w) _) _) _) _) hB1)
    · cases ha : Vm.antB n a
      · clear hs
        go_enter Try.func15, Try.ntmps15
        go_wp2_with fail
        refine (VisValid_any _ _ _ n L _ (h.after (bA (bA (bA (bA (b0 w) _) _) _) _))).mono ?_
        rintro e w1 ⟨rfl, hB1⟩
        rw [hv]
        obtain ⟨k0, k2, k3⟩ := HBB.out w1 hB1
        go_wp2_with (go_at_call 38; refine (isAnt_any _ _ _).mono ?_; rintro e w' ⟨rfl, rfl⟩)
        go_ret2
        exact SwapPost.no H.out (bT (bA (bA (bA (bA (b0 w) _) _) _) _) hB1)
      · have hb : Vm.antB n b = false := by simpa [Vm.swapB, hv, ha] using hs
        clear hs
        go_enter Try.func15, Try.ntmps15
        go_wp2_with fail
        refine (VisValid_any _ _ _ n L _ (h.after (bA (bA (bA (bA (b0 w) _) _) _) _))).mono ?_
        rintro e w1 ⟨rfl, hB1⟩
        rw [hv]
        obtain ⟨k0, k2, k3⟩ := HBB.out w1 hB1
        go_wp2_with (go_at_call 38; refine (isAnt_any _ _ _).mono ?_; rintro e w' ⟨rfl, rfl⟩)
        go_ret2
        exact SwapPost.no H.out (bT (bA (bA (bA (bA (b0 w) _) _) _) _) hB1)
  · obtain ⟨h1, ha, hb⟩ := (Vm.swapB_iff _ _ _ _).1 hs
    obtain ⟨N, rfl, hO⟩ := Vm.Ok.of h1
    refine (VisSwap_ok A m c N L a b w h h1 ha hb).mono ?_
    rintro e w' ⟨v, rfl, hown, hB⟩
    exact ⟨v, by rw [hs], by rw [Vm.swapL_yes hs]; exact hown, hB⟩

end Go.Proofs.Ytcolajhjjnkpmaa
