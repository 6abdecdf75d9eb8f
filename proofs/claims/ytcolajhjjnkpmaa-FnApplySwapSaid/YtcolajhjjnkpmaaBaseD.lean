/- Contracts: CloseBase of the program and of the reference. -/
import Derived.Test.YtcolajhjjnkpmaaCloseB
import Derived.Test.YtcolajhjjnkpmaaVisC
import Derived.Test.YtcolajhjjnkpmaaDrawC
namespace Go.Proofs.Ytcolajhjjnkpmaa
open Go.RowKit

def cbOK (n : Int) (L : List (Int × Int)) : Bool := Vm.visB n L && decide (3 ≤ n)
def cbO (n : Int) (L : List (Int × Int)) : List Int := if cbOK n L then Vm.cbL n.toNat L else []
theorem cbOK_iff (n : Int) (L : List (Int × Int)) : cbOK n L = true ↔ Vm.visB n L = true ∧ 3 ≤ n := by simp [cbOK]
theorem cbO_yes {N : Nat} {L : List (Int × Int)} (h : cbOK N L = true) : cbO N L = Vm.cbL N L := by rw [cbO, if_pos h, Int.toNat_natCast]
theorem cbO_no {n : Int} {L : List (Int × Int)} (h : cbOK n L = false) : cbO n L = [] := by rw [cbO, h]; rfl
def CBPost (n : Int) (L : List (Int × Int)) (w : World) (e : Ending) (w' : World) : Prop := ∃ v, e = .returned (.tuple #[v, .bool (cbOK n L)]) ∧ w'.ownsRow w.heap.size 3 1 v (cbO n L).length (ci (cbO n L)) ∧ Below w.heap.size w w'
theorem CBPost.no {n : Int} {L : List (Int × Int)} {w w' : World} (h : cbOK n L = false) (hB : Below w.heap.size w w') : CBPost n L w (.returned (.tuple #[.slice none 0 0, .bool false])) w' :=
  ⟨_, by rw [h], by rw [cbO_no h]; exact World.ownsRow_nil _ _ _ _, hB⟩
set_option maxHeartbeats 2000000 in
theorem CloseBase_any (A : Option Addr) (m c : Nat) (n : Int) (L : List (Int × Int)) (w : World) (h : Rd w w.heap.size 2 A m c (cp L)) :
    Calls Try.prog 16 #[.int .i64 n, .slice A m c] w (CBPost n L w) := by
  cases hk : cbOK n L
  · have H := Lib.hid hk
    have hbb : ∀ w1, Below ((w.alloc (.cells #[.int .i64 n] 3)).alloc (.cells #[.slice A m c] 23)).heap.size ((w.alloc (.cells #[.int .i64 n] 3)).alloc (.cells #[.slice A m c] 23)) w1 →
        w1.cell? ⟨w.heap.size, 0, none⟩ = some (.int .i64 n) := fun w1 hB1 => by
      obtain ⟨q1, _⟩ := bcell hB1
      exact (q1 _ _ (by simp; omega)).trans (by simp [go_sem])
    have HBB := Lib.hid hbb
    clear hbb
    cases hv : Vm.visB n L
    · clear hk
      go_enter Try.func16, Try.ntmps16
      go_wp2_with fail
      refine (VisValid_any _ _ _ n L _ (h.after (bA (bA (b0 w) _) _))).mono ?_
      rintro e w1 ⟨rfl, hB1⟩
      rw [hv]
      have k0 := HBB.out w1 hB1
      go_wp2_with fail
      go_ret2
      exact CBPost.no H.out (bT (bA (bA (b0 w) _) _) hB1)
    · have h3 : n < 3 := by
        apply Classical.byContradiction
        intro hc
        rw [(cbOK_iff n L).2 ⟨hv, by omega⟩] at hk
        cases hk
      have h2 := ((Vm.manyB_iff _).1 ((Vm.visB_iff _ _).1 hv).1).1
      clear hk
      go_enter Try.func16, Try.ntmps16
      go_wp2_with fail
      refine (VisValid_any _ _ _ n L _ (h.after (bA (bA (b0 w) _) _))).mono ?_
      rintro e w1 ⟨rfl, hB1⟩
      rw [hv]
      have k0 := HBB.out w1 hB1
      go_wp2_with fail
      go_ret2
      exact CBPost.no H.out (bT (bA (bA (b0 w) _) _) hB1)
  · obtain ⟨h1, h3⟩ := (cbOK_iff _ _).1 hk
    obtain ⟨N, rfl, hO⟩ := Vm.Ok.of h1
    refine (CloseBase_ok A m c N L w h h1 (by omega)).mono ?_
    rintro e w' ⟨v, rfl, hown, hB⟩
    exact ⟨v, by rw [hk], by rw [cbO_yes hk]; exact hown, hB⟩
def chk9 : Bool := (List.range 8).all fun n => decide (n < 3) || decide (((Vm.basesL n).take (Vm.bt n 1 2)).filter (fun p => decide (0 < p.1)) = [])
theorem chk9_ok : chk9 = true := by decide +kernel
theorem cbG_start {N : Nat} (h3 : 3 ≤ N) (h7 : N ≤ 7) (L : List (Int × Int)) : cbG N L ((Vm.basesL N).take (Vm.bt N 1 2)) = [] := by
  have h := chk9_ok
  simp only [chk9, List.all_eq_true, List.mem_range] at h
  have h2 := h N (by omega)
  simp only [show ¬ N < 3 by omega, decide_false, Bool.false_or, decide_eq_true_eq] at h2
  rw [cbG, h2]; rfl
theorem cbG_step {N q r : Nat} (h7 : N ≤ 7) (h0 : 0 < q) (hqr : q < r) (hr : r < N) (L : List (Int × Int)) : cbG N L ((Vm.basesL N).take (Vm.bt N q (r + 1))) = cbG N L ((Vm.basesL N).take (Vm.bt N q r)) ++ [Vm.loopP N L [0, (q : Int), (r : Int)]] := by
  rw [← (take_prefix h7 hqr hr).2, cbG_next h0]
theorem cbG_end {N : Nat} (h3 : 3 ≤ N) (h7 : N ≤ 7) (L : List (Int × Int)) : cbG N L ((Vm.basesL N).take (Vm.bt N N (N + 1))) = Vm.cbL N L := by
  obtain ⟨_, e1, e2⟩ := Vm.bt_zero_all N (by omega)
  rw [e2, ← e1, List.take_length, cbG_all h3 h7]
theorem cbG_len2 {N : Nat} (h7 : N ≤ 7) (L : List (Int × Int)) (k : Nat) : (cbG N L ((Vm.basesL N).take k)).length ≤ 21 := by
  have h1 := cbG_len N L ((Vm.basesL N).take k)
  rw [List.length_take, (Vm.bt_zero_all N (by omega)).2.1] at h1
  have := Vm.many_le N (by omega)
  omega

end Go.Proofs.Ytcolajhjjnkpmaa
