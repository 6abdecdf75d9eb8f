/- The law FnRedundantPoint. Written by lawsB6.py. -/
import Derived.Test.YtjpklbkeofjppaaDrawR
import Derived.Test.YtjpklbkeofjppaaFitA
import Derived.Test.YtjpklbkeofjppaaLawC2
namespace Go.Proofs.Ytjpklbkeofjppaa
open Go.RowKit

set_option maxRecDepth 100000 in
set_option maxHeartbeats 8000000 in
theorem law_redundantPoint (A : Option Addr) (n c : Nat) (bs : List Int) (w : World) (h : Rd w w.heap.size 1 A n c (cb bs)) (hx : ∀ x ∈ bs, 0 ≤ x ∧ x ≤ 255) :
    Calls Try.prog 11 #[.slice A n c] w fun e w' => e = .returned (.bool true) ∧ Below w.heap.size w w' := by
  have hm := h.most
  have hcap := h.cap
  have HX := Lib.hid hx
  clear hx
  by_cases hz0 : 1048576 < n
  · have hd0 : decide ((1048576 : Int) < (n : Int)) = true := by simp; omega
    clear hz0
    go_enter Try.func11, Try.ntmps11
    go_wp2
    go_ret
    exact ⟨rfl, b0 _⟩
  have hd0 : decide ((1048576 : Int) < (n : Int)) = false := by simp; omega
  go_enter Try.func11, Try.ntmps11
  go_wp2_with fail
  refine (DrawVisPoint_any _ _ _ bs _ h HX.out (by omega)).mono ?_
  rintro e w1 ⟨A1, m1, c1, L, ⟨da, db⟩, amp, rfl, hr, hB⟩
  have mL : m1 = L.length := by have := hr.len; rw [cp_length] at this; omega
  subst mL
  have hrcap := hr.cap
  have hrmost := hr.most
  unfold gv
  have hdx : Bx (w1.alloc (.cells #[.int .i64 da, .int .i64 db] 38)) w1.heap.size #[.int .i64 da, .int .i64 db] 38 := Bx.new w1 _ _ _ rfl
  have hbA := bA (b0 w1) (.cells #[.int .i64 da, .int .i64 db] 38)
  replace hr := hr.after hbA
  replace hB := bT hB hbA
  clear hbA
  have q0 := hdx.cell 0
  have q1 := hdx.cell 1
  simp only [List.getElem?_toArray, List.getElem?_cons_zero, List.getElem?_cons_succ] at q0 q1
  go_wp2_with fail
  refine (VisPoint_any _ _ _ L (da, db) amp _ hr).mono ?_
  rintro e w2 ⟨v2, rfl, ho2, hB2⟩
  clear q0 q1
  obtain ⟨A2, c2, rfl⟩ := own_form ho2
  replace hr := hr.after hB2
  replace hdx := hdx.after hB2
  replace hB := bT hB hB2
  clear hB2
  have hx := Rd.of_own ho2
  clear ho2
  have q0 := hdx.cell 0
  have q1 := hdx.cell 1
  simp only [List.getElem?_toArray, List.getElem?_cons_zero, List.getElem?_cons_succ] at q0 q1
  go_wp2_with fail
  refine (sVisPoint_any _ _ _ L (da, db) amp _ hr).mono ?_
  rintro e w3 ⟨v3, rfl, ho3, hB3⟩
  clear q0 q1
  obtain ⟨A3, c3, rfl⟩ := own_form ho3
  replace hr := hr.after hB3
  replace hdx := hdx.after hB3
  replace hx := hx.after hB3
  replace hB := bT hB hB3
  clear hB3
  have hy := Rd.of_own ho3
  clear ho3
  cases hok : Vm.ptB L (da, db) amp
  ·
    go_wp2_with fail
    with_reducible refine (sameVis_self _ _ _ _ _ _ _ _ hx hy).mono ?_
    rintro e w4 ⟨rfl, hB4⟩
    replace hr := hr.after hB4
    replace hdx := hdx.after hB4
    replace hx := hx.after hB4
    replace hy := hy.after hB4
    replace hB := bT hB hB4
    clear hB4
    go_wp2_with fail
    with_reducible refine (sameVis_self _ _ _ _ _ _ _ _ hx hy).mono ?_
    rintro e w5 ⟨rfl, hB5⟩
    replace hr := hr.after hB5
    replace hdx := hdx.after hB5
    replace hx := hx.after hB5
    replace hy := hy.after hB5
    replace hB := bT hB hB5
    clear hB5
    go_wp2_with fail
    go_ret
    exact ⟨rfl, hB⟩
  · have hO := Vm.OkP.of hok
    have h1 := Lib.hid ((Vm.ptB_iff _ _ _).1 hok).1
    have h2 := Lib.hid (Vm.ptL_vecs hok)
    have h3 := Lib.hid hO.out.to
    obtain ⟨X, hX⟩ : ∃ X, Vm.ptL L (da, db) amp = X := ⟨_, rfl⟩
    rw [hX] at hx hy h2 h3 ⊢
    clear hX hok hO
    go_wp2_with fail
    with_reducible refine (sameVis_self _ _ _ _ _ _ _ _ hx hy).mono ?_
    rintro e w4 ⟨rfl, hB4⟩
    replace hr := hr.after hB4
    replace hdx := hdx.after hB4
    replace hx := hx.after hB4
    replace hy := hy.after hB4
    replace hB := bT hB hB4
    clear hB4
    go_wp2_with fail
    with_reducible refine (RedundantFits_ok _ _ _ _ _ _ L X (Vm.dotF (da, db) amp) _ hr hx h1.out h2.out (fun v => Vm.dotF_neg _ _ v) (fun v => by simp only [Vm.dotF]; omega) h3.out).mono ?_
    rintro e w5 ⟨rfl, hB5⟩
    replace hr := hr.after hB5
    replace hdx := hdx.after hB5
    replace hx := hx.after hB5
    replace hy := hy.after hB5
    replace hB := bT hB hB5
    clear hB5
    go_wp2_with fail
    go_ret
    exact ⟨rfl, hB⟩

end Go.Proofs.Ytjpklbkeofjppaa
