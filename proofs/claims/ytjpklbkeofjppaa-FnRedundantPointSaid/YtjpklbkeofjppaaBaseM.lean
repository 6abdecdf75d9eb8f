/- Plain laws on bases of closure phases. No program in sight. -/
import Derived.Test.YtjpklbkeofjppaaCloM
namespace Go.Proofs.Ytjpklbkeofjppaa.Vm

def cmany (n : Int) : Int := if decide (3 ≤ n) && decide (n ≤ 7) then (n - 1) * (n - 2) / 2 else 0
def baseB (n : Int) (B : List Int) : Bool := decide (0 < cmany n) && decide ((B.length : Int) = cmany n) && B.all phB
/-- What is known of a valid base. -/
structure OkB (n : Nat) (B : List Int) : Prop where
  lo : 3 ≤ n
  hi : n ≤ 7
  len : B.length = (n - 1) * (n - 2) / 2
  all : B.all phB = true
theorem cmany_nat (n : Nat) (h3 : 3 ≤ n) (h7 : n ≤ 7) : cmany n = (((n - 1) * (n - 2) / 2 : Nat) : Int) := by
  have e : (decide (3 ≤ (n : Int)) && decide ((n : Int) ≤ 7)) = true := by simp; omega
  rw [cmany, if_pos e]
  obtain ⟨m, rfl⟩ : ∃ m, n = m + 2 := ⟨n - 2, by omega⟩
  rw [show ((m + 2 : Nat) : Int) - 1 = ((m + 1 : Nat) : Int) by omega, show ((m + 2 : Nat) : Int) - 2 = (m : Int) by omega, show m + 2 - 1 = m + 1 by omega, show m + 2 - 2 = m by omega]
  norm_cast
def chk3 : Bool := (List.range 8).all fun n => decide (n < 3) || decide (0 < (n - 1) * (n - 2) / 2 ∧ (n - 1) * (n - 2) / 2 ≤ 15 ∧ n * (n - 1) / 2 = (n - 1) + (n - 1) * (n - 2) / 2)
theorem chk3_ok : chk3 = true := by decide +kernel
theorem cm_all (n : Nat) (h3 : 3 ≤ n) (h7 : n ≤ 7) : 0 < (n - 1) * (n - 2) / 2 ∧ (n - 1) * (n - 2) / 2 ≤ 15 ∧ n * (n - 1) / 2 = (n - 1) + (n - 1) * (n - 2) / 2 := by
  have h := chk3_ok
  simp only [chk3, List.all_eq_true, List.mem_range] at h
  have h2 := h n (by omega)
  simp only [show ¬ n < 3 by omega, decide_false, Bool.false_or, decide_eq_true_eq] at h2
  exact h2
theorem OkB.of {n : Int} {B : List Int} (h : baseB n B = true) : ∃ m : Nat, n = m ∧ OkB m B := by
  simp only [baseB, Bool.and_eq_true, decide_eq_true_eq] at h
  obtain ⟨⟨h1, h2⟩, h3⟩ := h
  have h37 : 3 ≤ n ∧ n ≤ 7 := by
    apply Classical.byContradiction
    intro hc
    have e : (decide (3 ≤ n) && decide (n ≤ 7)) = false := by
      rw [Bool.eq_false_iff]; intro e; simp at e; exact hc e
    rw [cmany, e] at h1
    simp at h1
  obtain ⟨m, rfl⟩ := nat_of (i := n) (by omega)
  refine ⟨m, rfl, by omega, by omega, ?_, h3⟩
  rw [cmany_nat m (by omega) (by omega)] at h2
  omega
theorem OkB.to {n : Nat} {B : List Int} (h : OkB n B) : baseB n B = true := by
  have h1 := cm_all n h.lo h.hi
  simp only [baseB, Bool.and_eq_true, decide_eq_true_eq, cmany_nat n h.lo h.hi]
  exact ⟨⟨by omega, by rw [h.len]⟩, h.all⟩
/-- What the reference reads of a base: 0 with antenna 0; else the base's own phase, its opposite in the other order. -/
def bget (n : Int) (B : List Int) (j k : Int) : Int := if j = 0 ∨ k = 0 then 0 else if k < j then 0 - B.getD (bidx (n - 1) (j - 1) (k - 1)).toNat 0 else B.getD (bidx (n - 1) (j - 1) (k - 1)).toNat 0
/-- The visibilities of a base. -/
def bvF (n : Int) (B : List Int) (i j : Int) : V := (1, bget n B i j)
def bvL (n : Nat) (B : List Int) : List V := mk n (bvF n B)
def chk4 : Bool := (List.range 8).all fun n => (List.range n).all fun i => (List.range n).all fun j => !(decide (3 ≤ n) && decide (0 < i) && decide (i < j)) || (decide (bidx ((n : Int) - 1) ((i : Int) - 1) ((j : Int) - 1) = ((bt n i j - (n - 1) : Nat) : Int)) && decide (bidx ((n : Int) - 1) ((j : Int) - 1) ((i : Int) - 1) = ((bt n i j - (n - 1) : Nat) : Int)) && decide (n - 1 ≤ bt n i j))
theorem chk4_ok : chk4 = true := by decide +kernel
/-- Where the phase of two antennas but the first stands in a base. -/
theorem bt_base (n i j : Nat) (h3 : 3 ≤ n) (h7 : n ≤ 7) (hi : 0 < i) (hij : i < j) (hj : j < n) : bidx ((n : Int) - 1) ((i : Int) - 1) ((j : Int) - 1) = ((bt n i j - (n - 1) : Nat) : Int) ∧ bidx ((n : Int) - 1) ((j : Int) - 1) ((i : Int) - 1) = ((bt n i j - (n - 1) : Nat) : Int) ∧ n - 1 ≤ bt n i j := by
  have h := chk4_ok
  simp only [chk4, List.all_eq_true, List.mem_range] at h
  have h2 := h n (by omega) i (by omega) j hj
  simp only [h3, hi, hij, decide_true, Bool.and_true, Bool.not_true, Bool.false_or, Bool.and_eq_true, decide_eq_true_eq, and_assoc] at h2
  exact h2
theorem OkB.get {n : Nat} {B : List Int} (h : OkB n B) {i j : Nat} (hij : i < j) (hj : j < n) : 0 ≤ bget n B i j ∧ bget n B i j < 360 ∧ bget n B j i = 0 - bget n B i j ∧ (0 < i → bget n B i j = B.getD (bt n i j - (n - 1)) 0 ∧ bt n i j - (n - 1) < B.length) := by
  by_cases h0 : i = 0
  · subst h0
    have e : bget n B (0 : Nat) j = 0 := by simp [bget]
    have e2 : bget n B j (0 : Nat) = 0 := by simp [bget]
    rw [e, e2]
    exact ⟨by omega, by omega, by omega, fun hh => by omega⟩
  · obtain ⟨b1, b2, b3⟩ := bt_base n i j h.lo h.hi (by omega) hij hj
    have hb := (bt_all n (by have := h.hi; omega) i (by omega) j hj hij).2.2.1
    have hc := cm_all n h.lo h.hi
    have hl : bt n i j - (n - 1) < B.length := by rw [h.len]; omega
    have hp := (phB_iff _).1 (List.all_eq_true.1 h.all _ (List.getElem_mem hl))
    have e : bget n B i j = B.getD (bt n i j - (n - 1)) 0 := by
      rw [bget, if_neg (by omega), if_neg (by omega), b1, Int.toNat_natCast]
    have e2 : bget n B j i = 0 - B.getD (bt n i j - (n - 1)) 0 := by
      rw [bget, if_neg (by omega), if_pos (by omega), b2, Int.toNat_natCast]
    have e3 : B.getD (bt n i j - (n - 1)) 0 = B[bt n i j - (n - 1)] := by simp [hl]
    rw [e2, e]
    exact ⟨by rw [e3]; omega, by rw [e3]; omega, rfl, fun _ => ⟨rfl, hl⟩⟩
theorem bv_ok {n : Nat} {B : List Int} (h : OkB n B) : Ok n (bvL n B) := by
  refine ⟨by have := h.lo; omega, h.hi, mk_len n h.hi _, ?_⟩
  rw [bvL, mk_all n h.hi]
  intro i j hij hj
  obtain ⟨g1, g2, _⟩ := h.get hij hj
  exact (visOk_iff _ _).2 ⟨by simp [bvF], by simpa [bvF] using ⟨g1, g2⟩⟩
/-- The phase of two antennas among the visibilities of a base. -/
theorem bv_ph {n : Nat} {B : List Int} (h : OkB n B) {i j : Int} (hi : 0 ≤ i ∧ i < n) (hj : 0 ≤ j ∧ j < n) (hne : i ≠ j) : ph n (bvL n B) i j = (bget n B i j) % 360 := by
  obtain ⟨i, rfl⟩ := nat_of hi.1
  obtain ⟨j, rfl⟩ := nat_of hj.1
  rcases Nat.lt_or_gt_of_ne (show i ≠ j by omega) with hlt | hlt
  · obtain ⟨g1, g2, _⟩ := h.get hlt (show j < n by omega)
    rw [ph, bvL, vget_mk n h.hi (bvF n B) i j hi hj hne (fun hh => by omega)]
    show bget n B i j = _
    omega
  · obtain ⟨g1, g2, g3, _⟩ := h.get hlt (show i < n by omega)
    have hO := bv_ok h
    rw [ph, hO.anti hj hi (fun e => hne e.symm), bvL, vget_mk n h.hi (bvF n B) j i hj hi (fun e => hne e.symm) (fun hh => by omega)]
    show (-(bget n B j i)) % 360 = _
    rw [g3]; omega

end Go.Proofs.Ytjpklbkeofjppaa.Vm
