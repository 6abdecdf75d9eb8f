/- Plain laws on exchanged antennas. No program in sight. -/
import Derived.Test.YtjpklbkeofjppaaCloM
namespace Go.Proofs.Ytjpklbkeofjppaa.Vm

def swp (a b i : Int) : Int := if i = a then b else if i = b then a else i
theorem swp_rng {a b i : Int} {n : Int} (ha : 0 ≤ a ∧ a < n) (hb : 0 ≤ b ∧ b < n) (hi : 0 ≤ i ∧ i < n) : 0 ≤ swp a b i ∧ swp a b i < n := by
  unfold swp; split <;> (try split) <;> omega
theorem swp_inj {a b i j : Int} (h : i ≠ j) : swp a b i ≠ swp a b j := by
  unfold swp; repeat' split
  all_goals omega
theorem swp_swp (a b i : Int) : swp a b (swp a b i) = i := by
  unfold swp; repeat' split
  all_goals omega
theorem swp_self (a i : Int) : swp a a i = i := by
  unfold swp; repeat' split
  all_goals omega
theorem swp_a (a b : Int) : swp a b a = b := by simp [swp]
theorem swp_b (a b : Int) : swp a b b = a := by unfold swp; split <;> simp_all
theorem swp_c {a b c : Int} (h1 : c ≠ a) (h2 : c ≠ b) : swp a b c = c := by simp [swp, h1, h2]
def swapB (n : Int) (L : List V) (a b : Int) : Bool := visB n L && antB n a && antB n b
theorem swapB_iff (n : Int) (L : List V) (a b : Int) : swapB n L a b = true ↔ visB n L = true ∧ (0 ≤ a ∧ a < n) ∧ (0 ≤ b ∧ b < n) := by simp only [swapB, Bool.and_eq_true, antB_iff, and_assoc]
def swapF (n : Int) (L : List V) (a b : Int) (i j : Int) : V := vget n L (swp a b i) (swp a b j)
def swapL (n : Int) (L : List V) (a b : Int) : List V := if swapB n L a b then mk n.toNat (swapF n L a b) else []
theorem swapL_yes {N : Nat} {L : List V} {a b : Int} (h : swapB N L a b = true) : swapL N L a b = mk N (swapF N L a b) := by rw [swapL, if_pos h, Int.toNat_natCast]
theorem swapL_no {n : Int} {L : List V} {a b : Int} (h : swapB n L a b = false) : swapL n L a b = [] := by rw [swapL, h]; rfl
theorem swap_get {N : Nat} {L : List V} {a b : Int} (h : swapB N L a b = true) {i j : Int} (hi : 0 ≤ i ∧ i < N) (hj : 0 ≤ j ∧ j < N) (hne : i ≠ j) : vget N (swapL N L a b) i j = vget N L (swp a b i) (swp a b j) := by
  obtain ⟨h1, ha, hb⟩ := (swapB_iff _ _ _ _).1 h
  obtain ⟨m, e, hO⟩ := Ok.of h1
  obtain rfl : N = m := by omega
  rw [swapL_yes h]
  refine vget_mk N hO.hi _ i j hi hj hne (fun _ => ?_)
  exact (hO.anti (swp_rng ha hb hj) (swp_rng ha hb hi) (swp_inj (fun e => hne e.symm))).symm
theorem swap_ok {N : Nat} {L : List V} {a b : Int} (h : swapB N L a b = true) : Ok N (swapL N L a b) := by
  obtain ⟨h1, ha, hb⟩ := (swapB_iff _ _ _ _).1 h
  obtain ⟨m, e, hO⟩ := Ok.of h1
  obtain rfl : N = m := by omega
  refine ⟨hO.lo, hO.hi, by rw [swapL_yes h, mk_len N hO.hi], ?_⟩
  rw [swapL_yes h, mk_all N hO.hi]
  intro i j hij hj
  exact (visOk_iff _ _).2 (hO.get (swp_rng ha hb (by omega)) (swp_rng ha hb (by omega)) (swp_inj (by omega)))
theorem swap_again {N : Nat} {L : List V} {a b : Int} (h : swapB N L a b = true) : swapB N (swapL N L a b) a b = true := by
  obtain ⟨h1, ha, hb⟩ := (swapB_iff _ _ _ _).1 h
  exact (swapB_iff _ _ _ _).2 ⟨(swap_ok h).to, ha, hb⟩
/-- Exchanging twice changes nothing. -/
theorem swap_swap {N : Nat} {L : List V} {a b : Int} (h : swapB N L a b = true) : swapL N (swapL N L a b) a b = L := by
  obtain ⟨h1, ha, hb⟩ := (swapB_iff _ _ _ _).1 h
  obtain ⟨m, e, hO⟩ := Ok.of h1
  obtain rfl : N = m := by omega
  rw [swapL_yes (swap_again h)]
  refine (mk_congr N hO.hi _ (vget N L) fun i j hij hj => ?_).trans (mk_vget N hO.hi L hO.len)
  unfold swapF
  rw [swap_get h (swp_rng ha hb (by omega)) (swp_rng ha hb (by omega)) (swp_inj (by omega)), swp_swp, swp_swp]
theorem swap_same {N : Nat} {L : List V} {a : Int} (h : swapB N L a a = true) : swapL N L a a = L := by
  obtain ⟨h1, ha, hb⟩ := (swapB_iff _ _ _ _).1 h
  obtain ⟨m, e, hO⟩ := Ok.of h1
  obtain rfl : N = m := by omega
  rw [swapL_yes h]
  refine (mk_congr N hO.hi _ (vget N L) fun i j hij hj => ?_).trans (mk_vget N hO.hi L hO.len)
  unfold swapF
  rw [swp_self, swp_self]
/-- Closure phases go with their antennas. -/
theorem close_swap {N : Nat} {L : List V} {i j k : Int} (h : loopB N L [i, j, k] = true) : swapB N L i j = true ∧ loopB N (swapL N L i j) [j, i, k] = true ∧ loopP N (swapL N L i j) [j, i, k] = loopP N L [i, j, k] := by
  obtain ⟨h1, _, h3⟩ := (loopB_iff _ _ _).1 h
  obtain ⟨hr, hd⟩ := (apB_nodup _ _).1 h3
  simp at hd
  obtain ⟨⟨d1, d2⟩, d3⟩ := hd
  have ri := hr i (by simp)
  have rj := hr j (by simp)
  have rk := hr k (by simp)
  have hs : swapB N L i j = true := (swapB_iff _ _ _ _).2 ⟨h1, ri, rj⟩
  have hl : loopB N (swapL N L i j) [j, i, k] = true := by
    refine (loopB_iff _ _ _).2 ⟨(swap_ok hs).to, by simp, (apB_nodup _ _).2 ⟨fun x hx => ?_, ?_⟩⟩
    · simp at hx
      rcases hx with rfl | rfl | rfl
      · exact rj
      · exact ri
      · exact rk
    · simp; exact ⟨⟨fun e => d1 e.symm, d3⟩, d2⟩
  refine ⟨hs, hl, ?_⟩
  rw [loop3 hl, loop3 h]
  unfold ph
  rw [swap_get hs rj ri (fun e => d1 e.symm), swap_get hs ri rk d2, swap_get hs rk rj (fun e => d3 e.symm), swp_a, swp_b, swp_c (fun e => d2 e.symm) (fun e => d3 e.symm)]

end Go.Proofs.Ytjpklbkeofjppaa.Vm
