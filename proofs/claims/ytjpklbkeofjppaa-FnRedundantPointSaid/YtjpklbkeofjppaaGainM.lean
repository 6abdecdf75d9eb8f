/- Plain laws on gains. No program in sight. -/
import Derived.Test.YtjpklbkeofjppaaCloM
namespace Go.Proofs.Ytjpklbkeofjppaa.Vm

/-- The gain of an antenna. -/
def gat (G : List V) (i : Int) : V := G.getD i.toNat (0, 0)
/-- What is measured of two antennas with gains. -/
def gapF (n : Int) (L G : List V) (i j : Int) : V := ((vget n L i j).1 * (gat G i).1 * (gat G j).1, ((vget n L i j).2 + (gat G j).2 - (gat G i).2) % 360)
def gapB (n : Int) (L G : List V) : Bool := visB n L && gainB n G && visB n (Vm.mk n.toNat (gapF n L G))
def gapL (n : Int) (L G : List V) : List V := if gapB n L G then Vm.mk n.toNat (gapF n L G) else []
theorem gapB_iff (n : Int) (L G : List V) : gapB n L G = true ↔ visB n L = true ∧ gainB n G = true ∧ visB n (Vm.mk n.toNat (gapF n L G)) = true := by simp [gapB, and_assoc]
theorem gapL_yes {n : Int} {L G : List V} (h : gapB n L G = true) : gapL n L G = Vm.mk n.toNat (gapF n L G) := by rw [gapL, if_pos h]
theorem gapL_no {n : Int} {L G : List V} (h : gapB n L G = false) : gapL n L G = [] := by rw [gapL, h]; rfl
theorem gat_rng {n : Int} {G : List V} (h : gainB n G = true) {i : Int} (hi : 0 ≤ i ∧ i < n) : (1 ≤ (gat G i).1 ∧ (gat G i).1 ≤ 99) ∧ 0 ≤ (gat G i).2 ∧ (gat G i).2 < 360 := by
  obtain ⟨_, h2, h3⟩ := (gainB_iff _ _).1 h
  have hl : i.toNat < G.length := by omega
  have e : gat G i = G[i.toNat] := by simp [gat, hl]
  rw [e]
  exact (visOk_iff _ _).1 (List.all_eq_true.1 h3 _ (List.getElem_mem hl))
theorem gapF_bd {n : Int} {L G : List V} (h : visB n L = true) (hg : gainB n G = true) {i j : Int} (hi : 0 ≤ i ∧ i < n) (hj : 0 ≤ j ∧ j < n) (hne : i ≠ j) :
    (1 ≤ (vget n L i j).1 ∧ (vget n L i j).1 ≤ 1000000) ∧ (1 ≤ (vget n L i j).1 * (gat G i).1 ∧ (vget n L i j).1 * (gat G i).1 ≤ 99000000) ∧ (1 ≤ (vget n L i j).1 * (gat G i).1 * (gat G j).1 ∧ (vget n L i j).1 * (gat G i).1 * (gat G j).1 ≤ 9801000000) ∧ 0 ≤ (vget n L i j).2 ∧ (vget n L i j).2 < 360 := by
  obtain ⟨m, rfl, hO⟩ := Ok.of h
  obtain ⟨a1, a2⟩ := hO.get hi hj hne
  obtain ⟨b1, _⟩ := gat_rng hg hi
  obtain ⟨c1, _⟩ := gat_rng hg hj
  have p1 : 1 * (gat G i).1 ≤ (vget m L i j).1 * (gat G i).1 := Int.mul_le_mul_of_nonneg_right (by omega) (by omega)
  have p2 : (vget m L i j).1 * (gat G i).1 ≤ 1000000 * (gat G i).1 := Int.mul_le_mul_of_nonneg_right (by omega) (by omega)
  have q1 : 1 * (gat G j).1 ≤ (vget m L i j).1 * (gat G i).1 * (gat G j).1 := Int.mul_le_mul_of_nonneg_right (by omega) (by omega)
  have q2 : (vget m L i j).1 * (gat G i).1 * (gat G j).1 ≤ 99000000 * (gat G j).1 := Int.mul_le_mul_of_nonneg_right (by omega) (by omega)
  exact ⟨a1, ⟨by omega, by omega⟩, ⟨by omega, by omega⟩, a2⟩
/-- What is known of measured visibilities. -/
structure OkG (N : Nat) (L G : List V) : Prop where
  ok : Ok N L
  gain : gainB N G = true
  out : Ok N (gapL N L G)
  eq : gapL N L G = Vm.mk N (gapF N L G)
theorem OkG.of {n : Int} {L G : List V} (h : gapB n L G = true) : ∃ N : Nat, n = N ∧ OkG N L G := by
  obtain ⟨h1, h2, h3⟩ := (gapB_iff _ _ _).1 h
  obtain ⟨N, rfl, hO⟩ := Ok.of h1
  obtain ⟨M, e, hO3⟩ := Ok.of h3
  obtain rfl : N = M := by omega
  have e2 : gapL N L G = Vm.mk N (gapF N L G) := by rw [gapL_yes h, Int.toNat_natCast]
  rw [Int.toNat_natCast] at hO3
  exact ⟨N, rfl, hO, h2, by rw [e2]; exact hO3, e2⟩
theorem OkG.get {N : Nat} {L G : List V} (h : OkG N L G) {i j : Int} (hi : 0 ≤ i ∧ i < N) (hj : 0 ≤ j ∧ j < N) (hne : i ≠ j) : vget N (gapL N L G) i j = gapF N L G i j := by
  rw [h.eq]
  refine vget_mk N h.ok.hi _ i j hi hj hne (fun hlt => ?_)
  have ha := h.ok.anti hi hj hne
  unfold gapF
  rw [ha]
  refine Prod.ext ?_ ?_
  · show (vget N L i j).1 * (gat G j).1 * (gat G i).1 = (vget N L i j).1 * (gat G i).1 * (gat G j).1
    rw [Int.mul_assoc, Int.mul_comm (gat G j).1, ← Int.mul_assoc]
  · show (-(((-(vget N L i j).2) % 360 + (gat G i).2 - (gat G j).2) % 360)) % 360 = ((vget N L i j).2 + (gat G j).2 - (gat G i).2) % 360
    omega
theorem OkG.ph {N : Nat} {L G : List V} (h : OkG N L G) {i j : Int} (hi : 0 ≤ i ∧ i < N) (hj : 0 ≤ j ∧ j < N) (hne : i ≠ j) : Vm.ph N (gapL N L G) i j = (Vm.ph N L i j + (gat G j).2 - (gat G i).2) % 360 := by
  rw [Vm.ph, h.get hi hj hne]; rfl
theorem OkG.loopB {N : Nat} {L G : List V} (h : OkG N L G) (l : List Int) : Vm.loopB N (gapL N L G) l = Vm.loopB N L l := by
  have h1 := h.ok.to
  have h2 := h.out.to
  simp [Vm.loopB, h1, h2]
/-- Gains are not seen in closure phases. -/
theorem OkG.loop3 {N : Nat} {L G : List V} (h : OkG N L G) (i j k : Int) : loopP N (gapL N L G) [i, j, k] = loopP N L [i, j, k] := by
  cases hc : Vm.loopB N L [i, j, k]
  · rw [loopP_no (by rw [h.loopB]; exact hc), loopP_no hc]
  · have hc' : Vm.loopB N (gapL N L G) [i, j, k] = true := by rw [h.loopB]; exact hc
    obtain ⟨_, _, ha⟩ := (loopB_iff _ _ _).1 hc
    obtain ⟨h1, h2⟩ := (apB_nodup _ _).1 ha
    simp at h2
    have ri := h1 i (by simp)
    have rj := h1 j (by simp)
    have rk := h1 k (by simp)
    rw [Vm.loop3 hc, Vm.loop3 hc', h.ph ri rj h2.1.1, h.ph rj rk h2.2, h.ph rk ri (fun e => h2.1.2 e.symm)]
    omega
/-- Gains are not seen in loops. -/
theorem OkG.loop {N : Nat} {L G : List V} (h : OkG N L G) (l : List Int) : loopP N (gapL N L G) l = loopP N L l := by
  cases hc : Vm.loopB N L l
  · rw [loopP_no (by rw [h.loopB]; exact hc), loopP_no hc]
  · have hc' : Vm.loopB N (gapL N L G) l = true := by rw [h.loopB]; exact hc
    obtain ⟨_, hlen, ha⟩ := (loopB_iff _ _ _).1 hc
    obtain ⟨h1, h2⟩ := (apB_nodup _ _).1 ha
    have st : ∀ a ∈ l, ∀ b ∈ l, a ≠ b → Vm.ph N (gapL N L G) a b = (Vm.ph N L a b + (gat G b).2 - (gat G a).2) % 360 := fun a ha b hb hne => h.ph (h1 a ha) (h1 b hb) hne
    rcases len_cases l hlen.1 hlen.2 with ⟨a, b, c, rfl⟩ | ⟨a, b, c, d, rfl⟩ | ⟨a, b, c, d, e, rfl⟩ | ⟨a, b, c, d, e, f, rfl⟩ | ⟨a, b, c, d, e, f, g, rfl⟩
    · exact h.loop3 a b c
    · simp at h2
      rw [loop4 hc, loop4 hc', st a (by simp) b (by simp) (by omega), st b (by simp) c (by simp) (by omega), st c (by simp) d (by simp) (by omega), st d (by simp) a (by simp) (by omega)]
      omega
    · simp at h2
      rw [loop5 hc, loop5 hc', st a (by simp) b (by simp) (by omega), st b (by simp) c (by simp) (by omega), st c (by simp) d (by simp) (by omega), st d (by simp) e (by simp) (by omega), st e (by simp) a (by simp) (by omega)]
      omega
    · simp at h2
      rw [loop6 hc, loop6 hc', st a (by simp) b (by simp) (by omega), st b (by simp) c (by simp) (by omega), st c (by simp) d (by simp) (by omega), st d (by simp) e (by simp) (by omega), st e (by simp) f (by simp) (by omega), st f (by simp) a (by simp) (by omega)]
      omega
    · simp at h2
      rw [loop7 hc, loop7 hc', st a (by simp) b (by simp) (by omega), st b (by simp) c (by simp) (by omega), st c (by simp) d (by simp) (by omega), st d (by simp) e (by simp) (by omega), st e (by simp) f (by simp) (by omega), st f (by simp) g (by simp) (by omega), st g (by simp) a (by simp) (by omega)]
      omega

end Go.Proofs.Ytjpklbkeofjppaa.Vm
