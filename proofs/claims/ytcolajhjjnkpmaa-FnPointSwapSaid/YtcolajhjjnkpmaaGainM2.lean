/- Plain laws on gains, continued: bases, amplitudes, exchanged antennas; loops of all antennas. No program in sight. -/
import Derived.Test.YtcolajhjjnkpmaaGainM
import Derived.Test.YtcolajhjjnkpmaaAmpM
import Derived.Test.YtcolajhjjnkpmaaBaseM2
import Derived.Test.YtcolajhjjnkpmaaSwapM
namespace Go.Proofs.Ytcolajhjjnkpmaa.Vm

/-- Gains are not seen in a base. -/
theorem OkG.base {N : Nat} {L G : List V} (h : OkG N L G) : cbL N (gapL N L G) = cbL N L := by
  unfold cbL
  exact List.map_congr_left fun p _ => h.loop3 0 p.1 p.2
theorem OkG.am {N : Nat} {L G : List V} (h : OkG N L G) {i j : Int} (hi : 0 ≤ i ∧ i < N) (hj : 0 ≤ j ∧ j < N) (hne : i ≠ j) : Vm.am N (gapL N L G) i j = Vm.am N L i j * (gat G i).1 * (gat G j).1 := by
  rw [Vm.am, h.get hi hj hne]; rfl
/-- Gains keep all closures. -/
theorem OkG.same {N : Nat} {L G : List V} (h : OkG N L G) : SameP N L (gapL N L G) := by
  refine ⟨h.ok.to, h.out.to, fun i j k _ _ _ => (h.loop3 i j k).symm, fun i j k l _ _ _ _ => ?_⟩
  have hb : ampB N (gapL N L G) i j k l = ampB N L i j k l := by
    have h1 := h.ok.to
    have h2 := h.out.to
    simp [ampB, h1, h2]
  cases hc : ampB N L i j k l
  · rw [ampP_no hc, ampQ_no hc, ampP_no (by rw [hb]; exact hc), ampQ_no (by rw [hb]; exact hc)]; exact ⟨rfl, rfl⟩
  · have hc' : ampB N (gapL N L G) i j k l = true := by rw [hb]; exact hc
    obtain ⟨_, h2⟩ := (ampB_iff _ _ _ _ _ _).1 hc
    obtain ⟨ri, rj, rk, rl, d1, d2, d3, d4, d5, d6⟩ := ap4 h2
    obtain ⟨⟨t1, _⟩, ⟨b1, _⟩⟩ := amp_rng hc
    have gi := (gat_rng h.gain ri).1
    have gj := (gat_rng h.gain rj).1
    have gk := (gat_rng h.gain rk).1
    have gl := (gat_rng h.gain rl).1
    have m1 := (am_prod (a := (gat G (i : Int)).1) (b := (gat G (j : Int)).1) (by omega) (by omega))
    have m1' : (gat G (i : Int)).1 * (gat G (j : Int)).1 ≤ 99 * 99 := Int.mul_le_mul (by omega) (by omega) (by omega) (by omega)
    have m2 := (am_prod (a := (gat G (k : Int)).1) (b := (gat G (l : Int)).1) (by omega) (by omega))
    have m2' : (gat G (k : Int)).1 * (gat G (l : Int)).1 ≤ 99 * 99 := Int.mul_le_mul (by omega) (by omega) (by omega) (by omega)
    have m3 := (am_prod (a := (gat G (i : Int)).1 * (gat G (j : Int)).1) (b := (gat G (k : Int)).1 * (gat G (l : Int)).1) (by omega) (by omega)).1
    have e1 : atop N (gapL N L G) i j k l = atop N L i j k l * ((gat G (i : Int)).1 * (gat G (j : Int)).1 * ((gat G (k : Int)).1 * (gat G (l : Int)).1)) := by
      unfold atop
      rw [h.am ri rj d1, h.am rk rl d6]
      grind
    have e2 : abot N (gapL N L G) i j k l = abot N L i j k l * ((gat G (i : Int)).1 * (gat G (j : Int)).1 * ((gat G (k : Int)).1 * (gat G (l : Int)).1)) := by
      unfold abot
      rw [h.am ri rk d2, h.am rj rl d5]
      grind
    obtain ⟨s1, s2⟩ := red_scale t1 b1 m3
    rw [ampP_yes hc, ampQ_yes hc, ampP_yes hc', ampQ_yes hc', e1, e2, s1, s2]
    exact ⟨rfl, rfl⟩

/-- The gains with two antennas exchanged. -/
def gswap (G : List V) (a b : Nat) : List V := (G.set a (gat G b)).set b (gat G a)
theorem gswap_len (G : List V) (a b : Nat) : (gswap G a b).length = G.length := by simp [gswap]
theorem gswap_at {G : List V} {a b : Nat} (ha : a < G.length) (hb : b < G.length) (i : Nat) (hi : i < G.length) : gat (gswap G a b) i = gat G (swp a b i) := by
  have e : ∀ (M : List V) (q : Nat), gat M (q : Int) = (M[q]?).getD (0, 0) := fun M q => by
    unfold gat; rw [Int.toNat_natCast, List.getD_eq_getElem?_getD]
  rw [e]
  unfold gswap
  by_cases h1 : i = b
  · subst h1
    rw [List.getElem?_set_self (by simpa using hi), Option.getD_some]
    rw [swp_b]
  · rw [List.getElem?_set_ne (fun e => h1 e.symm)]
    by_cases h2 : i = a
    · subst h2
      rw [List.getElem?_set_self hi, Option.getD_some]
      simp [swp]
    · rw [List.getElem?_set_ne (fun e => h2 e.symm), ← e]
      have : swp (a : Int) b i = i := swp_c (by omega) (by omega)
      rw [this]
theorem gswap_all {G : List V} {a b : Nat} (ha : a < G.length) (hb : b < G.length) (P : V → Bool) (h : G.all P = true) : (gswap G a b).all P = true := by
  rw [List.all_eq_true] at h ⊢
  intro x hx
  obtain ⟨i, hi, rfl⟩ := List.getElem_of_mem hx
  rw [gswap_len] at hi
  have e := gswap_at ha hb i hi
  have e1 : gat (gswap G a b) i = (gswap G a b)[i]'(by rw [gswap_len]; exact hi) := by simp [gat, gswap_len, hi]
  rw [← e1, e]
  obtain ⟨q, hq, hq2⟩ : ∃ q : Nat, swp (a : Int) b i = q ∧ q < G.length := by
    unfold swp
    split
    · exact ⟨b, rfl, hb⟩
    · split
      · exact ⟨a, rfl, ha⟩
      · exact ⟨i, rfl, hi⟩
  rw [hq]
  have e2 : gat G (q : Int) = G[q] := by simp [gat, hq2]
  rw [e2]
  exact h _ (List.getElem_mem hq2)
/-- Antennas have any numbers. -/
theorem OkG.swap {N : Nat} {L G : List V} (h : OkG N L G) {a b : Nat} (ha : a < N) (hb : b < N) :
    swapB N L a b = true ∧ swapB N (gapL N L G) a b = true ∧ gapB N (swapL N L a b) (gswap G a b) = true ∧ swapL N (gapL N L G) a b = gapL N (swapL N L a b) (gswap G a b) := by
  have hl : G.length = N := by have := ((gainB_iff _ _).1 h.gain).2.1; omega
  have s1 : swapB N L a b = true := (swapB_iff _ _ _ _).2 ⟨h.ok.to, by omega, by omega⟩
  have s2 : swapB N (gapL N L G) a b = true := (swapB_iff _ _ _ _).2 ⟨h.out.to, by omega, by omega⟩
  have ra : 0 ≤ (a : Int) ∧ (a : Int) < N := by omega
  have rb : 0 ≤ (b : Int) ∧ (b : Int) < N := by omega
  have e : Vm.mk N (swapF N (gapL N L G) a b) = Vm.mk N (gapF N (swapL N L a b) (gswap G a b)) := by
    refine mk_congr N h.ok.hi _ _ fun i j hij hj => ?_
    have g1 := gswap_at (by omega) (by omega) i (show i < G.length by omega) (a := a) (b := b)
    have g2 := gswap_at (by omega) (by omega) j (show j < G.length by omega) (a := a) (b := b)
    unfold swapF
    rw [h.get (swp_rng ra rb (by omega)) (swp_rng ra rb (by omega)) (swp_inj (by omega))]
    unfold gapF
    rw [swap_get s1 (by omega) (by omega) (by omega), g1, g2]
  have hg : gainB N (gswap G a b) = true := by
    obtain ⟨g1, g2, g3⟩ := (gainB_iff _ _).1 h.gain
    exact (gainB_iff _ _).2 ⟨g1, by rw [gswap_len]; exact g2, gswap_all (by omega) (by omega) _ g3⟩
  have hv : gapB N (swapL N L a b) (gswap G a b) = true := by
    refine (gapB_iff _ _ _).2 ⟨(swap_ok s1).to, hg, ?_⟩
    rw [Int.toNat_natCast, ← e, ← swapL_yes s2]
    exact (swap_ok s2).to
  refine ⟨s1, s2, hv, ?_⟩
  rw [swapL_yes s2, gapL_yes hv, Int.toNat_natCast, e]

/-- The loop of all antennas that goes back from an antenna. -/
def backL (n m : Nat) : List Int := (List.range n).map fun i => (((i * (n - 1) + m) % n : Nat) : Int)
def chk8 : Bool := (List.range 8).all fun n => (List.range n).all fun r => decide (n < 3) || decide ((backL n r).Nodup)
theorem chk8_ok : chk8 = true := by decide +kernel
theorem backL_mod (n m : Nat) : backL n m = backL n (m % n) := by
  unfold backL
  refine List.map_congr_left fun i _ => ?_
  rw [Nat.add_mod, Nat.add_mod (i * (n - 1)) (m % n), Nat.mod_mod]
theorem back_ok {N : Nat} (h3 : 3 ≤ N) (h7 : N ≤ 7) (m : Nat) : apB N (backL N m) = true := by
  refine (apB_nodup _ _).2 ⟨fun x hx => ?_, ?_⟩
  · obtain ⟨i, _, rfl⟩ := List.mem_map.1 hx
    have := Nat.mod_lt (i * (N - 1) + m) (show 0 < N by omega)
    omega
  · have h := chk8_ok
    simp only [chk8, List.all_eq_true, List.mem_range] at h
    have h2 := h N (by omega) (m % N) (Nat.mod_lt _ (by omega))
    simp only [show ¬ N < 3 by omega, decide_false, Bool.false_or, decide_eq_true_eq] at h2
    rw [backL_mod N m]
    exact h2
theorem back_len (n m : Nat) : (backL n m).length = n := by simp [backL]
theorem back_loop {N : Nat} {L : List V} (hO : Ok N L) (m : Nat) : loopB N L (backL N m) = decide (2 < N) := by
  by_cases h3 : 3 ≤ N
  · rw [decide_eq_true (by omega)]
    exact (loopB_iff _ _ _).2 ⟨hO.to, by rw [back_len]; exact ⟨h3, hO.hi⟩, back_ok h3 hO.hi m⟩
  · rw [decide_eq_false (by omega), Bool.eq_false_iff]
    intro e
    have := ((loopB_iff _ _ _).1 e).2.1
    rw [back_len] at this
    omega
/-- Three antennas in a row. -/
theorem row_loop {N : Nat} {L : List V} (hO : Ok N L) (m : Nat) : loopB N L [((m % N : Nat) : Int), (((m % N + 1) % N : Nat) : Int), (((m % N + 2) % N : Nat) : Int)] = decide (2 < N) := by
  have hlo := hO.lo
  have h7 := hO.hi
  obtain ⟨r, hr⟩ : ∃ r, m % N = r := ⟨_, rfl⟩
  have hrN : r < N := by rw [← hr]; exact Nat.mod_lt _ (by omega)
  rw [hr]
  obtain ⟨x, hx⟩ : ∃ x, (r + 1) % N = x := ⟨_, rfl⟩
  obtain ⟨y, hy⟩ : ∃ y, (r + 2) % N = y := ⟨_, rfl⟩
  have m1 := Nat.mod_lt (r + 1) (show 0 < N by omega)
  have m2 := Nat.mod_lt (r + 2) (show 0 < N by omega)
  rw [hx] at m1
  rw [hy] at m2
  rw [hx, hy]
  by_cases h3 : 3 ≤ N
  · rw [decide_eq_true (by omega)]
    have e1 : (r + 1 = N ∧ x = 0) ∨ (r + 1 < N ∧ x = r + 1) := by
      by_cases e : r + 1 = N
      · rw [e, Nat.mod_self] at hx; omega
      · rw [Nat.mod_eq_of_lt (by omega)] at hx; omega
    have e2 : (r + 2 = N ∧ y = 0) ∨ (r + 2 = N + 1 ∧ y = 1) ∨ (r + 2 < N ∧ y = r + 2) := by
      by_cases e : r + 2 = N
      · rw [e, Nat.mod_self] at hy; omega
      · by_cases e3 : r + 2 = N + 1
        · rw [e3, Nat.add_mod_left, Nat.mod_eq_of_lt (by omega)] at hy; omega
        · rw [Nat.mod_eq_of_lt (by omega)] at hy; omega
    refine (loopB_iff _ _ _).2 ⟨hO.to, by simp, (apB_nodup _ _).2 ⟨fun z hz => ?_, ?_⟩⟩
    · simp at hz
      rcases hz with rfl | rfl | rfl <;> omega
    · simp
      omega
  · rw [decide_eq_false (by omega), Bool.eq_false_iff]
    intro e
    obtain ⟨_, _, ha⟩ := (loopB_iff _ _ _).1 e
    obtain ⟨_, h2⟩ := (apB_nodup _ _).1 ha
    simp at h2
    have e0 : N = 2 := by omega
    subst e0
    omega

end Go.Proofs.Ytcolajhjjnkpmaa.Vm
