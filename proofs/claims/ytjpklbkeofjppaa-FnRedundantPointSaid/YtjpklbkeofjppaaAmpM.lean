/- Plain laws on closure amplitudes, and on lists with the same closures. No program in sight. -/
import Derived.Test.YtjpklbkeofjppaaCloM
namespace Go.Proofs.Ytjpklbkeofjppaa.Vm

/-- The amplitude of two antennas. -/
def am (n : Int) (L : List V) (i j : Int) : Int := (vget n L i j).1
def ampB (n : Int) (L : List V) (i j k l : Int) : Bool := visB n L && apB n [i, j, k, l]
def atop (n : Int) (L : List V) (i j k l : Int) : Int := am n L i j * am n L k l
def abot (n : Int) (L : List V) (i j k l : Int) : Int := am n L i k * am n L j l
def gcdI (a b : Int) : Int := (Nat.gcd a.toNat b.toNat : Nat)
def redT (a b : Int) : Int := a / gcdI a b
def redB (a b : Int) : Int := b / gcdI a b
def ampP (n : Int) (L : List V) (i j k l : Int) : Int := if ampB n L i j k l then redT (atop n L i j k l) (abot n L i j k l) else 0
def ampQ (n : Int) (L : List V) (i j k l : Int) : Int := if ampB n L i j k l then redB (atop n L i j k l) (abot n L i j k l) else 0
theorem ampB_iff (n : Int) (L : List V) (i j k l : Int) : ampB n L i j k l = true ↔ visB n L = true ∧ apB n [i, j, k, l] = true := by simp [ampB]
theorem ampP_yes {n : Int} {L : List V} {i j k l : Int} (h : ampB n L i j k l = true) : ampP n L i j k l = redT (atop n L i j k l) (abot n L i j k l) := by rw [ampP, if_pos h]
theorem ampQ_yes {n : Int} {L : List V} {i j k l : Int} (h : ampB n L i j k l = true) : ampQ n L i j k l = redB (atop n L i j k l) (abot n L i j k l) := by rw [ampQ, if_pos h]
theorem ampP_no {n : Int} {L : List V} {i j k l : Int} (h : ampB n L i j k l = false) : ampP n L i j k l = 0 := by rw [ampP, h]; rfl
theorem ampQ_no {n : Int} {L : List V} {i j k l : Int} (h : ampB n L i j k l = false) : ampQ n L i j k l = 0 := by rw [ampQ, h]; rfl
theorem ap4 {n i j k l : Int} (h : apB n [i, j, k, l] = true) : (0 ≤ i ∧ i < n) ∧ (0 ≤ j ∧ j < n) ∧ (0 ≤ k ∧ k < n) ∧ (0 ≤ l ∧ l < n) ∧ i ≠ j ∧ i ≠ k ∧ i ≠ l ∧ j ≠ k ∧ j ≠ l ∧ k ≠ l := by
  obtain ⟨h1, h2⟩ := (apB_nodup _ _).1 h
  simp at h2
  obtain ⟨⟨a1, a2, a3⟩, ⟨a4, a5⟩, a6⟩ := h2
  exact ⟨h1 i (by simp), h1 j (by simp), h1 k (by simp), h1 l (by simp), a1, a2, a3, a4, a5, a6⟩
theorem am_rng {n : Int} {L : List V} (h : visB n L = true) {i j : Int} (hi : 0 ≤ i ∧ i < n) (hj : 0 ≤ j ∧ j < n) (hne : i ≠ j) : 1 ≤ am n L i j ∧ am n L i j ≤ 1000000 := by
  obtain ⟨m, rfl, hO⟩ := Ok.of h
  exact (hO.get hi hj hne).1
theorem am_prod {a b : Int} (ha : 1 ≤ a ∧ a ≤ 1000000) (hb : 1 ≤ b ∧ b ≤ 1000000) : 1 ≤ a * b ∧ a * b ≤ 1000000000000 := by
  constructor
  · have : 1 * b ≤ a * b := Int.mul_le_mul_of_nonneg_right (by omega) (by omega)
    omega
  · have : a * b ≤ 1000000 * b := Int.mul_le_mul_of_nonneg_right (by omega) (by omega)
    omega
theorem amp_rng {n : Int} {L : List V} {i j k l : Int} (h : ampB n L i j k l = true) :
    (1 ≤ atop n L i j k l ∧ atop n L i j k l ≤ 1000000000000) ∧ (1 ≤ abot n L i j k l ∧ abot n L i j k l ≤ 1000000000000) := by
  obtain ⟨h1, h2⟩ := (ampB_iff _ _ _ _ _ _).1 h
  obtain ⟨ri, rj, rk, rl, d1, d2, d3, d4, d5, d6⟩ := ap4 h2
  exact ⟨am_prod (am_rng h1 ri rj d1) (am_rng h1 rk rl d6), am_prod (am_rng h1 ri rk d2) (am_rng h1 rj rl d5)⟩
theorem gcd_pos {a b : Int} (ha : 1 ≤ a) : 1 ≤ gcdI a b := by
  have : 0 < Nat.gcd a.toNat b.toNat := Nat.gcd_pos_of_pos_left _ (by omega)
  unfold gcdI; omega
theorem gcd_le {a b : Int} (ha : 1 ≤ a) : gcdI a b ≤ a := by
  have := Nat.gcd_le_left b.toNat (show 0 < a.toNat by omega)
  unfold gcdI; omega
theorem gcd_step (x y : Nat) : Nat.gcd y (x % y) = Nat.gcd x y := by
  rw [Nat.gcd_comm x y, Nat.gcd_rec y x, Nat.gcd_comm]
theorem gcd_dvd {a b : Int} (ha : 1 ≤ a) (hb : 1 ≤ b) : (∃ t, a = gcdI a b * t) ∧ ∃ t, b = gcdI a b * t := by
  obtain ⟨p, hp⟩ := Nat.gcd_dvd_left a.toNat b.toNat
  obtain ⟨q, hq⟩ := Nat.gcd_dvd_right a.toNat b.toNat
  unfold gcdI
  refine ⟨⟨p, ?_⟩, ⟨q, ?_⟩⟩
  · rw [← Int.natCast_mul, ← hp]; omega
  · rw [← Int.natCast_mul, ← hq]; omega
/-- The reduced fraction is the fraction. -/
theorem red_cross {a b : Int} (ha : 1 ≤ a) (hb : 1 ≤ b) : redT a b * b = redB a b * a := by
  obtain ⟨⟨t, ht⟩, ⟨u, hu⟩⟩ := gcd_dvd ha hb
  have hg := gcd_pos (b := b) ha
  have e1 : redT a b = t := by
    unfold redT
    calc a / gcdI a b = (gcdI a b * t) / gcdI a b := by rw [← ht]
      _ = t := Int.mul_ediv_cancel_left _ (by omega)
  have e2 : redB a b = u := by
    unfold redB
    calc b / gcdI a b = (gcdI a b * u) / gcdI a b := by rw [← hu]
      _ = u := Int.mul_ediv_cancel_left _ (by omega)
  rw [e1, e2]
  calc t * b = t * (gcdI a b * u) := by rw [← hu]
    _ = u * (gcdI a b * t) := by grind
    _ = u * a := by rw [← ht]
/-- Both numbers times one number: the same fraction. -/
theorem red_scale {a b c : Int} (ha : 1 ≤ a) (hb : 1 ≤ b) (hc : 1 ≤ c) : redT (a * c) (b * c) = redT a b ∧ redB (a * c) (b * c) = redB a b := by
  obtain ⟨a, rfl⟩ := nat_of (i := a) (by omega)
  obtain ⟨b, rfl⟩ := nat_of (i := b) (by omega)
  obtain ⟨c, rfl⟩ := nat_of (i := c) (by omega)
  have e : gcdI ((a : Int) * c) ((b : Int) * c) = gcdI a b * c := by
    unfold gcdI
    rw [← Int.natCast_mul, ← Int.natCast_mul, Int.toNat_natCast, Int.toNat_natCast, Int.toNat_natCast, Int.toNat_natCast, Nat.gcd_mul_right, Int.natCast_mul]
  unfold redT redB
  rw [e]
  exact ⟨Int.mul_ediv_mul_of_pos_left _ _ (by omega), Int.mul_ediv_mul_of_pos_left _ _ (by omega)⟩
theorem red_one {a : Int} (ha : 1 ≤ a) : redT a a = 1 ∧ redB a a = 1 := by
  have e : gcdI a a = a := by unfold gcdI; rw [Nat.gcd_self]; omega
  unfold redT redB
  rw [e]
  exact ⟨Int.ediv_self (by omega), Int.ediv_self (by omega)⟩

/-- Two lists of visibilities with the same closures. -/
def SameP (n : Int) (A B : List V) : Prop := visB n A = true ∧ visB n B = true ∧ (∀ i j k : Nat, (i : Int) < n → (j : Int) < n → (k : Int) < n → loopP n A [(i : Int), (j : Int), (k : Int)] = loopP n B [(i : Int), (j : Int), (k : Int)]) ∧
  ∀ i j k l : Nat, (i : Int) < n → (j : Int) < n → (k : Int) < n → (l : Int) < n → ampP n A i j k l = ampP n B i j k l ∧ ampQ n A i j k l = ampQ n B i j k l
theorem loopB_swapL {n : Int} {A B : List V} (hA : visB n A = true) (hB : visB n B = true) (l : List Int) : loopB n A l = loopB n B l := by simp [loopB, hA, hB]
theorem six' {n : Int} {L : List V} {i j k : Int} (h : loopB n L [i, j, k] = true) :
    loopB n L [j, k, i] = true ∧ loopB n L [j, i, k] = true ∧ loopP n L [j, k, i] = loopP n L [i, j, k] ∧ loopP n L [j, i, k] = (0 - loopP n L [i, j, k]) % 360 := by
  obtain ⟨m, rfl, hO⟩ := Ok.of ((loopB_iff _ _ _).1 h).1
  exact six h
/-- Closure phases in order suffice. -/
theorem sorted_all {n : Int} {A B : List V} (hA : visB n A = true) (hB : visB n B = true) (h : ∀ i j k : Nat, i < j → j < k → (k : Int) < n → loopP n A [(i : Int), (j : Int), (k : Int)] = loopP n B [(i : Int), (j : Int), (k : Int)]) (i j k : Nat) :
    loopP n A [(i : Int), (j : Int), (k : Int)] = loopP n B [(i : Int), (j : Int), (k : Int)] := by
  have hb := loopB_swapL hA hB [(i : Int), (j : Int), (k : Int)]
  cases hc : loopB n A [(i : Int), (j : Int), (k : Int)]
  · rw [loopP_no hc, loopP_no (by rw [← hb]; exact hc)]
  · have hc' : loopB n B [(i : Int), (j : Int), (k : Int)] = true := by rw [← hb]; exact hc
    obtain ⟨_, _, ha⟩ := (loopB_iff _ _ _).1 hc
    obtain ⟨h1, h2⟩ := (apB_nodup _ _).1 ha
    simp at h2
    obtain ⟨⟨d1, d2⟩, d3⟩ := h2
    have ri := h1 i (by simp)
    have rj := h1 j (by simp)
    have rk := h1 k (by simp)
    have rot : ∀ (L : List V) (a b c : Int), loopB n L [a, b, c] = true → loopP n L [a, b, c] = loopP n L [b, c, a] := fun L a b c hh => (six' hh).2.2.1.symm
    have rev : ∀ (L : List V) (a b c : Int), loopB n L [a, b, c] = true → loopP n L [b, a, c] = (0 - loopP n L [a, b, c]) % 360 := fun L a b c hh => (six' hh).2.2.2
    rcases Nat.lt_or_gt_of_ne (show i ≠ j by omega) with p | p <;> rcases Nat.lt_or_gt_of_ne (show j ≠ k by omega) with q | q <;> rcases Nat.lt_or_gt_of_ne (show i ≠ k by omega) with r | r
    · exact h i j k p q rk.2
    · omega
    · -- i < k < j : [i,j,k] = rev of [j,i,k] = rot of .. [i,k,j]
      have x := six' hc
      have x' := six' hc'
      -- [j, i, k] -> [i, k, j]
      have y := rot A j i k x.2.1
      have y' := rot B j i k x'.2.1
      have z := h i k j r q rj.2
      have w := rev A j i k x.2.1
      have w' := rev B j i k x'.2.1
      rw [w, w', y, y', z]
    · -- k < i < j : [i,j,k] -> [j,k,i] -> [k,i,j]
      have x := six' hc
      have x' := six' hc'
      rw [rot A i j k hc, rot B i j k hc', rot A j k i x.1, rot B j k i x'.1]
      exact h k i j r p rj.2
    · -- j < i, j < k, i < k : j < i < k
      have x := six' hc
      have x' := six' hc'
      rw [rev A j i k x.2.1, rev B j i k x'.2.1, h j i k p r rk.2]
    · -- j < k < i : [i,j,k] -> [j,k,i]
      rw [rot A i j k hc, rot B i j k hc']
      exact h j k i q r ri.2
    · omega
    · -- k < j < i : [j,i,k] -> [i,k,j] -> [k,j,i]
      have x := six' hc
      have x' := six' hc'
      have u := six' x.2.1
      have u' := six' x'.2.1
      rw [rev A j i k x.2.1, rev B j i k x'.2.1, rot A j i k x.2.1, rot B j i k x'.2.1, rot A i k j u.1, rot B i k j u'.1, h k j i q p ri.2]

end Go.Proofs.Ytjpklbkeofjppaa.Vm
