/- Plain laws: amplitudes of gains are solved. No program in sight. -/
import Derived.Test.YtmoeofclpnblmaaFlagM2
import Derived.Test.YtmoeofclpnblmaaGainM
namespace Go.Proofs.Ytmoeofclpnblmaa.Vm

/-- The amplitude of a gain. -/
def ga (G : List V) (i : Nat) : Int := (gat G (i : Int)).1
theorem OkG.amf {N : Nat} {L G : List V} (h : OkG N L G) {i j : Nat} (hi : i < N) (hj : j < N) (hne : i ≠ j) : (vget N (gapL N L G) i j).1 = (vget N L i j).1 * ga G i * ga G j := by
  rw [h.get (by omega) (by omega) (by omega)]; rfl
theorem OkG.ga_rng {N : Nat} {L G : List V} (h : OkG N L G) {i : Nat} (hi : i < N) : 1 ≤ ga G i ∧ ga G i ≤ 99 := (gat_rng h.gain (i := (i : Int)) (by omega)).1
theorem pos_mul {a b : Int} (h1 : 1 ≤ a) (h2 : 1 ≤ b) : 1 ≤ a * b := by
  have := Int.mul_le_mul h1 h2 (by omega) (by omega)
  omega
theorem sq_eq {a b : Int} (h1 : 1 ≤ a) (h2 : 1 ≤ b) (h : a * a = b * b) : a = b := by
  rcases Int.lt_trichotomy a b with e | e | e
  · have s1 : a * a ≤ a * b := Int.mul_le_mul_of_nonneg_left (by omega) (by omega)
    have s2 : a * b < b * b := Int.mul_lt_mul_of_pos_right e (by omega)
    omega
  · exact e
  · have s1 : b * b ≤ b * a := Int.mul_le_mul_of_nonneg_left (by omega) (by omega)
    have s2 : b * a < a * a := Int.mul_lt_mul_of_pos_right e (by omega)
    omega
/-- The amplitudes so far, if that of the first antenna is f. -/
def AmS (G : List V) (f : Int) (Q : List Int) : Prop := ∀ i : Nat, i < Q.length → (1 ≤ Q.getD i 0 ∧ Q.getD i 0 ≤ 99) ∧ (i = 0 → Q.getD i 0 = f) ∧ (0 < i → Q.getD i 0 * f = ga G 0 * ga G i)
theorem AmS.one {G : List V} {f : Int} (h1 : 1 ≤ f) (h2 : f ≤ 99) : AmS G f [f] := by
  intro i hi
  have : i = 0 := by simpa using hi
  subst this
  exact ⟨⟨h1, h2⟩, fun _ => rfl, fun h => absurd h (by omega)⟩
theorem AmS.snoc {G : List V} {f : Int} {Q : List Int} (h : AmS G f Q) (h0 : 0 < Q.length) {z : Int} (z1 : 1 ≤ z) (z2 : z ≤ 99) (hz : z * f = ga G 0 * ga G Q.length) : AmS G f (Q ++ [z]) := by
  intro i hi
  rw [List.length_append, List.length_singleton] at hi
  by_cases e : i < Q.length
  · have e2 : (Q ++ [z]).getD i 0 = Q.getD i 0 := by rw [List.getD_eq_getElem?_getD, List.getD_eq_getElem?_getD, List.getElem?_append_left e]
    rw [e2]; exact h i e
  · obtain rfl : i = Q.length := by omega
    have e2 : (Q ++ [z]).getD Q.length 0 = z := by rw [List.getD_eq_getElem?_getD, List.getElem?_append_right (Nat.le_refl _)]; simp
    rw [e2]
    exact ⟨⟨z1, z2⟩, fun h => absurd h (by omega), fun _ => hz⟩
/-- One more amplitude: either it is a whole number in range, or the first one is not that of the gain. -/
theorem amp_next {m f g0 gj : Int} (hm : 1 ≤ m) (hf : 1 ≤ f) (h0 : 1 ≤ g0) (hj : 1 ≤ gj) (hj2 : gj ≤ 99) :
    ((m * g0 * gj).tmod (m * f) = 0 ∧ (m * g0 * gj).tdiv (m * f) ≤ 99 ∧ 1 ≤ (m * g0 * gj).tdiv (m * f) ∧ (m * g0 * gj).tdiv (m * f) * f = g0 * gj) ∨
    (((m * g0 * gj).tmod (m * f) ≠ 0 ∨ 99 < (m * g0 * gj).tdiv (m * f)) ∧ f ≠ g0) := by
  have hmf := pos_mul hm hf
  have hw := pos_mul (pos_mul hm h0) hj
  by_cases e : (m * g0 * gj).tmod (m * f) = 0
  · have e2 := Int.mul_tdiv_add_tmod (m * g0 * gj) (m * f)
    rw [e, Int.add_zero] at e2
    obtain ⟨z, hz⟩ : ∃ z, (m * g0 * gj).tdiv (m * f) = z := ⟨_, rfl⟩
    rw [hz] at e2 ⊢
    have e3 : m * (z * f) = m * (g0 * gj) := by
      have : m * (z * f) = m * f * z := by grind
      rw [this, e2]; grind
    have e4 : z * f = g0 * gj := Int.eq_of_mul_eq_mul_left (by omega) e3
    have z1 : 1 ≤ z := by
      rcases Int.lt_or_le 0 z with h | h
      · omega
      · have := Int.mul_le_mul_of_nonneg_right h (show 0 ≤ f by omega)
        have := pos_mul h0 hj
        omega
    by_cases h9 : z ≤ 99
    · exact .inl ⟨e, h9, z1, e4⟩
    · refine .inr ⟨.inr (by omega), fun ef => ?_⟩
      subst ef
      have e5 : f * z = f * gj := by rw [Int.mul_comm]; exact e4
      have := Int.eq_of_mul_eq_mul_left (by omega) e5
      omega
  · refine .inr ⟨.inl e, fun ef => e ?_⟩
    subst ef
    exact Int.mul_tmod_right _ _
/-- If the first amplitude is that of the gain, all are. -/
theorem AmS.all {G : List V} {Q : List Int} (h : AmS G (ga G 0) Q) (h0 : 1 ≤ ga G 0) {i : Nat} (hi : i < Q.length) : Q.getD i 0 = ga G i := by
  obtain ⟨_, h2, h3⟩ := h i hi
  by_cases e : i = 0
  · subst e; exact h2 rfl
  · have := h3 (by omega)
    rw [Int.mul_comm] at this
    exact Int.eq_of_mul_eq_mul_left (by omega) this
/-- If two further antennas' amplitudes fit, the first one is that of the gain. -/
theorem AmS.first {N : Nat} {L G : List V} (h : OkG N L G) (h3 : 3 ≤ N) {f : Int} (f1 : 1 ≤ f) {Q : List Int} (hQ : AmS G f Q) (hl : Q.length = N) (he : ga G 1 * ga G 2 = Q.getD 1 0 * Q.getD 2 0) : f = ga G 0 := by
  have g0 := (h.ga_rng (i := 0) (by omega)).1
  have g1 := (h.ga_rng (i := 1) (by omega)).1
  have g2 := (h.ga_rng (i := 2) (by omega)).1
  have a := (hQ 1 (by omega)).2.2 (by omega)
  have b := (hQ 2 (by omega)).2.2 (by omega)
  obtain ⟨x, hx⟩ : ∃ x, Q.getD 1 0 = x := ⟨_, rfl⟩
  obtain ⟨y, hy⟩ : ∃ x, Q.getD 2 0 = x := ⟨_, rfl⟩
  rw [hx] at a he
  rw [hy] at b he
  have hp := pos_mul g1 g2
  have e : (ga G 1 * ga G 2) * (f * f) = (ga G 1 * ga G 2) * (ga G 0 * ga G 0) := by
    have e1 : (x * f) * (y * f) = (ga G 0 * ga G 1) * (ga G 0 * ga G 2) := by rw [a, b]
    have e2 : (x * f) * (y * f) = (x * y) * (f * f) := by grind
    have e3 : (ga G 0 * ga G 1) * (ga G 0 * ga G 2) = (ga G 1 * ga G 2) * (ga G 0 * ga G 0) := by grind
    rw [← e3, ← e1, e2, he]
  exact sq_eq f1 g0 (Int.eq_of_mul_eq_mul_left (by omega) e)
/-- A pair of antennas whose amplitudes fit. -/
def fitP (N : Nat) (L G : List V) (Q : List Int) (x : Nat × Nat) : Prop := (vget N (gapL N L G) x.1 x.2).1 = (vget N L x.1 x.2).1 * Q.getD x.1 0 * Q.getD x.2 0
theorem OkG.m_rng {N : Nat} {L G : List V} (h : OkG N L G) {i j : Nat} (hi : i < N) (hj : j < N) (hne : i ≠ j) : 1 ≤ (vget N L i j).1 ∧ (vget N L i j).1 ≤ 1000000 := (h.ok.get (i := (i : Int)) (j := (j : Int)) (by omega) (by omega) (by omega)).1
theorem AmS.done {N : Nat} {L G : List V} (h : OkG N L G) (h3 : 3 ≤ N) {f : Int} (f1 : 1 ≤ f) {Q : List Int} (hQ : AmS G f Q) (hl : Q.length = N) (he : fitP N L G Q (1, 2)) : f = ga G 0 ∧ Q = (List.range N).map fun i : Nat => ga G i := by
  have hm := (h.m_rng (i := 1) (j := 2) (by omega) (by omega) (by omega)).1
  have hf : f = ga G 0 := by
    refine hQ.first h h3 f1 hl ?_
    have he2 : (vget N (gapL N L G) ((1 : Nat) : Int) ((2 : Nat) : Int)).1 = (vget N L ((1 : Nat) : Int) ((2 : Nat) : Int)).1 * Q.getD 1 0 * Q.getD 2 0 := he
    rw [h.amf (by omega) (by omega) (by omega), Int.mul_assoc, Int.mul_assoc] at he2
    obtain ⟨m, hm2⟩ : ∃ m, (vget N L ((1 : Nat) : Int) ((2 : Nat) : Int)).1 = m := ⟨_, rfl⟩
    rw [hm2] at he2 hm
    exact Int.eq_of_mul_eq_mul_left (by omega) he2
  refine ⟨hf, ?_⟩
  subst hf
  have g0 := (h.ga_rng (i := 0) (by omega)).1
  refine List.ext_getElem (by simp [hl]) fun i hi hi2 => ?_
  have := hQ.all g0 hi
  rw [List.getD_eq_getElem?_getD, List.getElem?_eq_getElem hi] at this
  simpa using this
theorem AmS.miss {N : Nat} {L G : List V} (h : OkG N L G) {f : Int} {Q : List Int} (hQ : AmS G f Q) (hl : Q.length = N) {x : Nat × Nat} (h1 : x.1 < x.2) (h2 : x.2 < N) (he : ¬ fitP N L G Q x) : f ≠ ga G 0 := by
  intro hf
  subst hf
  have g0 := (h.ga_rng (i := 0) (by omega)).1
  refine he ?_
  unfold fitP
  rw [h.amf (by omega) (by omega) (by omega), hQ.all g0 (i := x.1) (by omega), hQ.all g0 (i := x.2) (by omega)]
/-- The gains with the first one's phase taken off. -/
def solvL (N : Nat) (G : List V) : List V := (List.range N).map fun i : Nat => (ga G i, ((gat G (i : Int)).2 - (gat G 0).2) % 360)
theorem turn_solv {N : Nat} {L G : List V} (h : OkG N L G) : G.map (fun g => (g.1, (g.2 + (0 - (gat G 0).2) % 360) % 360)) = solvL N G := by
  have hl : G.length = N := by have := ((gainB_iff _ _).1 h.gain).2.1; omega
  refine List.ext_getElem (by simp [solvL, hl]) fun i hi hi2 => ?_
  rw [List.length_map] at hi
  have e : gat G (i : Int) = G[i] := by unfold gat; rw [Int.toNat_natCast, List.getD_eq_getElem?_getD, List.getElem?_eq_getElem hi]; rfl
  simp only [solvL, List.getElem_map, List.getElem_range, ga, e]
  refine Prod.ext rfl ?_
  simp only
  omega
end Go.Proofs.Ytmoeofclpnblmaa.Vm
