/- Plain laws on bases of closure phases, continued: what follows from a base; the base of visibilities. No program in sight. -/
import Derived.Test.YtjpklbkeofjppaaBaseM
namespace Go.Proofs.Ytjpklbkeofjppaa.Vm

def cfB (n : Int) (B : List Int) (i j k : Int) : Bool := baseB n B && apB n [i, j, k]
def cfP (n : Int) (B : List Int) (i j k : Int) : Int := if cfB n B i j k then (bget n B i j + bget n B j k + bget n B k i) % 360 else 0
theorem cfB_iff (n : Int) (B : List Int) (i j k : Int) : cfB n B i j k = true ↔ baseB n B = true ∧ apB n [i, j, k] = true := by simp [cfB]
theorem ap3 {n i j k : Int} (h : apB n [i, j, k] = true) : (0 ≤ i ∧ i < n) ∧ (0 ≤ j ∧ j < n) ∧ (0 ≤ k ∧ k < n) ∧ i ≠ j ∧ i ≠ k ∧ j ≠ k := by
  obtain ⟨h1, h2⟩ := (apB_nodup _ _).1 h
  simp at h2
  exact ⟨h1 i (by simp), h1 j (by simp), h1 k (by simp), h2.1.1, h2.1.2, h2.2⟩
theorem cf_loopB {N : Nat} {B : List Int} (h : OkB N B) (i j k : Int) : loopB N (bvL N B) [i, j, k] = cfB N B i j k := by
  have h1 := (bv_ok h).to
  have h2 := h.to
  simp [loopB, cfB, h1, h2]
theorem cf_loopP {N : Nat} {B : List Int} (h : OkB N B) (i j k : Int) : loopP N (bvL N B) [i, j, k] = cfP N B i j k := by
  cases hc : cfB N B i j k
  · rw [loopP_no (by rw [cf_loopB h]; exact hc), cfP, hc]; rfl
  · have hl : loopB N (bvL N B) [i, j, k] = true := by rw [cf_loopB h]; exact hc
    obtain ⟨_, ha⟩ := (cfB_iff _ _ _ _ _).1 hc
    obtain ⟨ri, rj, rk, d1, d2, d3⟩ := ap3 ha
    rw [loop3 hl, cfP, if_pos hc, bv_ph h ri rj d1, bv_ph h rj rk d3, bv_ph h rk ri (fun e => d2 e.symm)]
    omega
/-- The closure phase with the first antenna is the base's own. -/
theorem cf_first {N : Nat} {B : List Int} (h : OkB N B) {a b : Nat} (h0 : 0 < a) (hab : a < b) (hb : b < N) : cfB N B 0 a b = true ∧ cfP N B 0 a b = B.getD (bt N a b - (N - 1)) 0 := by
  have ha : apB N [0, (a : Int), (b : Int)] = true := by
    refine (apB_nodup _ _).2 ⟨fun x hx => ?_, ?_⟩
    · simp at hx
      rcases hx with rfl | rfl | rfl <;> omega
    · simp; omega
  have hc : cfB N B 0 a b = true := (cfB_iff _ _ _ _ _).2 ⟨h.to, ha⟩
  obtain ⟨g1, g2, g3, g4⟩ := h.get hab hb
  obtain ⟨g5, g6⟩ := g4 h0
  refine ⟨hc, ?_⟩
  rw [cfP, if_pos hc]
  have e1 : bget N B 0 a = 0 := by simp [bget]
  have e2 : bget N B b 0 = 0 := by simp [bget]
  rw [e1, e2, ← g5]
  omega

/-- The base of visibilities. -/
def cbL (N : Nat) (L : List V) : List Int := ((basesL N).drop (N - 1)).map fun p => loopP N L [0, (p.1 : Int), (p.2 : Int)]
def chk6 : Bool := (List.range 8).all fun n => decide (n < 3) || decide ((basesL n).filter (fun p => decide (0 < p.1)) = (basesL n).drop (n - 1))
theorem chk6_ok : chk6 = true := by decide +kernel
theorem bases_filter (n : Nat) (h3 : 3 ≤ n) (h7 : n ≤ 7) : (basesL n).filter (fun p => decide (0 < p.1)) = (basesL n).drop (n - 1) := by
  have h := chk6_ok
  simp only [chk6, List.all_eq_true, List.mem_range] at h
  have h2 := h n (by omega)
  simp only [show ¬ n < 3 by omega, decide_false, Bool.false_or, decide_eq_true_eq] at h2
  exact h2
theorem cb_len (N : Nat) (h3 : 3 ≤ N) (h7 : N ≤ 7) (L : List V) : (cbL N L).length = (N - 1) * (N - 2) / 2 := by
  have := cm_all N h3 h7
  rw [cbL, List.length_map, List.length_drop, (bt_zero_all N (by omega)).2.1]
  omega
theorem cb_at {N : Nat} (h3 : 3 ≤ N) (h7 : N ≤ 7) (L : List V) {i j : Nat} (h0 : 0 < i) (hij : i < j) (hj : j < N) : (cbL N L)[bt N i j - (N - 1)]? = some (loopP N L [0, (i : Int), (j : Int)]) := by
  have hb := bt_all N (by omega) i (by omega) j hj hij
  have hbb := bt_base N i j h3 h7 h0 hij hj
  rw [cbL, List.getElem?_map, List.getElem?_drop, show N - 1 + (bt N i j - (N - 1)) = bt N i j by omega, hb.2.2.2.1]; rfl
theorem loopP_rng (n : Int) (L : List V) (l : List Int) : 0 ≤ loopP n L l ∧ loopP n L l < 360 := by
  unfold loopP
  split <;> omega
theorem cb_ok {N : Nat} (h3 : 3 ≤ N) (h7 : N ≤ 7) (L : List V) : OkB N (cbL N L) := by
  refine ⟨h3, h7, cb_len N h3 h7 L, ?_⟩
  rw [List.all_eq_true]
  intro x hx
  obtain ⟨p, _, rfl⟩ := List.mem_map.1 hx
  exact (phB_iff _).2 (loopP_rng _ _ _)
theorem loop0 {N : Nat} {L : List V} (hO : Ok N L) {i j : Nat} (h0 : 0 < i) (hij : i < j) (hj : j < N) : loopB N L [0, (i : Int), (j : Int)] = true := by
  refine (loopB_iff _ _ _).2 ⟨hO.to, by simp, (apB_nodup _ _).2 ⟨fun x hx => ?_, ?_⟩⟩
  · simp at hx
    rcases hx with rfl | rfl | rfl <;> omega
  · simp; omega
/-- A base's phase is that of two antennas but for a phase of each. -/
def uOf (N : Nat) (L : List V) (i : Int) : Int := if i = 0 then 0 else ph N L 0 i
theorem cb_get {N : Nat} {L : List V} (hO : Ok N L) (h3 : 3 ≤ N) {i j : Int} (hi : 0 ≤ i ∧ i < N) (hj : 0 ≤ j ∧ j < N) (hne : i ≠ j) : (bget N (cbL N L) i j - (ph N L i j + uOf N L i - uOf N L j)) % 360 = 0 := by
  have h7 := hO.hi
  have hB := cb_ok h3 h7 L
  have anti : ∀ a b : Int, (0 ≤ a ∧ a < N) → (0 ≤ b ∧ b < N) → a ≠ b → ph N L b a = (-(ph N L a b)) % 360 := fun a b ha hb hab => by rw [ph, hO.anti ha hb hab]; rfl
  obtain ⟨i, rfl⟩ := nat_of hi.1
  obtain ⟨j, rfl⟩ := nat_of hj.1
  by_cases i0 : i = 0
  · subst i0
    have e : bget N (cbL N L) (0 : Nat) j = 0 := by simp [bget]
    have u0 : uOf N L ((0 : Nat) : Int) = 0 := by simp [uOf]
    have uj : uOf N L (j : Int) = ph N L 0 j := by rw [uOf, if_neg (by omega)]
    rw [e, u0, uj]
    simp
  · by_cases j0 : j = 0
    · subst j0
      have e : bget N (cbL N L) i (0 : Nat) = 0 := by simp [bget]
      have u0 : uOf N L ((0 : Nat) : Int) = 0 := by simp [uOf]
      have ui : uOf N L (i : Int) = ph N L 0 i := by rw [uOf, if_neg (by omega)]
      have a1 := anti 0 i (by omega) hi (by omega)
      rw [e, u0, ui]
      show (0 - (ph N L (i : Int) 0 + ph N L 0 (i : Int) - 0)) % 360 = 0
      omega
    · have ui : uOf N L (i : Int) = ph N L 0 i := by rw [uOf, if_neg (by omega)]
      have uj : uOf N L (j : Int) = ph N L 0 j := by rw [uOf, if_neg (by omega)]
      rw [ui, uj]
      rcases Nat.lt_or_gt_of_ne (show i ≠ j by omega) with hlt | hlt
      · obtain ⟨_, _, _, g4⟩ := hB.get hlt (show j < N by omega)
        obtain ⟨g5, g6⟩ := g4 (by omega)
        have g7 := cb_at h3 h7 L (show 0 < i by omega) hlt (show j < N by omega)
        have hl := loop0 hO (show 0 < i by omega) hlt (show j < N by omega)
        have a1 := anti 0 j (by omega) hj (by omega)
        rw [g5, List.getD_eq_getElem?_getD, g7]
        show (loopP N L [0, (i : Int), (j : Int)] - _) % 360 = 0
        rw [loop3 hl]
        omega
      · obtain ⟨_, _, g3, g4⟩ := hB.get hlt (show i < N by omega)
        obtain ⟨g5, g6⟩ := g4 (by omega)
        have g7 := cb_at h3 h7 L (show 0 < j by omega) hlt (show i < N by omega)
        have hl := loop0 hO (show 0 < j by omega) hlt (show i < N by omega)
        have a1 := anti 0 i (by omega) hi (by omega)
        have a2 := anti j i hj hi (by omega)
        rw [g3, g5, List.getD_eq_getElem?_getD, g7]
        show (0 - loopP N L [0, (j : Int), (i : Int)] - _) % 360 = 0
        rw [loop3 hl]
        omega
/-- All closure phases follow from a base. -/
theorem cf_cb {N : Nat} {L : List V} (hO : Ok N L) (h3 : 3 ≤ N) (i j k : Int) : cfB N (cbL N L) i j k = loopB N L [i, j, k] ∧ cfP N (cbL N L) i j k = loopP N L [i, j, k] := by
  have hB := cb_ok h3 hO.hi L
  have eb : cfB N (cbL N L) i j k = loopB N L [i, j, k] := by
    have h1 := hB.to
    have h2 := hO.to
    simp [cfB, loopB, h1, h2]
  refine ⟨eb, ?_⟩
  cases hc : loopB N L [i, j, k]
  · rw [loopP_no hc, cfP, eb, hc]; rfl
  · obtain ⟨_, _, ha⟩ := (loopB_iff _ _ _).1 hc
    obtain ⟨ri, rj, rk, d1, d2, d3⟩ := ap3 ha
    rw [loop3 hc, cfP, if_pos (by rw [eb]; exact hc)]
    have e1 := cb_get hO h3 ri rj d1
    have e2 := cb_get hO h3 rj rk d3
    have e3 := cb_get hO h3 rk ri (fun e => d2 e.symm)
    omega
/-- Visibilities of a base have that base. -/
theorem cb_bv {N : Nat} {B : List Int} (h : OkB N B) : cbL N (bvL N B) = B := by
  have h7 := h.hi
  have hlt := cm_all N h.lo h7
  apply List.ext_getElem?
  intro q
  by_cases hq : q < (N - 1) * (N - 2) / 2
  · have hle := many_le N (by omega)
    obtain ⟨p, _, hp, h1, h2, h3⟩ := bt_inv_all N (by omega) (q + (N - 1)) (by omega) (by omega)
    have hp0 : 0 < p.1 := by
      apply Classical.byContradiction
      intro hc
      have e0 : p.1 = 0 := by omega
      have := h3
      rw [e0] at this
      unfold bt at this
      simp at this
      omega
    have e := cb_at h.lo h7 (bvL N B) hp0 h1 h2
    rw [h3, show q + (N - 1) - (N - 1) = q by omega] at e
    rw [e, cf_loopP h]
    have hf := (cf_first h hp0 h1 h2).2
    rw [h3, show q + (N - 1) - (N - 1) = q by omega] at hf
    rw [hf, List.getD_eq_getElem?_getD, List.getElem?_eq_getElem (by rw [h.len]; exact hq)]; rfl
  · rw [List.getElem?_eq_none (by rw [cb_len N h.lo h7]; omega), List.getElem?_eq_none (by rw [h.len]; omega)]
/-- The phases with the first antenna are 0. -/
theorem bv_zero {N : Nat} {B : List Int} (h : OkB N B) (j : Nat) (hj : j < N - 1) : ((bvL N B).getD j (0, 0)).2 = 0 := by
  have h7 := h.hi
  have hb := bt_all N (by omega) 0 (by have := h.lo; omega) (j + 1) (by omega) (by omega)
  have e : bt N 0 (j + 1) = j := by unfold bt; simp
  have hm := mk_at N h7 (bvF N B) 0 (j + 1) (by omega) (by omega)
  rw [e] at hm
  rw [bvL, List.getD_eq_getElem?_getD, hm]
  simp [bvF, bget]

end Go.Proofs.Ytjpklbkeofjppaa.Vm
