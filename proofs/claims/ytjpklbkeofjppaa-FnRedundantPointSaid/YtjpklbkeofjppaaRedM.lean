/- Plain laws on redundant baselines: the vectors of an array, the least baseline with the same or the opposite vector. No program in sight. -/
import Derived.Test.YtjpklbkeofjppaaPointM
namespace Go.Proofs.Ytjpklbkeofjppaa.Vm

/-- The vector of a baseline. -/
def vec (L : List V) (x : Nat × Nat) : V := ((aat L x.2).1 - (aat L x.1).1, (aat L x.2).2 - (aat L x.1).2)
def neg (v : V) : V := (-v.1, -v.2)
/-- Equal or opposite vectors. -/
def rel (a b : V) : Bool := decide (b = a) || decide (b = neg a)
theorem neg_neg (v : V) : neg (neg v) = v := by simp [neg]
theorem rel_iff (a b : V) : rel a b = true ↔ b = a ∨ b = neg a := by simp [rel]
theorem rel_self (a : V) : rel a a = true := (rel_iff _ _).2 (Or.inl rfl)
theorem rel_symm {a b : V} (h : rel a b = true) : rel b a = true := by
  rcases (rel_iff _ _).1 h with rfl | rfl
  · exact rel_self _
  · exact (rel_iff _ _).2 (Or.inr (neg_neg a).symm)
theorem rel_comm (a b : V) : rel a b = rel b a := by
  rw [Bool.eq_iff_iff]
  exact ⟨rel_symm, rel_symm⟩
theorem rel_trans {a b c : V} (h : rel a b = true) (k : rel b c = true) : rel a c = true := by
  rcases (rel_iff _ _).1 h with rfl | rfl
  · exact k
  · rcases (rel_iff _ _).1 k with rfl | rfl
    · exact h
    · rw [neg_neg]; exact rel_self _
theorem rel_neg (a b : V) : rel (neg a) b = rel a b := by
  rw [rel, rel, neg_neg, Bool.or_comm]
/-- The vectors of all baselines in order. -/
def vecs (L : List V) : List V := (basesL L.length).map (vec L)
/-- The first of some vectors that is equal or opposite. -/
def fst (vs : List V) (v : V) : Nat := vs.findIdx (rel v)
def grpL (L : List V) : List Int := if arrB L then (vecs L).map fun v => (fst (vecs L) v : Int) else []
theorem grpL_yes {L : List V} (h : arrB L = true) : grpL L = (vecs L).map fun v => (fst (vecs L) v : Int) := if_pos h
theorem grpL_no {L : List V} (h : arrB L = false) : grpL L = [] := by rw [grpL, h]; rfl
theorem fst_neg (vs : List V) (v : V) : fst vs (neg v) = fst vs v := by
  unfold fst
  congr 1
  funext b
  exact rel_neg v b
/-- How many entries of a list are their own numbers. -/
def own (G : List Int) : Nat → Nat
  | 0 => 0
  | k + 1 => own G k + if G.getD k (-1) = (k : Int) then 1 else 0
theorem own_le (G : List Int) (k : Nat) : own G k ≤ k := by
  induction k with
  | zero => exact Nat.le_refl _
  | succ k ih => simp only [own]; split <;> omega
def redN (L : List V) : Int := if arrB L then own (grpL L) (grpL L).length else -1
theorem redN_yes {L : List V} (h : arrB L = true) : redN L = own (grpL L) (grpL L).length := if_pos h
theorem redN_no {L : List V} (h : arrB L = false) : redN L = -1 := by rw [redN, h]; rfl
theorem vecs_len {L : List V} (h : L.length ≤ 7) : (vecs L).length = L.length * (L.length - 1) / 2 := by
  rw [vecs, List.length_map, (bt_zero_all L.length (by omega)).2.1]
/-- The first that is equal or opposite lies in a prefix, if there is one there. -/
theorem fst_pre {vs ws : List V} {v : V} (h : vs.any (rel v) = true) : fst (vs ++ ws) v = fst vs v := by
  obtain ⟨x, hx, hr⟩ := List.any_eq_true.1 h
  unfold fst
  rw [List.findIdx_append, if_pos (List.findIdx_lt_length_of_exists ⟨x, hx, hr⟩)]
theorem fst_new {vs ws : List V} {v : V} (h : vs.any (rel v) = false) : fst (vs ++ v :: ws) v = vs.length := by
  unfold fst
  have e : vs.findIdx (rel v) = vs.length := by
    rw [List.findIdx_eq_length]
    exact fun x hx => by
      have := List.any_eq_false.1 h x hx
      simpa using this
  rw [List.findIdx_append, if_neg (by omega), List.findIdx_cons, rel_self]
  simp
theorem fst_lt {vs : List V} {v : V} (h : vs.any (rel v) = true) : fst vs v < vs.length := by
  obtain ⟨x, hx, hr⟩ := List.any_eq_true.1 h
  exact List.findIdx_lt_length_of_exists ⟨x, hx, hr⟩
theorem fst_le (vs : List V) (v : V) : fst vs v ≤ vs.length := List.findIdx_le_length
/-- What a map of the vectors so far knows: D v is the number of v, if it has come. -/
def knows (vs : List V) (f : V → Option Nat) : Prop := ∀ v, f v = if vs.any (rel v) then some (fst vs v) else none
theorem knows_nil : knows [] fun _ => none := fun _ => rfl
theorem knows_old {vs : List V} {f : V → Option Nat} (h : knows vs f) {x : V} (hx : vs.any (rel x) = true) : knows (vs ++ [x]) f := by
  intro v
  rw [h v]
  by_cases hv : vs.any (rel v) = true
  · rw [if_pos hv, if_pos (by rw [List.any_append, hv]; rfl), fst_pre hv]
  · rw [if_neg hv, if_neg]
    intro e
    rw [List.any_append, Bool.or_eq_true] at e
    rcases e with e | e
    · exact hv e
    · simp at e
      refine hv ?_
      obtain ⟨y, hy, hr⟩ := List.any_eq_true.1 hx
      exact List.any_eq_true.2 ⟨y, hy, rel_trans e hr⟩
theorem knows_new {vs : List V} {f g : V → Option Nat} (h : knows vs f) {x : V} (hx : vs.any (rel x) = false) (hg : ∀ v, g v = if rel x v then some vs.length else f v) : knows (vs ++ [x]) g := by
  intro v
  rw [hg v]
  by_cases hv : rel x v = true
  · have hvs : vs.any (rel v) = false := by
      rw [Bool.eq_false_iff]
      intro e
      obtain ⟨y, hy, hr⟩ := List.any_eq_true.1 e
      have := List.any_eq_false.1 hx y hy
      exact this (rel_trans hv hr)
    rw [if_pos hv, if_pos (by rw [List.any_append, Bool.or_eq_true]; right; simp [rel_symm hv])]
    have e : fst (vs ++ [x]) v = fst (vs ++ [x]) x := by
      rcases (rel_iff _ _).1 hv with rfl | rfl
      · rfl
      · exact fst_neg _ _
    rw [e, fst_new hx]
  · rw [if_neg hv, h v]
    have e : (vs ++ [x]).any (rel v) = vs.any (rel v) := by
      rw [List.any_append]
      have : [x].any (rel v) = false := by
        rw [Bool.eq_false_iff]
        intro e
        simp at e
        exact hv (rel_symm e)
      rw [this, Bool.or_false]
    rw [e]
    by_cases hv2 : vs.any (rel v) = true
    · rw [if_pos hv2, if_pos hv2, fst_pre hv2]
    · rw [if_neg hv2, if_neg hv2]
/-- The numbers so far. -/
def grpK (vs : List V) : List Int := vs.map fun v => (fst vs v : Int)
theorem grpK_step (vs : List V) (x : V) : grpK (vs ++ [x]) = grpK vs ++ [if vs.any (rel x) then (fst vs x : Int) else (vs.length : Int)] := by
  unfold grpK
  rw [List.map_append]
  congr 1
  · refine List.map_congr_left fun v hv => ?_
    rw [fst_pre (List.any_eq_true.2 ⟨v, hv, rel_self v⟩)]
  · simp only [List.map_cons, List.map_nil]
    by_cases h : vs.any (rel x) = true
    · rw [if_pos h, fst_pre h]
    · rw [if_neg h, fst_new (by simpa using h)]
/-- A vector's bounds. -/
theorem vec_bd {L : List V} (h : arrB L = true) {x : Nat × Nat} (h1 : x.1 < L.length) (h2 : x.2 < L.length) : (-2000 ≤ (vec L x).1 ∧ (vec L x).1 ≤ 2000) ∧ -2000 ≤ (vec L x).2 ∧ (vec L x).2 ≤ 2000 := by
  obtain ⟨a, b⟩ := arr_place h (i := (x.1 : Int)) ⟨by omega, by omega⟩
  obtain ⟨c, d⟩ := arr_place h (i := (x.2 : Int)) ⟨by omega, by omega⟩
  unfold vec
  simp only
  omega
/-- An order of numbers that count the baselines that are first. -/
theorem vecs_get {L : List V} {k : Nat} {x : Nat × Nat} (h : (basesL L.length)[k]? = some x) : (vecs L)[k]? = some (vec L x) := by
  rw [vecs, List.getElem?_map, h]; rfl
theorem vec_neg (L : List V) (x : Nat × Nat) : vec L (x.2, x.1) = neg (vec L x) := by
  refine Prod.ext ?_ ?_
  · show (aat L x.1).1 - (aat L x.2).1 = -((aat L x.2).1 - (aat L x.1).1); omega
  · show (aat L x.1).2 - (aat L x.2).2 = -((aat L x.2).2 - (aat L x.1).2); omega
end Go.Proofs.Ytjpklbkeofjppaa.Vm
