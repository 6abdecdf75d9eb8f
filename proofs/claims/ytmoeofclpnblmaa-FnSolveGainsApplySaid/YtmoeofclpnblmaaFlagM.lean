/- Plain laws on phases that follow along baselines. No program in sight. -/
import Derived.Test.YtmoeofclpnblmaaCloM
namespace Go.Proofs.Ytmoeofclpnblmaa.Vm

/-- Edges between antennas, and what each adds to a phase. -/
structure Net (n : Nat) (e : Nat → Nat → Bool) (t : Nat → Nat → Int) : Prop where
  symm : ∀ i j, e i j = true → e j i = true
  anti : ∀ i j, e i j = true → (t i j + t j i) % 360 = 0
  rng : ∀ i j, e i j = true → i < n ∧ j < n
inductive Conn (e : Nat → Nat → Bool) : Nat → Nat → Prop
  | refl (i : Nat) : Conn e i i
  | step {i j k : Nat} : Conn e i j → e j k = true → Conn e i k
theorem Conn.trans {e : Nat → Nat → Bool} {i j k : Nat} (h : Conn e i j) (g : Conn e j k) : Conn e i k := by
  induction g with
  | refl => exact h
  | step _ he ih => exact ih.step he
theorem Conn.symm {n : Nat} {e : Nat → Nat → Bool} {t : Nat → Nat → Int} (hN : Net n e t) {i j : Nat} (h : Conn e i j) : Conn e j i := by
  induction h with
  | refl => exact .refl _
  | step _ he ih => exact ((Conn.refl _).step (hN.symm _ _ he)).trans ih
def Least (e : Nat → Nat → Bool) (r : Nat) : Prop := ∀ k, Conn e r k → r ≤ k
/-- A way from the least antenna of its group comes to j with the phase x. -/
inductive Val (e : Nat → Nat → Bool) (t : Nat → Nat → Int) : Nat → Int → Prop
  | root {r : Nat} : Least e r → Val e t r 0
  | step {i j : Nat} {x : Int} : Val e t i x → e i j = true → Val e t j ((x + t i j) % 360)
def Pot (e : Nat → Nat → Bool) (t : Nat → Nat → Int) (f : Nat → Int) : Prop := ∀ i j, e i j = true → (f j - f i - t i j) % 360 = 0
def Fit (e : Nat → Nat → Bool) (t : Nat → Nat → Int) (P : Nat → Int) : Prop := ∀ i j, e i j = true → P j = (P i + t i j) % 360
theorem Fit.pot {e : Nat → Nat → Bool} {t : Nat → Nat → Int} {P : Nat → Int} (h : Fit e t P) : Pot e t P := fun i j he => by
  have := h i j he
  omega
theorem Val.rng {e : Nat → Nat → Bool} {t : Nat → Nat → Int} {j : Nat} {x : Int} (h : Val e t j x) : 0 ≤ x ∧ x < 360 := by
  cases h with
  | root => omega
  | step => omega
theorem Val.pot {e : Nat → Nat → Bool} {t : Nat → Nat → Int} {f : Nat → Int} (hp : Pot e t f) {j : Nat} {x : Int} (h : Val e t j x) : ∃ r, Least e r ∧ Conn e r j ∧ (x - (f j - f r)) % 360 = 0 := by
  induction h with
  | root hr => exact ⟨_, hr, .refl _, by simp⟩
  | step _ he ih =>
    obtain ⟨r, hr, hc, hx⟩ := ih
    have := hp _ _ he
    exact ⟨r, hr, hc.step he, by omega⟩
theorem least_one {n : Nat} {e : Nat → Nat → Bool} {t : Nat → Nat → Int} (hN : Net n e t) {r s j : Nat} (hr : Least e r) (hs : Least e s) (h1 : Conn e r j) (h2 : Conn e s j) : r = s := by
  have a := hr s (h1.trans (h2.symm hN))
  have b := hs r (h2.trans (h1.symm hN))
  omega
theorem Val.one {n : Nat} {e : Nat → Nat → Bool} {t : Nat → Nat → Int} (hN : Net n e t) {f : Nat → Int} (hp : Pot e t f) {j : Nat} {x y : Int} (h : Val e t j x) (g : Val e t j y) : x = y := by
  obtain ⟨r, hr, hc, hx⟩ := h.pot hp
  obtain ⟨s, hs, hd, hy⟩ := g.pot hp
  obtain rfl := least_one hN hr hs hc hd
  have a := h.rng
  have b := g.rng
  omega
/-- A step that does not fit: nothing fits. -/
theorem no_pot {n : Nat} {e : Nat → Nat → Bool} {t : Nat → Nat → Int} (hN : Net n e t) {i j : Nat} {x y : Int} (hi : Val e t i x) (hj : Val e t j y) (he : e i j = true) (hne : y ≠ (x + t i j) % 360) : ¬ ∃ f, Pot e t f := fun ⟨_, hp⟩ => hne (Val.one hN hp hj (hi.step he))
/-- Where all is known, and something fits, what is known fits. -/
theorem fit_of_pot {n : Nat} {e : Nat → Nat → Bool} {t : Nat → Nat → Int} (hN : Net n e t) {f P : Nat → Int} (hp : Pot e t f) (h : ∀ j, j < n → Val e t j (P j)) : Fit e t P := fun i j he =>
  Val.one hN hp (h j (hN.rng _ _ he).2) ((h i (hN.rng _ _ he).1).step he)
/-- What is known is closed, and all lesser ones are known: the next one is the least of its group. -/
theorem least_next {n : Nat} {e : Nat → Nat → Bool} {t : Nat → Nat → Int} (hN : Net n e t) {K : Nat → Bool} (hcl : ∀ i j, K i = true → e i j = true → K j = true) {s : Nat} (hlt : ∀ i, i < s → K i = true) (hs : K s = false) : Least e s := fun k hk => by
  apply Classical.byContradiction
  intro hc
  have h0 : K k = true := hlt k (by omega)
  have : ∀ a b, Conn e a b → K a = true → K b = true := fun a b hab => by
    induction hab with
    | refl => exact id
    | step _ he ih => exact fun h => hcl _ _ (ih h) he
  have := this k s (hk.symm hN) h0
  rw [hs] at this
  cases this

/-- How many of the first n are known. -/
def cnt : Nat → (Nat → Bool) → Nat
  | 0, _ => 0
  | n + 1, K => cnt n K + if K n then 1 else 0
theorem cnt_le (n : Nat) (K : Nat → Bool) : cnt n K ≤ n := by
  induction n with
  | zero => exact Nat.le_refl _
  | succ n ih => simp only [cnt]; split <;> omega
theorem cnt_mono (n : Nat) (K K' : Nat → Bool) (h : ∀ i, i < n → K i = true → K' i = true) : cnt n K ≤ cnt n K' := by
  induction n with
  | zero => exact Nat.le_refl _
  | succ n ih =>
    have h1 := ih (fun i hi => h i (by omega))
    have h2 := h n (by omega)
    simp only [cnt]
    cases hk : K n
    · simp; omega
    · rw [h2 hk]; omega
theorem cnt_lt (n : Nat) (K K' : Nat → Bool) (h : ∀ i, i < n → K i = true → K' i = true) (j : Nat) (hj : j < n) (h0 : K j = false) (h1 : K' j = true) : cnt n K < cnt n K' := by
  induction n with
  | zero => omega
  | succ n ih =>
    simp only [cnt]
    by_cases e : j = n
    · subst e
      have := cnt_mono j K K' (fun i hi => h i (by omega))
      rw [h0, h1]; simp; omega
    · have h1 := ih (fun i hi => h i (by omega)) (by omega)
      have h2 := h n (by omega)
      cases hk : K n
      · simp; omega
      · rw [h2 hk]; simp; omega
theorem cnt_pos (n : Nat) (K : Nat → Bool) (j : Nat) (hj : j < n) (h : K j = true) : 1 ≤ cnt n K := by
  have := cnt_lt n (fun _ => false) K (fun _ _ hh => by cases hh) j hj rfl h
  omega
def Shut (e : Nat → Nat → Bool) (K : Nat → Bool) : Prop := ∀ i j, K i = true → e i j = true → K j = true
/-- What one round of spreading does to what is known. -/
structure Spr (e : Nat → Nat → Bool) (K K' : Nat → Bool) : Prop where
  more : ∀ i, K i = true → K' i = true
  next : ∀ i j, K i = true → e i j = true → K' j = true
  from_ : ∀ j, K' j = true → ∃ i, K i = true ∧ Conn e i j
theorem Spr.shut {e : Nat → Nat → Bool} {K K' : Nat → Bool} (h : Spr e K K') (hs : Shut e K) : Shut e K' := by
  have key : ∀ j, K' j = true → K j = true := fun j hj => by
    obtain ⟨i, hi, hc⟩ := h.from_ j hj
    have : ∀ a b, Conn e a b → K a = true → K b = true := fun a b hab => by
      induction hab with
      | refl => exact id
      | step _ he ih => exact fun h => hs _ _ (ih h) he
    exact this i j hc hi
  exact fun i j hi he => h.next i j (key i hi) he
/-- After r rounds: all is reached, or r + 1 are known. -/
def Rnd (n : Nat) (e : Nat → Nat → Bool) (r : Nat) (K : Nat → Bool) : Prop := Shut e K ∨ r + 1 ≤ cnt n K
theorem Rnd.next {n : Nat} {e : Nat → Nat → Bool} {t : Nat → Nat → Int} (hN : Net n e t) {r : Nat} {K K' : Nat → Bool} (h : Rnd n e r K) (hs : Spr e K K') : Rnd n e (r + 1) K' := by
  rcases Classical.em (Shut e K) with hc | hc
  · exact .inl (hs.shut hc)
  · rcases h with h | h
    · exact absurd h hc
    · right
      have : ∃ i j, K i = true ∧ e i j = true ∧ K j = false := by
        apply Classical.byContradiction
        intro hno
        refine hc fun i j hi he => ?_
        cases hk : K j
        · exact absurd ⟨i, j, hi, he, hk⟩ hno
        · rfl
      obtain ⟨i, j, hi, he, hk⟩ := this
      have := cnt_lt n K K' (fun i _ => hs.more i) j (hN.rng _ _ he).2 hk (hs.next i j hi he)
      omega
theorem Rnd.done {n : Nat} {e : Nat → Nat → Bool} {K : Nat → Bool} (h : Rnd n e n K) : Shut e K := by
  rcases h with h | h
  · exact h
  · have := cnt_le n K
    omega

/-- The baselines that are not bad, and what they say. -/
def fe (n : Nat) (F : List Bool) (i j : Nat) : Bool := decide (i < n) && decide (j < n) && !decide (i = j) && !F.getD (bidx n i j).toNat false
def ft (n : Nat) (L M : List V) (i j : Nat) : Int := ph n L i j - ph n M i j
theorem fe_iff (n : Nat) (F : List Bool) (i j : Nat) : fe n F i j = true ↔ i < n ∧ j < n ∧ i ≠ j ∧ F.getD (bidx n i j).toNat false = false := by
  simp [fe, and_assoc]
theorem bidx_symm {n i j : Nat} (h2 : 2 ≤ n) (h7 : n ≤ 7) (hi : i < n) (hj : j < n) (hne : i ≠ j) : bidx n j i = bidx n i j :=
  (bidx_bd (n := n) (by omega) (by omega) (by omega) (by omega)).2.2
theorem flag_net {n : Nat} {L M : List V} (F : List Bool) (hL : Ok n L) (hM : Ok n M) : Net n (fe n F) (ft n L M) := by
  refine ⟨fun i j h => ?_, fun i j h => ?_, fun i j h => ?_⟩
  · obtain ⟨h1, h2, h3, h4⟩ := (fe_iff _ _ _ _).1 h
    exact (fe_iff _ _ _ _).2 ⟨h2, h1, fun e => h3 e.symm, by rw [bidx_symm hL.lo hL.hi h1 h2 h3]; exact h4⟩
  · obtain ⟨h1, h2, h3, h4⟩ := (fe_iff _ _ _ _).1 h
    have a := hL.anti (i := i) (j := j) (by omega) (by omega) (by omega)
    have b := hM.anti (i := i) (j := j) (by omega) (by omega) (by omega)
    unfold ft ph
    rw [a, b]
    show ((vget n L i j).2 - (vget n M i j).2 + ((-(vget n L i j).2) % 360 - (-(vget n M i j).2) % 360)) % 360 = 0
    omega
  · obtain ⟨h1, h2, _⟩ := (fe_iff _ _ _ _).1 h
    exact ⟨h1, h2⟩
def FlagOk (n : Int) (L M : List V) (F : List Bool) : Prop := visB n L = true ∧ visB n M = true ∧ (F.length : Int) = bmany n ∧ ∃ f, Pot (fe n.toNat F) (ft n.toNat L M) f
def FlagVal (n : Nat) (L M : List V) (F : List Bool) (P : List Int) : Prop := P.length = n ∧ ∀ j, j < n → Val (fe n F) (ft n L M) j (P.getD j 0)
/-- What solving comes to. -/
def FlagRes (n : Int) (L M : List V) (F : List Bool) (ok : Bool) (P : List Int) : Prop := (ok = true ∧ FlagOk n L M F ∧ FlagVal n.toNat L M F P) ∨ (ok = false ∧ ¬ FlagOk n L M F ∧ P = [])
theorem FlagOk.net {n : Int} {L M : List V} {F : List Bool} (h : FlagOk n L M F) : ∃ N : Nat, n = N ∧ Ok N L ∧ Ok N M ∧ F.length = N * (N - 1) / 2 ∧ Net N (fe N F) (ft N L M) ∧ ∃ f, Pot (fe N F) (ft N L M) f := by
  obtain ⟨h1, h2, h3, h4⟩ := h
  obtain ⟨N, rfl, hL⟩ := Ok.of h1
  obtain ⟨N', e, hM⟩ := Ok.of h2
  obtain rfl : N = N' := by omega
  have := bmany_nat N ((manyB_iff _).2 (by have := hL.lo; have := hL.hi; omega))
  refine ⟨N, rfl, hL, hM, by omega, flag_net F hL hM, by simpa using h4⟩
theorem flag_one {n : Int} {L M : List V} {F : List Bool} {ok ok' : Bool} {P P' : List Int} (h : FlagRes n L M F ok P) (h' : FlagRes n L M F ok' P') : ok = ok' ∧ P = P' := by
  rcases h with ⟨rfl, h1, h2⟩ | ⟨rfl, h1, rfl⟩ <;> rcases h' with ⟨rfl, h3, h4⟩ | ⟨rfl, h3, rfl⟩
  · refine ⟨rfl, ?_⟩
    obtain ⟨N, rfl, hL, hM, _, hN, f, hp⟩ := h1.net
    rw [Int.toNat_natCast] at h2 h4
    apply List.ext_getElem
    · rw [h2.1, h4.1]
    · intro j hj hj'
      have a := h2.2 j (by rw [← h2.1]; exact hj)
      have b := h4.2 j (by rw [← h2.1]; exact hj)
      have := Val.one hN hp a b
      simpa [hj, hj'] using this
  · exact absurd h1 h3
  · exact absurd h3 h1
  · exact ⟨rfl, rfl⟩
/-- Fewer baselines are solved, too. -/
theorem flag_more {n : Int} {L M : List V} {F F' : List Bool} (h : FlagOk n L M F) (hl : F'.length = F.length) (hF : ∀ k : Nat, F.getD k false = true → F'.getD k false = true) : FlagOk n L M F' := by
  obtain ⟨h1, h2, h3, f, h4⟩ := h
  refine ⟨h1, h2, by rw [hl]; exact h3, f, fun i j he => h4 i j ?_⟩
  obtain ⟨a, b, c, d⟩ := (fe_iff _ _ _ _).1 he
  refine (fe_iff _ _ _ _).2 ⟨a, b, c, ?_⟩
  cases hk : F.getD (bidx n.toNat i j).toNat false
  · rfl
  · rw [hF _ hk] at d; cases d

end Go.Proofs.Ytmoeofclpnblmaa.Vm
