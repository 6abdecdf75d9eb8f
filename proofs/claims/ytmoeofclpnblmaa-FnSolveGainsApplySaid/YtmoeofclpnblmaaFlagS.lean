/- Plain laws on the states of solving phases: known antennas, their phases, the queue. No program in sight. -/
import Derived.Test.YtmoeofclpnblmaaFlagM2
namespace Go.Proofs.Ytmoeofclpnblmaa.Vm

def kf (K : List Bool) (j : Nat) : Bool := K.getD j false
def pf (P : List Int) (j : Nat) : Int := P.getD j 0
theorem kf_lt {K : List Bool} {j : Nat} (h : kf K j = true) : j < K.length := by
  unfold kf at h
  rcases Nat.lt_or_ge j K.length with hl | hl
  · exact hl
  · rw [List.getD_eq_getElem?_getD, List.getElem?_eq_none hl] at h; cases h
theorem kf_set {K : List Bool} {j : Nat} (hj : j < K.length) (x : Bool) (i : Nat) : kf (K.set j x) i = if i = j then x else kf K i := by
  unfold kf
  rw [List.getD_eq_getElem?_getD, List.getD_eq_getElem?_getD]
  split
  · rename_i e; subst e; rw [List.getElem?_set_self hj]; rfl
  · rename_i e; rw [List.getElem?_set_ne (fun h => e h.symm)]
theorem pf_set {P : List Int} {j : Nat} (hj : j < P.length) (x : Int) (i : Nat) : pf (P.set j x) i = if i = j then x else pf P i := by
  unfold pf
  rw [List.getD_eq_getElem?_getD, List.getD_eq_getElem?_getD]
  split
  · rename_i e; subst e; rw [List.getElem?_set_self hj]; rfl
  · rename_i e; rw [List.getElem?_set_ne (fun h => e h.symm)]

/-- The state: known antennas have the phases of a way from the least antenna; who is known and no longer in the queue has told its neighbours. -/
structure St (n : Nat) (e : Nat → Nat → Bool) (t : Nat → Nat → Int) (K : List Bool) (P : List Int) (Q : List Nat) : Prop where
  kl : K.length = n
  pl : P.length = n
  val : ∀ j, kf K j = true → Val e t j (pf P j)
  zero : ∀ j, kf K j = false → pf P j = 0
  queue : ∀ j ∈ Q, kf K j = true
  done : ∀ i j, kf K i = true → i ∉ Q → e i j = true → kf K j = true ∧ pf P j = (pf P i + t i j) % 360
section
variable {n : Nat} {e : Nat → Nat → Bool} {t : Nat → Nat → Int} {K : List Bool} {P : List Int} {Q : List Nat}
theorem kf_rep (n j : Nat) : kf (List.replicate n false) j = false := by
  unfold kf; rw [List.getD_eq_getElem?_getD, List.getElem?_replicate]; split <;> rfl
theorem pf_rep (n j : Nat) : pf (List.replicate n 0) j = 0 := by
  unfold pf; rw [List.getD_eq_getElem?_getD, List.getElem?_replicate]; split <;> rfl
theorem St.start (n : Nat) (e : Nat → Nat → Bool) (t : Nat → Nat → Int) : St n e t (List.replicate n false) (List.replicate n 0) [] :=
  ⟨by simp, by simp, fun j h => (by rw [kf_rep] at h; cases h), fun j _ => pf_rep n j, fun _ h => (by cases h), fun i j h => (by rw [kf_rep] at h; cases h)⟩
theorem St.rng (h : St n e t K P Q) (j : Nat) : 0 ≤ pf P j ∧ pf P j < 360 := by
  cases hk : kf K j
  · rw [h.zero j hk]; omega
  · exact (h.val j hk).rng
theorem St.shut (h : St n e t K P []) : Shut e (kf K) := fun i j hi he => (h.done i j hi (by simp) he).1
theorem St.least (hN : Net n e t) (h : St n e t K P []) {s : Nat} (hlt : ∀ i, i < s → kf K i = true) (hs : kf K s = false) : Least e s := least_next hN h.shut hlt hs
/-- A new start. -/
theorem St.root (h : St n e t K P []) {s : Nat} (hsn : s < n) (hl : Least e s) (hs : kf K s = false) : St n e t (K.set s true) P [s] := by
  have hk := fun i => kf_set (K := K) (j := s) (by rw [h.kl]; exact hsn) true i
  refine ⟨by simpa using h.kl, h.pl, fun j hj => ?_, fun j hj => ?_, fun j hj => ?_, fun i j hi hq he => ?_⟩
  · rw [hk] at hj
    split at hj
    · rename_i e1; subst e1; rw [h.zero j hs]; exact .root hl
    · exact h.val j hj
  · rw [hk] at hj
    split at hj
    · cases hj
    · exact h.zero j hj
  · simp at hj; subst hj; rw [hk, if_pos rfl]
  · rw [hk] at hi
    split at hi
    · rename_i e1; subst e1; simp at hq
    · obtain ⟨a, b⟩ := h.done i j hi (by simp) he
      refine ⟨?_, b⟩
      rw [hk]; split
      · rfl
      · exact a
/-- The head of the queue has told those below j. -/
def Told (e : Nat → Nat → Bool) (t : Nat → Nat → Int) (K : List Bool) (P : List Int) (i j : Nat) : Prop := ∀ j', j' < j → e i j' = true → kf K j' = true ∧ pf P j' = (pf P i + t i j') % 360
theorem Told.zero (e : Nat → Nat → Bool) (t : Nat → Nat → Int) (K : List Bool) (P : List Int) (i : Nat) : Told e t K P i 0 := fun _ h => absurd h (by omega)
theorem Told.skip {i j : Nat} (h : Told e t K P i j) (he : e i j = false) : Told e t K P i (j + 1) := fun j' hj' he' => by
  by_cases e1 : j' = j
  · subst e1; rw [he] at he'; cases he'
  · exact h j' (by omega) he'
theorem Told.same {i j : Nat} (h : Told e t K P i j) (hk : kf K j = true) (hp : pf P j = (pf P i + t i j) % 360) : Told e t K P i (j + 1) := fun j' hj' he' => by
  by_cases e1 : j' = j
  · subst e1; exact ⟨hk, hp⟩
  · exact h j' (by omega) he'
/-- One antenna more. -/
theorem St.more {i j : Nat} (h : St n e t K P Q) (hi : kf K i = true) (hj : j < n) (he : e i j = true) (hk : kf K j = false) : St n e t (K.set j true) (P.set j ((pf P i + t i j) % 360)) (Q ++ [j]) := by
  have hK := fun q => kf_set (K := K) (j := j) (by rw [h.kl]; exact hj) true q
  have hP := fun q => pf_set (P := P) (j := j) (by rw [h.pl]; exact hj) ((pf P i + t i j) % 360) q
  refine ⟨by simpa using h.kl, by simpa using h.pl, fun q hq => ?_, fun q hq => ?_, fun q hq => ?_, fun a b ha hq hab => ?_⟩
  · rw [hK] at hq; rw [hP]
    split
    · rename_i e1; subst e1; exact (h.val i hi).step he
    · rename_i e1; rw [if_neg e1] at hq; exact h.val q hq
  · rw [hK] at hq; rw [hP]
    split
    · rename_i e1; rw [if_pos e1] at hq; cases hq
    · rename_i e1; rw [if_neg e1] at hq; exact h.zero q hq
  · rw [hK]
    split
    · rfl
    · rename_i e1
      rcases List.mem_append.1 hq with hq | hq
      · exact h.queue q hq
      · simp at hq; exact absurd hq e1
  · rw [List.mem_append, not_or] at hq
    have ne : a ≠ j := by simpa using hq.2
    rw [hK, if_neg ne] at ha
    obtain ⟨c, d⟩ := h.done a b ha hq.1 hab
    have nb : b ≠ j := fun e1 => by subst e1; rw [hk] at c; cases c
    rw [hK, hP, hP, if_neg nb, if_neg nb, if_neg ne]
    exact ⟨c, d⟩
theorem Told.more {i j : Nat} (h : Told e t K P i j) (hKl : j < K.length) (hPl : j < P.length) (hi : kf K i = true) (hk : kf K j = false) : Told e t (K.set j true) (P.set j ((pf P i + t i j) % 360)) i (j + 1) := fun j' hj' he' => by
  have ne : i ≠ j := fun e1 => by subst e1; rw [hi] at hk; cases hk
  rw [kf_set hKl, pf_set hPl, pf_set hPl, if_neg ne]
  by_cases e1 : j' = j
  · subst e1; rw [if_pos rfl, if_pos rfl]; exact ⟨rfl, rfl⟩
  · rw [if_neg e1, if_neg e1]; exact h j' (by omega) he'
theorem St.pop (hN : Net n e t) {i : Nat} (h : St n e t K P (i :: Q)) (ht : Told e t K P i n) : St n e t K P Q := by
  refine ⟨h.kl, h.pl, h.val, h.zero, fun j hj => h.queue j (by simp [hj]), fun a b ha hq he => ?_⟩
  by_cases e1 : a = i
  · subst e1; exact ht b (hN.rng _ _ he).2 he
  · exact h.done a b ha (by simp [e1, hq]) he
theorem St.bad (hN : Net n e t) {i j : Nat} (h : St n e t K P Q) (hi : kf K i = true) (hj : kf K j = true) (he : e i j = true) (hne : pf P j ≠ (pf P i + t i j) % 360) : ¬ ∃ f, Pot e t f := no_pot hN (h.val i hi) (h.val j hj) he hne
theorem St.all (h : St n e t K P []) (hk : ∀ j, j < n → kf K j = true) : (∀ j, j < n → Val e t j (pf P j)) ∧ ∀ (_ : Net n e t), Pot e t (pf P) :=
  ⟨fun j hj => h.val j (hk j hj), fun hN i j he => by have := (h.done i j (hk i (hN.rng _ _ he).1) (by simp) he).2; omega⟩
/-- How many are not yet known, and how many wait. -/
def left (n : Nat) (K : List Bool) (Q : List Nat) : Nat := n - cnt n (kf K) + Q.length
theorem left_more {j : Nat} (hl : K.length = n) (hj : j < n) (hk : kf K j = false) : left n (K.set j true) (Q ++ [j]) ≤ left n K Q := by
  have h1 := cnt_lt n (kf K) (kf (K.set j true)) (fun i _ hi => by rw [kf_set (by omega)]; split <;> simp_all) j hj hk (by rw [kf_set (by omega), if_pos rfl])
  have h2 := cnt_le n (kf (K.set j true))
  simp only [left, List.length_append, List.length_cons, List.length_nil]
  omega
theorem left_bd (n : Nat) (K : List Bool) (s : Nat) : left n K [s] ≤ n + 1 := by simp only [left, List.length_cons, List.length_nil]; omega
theorem left_pop (n : Nat) (K : List Bool) (i : Nat) (Q : List Nat) : left n K Q + 1 = left n K (i :: Q) := by simp only [left, List.length_cons]; omega
end

/-! ## The reference's way: rounds of spreading. -/
structure Sp (n : Nat) (e : Nat → Nat → Bool) (t : Nat → Nat → Int) (K : List Bool) (P : List Int) : Prop where
  kl : K.length = n
  pl : P.length = n
  val : ∀ j, kf K j = true → Val e t j (pf P j)
  zero : ∀ j, kf K j = false → pf P j = 0
section
variable {n : Nat} {e : Nat → Nat → Bool} {t : Nat → Nat → Int} {K K0 : List Bool} {P : List Int}
theorem Sp.start (n : Nat) (e : Nat → Nat → Bool) (t : Nat → Nat → Int) : Sp n e t (List.replicate n false) (List.replicate n 0) := ⟨by simp, by simp, fun j h => (by rw [kf_rep] at h; cases h), fun j _ => pf_rep n j⟩
theorem shut_start (n : Nat) (e : Nat → Nat → Bool) : Shut e (kf (List.replicate n false)) := fun i j h => by rw [kf_rep] at h; cases h
theorem Sp.rng (h : Sp n e t K P) (j : Nat) : 0 ≤ pf P j ∧ pf P j < 360 := by
  cases hk : kf K j
  · rw [h.zero j hk]; omega
  · exact (h.val j hk).rng
theorem Sp.root (hN : Net n e t) (h : Sp n e t K P) (hsh : Shut e (kf K)) {s : Nat} (hsn : s < n) (hlt : ∀ i, i < s → kf K i = true) : Sp n e t (K.set s true) P ∧ Rnd n e 0 (kf (K.set s true)) ∧ kf (K.set s true) s = true ∧ ∀ i, kf K i = true → kf (K.set s true) i = true := by
  have hk := fun i => kf_set (K := K) (j := s) (by rw [h.kl]; exact hsn) true i
  have h1 : kf (K.set s true) s = true := by rw [hk, if_pos rfl]
  refine ⟨⟨by simpa using h.kl, h.pl, fun j hj => ?_, fun j hj => ?_⟩, .inr (cnt_pos n _ s hsn h1), h1, fun i hi => ?_⟩
  · cases hks : kf K s
    · rw [hk] at hj
      split at hj
      · rename_i e1; subst e1; rw [h.zero j hks]; exact .root (least_next hN hsh hlt hks)
      · exact h.val j hj
    · refine h.val j ?_
      rw [hk] at hj
      split at hj
      · rename_i e1; subst e1; exact hks
      · exact hj
  · rw [hk] at hj
    split at hj
    · cases hj
    · exact h.zero j hj
  · rw [hk]; split
    · rfl
    · exact hi
/-- One round of spreading has come to i, j. -/
structure Spd (e : Nat → Nat → Bool) (K0 K : List Bool) (i j : Nat) : Prop where
  more : ∀ a, kf K0 a = true → kf K a = true
  next : ∀ a b, (a < i ∨ (a = i ∧ b < j)) → kf K0 a = true → e a b = true → kf K b = true
  from_ : ∀ b, kf K b = true → ∃ a, kf K0 a = true ∧ Conn e a b
theorem Spd.start (e : Nat → Nat → Bool) (K : List Bool) : Spd e K K 0 0 := ⟨fun _ h => h, fun a b h => absurd h (by omega), fun b h => ⟨b, h, .refl _⟩⟩
theorem Spd.row {i : Nat} (hN : Net n e t) (h : Spd e K0 K i n) : Spd e K0 K (i + 1) 0 := ⟨h.more, fun a b hab h0 he => h.next a b (by have := (hN.rng _ _ he).2; omega) h0 he, h.from_⟩
theorem Spd.skip {i j : Nat} (h : Spd e K0 K i j) (hs : e i j = true → kf K i = true → kf K j = true) : Spd e K0 K i (j + 1) :=
  ⟨h.more, fun a b hab h0 he => by
    by_cases c : a = i ∧ b = j
    · obtain ⟨rfl, rfl⟩ := c
      exact hs he (h.more _ h0)
    · exact h.next a b (by omega) h0 he, h.from_⟩
theorem Spd.set {i j : Nat} (h : Spd e K0 K i j) (hj : j < K.length) (hi : kf K i = true) (he : e i j = true) : Spd e K0 (K.set j true) i (j + 1) := by
  have hk := fun q => kf_set (K := K) (j := j) hj true q
  have up : ∀ q, kf K q = true → kf (K.set j true) q = true := fun q hq => by rw [hk]; split <;> simp_all
  refine ⟨fun a ha => up a (h.more a ha), fun a b hab h0 hab2 => ?_, fun b hb => ?_⟩
  · by_cases c : b = j
    · subst c; rw [hk, if_pos rfl]
    · exact up b (h.next a b (by omega) h0 hab2)
  · rw [hk] at hb
    split at hb
    · rename_i e1; subst e1
      obtain ⟨a, h0, hc⟩ := h.from_ i hi
      exact ⟨a, h0, hc.step he⟩
    · exact h.from_ b hb
theorem Spd.spr (hN : Net n e t) {j : Nat} (h : Spd e K0 K n j) : Spr e (kf K0) (kf K) := ⟨h.more, fun i j h0 he => h.next i j (.inl (hN.rng _ _ he).1) h0 he, h.from_⟩
theorem Sp.set {i j : Nat} (h : Sp n e t K P) (hi : kf K i = true) (hj : j < n) (he : e i j = true) : Sp n e t (K.set j true) (P.set j ((pf P i + t i j) % 360)) := by
  have hK := fun q => kf_set (K := K) (j := j) (by rw [h.kl]; exact hj) true q
  have hP := fun q => pf_set (P := P) (j := j) (by rw [h.pl]; exact hj) ((pf P i + t i j) % 360) q
  refine ⟨by simpa using h.kl, by simpa using h.pl, fun q hq => ?_, fun q hq => ?_⟩
  · rw [hK] at hq; rw [hP]
    split
    · rename_i e1; subst e1; exact (h.val i hi).step he
    · rename_i e1; rw [if_neg e1] at hq; exact h.val q hq
  · rw [hK] at hq; rw [hP]
    split
    · rename_i e1; rw [if_pos e1] at hq; cases hq
    · rename_i e1; rw [if_neg e1] at hq; exact h.zero q hq
end

/-- What both ways come to. -/
theorem res_yes {N : Nat} {L M : List V} {F : List Bool} {P : List Int} (hL : Ok N L) (hM : Ok N M) (hF : F.length = N * (N - 1) / 2) (hp : P.length = N) (hv : ∀ j, j < N → Val (fe N F) (ft N L M) j (pf P j)) (hpot : Pot (fe N F) (ft N L M) (pf P)) : FlagRes N L M F true P := by
  have hm := bmany_nat N ((manyB_iff _).2 (by have := hL.lo; have := hL.hi; omega))
  exact .inl ⟨rfl, ⟨hL.to, hM.to, by omega, _, by rw [Int.toNat_natCast]; exact hpot⟩, by rw [Int.toNat_natCast]; exact ⟨hp, hv⟩⟩
theorem res_no {N : Nat} {L M : List V} {F : List Bool} (h : ¬ ∃ f, Pot (fe N F) (ft N L M) f) : FlagRes N L M F false [] := .inr ⟨rfl, fun hk => h (by have := hk.2.2.2; rwa [Int.toNat_natCast] at this), rfl⟩
theorem res_no1 {n : Int} {L M : List V} {F : List Bool} (h : visB n L = false) : FlagRes n L M F false [] := .inr ⟨rfl, fun hk => (by rw [hk.1] at h; cases h), rfl⟩
theorem res_no2 {n : Int} {L M : List V} {F : List Bool} (h : visB n M = false) : FlagRes n L M F false [] := .inr ⟨rfl, fun hk => (by rw [hk.2.1] at h; cases h), rfl⟩
theorem res_no3 {n : Int} {L M : List V} {F : List Bool} (h : ¬ (F.length : Int) = bmany n) : FlagRes n L M F false [] := .inr ⟨rfl, fun hk => h hk.2.2.1, rfl⟩
theorem pot_fits {n : Nat} {e : Nat → Nat → Bool} {t : Nat → Nat → Int} (hN : Net n e t) {P : Nat → Int} (h : ∀ i j, i < j → j < n → e i j = true → (P j - P i - t i j) % 360 = 0) (hne : ∀ i j, e i j = true → i ≠ j) : Pot e t P := fun i j he => by
  have hr := hN.rng _ _ he
  have hn := hne _ _ he
  rcases Nat.lt_or_gt_of_ne hn with hh | hh
  · exact h i j hh hr.2 he
  · have a := h j i hh hr.1 (hN.symm _ _ he)
    have b := hN.anti _ _ he
    omega
end Go.Proofs.Ytmoeofclpnblmaa.Vm
