/- Plain laws on solving phases, continued: gains, one wrong phase. No program in sight. -/
import Derived.Test.YtmoeofclpnblmaaFlagM
import Derived.Test.YtmoeofclpnblmaaGainM
namespace Go.Proofs.Ytmoeofclpnblmaa.Vm

/-- No baseline is bad. -/
def noF (m : Nat) : List Bool := List.replicate m false
theorem noF_get (m k : Nat) : (noF m).getD k false = false := by
  unfold noF
  rw [List.getD_eq_getElem?_getD, List.getElem?_replicate]
  split <;> rfl
theorem fe_none {n i j : Nat} (m : Nat) (hi : i < n) (hj : j < n) (hne : i ≠ j) : fe n (noF m) i j = true := (fe_iff _ _ _ _).2 ⟨hi, hj, hne, noF_get m _⟩
theorem least_zero (e : Nat → Nat → Bool) : Least e 0 := fun _ _ => Nat.zero_le _
/-- Where no baseline is bad, the baselines of the first antenna tell all. -/
theorem val_none {n m : Nat} {L M : List V} {j : Nat} (hn : 0 < n) (hj : j < n) (h0 : 0 < j) : Val (fe n (noF m)) (ft n L M) j (ft n L M 0 j % 360) := by
  have := (Val.root (t := ft n L M) (least_zero (fe n (noF m)))).step (fe_none (n := n) m hn hj (by omega))
  rwa [Int.zero_add] at this
theorem val_zero {n m : Nat} {L M : List V} : Val (fe n (noF m)) (ft n L M) 0 0 := .root (least_zero _)
/-- Applied phases are solved. -/
theorem OkG.pot {N : Nat} {L G : List V} (h : OkG N L G) (F : List Bool) : Pot (fe N F) (ft N (gapL N L G) L) (fun i => (gat G (i : Int)).2) := fun i j he => by
  obtain ⟨a, b, c, _⟩ := (fe_iff _ _ _ _).1 he
  show ((gat G (j : Int)).2 - (gat G (i : Int)).2 - ft N (gapL N L G) L i j) % 360 = 0
  unfold ft
  rw [h.ph (by omega) (by omega) (by omega)]
  omega
theorem OkG.solve {N : Nat} {L G : List V} (h : OkG N L G) {ok : Bool} {P : List Int} (hr : FlagRes N (gapL N L G) L (noF (N * (N - 1) / 2)) ok P) :
    ok = true ∧ P.length = N ∧ ∀ j : Nat, j < N → P.getD j 0 = ((gat G (j : Int)).2 - (gat G 0).2) % 360 := by
  have hm := bmany_nat N ((manyB_iff _).2 (by have := h.ok.lo; have := h.ok.hi; omega))
  have hlo := h.ok.lo
  have hok : FlagOk N (gapL N L G) L (noF (N * (N - 1) / 2)) := ⟨h.out.to, h.ok.to, by rw [hm]; simp [noF], _, by rw [Int.toNat_natCast]; exact h.pot _⟩
  rcases hr with ⟨rfl, _, h2⟩ | ⟨rfl, h1, _⟩
  · rw [Int.toNat_natCast] at h2
    refine ⟨rfl, h2.1, fun j hj => ?_⟩
    have hN := flag_net (noF (N * (N - 1) / 2)) h.out h.ok
    by_cases h0 : j = 0
    · subst h0
      have := Val.one hN (h.pot _) (h2.2 0 hj) val_zero
      rw [this]; simp
    · have := Val.one hN (h.pot _) (h2.2 j hj) (val_none (by omega) hj (by omega))
      rw [this]
      unfold ft
      rw [h.ph (by omega) (by omega) (by omega)]
      show ((Vm.ph N L (0 : Nat) j + (gat G (j : Int)).2 - (gat G (0 : Nat)).2) % 360 - Vm.ph N L (0 : Nat) j) % 360 = _
      simp only [Int.natCast_zero]
      omega
  · exact absurd hok h1

/-- One baseline is bad. -/
def oneF (m k : Nat) : List Bool := (noF m).set k true
theorem oneF_len (m k : Nat) : (oneF m k).length = m := by simp [oneF, noF]
theorem oneF_get {m k : Nat} (q : Nat) (hk : k < m) : (oneF m k).getD q false = decide (q = k) := by
  unfold oneF
  rw [List.getD_eq_getElem?_getD]
  by_cases e : q = k
  · subst e
    rw [List.getElem?_set_self (by simp [noF]; exact hk)]; simp
  · rw [List.getElem?_set_ne (fun h => e h.symm)]
    have := noF_get m q
    rw [List.getD_eq_getElem?_getD] at this
    rw [this]; simp [e]
/-- What finding comes to: the first baseline that alone is bad. -/
def FindRes (n : Int) (L M : List V) (ok : Bool) (at_ : Int) : Prop :=
  (ok = true ∧ ∃ k : Nat, at_ = k ∧ k < L.length ∧ FlagOk n L M (oneF L.length k) ∧ ∀ q : Nat, q < k → ¬ FlagOk n L M (oneF L.length q)) ∨
  (ok = false ∧ at_ = 0 ∧ ∀ q : Nat, q < L.length → ¬ FlagOk n L M (oneF L.length q))
theorem find_one {n : Int} {L M : List V} {ok ok' : Bool} {x x' : Int} (h : FindRes n L M ok x) (h' : FindRes n L M ok' x') : ok = ok' ∧ x = x' := by
  rcases h with ⟨rfl, k, rfl, hk, h1, h2⟩ | ⟨rfl, rfl, h2⟩ <;> rcases h' with ⟨rfl, k', rfl, hk', h3, h4⟩ | ⟨rfl, rfl, h4⟩
  · refine ⟨rfl, ?_⟩
    rcases Nat.lt_trichotomy k k' with hh | hh | hh
    · exact absurd h1 (h4 k hh)
    · rw [hh]
    · exact absurd h3 (h2 k' hh)
  · exact absurd h1 (h4 k hk)
  · exact absurd h3 (h2 k' hk')
  · exact ⟨rfl, rfl⟩
/-- Nothing bad at all: whatever is bad, it is solved. -/
theorem flag_none {n : Int} {L M : List V} {m : Nat} (h : FlagOk n L M (noF m)) (k : Nat) : FlagOk n L M (oneF m k) :=
  flag_more h (by rw [oneF_len]; simp [noF]) (fun q hq => by rw [noF_get] at hq; cases hq)
theorem bt_inj {n a b c d : Nat} (h7 : n ≤ 7) (hab : a < b) (hb : b < n) (hcd : c < d) (hd : d < n) (e : bt n a b = bt n c d) : a = c ∧ b = d := by
  have h1 := (bt_all n (by omega) a (by omega) b hb hab).2.2.2.1
  have h2 := (bt_all n (by omega) c (by omega) d hd hcd).2.2.2.1
  rw [e, h2] at h1
  simp at h1
  omega
/-- The number of a baseline, whatever the order of its antennas. -/
theorem bidx_bt {n i j : Nat} (h2 : 2 ≤ n) (h7 : n ≤ 7) (hi : i < n) (hj : j < n) (hne : i ≠ j) : ∃ a b : Nat, a < b ∧ b < n ∧ (bidx n i j).toNat = bt n a b ∧ ((a = i ∧ b = j) ∨ (a = j ∧ b = i)) := by
  rcases Nat.lt_or_gt_of_ne hne with h | h
  · exact ⟨i, j, h, hj, by rw [(bt_all n (by omega) i hi j hj h).1]; simp, .inl ⟨rfl, rfl⟩⟩
  · exact ⟨j, i, h, hi, by rw [(bt_all n (by omega) j hj i hi h).2.1]; simp, .inr ⟨rfl, rfl⟩⟩
/-- A list of visibilities with one phase turned. -/
def wrong (X : List V) (k : Nat) (c : Int) : List V := X.set k ((X.getD k (0, 0)).1, ((X.getD k (0, 0)).2 + c) % 360)
theorem wrong_len (X : List V) (k : Nat) (c : Int) : (wrong X k c).length = X.length := by simp [wrong]
theorem wrong_ok {N : Nat} {X : List V} (h : Ok N X) (k : Nat) (hk : k < X.length) (c : Int) : Ok N (wrong X k c) := by
  refine ⟨h.lo, h.hi, by rw [wrong_len]; exact h.len, ?_⟩
  rw [List.all_eq_true]
  intro v hv
  rcases List.mem_or_eq_of_mem_set hv with hv | rfl
  · exact List.all_eq_true.1 h.all v hv
  · have := (visOk_iff _ _).1 (List.all_eq_true.1 h.all _ (List.getElem_mem hk))
    have e : X.getD k (0, 0) = X[k] := by simp [hk]
    refine (visOk_iff _ _).2 ⟨by rw [e]; exact this.1, ?_⟩
    show 0 ≤ ((X.getD k (0, 0)).2 + c) % 360 ∧ ((X.getD k (0, 0)).2 + c) % 360 < 360
    omega
theorem wrong_get (X : List V) (k : Nat) (hk : k < X.length) (c : Int) (q : Nat) : (wrong X k c).getD q (0, 0) = if q = k then ((X.getD k (0, 0)).1, ((X.getD k (0, 0)).2 + c) % 360) else X.getD q (0, 0) := by
  unfold wrong
  rw [List.getD_eq_getElem?_getD]
  split
  · rename_i e; subst e; rw [List.getElem?_set_self hk]; rfl
  · rename_i e; rw [List.getElem?_set_ne (fun h => e h.symm), List.getD_eq_getElem?_getD]
/-- Where the phase was turned, and where not; i before j. -/
theorem wrong_ph {N : Nat} {X : List V} (h : Ok N X) {k : Nat} (hk : k < X.length) (c : Int) {i j : Nat} (hij : i < j) (hj : j < N) : ph N (wrong X k c) i j = if bt N i j = k then (ph N X i j + c) % 360 else ph N X i j := by
  have e := (bt_all N (by have := h.hi; omega) i (by omega) j hj hij).1
  have hv : ∀ Y : List V, ph N Y i j = (Y.getD (bt N i j) (0, 0)).2 := fun Y => by
    rw [ph, vget, if_neg (by omega), e, Int.toNat_natCast]
  rw [hv, hv, wrong_get X k hk c]
  by_cases e2 : bt N i j = k
  · rw [if_pos e2, if_pos e2, e2]
  · rw [if_neg e2, if_neg e2]
/-- One wrong phase is found. -/
theorem OkG.findOne {N : Nat} {L G : List V} (h : OkG N L G) (h4 : 4 ≤ N) {k : Nat} (hk : k < (gapL N L G).length) {c : Int} (hc : c % 360 ≠ 0) {ok : Bool} {x : Int} (hr : FindRes N (wrong (gapL N L G) k c) L ok x) : ok = true ∧ x = k := by
  have h7 := h.ok.hi
  have hl := h.out.len
  have hO := wrong_ok h.out k hk c
  have hm := bmany_nat N ((manyB_iff _).2 (by omega))
  have hN : ∀ F, Net N (fe N F) (ft N (wrong (gapL N L G) k c) L) := fun F => flag_net F hO h.ok
  obtain ⟨p, _, _, pij, pj, pk⟩ := bt_inv_all N (by omega) k (by have := many_le N (by omega); omega) (by omega)
  obtain ⟨pi, pJ⟩ := p
  simp only at pij pj pk
  -- at all other baselines the gains' phases fit
  have fits : ∀ i j : Nat, i < j → j < N → bt N i j ≠ k → ((gat G (j : Int)).2 - (gat G (i : Int)).2 - ft N (wrong (gapL N L G) k c) L i j) % 360 = 0 := fun i j hij hj hne => by
    unfold ft
    rw [wrong_ph h.out hk c hij hj, if_neg hne, h.ph (by omega) (by omega) (by omega)]
    omega
  have good : FlagOk N (wrong (gapL N L G) k c) L (oneF (wrong (gapL N L G) k c).length k) := by
    refine ⟨hO.to, h.ok.to, by rw [oneF_len, wrong_len, hl, hm], fun i => (gat G (i : Int)).2, ?_⟩
    rw [Int.toNat_natCast]
    intro i j he
    show ((gat G (j : Int)).2 - (gat G (i : Int)).2 - ft N (wrong (gapL N L G) k c) L i j) % 360 = 0
    have he2 := (hN _).anti i j he
    obtain ⟨a, b, cc, dd⟩ := (fe_iff _ _ _ _).1 he
    rw [oneF_get _ (by rw [wrong_len]; exact hk)] at dd
    have dd2 : (bidx N i j).toNat ≠ k := by simpa using dd
    rcases Nat.lt_or_gt_of_ne cc with hh | hh
    · rw [(bt_all N (by omega) i a j b hh).1, Int.toNat_natCast] at dd2
      exact fits i j hh b dd2
    · rw [(bt_all N (by omega) j b i a hh).2.1, Int.toNat_natCast] at dd2
      have := fits j i hh a dd2
      omega
  have bad : ∀ q : Nat, q < k → ¬ FlagOk N (wrong (gapL N L G) k c) L (oneF (wrong (gapL N L G) k c).length q) := by
    intro q hq hbad
    obtain ⟨_, _, _, f, hf⟩ := hbad
    rw [Int.toNat_natCast] at hf
    obtain ⟨r, _, _, rij, rj, rk⟩ := bt_inv_all N (by omega) q (by have := many_le N (by omega); omega) (by omega)
    obtain ⟨ri, rJ⟩ := r
    simp only at rij rj rk
    have hqne : ¬ (ri = pi ∧ rJ = pJ) := by
      rintro ⟨rfl, rfl⟩
      omega
    -- an antenna m such that both baselines with m are not q
    have hmm : ∃ m : Nat, m < N ∧ m ≠ pi ∧ m ≠ pJ ∧ (m = ri → (rJ ≠ pi ∧ rJ ≠ pJ)) ∧ (m = rJ → (ri ≠ pi ∧ ri ≠ pJ)) := by
      -- two antennas beside pi and pJ
      have two : ∃ u v : Nat, u < N ∧ v < N ∧ u ≠ v ∧ u ≠ pi ∧ u ≠ pJ ∧ v ≠ pi ∧ v ≠ pJ := by
        by_cases a0 : pi = 0
        · by_cases a1 : pJ = 1
          · exact ⟨2, 3, by omega, by omega, by omega, by omega, by omega, by omega, by omega⟩
          · by_cases a2 : pJ = 2
            · exact ⟨1, 3, by omega, by omega, by omega, by omega, by omega, by omega, by omega⟩
            · exact ⟨1, 2, by omega, by omega, by omega, by omega, by omega, by omega, by omega⟩
        · by_cases a1 : pi = 1
          · by_cases a2 : pJ = 2
            · exact ⟨0, 3, by omega, by omega, by omega, by omega, by omega, by omega, by omega⟩
            · exact ⟨0, 2, by omega, by omega, by omega, by omega, by omega, by omega, by omega⟩
          · exact ⟨0, 1, by omega, by omega, by omega, by omega, by omega, by omega, by omega⟩
      obtain ⟨u, v, u1, v1, huv, u2, u3, v2, v3⟩ := two
      by_cases hu : (u = ri → (rJ ≠ pi ∧ rJ ≠ pJ)) ∧ (u = rJ → (ri ≠ pi ∧ ri ≠ pJ))
      · exact ⟨u, u1, u2, u3, hu.1, hu.2⟩
      · refine ⟨v, v1, v2, v3, fun e => ?_, fun e => ?_⟩
        · constructor <;> (intro e2; apply hu; constructor <;> intro e3 <;> omega)
        · constructor <;> (intro e2; apply hu; constructor <;> intro e3 <;> omega)
    obtain ⟨m, m1, m2, m3, m4, m5⟩ := hmm
    · -- the triangle pi, pJ, m
      have edge : ∀ i j : Nat, i < N → j < N → i ≠ j → (¬ ((ri = i ∧ rJ = j) ∨ (ri = j ∧ rJ = i))) → fe N (oneF (wrong (gapL N L G) k c).length q) i j = true := fun i j hi hj hne hno => by
        refine (fe_iff _ _ _ _).2 ⟨hi, hj, hne, ?_⟩
        rw [oneF_get _ (by rw [wrong_len]; omega)]
        obtain ⟨a, b, hab, hb, e, hh⟩ := bidx_bt (by omega) h7 hi hj hne
        rw [e]
        simp only [decide_eq_false_iff_not]
        intro e2
        have := bt_inj h7 hab hb rij rj (e2.trans rk.symm)
        omega
      have e1 := edge pi pJ (by omega) pj (by omega) (by omega)
      have e2 := edge pi m (by omega) m1 (by omega) (by omega)
      have e3 := edge pJ m (by omega) m1 (by omega) (by omega)
      have f1 := hf _ _ e1
      have f2 := hf _ _ e2
      have f3 := hf _ _ e3
      have g : ∀ i j : Nat, i < N → j < N → i ≠ j → (¬ ((pi = i ∧ pJ = j) ∨ (pi = j ∧ pJ = i))) → fe N (oneF (wrong (gapL N L G) k c).length q) i j = true → ((gat G (j : Int)).2 - (gat G (i : Int)).2 - ft N (wrong (gapL N L G) k c) L i j) % 360 = 0 := fun i j hi hj hne hno he => by
        have ha := (hN _).anti i j he
        rcases Nat.lt_or_gt_of_ne hne with hh | hh
        · exact fits i j hh hj (fun e => hno (.inl (bt_inj h7 pij pj hh hj (pk.trans e.symm))))
        · have := fits j i hh hi (fun e => hno (.inr (bt_inj h7 pij pj hh hi (pk.trans e.symm))))
          omega
      have g2 := g pi m (by omega) m1 (by omega) (by omega) e2
      have g3 := g pJ m (by omega) m1 (by omega) (by omega) e3
      have w : ft N (wrong (gapL N L G) k c) L pi pJ = (Vm.ph N (gapL N L G) pi pJ + c) % 360 - Vm.ph N L pi pJ := by
        unfold ft
        rw [wrong_ph h.out hk c pij pj, if_pos pk]
      rw [h.ph (by omega) (by omega) (by omega)] at w
      omega
  rcases hr with ⟨rfl, k', rfl, hk', h1, h2⟩ | ⟨rfl, rfl, h2⟩
  · refine ⟨rfl, ?_⟩
    rcases Nat.lt_trichotomy k k' with hh | hh | hh
    · exact absurd good (h2 k hh)
    · rw [hh]
    · exact absurd h1 (bad k' hh)
  · exact absurd good (h2 k (by rw [wrong_len]; exact hk))

end Go.Proofs.Ytmoeofclpnblmaa.Vm
