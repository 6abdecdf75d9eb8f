/- Plain laws on solving phases, continued: bad baselines do not matter. No program in sight. -/
import Derived.Test.YtmoeofclpnblmaaFlagS
namespace Go.Proofs.Ytmoeofclpnblmaa.Vm

theorem Pot.congr {e : Nat → Nat → Bool} {t t' : Nat → Nat → Int} (h : ∀ i j, e i j = true → t i j = t' i j) {f : Nat → Int} (hp : Pot e t f) : Pot e t' f := fun i j he => by
  rw [← h i j he]; exact hp i j he
theorem Val.congr {e : Nat → Nat → Bool} {t t' : Nat → Nat → Int} (h : ∀ i j, e i j = true → t i j = t' i j) {j : Nat} {x : Int} (hv : Val e t j x) : Val e t' j x := by
  induction hv with
  | root hr => exact .root hr
  | step _ he ih => rw [h _ _ he]; exact ih.step he
theorem flag_turn {n : Int} {L X M : List V} {F : List Bool} {ok : Bool} {P : List Int} (hL : visB n L = true) (hl : X.length = L.length)
    (hX : ∀ k : Nat, k < L.length → (F.getD k false = false → X.getD k (0, 0) = L.getD k (0, 0)) ∧ (X.getD k (0, 0)).1 = (L.getD k (0, 0)).1 ∧ 0 ≤ (X.getD k (0, 0)).2 ∧ (X.getD k (0, 0)).2 < 360)
    (h : FlagRes n X M F ok P) : FlagRes n L M F ok P := by
  obtain ⟨N, rfl, hO⟩ := Ok.of hL
  have hXo : Ok N X := by
    refine ⟨hO.lo, hO.hi, by rw [hl]; exact hO.len, List.all_eq_true.2 fun v hv => ?_⟩
    obtain ⟨k, hk, rfl⟩ := List.getElem_of_mem hv
    have hk' : k < L.length := by omega
    have e1 : X.getD k (0, 0) = X[k] := by simp [hk]
    have e2 : L.getD k (0, 0) = L[k] := by simp [hk']
    have h1 := (hX k hk').2
    rw [e1, e2] at h1
    have h2 := (visOk_iff _ _).1 (List.all_eq_true.1 hO.all _ (List.getElem_mem hk'))
    exact (visOk_iff _ _).2 ⟨by rw [h1.1]; exact h2.1, h1.2⟩
  have hft : ∀ i j, fe N F i j = true → ft N X M i j = ft N L M i j := fun i j he => by
    obtain ⟨a, b, c, d⟩ := (fe_iff _ _ _ _).1 he
    have hb := bidx_bd (n := N) (i := i) (j := j) (by have := hO.lo; have := hO.hi; omega) (by omega) (by omega) (by omega)
    have hm := bmany_nat N ((manyB_iff _).2 (by have := hO.lo; have := hO.hi; omega))
    have hk : (bidx N i j).toNat < L.length := by rw [hO.len]; omega
    have e := (hX _ hk).1 d
    unfold ft ph vget
    rw [e]
  rcases h with ⟨rfl, h1, h2⟩ | ⟨rfl, h1, rfl⟩
  · refine .inl ⟨rfl, ⟨hL, h1.2.1, h1.2.2.1, ?_⟩, h2.1, fun j hj => ?_⟩
    · obtain ⟨f, hf⟩ := h1.2.2.2
      rw [Int.toNat_natCast] at hf ⊢
      exact ⟨f, hf.congr hft⟩
    · have := h2.2 j hj
      rw [Int.toNat_natCast] at this ⊢
      exact this.congr hft
  · refine .inr ⟨rfl, fun hk => h1 ⟨hXo.to, hk.2.1, hk.2.2.1, ?_⟩, rfl⟩
    obtain ⟨f, hf⟩ := hk.2.2.2
    rw [Int.toNat_natCast] at hf ⊢
    exact ⟨f, hf.congr (fun i j he => (hft i j he).symm)⟩
/-- Nothing is bad: the first baseline is found. -/
theorem find_first {n : Int} {L M : List V} {m : Nat} (h : FlagOk n L M (noF m)) (hm : (m : Int) = bmany n) {ok : Bool} {x : Int} (hr : FindRes n L M ok x) : ok = true ∧ x = 0 := by
  have hl : L.length = m := by have := ((visB_iff _ _).1 h.1).2.1; omega
  have h2 := (manyB_iff _).1 ((visB_iff _ _).1 h.1).1
  have hpos : 0 < L.length := by
    have := (bidx_bd (n := n) (i := 0) (j := 1) (by omega) (by omega) (by omega) (by omega))
    omega
  rcases hr with ⟨rfl, k, rfl, hk, h3, h4⟩ | ⟨rfl, rfl, h4⟩
  · refine ⟨rfl, ?_⟩
    rcases Nat.eq_zero_or_pos k with e | e
    · subst e; rfl
    · exact absurd (by rw [hl]; exact flag_none h 0) (h4 0 e)
  · exact absurd (by rw [hl]; exact flag_none h 0) (h4 0 hpos)
theorem first_zero {n : Int} {L M : List V} {m : Nat} (h : FlagOk n L M (noF m)) {P : List Int} (hv : FlagVal n.toNat L M (noF m) P) : 0 < P.length ∧ pf P 0 = 0 ∧ (P.length : Int) = n := by
  obtain ⟨N, rfl, hL, hM, _, hN, f, hp⟩ := h.net
  rw [Int.toNat_natCast] at hv
  have h2 := hL.lo
  refine ⟨by rw [hv.1]; omega, ?_, by rw [hv.1]⟩
  exact Val.one hN hp (hv.2 0 (by omega)) val_zero
theorem more_set {n : Int} {L M : List V} {F : List Bool} (h : FlagOk n L M F) (i : Nat) (hi : i < F.length) : FlagOk n L M (F.set i true) :=
  flag_more h (by simp) (fun k hk => by
    have := kf_set hi true k
    unfold kf at this
    rw [this]
    split
    · rfl
    · exact hk)

end Go.Proofs.Ytmoeofclpnblmaa.Vm
