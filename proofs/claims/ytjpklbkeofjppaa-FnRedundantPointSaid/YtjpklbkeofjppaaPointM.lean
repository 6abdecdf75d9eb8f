/- Plain laws on arrays and point sources. No program in sight. -/
import Derived.Test.YtjpklbkeofjppaaAmpM
import Derived.Test.YtjpklbkeofjppaaSwapM
namespace Go.Proofs.Ytjpklbkeofjppaa.Vm

def pcB (x : Int) : Bool := decide (-1000 ≤ x) && decide (x ≤ 1000)
theorem pcB_iff (x : Int) : pcB x = true ↔ -1000 ≤ x ∧ x ≤ 1000 := by simp [pcB]
def plB (p : V) : Bool := pcB p.1 && pcB p.2
theorem plB_iff (p : V) : plB p = true ↔ (-1000 ≤ p.1 ∧ p.1 ≤ 1000) ∧ -1000 ≤ p.2 ∧ p.2 ≤ 1000 := by simp only [plB, Bool.and_eq_true, pcB_iff]
/-- Different places. -/
def difB (L : List V) : Bool := (List.range L.length).all fun k => !(L.take k).contains (L.getD k (0, 0))
def arrB (L : List V) : Bool := decide (2 ≤ L.length) && decide (L.length ≤ 7) && (List.range L.length).all fun k => plB (L.getD k (0, 0)) && !(L.take k).contains (L.getD k (0, 0))
/-- The place of an antenna. -/
def aat (L : List V) (i : Int) : V := L.getD i.toNat (0, 0)
theorem aat_nat (L : List V) (i : Nat) (h : i < L.length) : aat L i = L[i] := by simp [aat, h]
theorem arrB_iff (L : List V) : arrB L = true ↔ (2 ≤ L.length ∧ L.length ≤ 7) ∧ (∀ i : Nat, i < L.length → plB (aat L i) = true) ∧ ∀ i j : Nat, i < j → j < L.length → aat L i ≠ aat L j := by
  simp only [arrB, Bool.and_eq_true, decide_eq_true_eq, List.all_eq_true, List.mem_range, Bool.not_eq_true', List.contains_eq_mem, decide_eq_false_iff_not]
  refine and_congr_right fun _ => ⟨fun h => ⟨fun i hi => ?_, fun i j hij hj e => ?_⟩, fun ⟨h1, h2⟩ k hk => ⟨?_, fun hm => ?_⟩⟩
  · have := (h i hi).1; simpa [aat] using this
  · refine (h j hj).2 ?_
    rw [aat_nat L i (by omega)] at e
    have e2 : L.getD j (0, 0) = L[i] := by rw [e]; simp [aat]
    rw [e2]
    exact List.mem_take_iff_getElem.2 ⟨i, by omega, rfl⟩
  · have := h1 k hk; simpa [aat] using this
  · obtain ⟨m, hm1, hm2⟩ := List.mem_take_iff_getElem.1 hm
    refine h2 m k (by omega) hk ?_
    rw [aat_nat L m (by omega)]
    simp only [aat, Int.toNat_natCast]
    exact hm2
theorem arr_place {L : List V} (h : arrB L = true) {i : Int} (hi : 0 ≤ i ∧ i < L.length) : (-1000 ≤ (aat L i).1 ∧ (aat L i).1 ≤ 1000) ∧ -1000 ≤ (aat L i).2 ∧ (aat L i).2 ≤ 1000 := by
  obtain ⟨i, rfl⟩ := nat_of hi.1
  exact (plB_iff _).1 (((arrB_iff L).1 h).2.1 i (by omega))
/-- The delay of an antenna for a direction. -/
def delay (L : List V) (d : V) (i : Int) : Int := (aat L i).1 * d.1 + (aat L i).2 * d.2
theorem mul1000 {a b : Int} (h1 : -1000 ≤ a) (h2 : a ≤ 1000) (h3 : -1000 ≤ b) (h4 : b ≤ 1000) : -1000000 ≤ a * b ∧ a * b ≤ 1000000 := by
  have hn : (a * b).natAbs ≤ 1000 * 1000 := by
    rw [Int.natAbs_mul]
    exact Nat.mul_le_mul (by omega) (by omega)
  omega
theorem delay_bd {L : List V} {d : V} (h : arrB L = true) (hd : plB d = true) {i : Int} (hi : 0 ≤ i ∧ i < L.length) :
    (-1000000 ≤ (aat L i).1 * d.1 ∧ (aat L i).1 * d.1 ≤ 1000000) ∧ (-1000000 ≤ (aat L i).2 * d.2 ∧ (aat L i).2 * d.2 ≤ 1000000) ∧ -2000000 ≤ delay L d i ∧ delay L d i ≤ 2000000 := by
  obtain ⟨⟨a1, a2⟩, a3, a4⟩ := arr_place h hi
  obtain ⟨⟨b1, b2⟩, b3, b4⟩ := (plB_iff d).1 hd
  have p := mul1000 a1 a2 b1 b2
  have q := mul1000 a3 a4 b3 b4
  unfold delay
  exact ⟨p, q, by omega, by omega⟩
def ptF (L : List V) (d : V) (amp : Int) (i j : Int) : V := (amp, (delay L d j - delay L d i) % 360)
def ptB (L : List V) (d : V) (amp : Int) : Bool := arrB L && plB d && (decide (1 ≤ amp) && decide (amp ≤ 1000000))
def ptL (L : List V) (d : V) (amp : Int) : List V := if ptB L d amp then Vm.mk L.length (ptF L d amp) else []
theorem ptB_iff (L : List V) (d : V) (amp : Int) : ptB L d amp = true ↔ arrB L = true ∧ plB d = true ∧ 1 ≤ amp ∧ amp ≤ 1000000 := by simp [ptB, and_assoc]
theorem ptL_yes {L : List V} {d : V} {amp : Int} (h : ptB L d amp = true) : ptL L d amp = Vm.mk L.length (ptF L d amp) := by rw [ptL, if_pos h]
theorem ptL_no {L : List V} {d : V} {amp : Int} (h : ptB L d amp = false) : ptL L d amp = [] := by rw [ptL, h]; rfl
structure OkP (L : List V) (d : V) (amp : Int) : Prop where
  yes : ptB L d amp = true
  hi : L.length ≤ 7
  lo : 2 ≤ L.length
  out : Ok L.length (ptL L d amp)
theorem OkP.of {L : List V} {d : V} {amp : Int} (h : ptB L d amp = true) : OkP L d amp := by
  obtain ⟨h1, h2, h3, h4⟩ := (ptB_iff _ _ _).1 h
  obtain ⟨⟨l1, l2⟩, _⟩ := (arrB_iff L).1 h1
  refine ⟨h, l2, l1, l1, l2, by rw [ptL_yes h, mk_len _ l2], ?_⟩
  rw [ptL_yes h, mk_all _ l2]
  intro i j hij hj
  refine (visOk_iff _ _).2 ⟨⟨h3, h4⟩, ?_⟩
  show 0 ≤ (delay L d j - delay L d i) % 360 ∧ (delay L d j - delay L d i) % 360 < 360
  omega
theorem OkP.get {L : List V} {d : V} {amp : Int} (h : OkP L d amp) {i j : Int} (hi : 0 ≤ i ∧ i < L.length) (hj : 0 ≤ j ∧ j < L.length) (hne : i ≠ j) : vget L.length (ptL L d amp) i j = ptF L d amp i j := by
  rw [ptL_yes h.yes]
  refine vget_mk L.length h.hi _ i j hi hj hne (fun _ => ?_)
  refine Prod.ext rfl ?_
  show (-((delay L d i - delay L d j) % 360)) % 360 = (delay L d j - delay L d i) % 360
  omega
theorem OkP.ph {L : List V} {d : V} {amp : Int} (h : OkP L d amp) {i j : Int} (hi : 0 ≤ i ∧ i < L.length) (hj : 0 ≤ j ∧ j < L.length) (hne : i ≠ j) : Vm.ph L.length (ptL L d amp) i j = (delay L d j - delay L d i) % 360 := by
  rw [Vm.ph, h.get hi hj hne]; rfl
theorem OkP.loop3 {L : List V} {d : V} {amp : Int} (h : OkP L d amp) (i j k : Int) : loopP L.length (ptL L d amp) [i, j, k] = 0 := by
  cases hc : loopB L.length (ptL L d amp) [i, j, k]
  · exact loopP_no hc
  · obtain ⟨_, _, ha⟩ := (loopB_iff _ _ _).1 hc
    obtain ⟨h1, h2⟩ := (apB_nodup _ _).1 ha
    simp at h2
    have ri := h1 i (by simp)
    have rj := h1 j (by simp)
    have rk := h1 k (by simp)
    rw [Vm.loop3 hc, h.ph ri rj h2.1.1, h.ph rj rk h2.2, h.ph rk ri (fun e => h2.1.2 e.symm)]
    omega
/-- A point source closes all loops. -/
theorem OkP.loop {L : List V} {d : V} {amp : Int} (hP : OkP L d amp) (l : List Int) : loopP L.length (ptL L d amp) l = 0 := by
  cases hc : loopB L.length (ptL L d amp) l
  · exact loopP_no hc
  · obtain ⟨_, hlen, ha⟩ := (loopB_iff _ _ _).1 hc
    obtain ⟨h1, h2⟩ := (apB_nodup _ _).1 ha
    have st : ∀ a ∈ l, ∀ b ∈ l, a ≠ b → Vm.ph L.length (ptL L d amp) a b = (delay L d b - delay L d a) % 360 := fun a ha b hb hne => hP.ph (h1 a ha) (h1 b hb) hne
    rcases len_cases l hlen.1 hlen.2 with ⟨a, b, c, rfl⟩ | ⟨a, b, c, x, rfl⟩ | ⟨a, b, c, x, e, rfl⟩ | ⟨a, b, c, x, e, f, rfl⟩ | ⟨a, b, c, x, e, f, g, rfl⟩
    · exact hP.loop3 a b c
    · simp at h2
      rw [loop4 hc, st a (by simp) b (by simp) (by omega), st b (by simp) c (by simp) (by omega), st c (by simp) x (by simp) (by omega), st x (by simp) a (by simp) (by omega)]
      omega
    · simp at h2
      rw [loop5 hc, st a (by simp) b (by simp) (by omega), st b (by simp) c (by simp) (by omega), st c (by simp) x (by simp) (by omega), st x (by simp) e (by simp) (by omega), st e (by simp) a (by simp) (by omega)]
      omega
    · simp at h2
      rw [loop6 hc, st a (by simp) b (by simp) (by omega), st b (by simp) c (by simp) (by omega), st c (by simp) x (by simp) (by omega), st x (by simp) e (by simp) (by omega), st e (by simp) f (by simp) (by omega), st f (by simp) a (by simp) (by omega)]
      omega
    · simp at h2
      rw [loop7 hc, st a (by simp) b (by simp) (by omega), st b (by simp) c (by simp) (by omega), st c (by simp) x (by simp) (by omega), st x (by simp) e (by simp) (by omega), st e (by simp) f (by simp) (by omega), st f (by simp) g (by simp) (by omega), st g (by simp) a (by simp) (by omega)]
      omega
/-- All antennas in order. -/
def rangeL (n : Nat) : List Int := (List.range n).map fun i : Nat => (i : Int)
theorem range_loop {N : Nat} {L : List V} (hO : Ok N L) : loopB N L (rangeL N) = decide (2 < N) := by
  have hl : (rangeL N).length = N := by simp [rangeL]
  by_cases h3 : 3 ≤ N
  · rw [decide_eq_true (by omega)]
    refine (loopB_iff _ _ _).2 ⟨hO.to, by rw [hl]; exact ⟨h3, hO.hi⟩, (apB_nodup _ _).2 ⟨fun x hx => ?_, ?_⟩⟩
    · obtain ⟨i, hi, rfl⟩ := List.mem_map.1 hx
      have := List.mem_range.1 hi
      omega
    · unfold rangeL
      rw [List.Nodup, List.pairwise_map]
      exact List.Pairwise.imp (fun hh => by omega) (List.nodup_range (n := N))
  · rw [decide_eq_false (by omega), Bool.eq_false_iff]
    intro e
    have := ((loopB_iff _ _ _).1 e).2.1
    rw [hl] at this
    omega
/-- The first four antennas have the closure amplitude 1. -/
theorem OkP.amp {L : List V} {d : V} {amp : Int} (h : OkP L d amp) : ampB L.length (ptL L d amp) 0 1 2 3 = decide (3 < L.length) ∧ ampP L.length (ptL L d amp) 0 1 2 3 = (if 3 < L.length then 1 else 0) ∧ ampQ L.length (ptL L d amp) 0 1 2 3 = (if 3 < L.length then 1 else 0) := by
  by_cases h3 : 3 < L.length
  · have hb : ampB L.length (ptL L d amp) 0 1 2 3 = true := by
      refine (ampB_iff _ _ _ _ _ _).2 ⟨h.out.to, (apB_nodup _ _).2 ⟨fun x hx => ?_, by simp⟩⟩
      simp at hx
      rcases hx with rfl | rfl | rfl | rfl <;> omega
    obtain ⟨_, _, h4, h5⟩ := (ptB_iff _ _ _).1 h.yes
    have e : ∀ i j : Int, (0 ≤ i ∧ i < L.length) → (0 ≤ j ∧ j < L.length) → i ≠ j → am L.length (ptL L d amp) i j = amp := fun i j hi hj hne => by
      rw [am, h.get hi hj hne]; rfl
    have et : atop L.length (ptL L d amp) 0 1 2 3 = amp * amp := by rw [atop, e _ _ (by omega) (by omega) (by omega), e _ _ (by omega) (by omega) (by omega)]
    have eb : abot L.length (ptL L d amp) 0 1 2 3 = amp * amp := by rw [abot, e _ _ (by omega) (by omega) (by omega), e _ _ (by omega) (by omega) (by omega)]
    obtain ⟨r1, r2⟩ := red_one (am_prod (a := amp) (b := amp) ⟨h4, h5⟩ ⟨h4, h5⟩).1
    rw [ampP_yes hb, ampQ_yes hb, et, eb, hb, if_pos h3]
    exact ⟨by rw [decide_eq_true h3], r1, r2⟩
  · have hb : ampB L.length (ptL L d amp) 0 1 2 3 = false := by
      rw [Bool.eq_false_iff]
      intro e
      obtain ⟨_, h2⟩ := (ampB_iff _ _ _ _ _ _).1 e
      have := ((apB_nodup _ _).1 h2).1 3 (by simp)
      omega
    rw [ampP_no hb, ampQ_no hb, hb, if_neg h3]
    exact ⟨by rw [decide_eq_false h3], rfl, rfl⟩

/-- The array with two antennas exchanged. -/
def aswap (L : List V) (a b : Nat) : List V := (L.set a (aat L b)).set b (aat L a)
theorem aswap_len (L : List V) (a b : Nat) : (aswap L a b).length = L.length := by simp [aswap]
theorem aswap_at {L : List V} {a b : Nat} (i : Nat) (hi : i < L.length) : aat (aswap L a b) i = aat L (swp a b i) := by
  have e : ∀ (M : List V) (q : Nat), aat M (q : Int) = (M[q]?).getD (0, 0) := fun M q => by
    unfold aat; rw [Int.toNat_natCast, List.getD_eq_getElem?_getD]
  rw [e]
  unfold aswap
  by_cases h1 : i = b
  · subst h1
    rw [List.getElem?_set_self (by simpa using hi), Option.getD_some]
    rw [swp_b]
  · rw [List.getElem?_set_ne (fun e => h1 e.symm)]
    by_cases h2 : i = a
    · subst h2
      rw [List.getElem?_set_self hi, Option.getD_some]
      simp [swp]
    · rw [List.getElem?_set_ne (fun e => h2 e.symm), ← e]
      have : swp (a : Int) b i = i := swp_c (by omega) (by omega)
      rw [this]
theorem swp_nat {n a b i : Nat} (ha : a < n) (hb : b < n) (hi : i < n) : ∃ q : Nat, swp (a : Int) b i = q ∧ q < n := by
  unfold swp
  split
  · exact ⟨b, rfl, hb⟩
  · split
    · exact ⟨a, rfl, ha⟩
    · exact ⟨i, rfl, hi⟩
theorem aswap_arr {L : List V} {a b : Nat} (ha : a < L.length) (hb : b < L.length) (h : arrB L = true) : arrB (aswap L a b) = true := by
  obtain ⟨h1, h2, h3⟩ := (arrB_iff L).1 h
  have h3' : ∀ i j : Nat, i ≠ j → i < L.length → j < L.length → aat L i ≠ aat L j := fun i j hne hi hj => by
    rcases Nat.lt_or_gt_of_ne hne with hh | hh
    · exact h3 i j hh hj
    · exact fun e => h3 j i hh hi e.symm
  refine (arrB_iff _).2 ⟨by rw [aswap_len]; exact h1, fun i hi => ?_, fun i j hij hj => ?_⟩
  · rw [aswap_len] at hi
    rw [aswap_at i hi]
    obtain ⟨q, hq, hq2⟩ := swp_nat ha hb hi
    rw [hq]
    exact h2 q hq2
  · rw [aswap_len] at hj
    rw [aswap_at i (by omega), aswap_at j hj]
    obtain ⟨q, hq, hq2⟩ := swp_nat ha hb (show i < L.length by omega)
    obtain ⟨r, hr, hr2⟩ := swp_nat ha hb hj
    have hne : swp (a : Int) b i ≠ swp (a : Int) b j := swp_inj (by omega)
    rw [hq, hr] at hne ⊢
    exact h3' q r (by omega) hq2 hr2
/-- Antennas have any numbers. -/
theorem OkP.swap {L : List V} {d : V} {amp : Int} (h : OkP L d amp) {a b : Nat} (ha : a < L.length) (hb : b < L.length) :
    swapB L.length (ptL L d amp) a b = true ∧ ptB (aswap L a b) d amp = true ∧ swapL L.length (ptL L d amp) a b = ptL (aswap L a b) d amp := by
  have s1 : swapB L.length (ptL L d amp) a b = true := (swapB_iff _ _ _ _).2 ⟨h.out.to, by omega, by omega⟩
  obtain ⟨h1, h2, h3, h4⟩ := (ptB_iff _ _ _).1 h.yes
  have hp : ptB (aswap L a b) d amp = true := (ptB_iff _ _ _).2 ⟨aswap_arr ha hb h1, h2, h3, h4⟩
  refine ⟨s1, hp, ?_⟩
  rw [swapL_yes s1, ptL_yes hp, aswap_len]
  have ra : 0 ≤ (a : Int) ∧ (a : Int) < L.length := by omega
  have rb : 0 ≤ (b : Int) ∧ (b : Int) < L.length := by omega
  refine mk_congr L.length h.hi _ _ fun i j hij hj => ?_
  unfold swapF
  rw [h.get (swp_rng ra rb (by omega)) (swp_rng ra rb (by omega)) (swp_inj (by omega))]
  unfold ptF delay
  rw [aswap_at i (by omega), aswap_at j hj]

end Go.Proofs.Ytjpklbkeofjppaa.Vm
