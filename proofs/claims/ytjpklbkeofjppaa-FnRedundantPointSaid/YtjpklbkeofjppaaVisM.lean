/- Plain laws on antennas, baselines and visibilities. No program in sight. -/
namespace Go.Proofs.Ytjpklbkeofjppaa.Vm

abbrev V := Int × Int
def manyB (n : Int) : Bool := decide (2 ≤ n) && decide (n ≤ 7)
theorem manyB_iff (n : Int) : manyB n = true ↔ 2 ≤ n ∧ n ≤ 7 := by simp [manyB]
theorem manyB_false (n : Int) (h : ¬ (2 ≤ n ∧ n ≤ 7)) : manyB n = false := by rw [Bool.eq_false_iff]; exact fun e => h ((manyB_iff n).1 e)
def bmany (n : Int) : Int := if manyB n then n * (n - 1) / 2 else 0
def antB (n i : Int) : Bool := decide (0 ≤ i) && decide (i < n)
theorem antB_iff (n i : Int) : antB n i = true ↔ 0 ≤ i ∧ i < n := by simp [antB]
def phB (a : Int) : Bool := decide (0 ≤ a) && decide (a < 360)
theorem phB_iff (a : Int) : phB a = true ↔ 0 ≤ a ∧ a < 360 := by simp [phB]
def visOk (m : Int) (v : V) : Bool := decide (1 ≤ v.1) && decide (v.1 ≤ m) && phB v.2
theorem visOk_iff (m : Int) (v : V) : visOk m v = true ↔ (1 ≤ v.1 ∧ v.1 ≤ m) ∧ 0 ≤ v.2 ∧ v.2 < 360 := by simp [visOk, phB]
def visB (n : Int) (L : List V) : Bool := manyB n && decide ((L.length : Int) = bmany n) && L.all (visOk 1000000)
def gainB (n : Int) (L : List V) : Bool := manyB n && decide ((L.length : Int) = n) && L.all (visOk 99)
theorem visB_iff (n : Int) (L : List V) : visB n L = true ↔ manyB n = true ∧ (L.length : Int) = bmany n ∧ L.all (visOk 1000000) = true := by simp only [visB, Bool.and_eq_true, decide_eq_true_eq, and_assoc]
theorem gainB_iff (n : Int) (L : List V) : gainB n L = true ↔ manyB n = true ∧ (L.length : Int) = n ∧ L.all (visOk 99) = true := by simp only [gainB, Bool.and_eq_true, decide_eq_true_eq, and_assoc]

/-- The number of the baseline of i and j, i < j, of n antennas. -/
def bt (n i j : Nat) : Nat := i * (2 * n - i - 1) / 2 + j - i - 1
def bidx (n i j : Int) : Int := if j < i then j * (2 * n - j - 1) / 2 + i - j - 1 else i * (2 * n - i - 1) / 2 + j - i - 1
def basesL (n : Nat) : List (Nat × Nat) := (List.range n).flatMap fun i => (List.range' (i + 1) (n - 1 - i)).map fun j => (i, j)

def chk1 : Bool := (List.range 8).all fun n => (List.range n).all fun i => (List.range n).all fun j => !decide (i < j) || (decide (bidx n i j = (bt n i j : Int)) && decide (bidx n j i = (bt n i j : Int)) && decide (bt n i j < n * (n - 1) / 2) && decide ((basesL n)[bt n i j]? = some (i, j)) && decide (bt n i (j + 1) = bt n i j + 1))
theorem chk1_ok : chk1 = true := by decide +kernel
theorem bt_all (n : Nat) (hn : n < 8) (i : Nat) (hi : i < n) (j : Nat) (hj : j < n) (hij : i < j) : bidx n i j = (bt n i j : Int) ∧ bidx n j i = (bt n i j : Int) ∧ bt n i j < n * (n - 1) / 2 ∧ (basesL n)[bt n i j]? = some (i, j) ∧ bt n i (j + 1) = bt n i j + 1 := by
  have h := chk1_ok
  simp only [chk1, List.all_eq_true, List.mem_range] at h
  have h2 := h n hn i hi j hj
  simp only [hij, decide_true, Bool.not_true, Bool.false_or, Bool.and_eq_true, decide_eq_true_eq, and_assoc] at h2
  exact h2
theorem bt_row_all : ∀ n : Nat, n < 8 → ∀ i : Nat, i < n → bt n i n = bt n (i + 1) (i + 2) := by decide +kernel
theorem bt_zero_all : ∀ n : Nat, n < 8 → bt n 0 1 = 0 ∧ (basesL n).length = n * (n - 1) / 2 ∧ bt n n (n + 1) = n * (n - 1) / 2 := by decide +kernel
def chk2 : Bool := (List.range 8).all fun n => (List.range (n * (n - 1) / 2)).all fun k => match (basesL n)[k]? with
  | none => false
  | some p => decide (p.1 < p.2) && decide (p.2 < n) && decide (bt n p.1 p.2 = k)
theorem chk2_ok : chk2 = true := by decide +kernel
theorem bt_inv_all (n : Nat) (hn : n < 8) (k : Nat) (_ : k < 21) (hk : k < n * (n - 1) / 2) : ∃ p ∈ basesL n, (basesL n)[k]? = some p ∧ p.1 < p.2 ∧ p.2 < n ∧ bt n p.1 p.2 = k := by
  have h := chk2_ok
  simp only [chk2, List.all_eq_true, List.mem_range] at h
  have h2 := h n hn k hk
  cases hp : (basesL n)[k]? with
  | none => rw [hp] at h2; cases h2
  | some p =>
    rw [hp] at h2
    simp only [Bool.and_eq_true, decide_eq_true_eq, and_assoc] at h2
    exact ⟨p, List.mem_of_getElem? hp, rfl, h2⟩
theorem many_le : ∀ n : Nat, n < 8 → n * (n - 1) / 2 < 22 := by decide +kernel

theorem nat_of {i : Int} (h : 0 ≤ i) : ∃ k : Nat, i = k := Int.eq_ofNat_of_zero_le h
theorem bmany_nat (n : Nat) (h : manyB n = true) : bmany n = ((n * (n - 1) / 2 : Nat) : Int) := by
  rw [bmany, if_pos h]
  have := (manyB_iff n).1 h
  obtain ⟨m, rfl⟩ : ∃ m, n = m + 1 := ⟨n - 1, by omega⟩
  have e : ((m + 1 : Nat) : Int) - 1 = (m : Int) := by omega
  rw [e, Nat.add_sub_cancel]
  norm_cast
theorem bmany_nonneg (n : Int) : 0 ≤ bmany n := by
  unfold bmany
  split
  · rename_i h
    have := (manyB_iff n).1 h
    exact Int.ediv_nonneg (Int.mul_nonneg (by omega) (by omega)) (by omega)
  · omega
theorem bmany_le (n : Int) : bmany n ≤ 21 := by
  by_cases h : manyB n = true
  · have h1 := (manyB_iff n).1 h
    obtain ⟨k, rfl⟩ := nat_of (i := n) (by omega)
    rw [bmany_nat k h]
    have := many_le k (by omega)
    omega
  · simp [bmany, h]

/-- The visibility of i and j in this order. -/
def opp (v : V) : V := (v.1, (-v.2) % 360)
def vget (n : Int) (L : List V) (i j : Int) : V := if j < i then opp (L.getD (bidx n i j).toNat (0, 0)) else L.getD (bidx n i j).toNat (0, 0)

theorem bidx_bd {n i j : Int} (hn : 2 ≤ n ∧ n ≤ 7) (hi : 0 ≤ i ∧ i < n) (hj : 0 ≤ j ∧ j < n) (hne : i ≠ j) : 0 ≤ bidx n i j ∧ bidx n i j < bmany n ∧ bidx n j i = bidx n i j := by
  obtain ⟨n, rfl⟩ := nat_of (i := n) (by omega)
  obtain ⟨i, rfl⟩ := nat_of hi.1
  obtain ⟨j, rfl⟩ := nat_of hj.1
  rw [bmany_nat n ((manyB_iff n).2 (by omega))]
  rcases Nat.lt_or_gt_of_ne (show i ≠ j by omega) with h | h
  · obtain ⟨h1, h2, h3, _⟩ := bt_all n (by omega) i (by omega) j (by omega) h
    rw [h1, h2]; omega
  · obtain ⟨h1, h2, h3, _⟩ := bt_all n (by omega) j (by omega) i (by omega) h
    rw [h1, h2]; omega
theorem bidx_prod {n i : Int} (hn : 2 ≤ n ∧ n ≤ 7) (hi : 0 ≤ i ∧ i < n) : 0 ≤ i * (2 * n - i - 1) ∧ i * (2 * n - i - 1) ≤ 100 := by
  constructor
  · exact Int.mul_nonneg (by omega) (by omega)
  · have h1 : i * (2 * n - i - 1) ≤ 7 * (2 * n - i - 1) := Int.mul_le_mul_of_nonneg_right (by omega) (by omega)
    omega

/-- The list of what f says of all baselines. -/
def mk (n : Nat) (f : Int → Int → V) : List V := (basesL n).map fun p => f p.1 p.2
theorem mk_len (n : Nat) (hn : n ≤ 7) (f : Int → Int → V) : (mk n f).length = n * (n - 1) / 2 := by
  rw [mk, List.length_map, (bt_zero_all n (by omega)).2.1]
theorem mk_at (n : Nat) (hn : n ≤ 7) (f : Int → Int → V) (i j : Nat) (hij : i < j) (hj : j < n) : (mk n f)[bt n i j]? = some (f i j) := by
  rw [mk, List.getElem?_map, (bt_all n (by omega) i (by omega) j hj hij).2.2.2.1]; rfl
theorem vget_mk (n : Nat) (hn : n ≤ 7) (f : Int → Int → V) (i j : Int) (hi : 0 ≤ i ∧ i < n) (hj : 0 ≤ j ∧ j < n) (hne : i ≠ j) (ha : j < i → opp (f j i) = f i j) : vget n (mk n f) i j = f i j := by
  obtain ⟨i, rfl⟩ := nat_of hi.1
  obtain ⟨j, rfl⟩ := nat_of hj.1
  unfold vget
  rcases Nat.lt_or_gt_of_ne (show i ≠ j by omega) with h | h
  · obtain ⟨h1, h2, h3, _⟩ := bt_all n (by omega) i (by omega) j (by omega) h
    rw [if_neg (by omega), h1, Int.toNat_natCast, List.getD_eq_getElem?_getD, mk_at n hn f i j h (by omega)]; rfl
  · obtain ⟨h1, h2, h3, _⟩ := bt_all n (by omega) j (by omega) i (by omega) h
    rw [if_pos (by omega), h2, Int.toNat_natCast, List.getD_eq_getElem?_getD, mk_at n hn f j i h (by omega)]
    exact ha (by omega)
theorem mk_congr (n : Nat) (hn : n ≤ 7) (f g : Int → Int → V) (h : ∀ i j : Nat, i < j → j < n → f i j = g i j) : mk n f = mk n g := by
  apply List.ext_getElem?
  intro k
  by_cases hk : k < n * (n - 1) / 2
  · obtain ⟨p, _, hp, h1, h2, _⟩ := bt_inv_all n (by omega) k (by have := many_le n (by omega); omega) hk
    rw [mk, mk, List.getElem?_map, List.getElem?_map, hp]
    simp only [Option.map_some, h p.1 p.2 h1 h2]
  · rw [List.getElem?_eq_none (by rw [mk_len n hn]; omega), List.getElem?_eq_none (by rw [mk_len n hn]; omega)]
theorem mk_vget (n : Nat) (hn : n ≤ 7) (L : List V) (hL : L.length = n * (n - 1) / 2) : mk n (vget n L) = L := by
  apply List.ext_getElem?
  intro k
  by_cases hk : k < n * (n - 1) / 2
  · obtain ⟨p, _, hp, h1, h2, h3⟩ := bt_inv_all n (by omega) k (by have := many_le n (by omega); omega) hk
    rw [mk, List.getElem?_map, hp]
    simp only [Option.map_some]
    rw [vget, if_neg (by omega), (bt_all n (by omega) p.1 (by omega) p.2 h2 h1).1, h3, Int.toNat_natCast, List.getD_eq_getElem?_getD, List.getElem?_eq_getElem (by omega)]; rfl
  · rw [List.getElem?_eq_none (by rw [mk_len n hn]; omega), List.getElem?_eq_none (by omega)]
theorem mk_all (n : Nat) (hn : n ≤ 7) (f : Int → Int → V) (P : V → Bool) : (mk n f).all P = true ↔ ∀ i j : Nat, i < j → j < n → P (f i j) = true := by
  rw [List.all_eq_true]
  constructor
  · intro h i j hij hj
    exact h _ (List.mem_of_getElem? (mk_at n hn f i j hij hj))
  · intro h v hv
    obtain ⟨p, hp, rfl⟩ := List.mem_map.1 hv
    obtain ⟨k, hk, e⟩ := List.getElem_of_mem hp
    have hk' : k < n * (n - 1) / 2 := by rw [(bt_zero_all n (by omega)).2.1] at hk; exact hk
    obtain ⟨q, _, hq, h1, h2, _⟩ := bt_inv_all n (by omega) k (by have := many_le n (by omega); omega) hk'
    rw [List.getElem?_eq_getElem hk, e] at hq
    obtain rfl : p = q := by simpa using hq
    exact h _ _ h1 h2

/-- What is known of valid visibilities. -/
structure Ok (n : Nat) (L : List V) : Prop where
  lo : 2 ≤ n
  hi : n ≤ 7
  len : L.length = n * (n - 1) / 2
  all : L.all (visOk 1000000) = true
theorem Ok.of {n : Int} {L : List V} (h : visB n L = true) : ∃ m : Nat, n = m ∧ Ok m L := by
  obtain ⟨h1, h2, h3⟩ := (visB_iff n L).1 h
  have h4 := (manyB_iff n).1 h1
  obtain ⟨m, rfl⟩ := nat_of (i := n) (by omega)
  refine ⟨m, rfl, by omega, by omega, ?_, h3⟩
  rw [bmany_nat m h1] at h2
  omega
theorem Ok.to {n : Nat} {L : List V} (h : Ok n L) : visB n L = true := by
  have hm : manyB n = true := (manyB_iff n).2 (by have := h.lo; have := h.hi; omega)
  exact (visB_iff n L).2 ⟨hm, by rw [bmany_nat n hm, h.len], h.all⟩
theorem Ok.get {n : Nat} {L : List V} (h : Ok n L) {i j : Int} (hi : 0 ≤ i ∧ i < n) (hj : 0 ≤ j ∧ j < n) (hne : i ≠ j) : (1 ≤ (vget n L i j).1 ∧ (vget n L i j).1 ≤ 1000000) ∧ 0 ≤ (vget n L i j).2 ∧ (vget n L i j).2 < 360 := by
  have hb := bidx_bd (n := n) (by have := h.lo; have := h.hi; omega) hi hj hne
  rw [bmany_nat n ((manyB_iff n).2 (by have := h.lo; have := h.hi; omega))] at hb
  have hl : (bidx n i j).toNat < L.length := by rw [h.len]; omega
  have hv := (visOk_iff _ _).1 (List.all_eq_true.1 h.all _ (List.getElem_mem hl))
  have e : L.getD (bidx n i j).toNat (0, 0) = L[(bidx n i j).toNat] := by simp [hl]
  unfold vget
  rw [e]
  split
  · refine ⟨hv.1, ?_⟩
    show 0 ≤ (-_) % 360 ∧ (-_) % 360 < 360
    omega
  · exact hv
theorem opp_opp (v : V) (h : 0 ≤ v.2 ∧ v.2 < 360) : opp (opp v) = v := by
  apply Prod.ext
  · rfl
  · show (-((-v.2) % 360)) % 360 = v.2
    omega
theorem Ok.anti {n : Nat} {L : List V} (h : Ok n L) {i j : Int} (hi : 0 ≤ i ∧ i < n) (hj : 0 ≤ j ∧ j < n) (hne : i ≠ j) : vget n L j i = opp (vget n L i j) := by
  have hb := (bidx_bd (n := n) (by have := h.lo; have := h.hi; omega) hi hj hne).2.2
  have hg := h.get hj hi (Ne.symm hne)
  unfold vget at hg ⊢
  rw [hb] at hg ⊢
  by_cases hlt : i < j
  · rw [if_pos hlt, if_neg (by omega)]
  · rw [if_neg hlt] at hg ⊢
    rw [if_pos (by omega), opp_opp _ hg.2]

/-- Different antennas. -/
def apK (n : Int) (l : List Int) (k : Nat) : Bool := antB n (l.getD k 0) && !(l.take k).contains (l.getD k 0)
def apB (n : Int) (l : List Int) : Bool := (List.range l.length).all (apK n l)
theorem apK_iff (n : Int) (l : List Int) (k : Nat) : apK n l k = true ↔ (0 ≤ l.getD k 0 ∧ l.getD k 0 < n) ∧ ∀ m, m < k → m < l.length → l.getD m 0 ≠ l.getD k 0 := by
  simp only [apK, Bool.and_eq_true, antB_iff, Bool.not_eq_true', List.contains_eq_mem, decide_eq_false_iff_not]
  refine and_congr_right fun _ => ⟨fun h m h1 h2 e => h ?_, fun h hm => ?_⟩
  · rw [← e, List.getD_eq_getElem?_getD, List.getElem?_eq_getElem h2]
    exact List.mem_take_iff_getElem.2 ⟨m, by omega, rfl⟩
  · obtain ⟨m, h1, h2⟩ := List.mem_take_iff_getElem.1 hm
    refine h m (by omega) (by omega) ?_
    rw [List.getD_eq_getElem?_getD, List.getElem?_eq_getElem (by omega)]
    exact h2
theorem apB_iff (n : Int) (l : List Int) : apB n l = true ↔ ∀ k, k < l.length → (0 ≤ l.getD k 0 ∧ l.getD k 0 < n) ∧ ∀ m, m < k → l.getD m 0 ≠ l.getD k 0 := by
  simp only [apB, List.all_eq_true, List.mem_range, apK_iff]
  exact ⟨fun h k hk => ⟨(h k hk).1, fun m hm => (h k hk).2 m hm (by omega)⟩, fun h k hk => ⟨(h k hk).1, fun m hm _ => (h k hk).2 m hm⟩⟩

def sumN : Nat → (Nat → Int) → Int
  | 0, _ => 0
  | n + 1, f => sumN n f + f n
theorem sumN_bd (n : Nat) (f : Nat → Int) (B : Int) (h : ∀ k, k < n → 0 ≤ f k ∧ f k ≤ B) : 0 ≤ sumN n f ∧ sumN n f ≤ n * B := by
  induction n with
  | zero => simp [sumN]
  | succ n ih =>
    have h1 := ih (fun k hk => h k (by omega))
    have h2 := h n (by omega)
    have e : ((n + 1 : Nat) : Int) * B = n * B + B := by rw [Int.natCast_add, Int.add_mul]; simp
    simp only [sumN]
    omega
/-- The sum of the phases of the first m steps around a loop. -/
def lsum (n : Int) (L : List V) (l : List Int) (m : Nat) : Int := sumN m fun k => (vget n L (l.getD k 0) (l.getD ((k + 1) % l.length) 0)).2
def loopB (n : Int) (L : List V) (l : List Int) : Bool := visB n L && (decide (3 ≤ l.length) && decide (l.length ≤ 7)) && apB n l
def loopP (n : Int) (L : List V) (l : List Int) : Int := if loopB n L l then lsum n L l l.length % 360 else 0
theorem loopB_iff (n : Int) (L : List V) (l : List Int) : loopB n L l = true ↔ visB n L = true ∧ (3 ≤ l.length ∧ l.length ≤ 7) ∧ apB n l = true := by simp [loopB, and_assoc]
theorem step_bd {n : Nat} {L : List V} {l : List Int} (h : Ok n L) (h2 : 2 ≤ l.length) (ha : apB n l = true) (k : Nat) (hk : k < l.length) :
    (0 ≤ l.getD k 0 ∧ l.getD k 0 < n) ∧ (0 ≤ l.getD ((k + 1) % l.length) 0 ∧ l.getD ((k + 1) % l.length) 0 < n) ∧ l.getD k 0 ≠ l.getD ((k + 1) % l.length) 0 ∧
    0 ≤ (vget n L (l.getD k 0) (l.getD ((k + 1) % l.length) 0)).2 ∧ (vget n L (l.getD k 0) (l.getD ((k + 1) % l.length) 0)).2 < 360 := by
  have hq := (apB_iff n l).1 ha
  have hm : (k + 1) % l.length < l.length := Nat.mod_lt _ (by omega)
  have hne : l.getD k 0 ≠ l.getD ((k + 1) % l.length) 0 := by
    by_cases e : k + 1 = l.length
    · rw [e, Nat.mod_self]; exact fun e' => (hq k hk).2 0 (by omega) e'.symm
    · rw [Nat.mod_eq_of_lt (by omega)]; exact (hq (k + 1) (by omega)).2 k (by omega)
  exact ⟨(hq k hk).1, (hq _ hm).1, hne, (h.get (hq k hk).1 (hq _ hm).1 hne).2⟩
theorem lsum_bd {n : Nat} {L : List V} {l : List Int} (h : Ok n L) (h2 : 2 ≤ l.length) (ha : apB n l = true) (m : Nat) (hm : m ≤ l.length) : 0 ≤ lsum n L l m ∧ lsum n L l m ≤ m * 359 := by
  unfold lsum
  exact sumN_bd m _ 359 fun k hk => by have := (step_bd h h2 ha k (by omega)).2.2.2; omega

end Go.Proofs.Ytjpklbkeofjppaa.Vm
