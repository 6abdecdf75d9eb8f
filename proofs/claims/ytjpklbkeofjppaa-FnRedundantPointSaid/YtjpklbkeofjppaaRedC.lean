/- Plain laws: how many kinds of vectors there are. No program in sight. -/
import Derived.Test.YtjpklbkeofjppaaRedM
namespace Go.Proofs.Ytjpklbkeofjppaa.Vm

/-- How many of some vectors are the first of their kind. -/
def cls (vs : List V) : Nat := own (grpK vs) (grpK vs).length
theorem grpK_len (vs : List V) : (grpK vs).length = vs.length := by simp [grpK]
theorem own_pre (G H : List Int) : ∀ k, k ≤ G.length → own (G ++ H) k = own G k := by
  intro k
  induction k with
  | zero => intro _; rfl
  | succ k ih =>
    intro hk
    simp only [own]
    rw [ih (by omega)]
    have : (G ++ H).getD k (-1) = G.getD k (-1) := by
      rw [List.getD_eq_getElem?_getD, List.getD_eq_getElem?_getD, List.getElem?_append_left (by omega)]
    rw [this]
theorem cls_nil : cls [] = 0 := rfl
theorem cls_snoc (vs : List V) (x : V) : cls (vs ++ [x]) = cls vs + if vs.any (rel x) then 0 else 1 := by
  unfold cls
  rw [grpK_len, List.length_append, List.length_singleton, grpK_len]
  simp only [own]
  rw [grpK_step, own_pre _ _ _ (by rw [grpK_len]; omega)]
  congr 1
  have e : (grpK vs ++ [if vs.any (rel x) then (fst vs x : Int) else (vs.length : Int)]).getD vs.length (-1) = if vs.any (rel x) then (fst vs x : Int) else (vs.length : Int) := by
    rw [List.getD_eq_getElem?_getD, List.getElem?_append_right (by rw [grpK_len]; omega), grpK_len]
    simp
  rw [e]
  by_cases h : vs.any (rel x) = true
  · have := fst_lt h
    rw [if_pos h, if_pos h, if_neg (by omega)]
  · rw [if_neg h, if_neg h, if_pos rfl]
/-- Vectors of which no two are of one kind, each of the kind of one of rs, are no more than those. -/
theorem card_le : ∀ (us rs : List V), us.Pairwise (fun a b => rel a b = false) → (∀ u ∈ us, ∃ r ∈ rs, rel u r = true) → us.length ≤ rs.length
  | [], rs, _, _ => Nat.zero_le _
  | u :: us, rs, hp, h => by
    obtain ⟨r, hr, hur⟩ := h u (by simp)
    obtain ⟨h1, h2⟩ := List.pairwise_cons.1 hp
    have ih := card_le us (rs.erase r) h2 (fun u' hu' => by
      obtain ⟨r', hr', hur'⟩ := h u' (by simp [hu'])
      refine ⟨r', (List.mem_erase_of_ne ?_).2 hr', hur'⟩
      rintro rfl
      have := h1 u' hu'
      rw [rel_trans hur (rel_symm hur')] at this
      cases this)
    rw [List.length_erase_of_mem hr] at ih
    have : 0 < rs.length := List.length_pos_of_mem hr
    simp only [List.length_cons]
    omega
/-- One of each kind. -/
theorem reps (ws : List V) : ∃ rs : List V, rs.length = cls ws.reverse ∧ rs.Pairwise (fun a b => rel a b = false) ∧ (∀ r ∈ rs, r ∈ ws) ∧ ∀ v ∈ ws, ∃ r ∈ rs, rel v r = true := by
  induction ws with
  | nil => exact ⟨[], rfl, List.Pairwise.nil, fun _ h => h, fun _ h => by cases h⟩
  | cons x ws ih =>
    obtain ⟨rs, h1, h2, h3, h4⟩ := ih
    rw [List.reverse_cons, cls_snoc]
    by_cases hx : ws.reverse.any (rel x) = true
    · rw [if_pos hx]
      refine ⟨rs, by omega, h2, fun r hr => by simp [h3 r hr], fun v hv => ?_⟩
      rcases List.mem_cons.1 hv with rfl | hv
      · obtain ⟨y, hy, hxy⟩ := List.any_eq_true.1 hx
        obtain ⟨r, hr, hyr⟩ := h4 y (by simpa using hy)
        exact ⟨r, hr, rel_trans hxy hyr⟩
      · exact h4 v hv
    · rw [if_neg hx]
      refine ⟨x :: rs, by simp [h1], List.pairwise_cons.2 ⟨fun r hr => ?_, h2⟩, fun r hr => ?_, fun v hv => ?_⟩
      · rw [Bool.eq_false_iff]
        intro e
        exact hx (List.any_eq_true.2 ⟨r, by simpa using h3 r hr, e⟩)
      · rcases List.mem_cons.1 hr with rfl | hr
        · simp
        · simp [h3 r hr]
      · rcases List.mem_cons.1 hv with rfl | hv
        · exact ⟨v, by simp, rel_self v⟩
        · obtain ⟨r, hr, e⟩ := h4 v hv
          exact ⟨r, by simp [hr], e⟩
theorem reps' (vs : List V) : ∃ rs : List V, rs.length = cls vs ∧ rs.Pairwise (fun a b => rel a b = false) ∧ (∀ r ∈ rs, r ∈ vs) ∧ ∀ v ∈ vs, ∃ r ∈ rs, rel v r = true := by
  obtain ⟨rs, h1, h2, h3, h4⟩ := reps vs.reverse
  rw [List.reverse_reverse] at h1
  exact ⟨rs, h1, h2, fun r hr => by simpa using h3 r hr, fun v hv => h4 v (by simpa using hv)⟩
/-- At least as many kinds as vectors of different kinds. -/
theorem cls_ge {us vs : List V} (hp : us.Pairwise (fun a b => rel a b = false)) (h : ∀ u ∈ us, ∃ v ∈ vs, rel u v = true) : us.length ≤ cls vs := by
  obtain ⟨rs, h1, _, _, h4⟩ := reps' vs
  rw [← h1]
  refine card_le us rs hp (fun u hu => ?_)
  obtain ⟨v, hv, e⟩ := h u hu
  obtain ⟨r, hr, e2⟩ := h4 v hv
  exact ⟨r, hr, rel_trans e e2⟩
/-- Fewer vectors, no more kinds. -/
theorem cls_mono {us vs : List V} (h : ∀ u ∈ us, ∃ v ∈ vs, rel u v = true) : cls us ≤ cls vs := by
  obtain ⟨rs, h1, h2, h3, _⟩ := reps' us
  rw [← h1]
  exact cls_ge h2 (fun r hr => h r (h3 r hr))
theorem redN_cls {L : List V} (h : arrB L = true) : redN L = cls (vecs L) := by
  rw [redN_yes h, grpL_yes h]; rfl
theorem vec_mem' {L : List V} (h7 : L.length ≤ 7) {i j : Nat} (hij : i < j) (hj : j < L.length) : vec L (i, j) ∈ vecs L :=
  List.mem_map.2 ⟨(i, j), List.mem_of_getElem? (bt_all L.length (by omega) i (by omega) j hj hij).2.2.2.1, rfl⟩
/-- Any two different antennas have a vector of some baseline, up to the sign. -/
theorem vec_any {L : List V} (h7 : L.length ≤ 7) {i j : Nat} (hi : i < L.length) (hj : j < L.length) (hne : i ≠ j) : ∃ v ∈ vecs L, rel (vec L (i, j)) v = true := by
  rcases Nat.lt_or_ge i j with h | h
  · exact ⟨_, vec_mem' h7 h hj, rel_self _⟩
  · refine ⟨vec L (j, i), vec_mem' h7 (by omega) hi, ?_⟩
    have := vec_neg L (j, i)
    simp only at this
    rw [this, rel_neg]; exact rel_self _
theorem mem_vecs {L : List V} {v : V} (h : v ∈ vecs L) : ∃ i j : Nat, i < j ∧ j < L.length ∧ v = vec L (i, j) := by
  obtain ⟨x, hx, rfl⟩ := List.mem_map.1 h
  simp only [basesL, List.mem_flatMap, List.mem_range, List.mem_map, List.mem_range'_1] at hx
  obtain ⟨i, hi, j, hj, rfl⟩ := hx
  exact ⟨i, j, by omega, by omega, rfl⟩
def pos (v : V) : Prop := 0 < v.1 ∨ (v.1 = 0 ∧ 0 < v.2)
/-- The least antenna in the order of coordinates. -/
theorem least_ant {L : List V} (h : arrB L = true) : ∀ m, 1 ≤ m → m ≤ L.length → ∃ i, i < m ∧ ∀ j, j < m → j ≠ i → pos (vec L (i, j)) := by
  intro m
  induction m with
  | zero => intro h1; omega
  | succ m ih =>
    intro _ hm
    by_cases h0 : m = 0
    · subst h0
      exact ⟨0, by omega, fun j hj hne => by omega⟩
    · obtain ⟨i, hi, hl⟩ := ih (by omega) (by omega)
      have hne : aat L i ≠ aat L m := ((arrB_iff L).1 h).2.2 i m hi (by omega)
      have hsp : (aat L i).1 ≠ (aat L m).1 ∨ (aat L i).2 ≠ (aat L m).2 := by
        by_cases e1 : (aat L i).1 = (aat L m).1
        · exact .inr (fun e2 => hne (Prod.ext e1 e2))
        · exact .inl e1
      by_cases hp : pos (vec L (i, m))
      · refine ⟨i, by omega, fun j hj hji => ?_⟩
        by_cases e : j = m
        · subst e; exact hp
        · exact hl j (by omega) hji
      · refine ⟨m, by omega, fun j hj hjm => ?_⟩
        have hj2 : j < m := by omega
        by_cases e : j = i
        · subst e
          simp only [pos, vec] at hp ⊢
          omega
        · have := hl j hj2 e
          simp only [pos, vec] at hp this ⊢
          omega
/-- At least as many kinds as antennas but one. -/
theorem cls_lower {L : List V} (h : arrB L = true) : L.length - 1 ≤ cls (vecs L) := by
  obtain ⟨⟨h2, h7⟩, _, hd⟩ := (arrB_iff L).1 h
  obtain ⟨i, hi, hl⟩ := least_ant h L.length (by omega) (Nat.le_refl _)
  have hlen : (((List.range L.length).erase i).map fun j => vec L (i, j)).length = L.length - 1 := by
    rw [List.length_map, List.length_erase_of_mem (List.mem_range.2 hi), List.length_range]
  rw [← hlen]
  have hnd : ((List.range L.length).erase i).Nodup := List.Nodup.erase _ List.nodup_range
  have hmem : ∀ j ∈ (List.range L.length).erase i, j < L.length ∧ j ≠ i := fun j hj => by
    have h1 := (List.Nodup.mem_erase_iff List.nodup_range).1 hj
    exact ⟨List.mem_range.1 h1.2, h1.1⟩
  refine cls_ge ?_ (fun u hu => ?_)
  · rw [List.pairwise_map]
    refine List.Pairwise.imp_of_mem (fun {a b} ha hb hab => ?_) hnd
    obtain ⟨a1, a2⟩ := hmem a ha
    obtain ⟨b1, b2⟩ := hmem b hb
    have pa := hl a a1 a2
    have pb := hl b b1 b2
    rw [Bool.eq_false_iff]
    intro e
    rcases (rel_iff _ _).1 e with e | e
    · have e1 := congrArg Prod.fst e
      have e2 := congrArg Prod.snd e
      simp only [vec] at e1 e2
      have hab2 : aat L a = aat L b := Prod.ext (by omega) (by omega)
      rcases Nat.lt_or_ge a b with hlt | hge
      · exact hd a b hlt b1 hab2
      · exact hd b a (by omega) a1 hab2.symm
    · have e1 := congrArg Prod.fst e
      have e2 := congrArg Prod.snd e
      simp only [vec, neg, pos] at e1 e2 pa pb
      omega
  · obtain ⟨j, hj, rfl⟩ := List.mem_map.1 hu
    obtain ⟨j1, j2⟩ := hmem j hj
    exact vec_any h7 hi j1 (fun e => j2 e.symm)
theorem aat_mem {L : List V} {i : Nat} (h : i < L.length) : aat L i ∈ L := by rw [aat_nat L i h]; exact List.getElem_mem h
theorem mem_aat {L : List V} {x : V} (h : x ∈ L) : ∃ i : Nat, i < L.length ∧ aat L i = x := by
  obtain ⟨i, hi, e⟩ := List.mem_iff_getElem.1 h
  exact ⟨i, hi, by rw [aat_nat L i hi, e]⟩
theorem arrB_nodup (L : List V) : arrB L = true ↔ (2 ≤ L.length ∧ L.length ≤ 7) ∧ (∀ x ∈ L, plB x = true) ∧ L.Nodup := by
  rw [arrB_iff]
  refine and_congr_right fun _ => and_congr ⟨fun h x hx => ?_, fun h i hi => h _ (aat_mem hi)⟩ ⟨fun h => ?_, fun h i j hij hj e => ?_⟩
  · obtain ⟨i, hi, rfl⟩ := mem_aat hx
    exact h i hi
  · refine List.pairwise_iff_getElem.2 fun i j hi hj hij e => ?_
    exact h i j hij hj (by rw [aat_nat L i hi, aat_nat L j hj, e])
  · have := List.pairwise_iff_getElem.1 h i j (by omega) hj hij
    rw [aat_nat L i (by omega), aat_nat L j hj] at e
    exact this e
/-- Antennas of an array: no more kinds than the array has. -/
theorem cls_sub {L M : List V} (h : arrB L = true) (hM : arrB M = true) (hs : ∀ x ∈ M, x ∈ L) : cls (vecs M) ≤ cls (vecs L) := by
  refine cls_mono fun u hu => ?_
  obtain ⟨i, j, hij, hj, rfl⟩ := mem_vecs hu
  obtain ⟨a, ha, ea⟩ := mem_aat (hs _ (aat_mem (L := M) (i := i) (by omega)))
  obtain ⟨b, hb, eb⟩ := mem_aat (hs _ (aat_mem (L := M) (i := j) hj))
  have hne : aat M i ≠ aat M j := ((arrB_iff M).1 hM).2.2 i j hij hj
  have hab : a ≠ b := fun e => hne (by rw [← ea, ← eb, e])
  have e : vec M (i, j) = vec L (a, b) := by
    simp only [vec]; rw [ea, eb]
  rw [e]
  exact vec_any ((arrB_iff L).1 h).1.2 ha hb hab
/-- FnGroupsLess. -/
theorem less_law {L : List V} (h : arrB L = true) : (L.length : Int) - 1 ≤ redN L ∧ (L.length = 2 ∨ redN (L.take (L.length - 1)) ≤ redN L) := by
  obtain ⟨⟨l1, l2⟩, h2, h3⟩ := (arrB_nodup L).1 h
  have h4 := cls_lower h
  refine ⟨by rw [redN_cls h]; omega, ?_⟩
  by_cases h5 : L.length = 2
  · exact .inl h5
  · right
    have hM : arrB (L.take (L.length - 1)) = true := (arrB_nodup _).2 ⟨by rw [List.length_take]; omega, fun x hx => h2 x (List.mem_of_mem_take hx), List.Nodup.sublist (List.take_sublist _ _) h3⟩
    rw [redN_cls h, redN_cls hM]
    have := cls_sub h hM (fun x hx => List.mem_of_mem_take hx)
    omega
/-- FnGroupsOrder. -/
theorem order_law {L : List V} (h : arrB L = true) (k : Nat) : redN (L.drop k ++ L.take k) = redN L := by
  obtain ⟨⟨l1, l2⟩, h2, h3⟩ := (arrB_nodup L).1 h
  have hp : (L.drop k ++ L.take k).Perm L := by
    have := (List.perm_append_comm (l₁ := L.drop k) (l₂ := L.take k))
    rwa [List.take_append_drop] at this
  have hM : arrB (L.drop k ++ L.take k) = true := (arrB_nodup _).2 ⟨by rw [hp.length_eq]; omega, fun x hx => h2 x (hp.mem_iff.1 hx), hp.nodup_iff.2 h3⟩
  rw [redN_cls h, redN_cls hM]
  have e1 := cls_sub h hM (fun x hx => hp.mem_iff.1 hx)
  have e2 := cls_sub hM h (fun x hx => hp.mem_iff.2 hx)
  omega
/-- A line of equal steps. -/
def lineL (n : Nat) (s : Int) : List V := (List.range n).map fun i : Nat => ((i : Int) * s, 3 * (i : Int))
theorem lineL_len (n : Nat) (s : Int) : (lineL n s).length = n := by simp [lineL]
theorem lineL_at {n : Nat} {s : Int} {i : Nat} (h : i < n) : aat (lineL n s) i = ((i : Int) * s, 3 * (i : Int)) := by
  rw [aat_nat _ i (by rw [lineL_len]; exact h)]
  simp [lineL]
theorem lineL_ok {n : Nat} {s : Int} (h2 : 2 ≤ n) (h7 : n ≤ 7) (s1 : 1 ≤ s) (s5 : s ≤ 5) : arrB (lineL n s) = true := by
  refine (arrB_iff _).2 ⟨by rw [lineL_len]; omega, fun i hi => ?_, fun i j hij hj e => ?_⟩
  · rw [lineL_len] at hi
    rw [lineL_at hi]
    have hs : s = 1 ∨ s = 2 ∨ s = 3 ∨ s = 4 ∨ s = 5 := by omega
    refine (plB_iff _).2 ?_
    rcases hs with rfl | rfl | rfl | rfl | rfl <;> simp only <;> omega
  · rw [lineL_len] at hj
    rw [lineL_at hj, lineL_at (by omega)] at e
    have := congrArg Prod.snd e
    simp only at this
    omega
theorem line_law {n : Nat} {s : Int} (h2 : 2 ≤ n) (h7 : n ≤ 7) (s1 : 1 ≤ s) (s5 : s ≤ 5) : redN (lineL n s) = (n : Int) - 1 := by
  have hok := lineL_ok h2 h7 s1 s5
  rw [redN_cls hok]
  have h1 := cls_lower hok
  rw [lineL_len] at h1
  have h3 : cls (vecs (lineL n s)) ≤ n - 1 := by
    obtain ⟨rs, e1, e2, e3, _⟩ := reps' (vecs (lineL n s))
    rw [← e1]
    have hl : ((List.range (n - 1)).map fun d => vec (lineL n s) (0, d + 1)).length = n - 1 := by simp
    rw [← hl]
    refine card_le _ _ e2 (fun r hr => ?_)
    obtain ⟨i, j, hij, hj, rfl⟩ := mem_vecs (e3 r hr)
    rw [lineL_len] at hj
    refine ⟨vec (lineL n s) (0, j - i - 1 + 1), List.mem_map.2 ⟨j - i - 1, List.mem_range.2 (by omega), rfl⟩, ?_⟩
    have e : vec (lineL n s) (i, j) = vec (lineL n s) (0, j - i - 1 + 1) := by
      simp only [vec]
      rw [lineL_at (i := i) (by omega), lineL_at (i := j) hj, lineL_at (i := 0) (by omega), lineL_at (i := j - i - 1 + 1) (by omega)]
      have hd : ((j - i - 1 + 1 : Nat) : Int) = (j : Int) - i := by omega
      refine Prod.ext ?_ ?_
      · simp only [hd, Int.sub_mul]; simp
      · simp only [hd]; omega
    rw [e]; exact rel_self _
  omega
end Go.Proofs.Ytjpklbkeofjppaa.Vm
