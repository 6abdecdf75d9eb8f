/- Plain laws on redundant baselines: fresh entries, turned and shifted arrays, point sources. No program in sight. -/
import Derived.Test.YtjpklbkeofjppaaGrpS
import Derived.Test.YtjpklbkeofjppaaRedC
namespace Go.Proofs.Ytjpklbkeofjppaa.Vm

theorem fst_rel {vs : List V} {a b : V} (h : rel a b = true) : fst vs b = fst vs a := by
  rcases (rel_iff _ _).1 h with rfl | rfl
  · rfl
  · exact fst_neg _ _
/-- No entry ahead of m is the entry k. -/
def freshB (G : List Int) (k : Nat) : Nat → Bool
  | 0 => true
  | m + 1 => freshB G k m && decide (G.getD m 0 ≠ G.getD k 0)
theorem freshB_iff (G : List Int) (k : Nat) : ∀ m, freshB G k m = true ↔ ∀ j, j < m → G.getD j 0 ≠ G.getD k 0 := by
  intro m
  induction m with
  | zero => simp [freshB]
  | succ m ih =>
    simp only [freshB, Bool.and_eq_true, ih, decide_eq_true_eq]
    refine ⟨fun h j hj => ?_, fun h => ⟨fun j hj => h j (by omega), h m (by omega)⟩⟩
    by_cases e : j = m
    · subst e; exact h.2
    · exact h.1 j (by omega)
theorem grp_getD {L : List V} (ha : arrB L = true) {k : Nat} (hk : k < (vecs L).length) : (grpL L).getD k 0 = (fst (vecs L) ((vecs L).getD k (0, 0)) : Int) := by
  rw [List.getD_eq_getElem?_getD, grp_at ha hk]; rfl
theorem fst_fst {vs : List V} {k : Nat} (hk : k < vs.length) : fst vs (vs.getD (fst vs (vs.getD k (0, 0))) (0, 0)) = fst vs (vs.getD k (0, 0)) := fst_rel (fst_self hk).2
theorem fresh_law {L : List V} (ha : arrB L = true) {k : Nat} (hk : k < (vecs L).length) : freshB (grpL L) k k = decide ((grpL L).getD k 0 = (k : Int)) := by
  obtain ⟨f1, f2⟩ := fst_self hk
  rw [Bool.eq_iff_iff, freshB_iff, decide_eq_true_eq, grp_getD ha hk]
  constructor
  · intro h
    by_cases e : fst (vecs L) ((vecs L).getD k (0, 0)) = k
    · rw [e]
    · exfalso
      refine h (fst (vecs L) ((vecs L).getD k (0, 0))) (by omega) ?_
      rw [grp_getD ha (by omega), fst_fst hk]
  · intro h j hj
    rw [grp_getD ha (by omega)]
    have := (fst_self (vs := vecs L) (k := j) (by omega)).1
    omega
theorem many_law {L : List V} (ha : arrB L = true) : 1 ≤ redN L ∧ redN L ≤ bmany (L.length : Int) := by
  have h1 := (less_law ha).1
  have h2 := ((arrB_iff L).1 ha).1.1
  refine ⟨by omega, ?_⟩
  rw [(vecs_21 ha).2.2, redN_yes ha, ← grp_len ha]
  have := own_le (grpL L) (grpL L).length
  omega
/-- A quarter turn. -/
def trn (v : V) : V := (-v.2, v.1)
def shf (x y : Int) (v : V) : V := (v.1 + x, v.2 + y)
theorem aat_mapn {f : V → V} {L : List V} {i : Nat} (h : i < L.length) : aat (L.map f) i = f (aat L i) := by
  rw [aat_nat _ i (by simpa using h), aat_nat L i h, List.getElem_map]
theorem arr_map {f : V → V} (hp : ∀ x, plB x = true → plB (f x) = true) (hi : ∀ x y, f x = f y → x = y) {L : List V} (h : arrB L = true) : arrB (L.map f) = true := by
  obtain ⟨h1, h2, h3⟩ := (arrB_iff L).1 h
  refine (arrB_iff _).2 ⟨by simpa using h1, fun i hi' => ?_, fun i j hij hj e => ?_⟩
  · rw [List.length_map] at hi'
    rw [aat_mapn hi']; exact hp _ (h2 i hi')
  · rw [List.length_map] at hj
    rw [aat_mapn hj, aat_mapn (by omega)] at e
    exact h3 i j hij hj (hi _ _ e)
theorem vecs_map {f g : V → V} (hv : ∀ a b : V, ((f b).1 - (f a).1, (f b).2 - (f a).2) = g (b.1 - a.1, b.2 - a.2)) (L : List V) : vecs (L.map f) = (vecs L).map g := by
  unfold vecs
  rw [List.length_map, List.map_map]
  refine List.map_congr_left fun x hx => ?_
  obtain ⟨m1, m2⟩ := bases_mem2 hx
  show vec (L.map f) x = g (vec L x)
  unfold vec
  rw [aat_mapn (i := x.2) (by omega), aat_mapn (i := x.1) (by omega)]
  exact hv _ _
theorem fst_map {g : V → V} (hr : ∀ a b, rel (g a) (g b) = rel a b) (vs : List V) (v : V) : fst (vs.map g) (g v) = fst vs v := by
  unfold fst
  rw [List.findIdx_map]
  congr 1
  funext b
  exact hr v b
theorem grp_map {f g : V → V} (hv : ∀ a b : V, ((f b).1 - (f a).1, (f b).2 - (f a).2) = g (b.1 - a.1, b.2 - a.2)) (hr : ∀ a b, rel (g a) (g b) = rel a b) {L : List V} (ha : arrB L = true) (hm : arrB (L.map f) = true) : grpL (L.map f) = grpL L := by
  rw [grpL_yes ha, grpL_yes hm, vecs_map hv, List.map_map]
  refine List.map_congr_left fun v _ => ?_
  show ((fst _ (g v) : Nat) : Int) = _
  rw [fst_map hr]
theorem trn_rel (a b : V) : rel (trn a) (trn b) = rel a b := by
  obtain ⟨a1, a2⟩ := a
  obtain ⟨b1, b2⟩ := b
  rw [Bool.eq_iff_iff, rel_iff, rel_iff]
  simp only [trn, neg, Prod.mk.injEq]
  omega
theorem trn_arr {L : List V} (h : arrB L = true) : arrB (L.map trn) = true := by
  refine arr_map (fun x hx => ?_) (fun x y e => ?_) h
  · have := (plB_iff x).1 hx
    refine (plB_iff _).2 ?_
    simp only [trn]
    omega
  · obtain ⟨x1, x2⟩ := x
    obtain ⟨y1, y2⟩ := y
    simp only [trn, Prod.mk.injEq] at e ⊢
    omega
def turnL (L : List V) : Nat → List V
  | 0 => L
  | k + 1 => (turnL L k).map trn
theorem turnL_len (L : List V) (k : Nat) : (turnL L k).length = L.length := by
  induction k with
  | zero => rfl
  | succ k ih => rw [turnL, List.length_map, ih]
theorem turnL_arr {L : List V} (h : arrB L = true) (k : Nat) : arrB (turnL L k) = true := by
  induction k with
  | zero => exact h
  | succ k ih => exact trn_arr ih
theorem turn_law {L : List V} (h : arrB L = true) (k : Nat) : grpL (turnL L k) = grpL L := by
  induction k with
  | zero => rfl
  | succ k ih =>
    have hv : ∀ a b : V, ((trn b).1 - (trn a).1, (trn b).2 - (trn a).2) = trn (b.1 - a.1, b.2 - a.2) := fun a b => by
      refine Prod.ext ?_ ?_
      · show -b.2 - -a.2 = -(b.2 - a.2); omega
      · rfl
    have := grp_map (f := trn) (g := trn) hv trn_rel (turnL_arr h k) (turnL_arr h (k + 1))
    rw [← ih]; exact this
theorem shift_law {L : List V} (h : arrB L = true) (x y : Int) (hm : arrB (L.map (shf x y)) = true) : grpL (L.map (shf x y)) = grpL L := by
  have hv : ∀ a b : V, ((shf x y b).1 - (shf x y a).1, (shf x y b).2 - (shf x y a).2) = id (b.1 - a.1, b.2 - a.2) := fun a b => by
    refine Prod.ext ?_ ?_
    · show b.1 + x - (a.1 + x) = b.1 - a.1; omega
    · show b.2 + y - (a.2 + y) = b.2 - a.2; omega
  exact grp_map (f := shf x y) (g := id) hv (fun _ _ => rfl) h hm
/-- The visibility of a point source depends on the vector alone. -/
def dotF (d : V) (amp : Int) (v : V) : V := (amp, (v.1 * d.1 + v.2 * d.2) % 360)
theorem ptF_vec (L : List V) (d : V) (amp : Int) (x : Nat × Nat) : ptF L d amp x.1 x.2 = dotF d amp (vec L x) := by
  have e : delay L d x.2 - delay L d x.1 = (vec L x).1 * d.1 + (vec L x).2 * d.2 := by
    simp only [delay, vec, Int.sub_mul]; omega
  simp only [ptF, dotF, e]
theorem dotF_neg (d : V) (amp : Int) (v : V) : dotF d amp (neg v) = opp (dotF d amp v) := by
  simp only [dotF, neg, opp, Int.neg_mul, Prod.mk.injEq, true_and]
  omega
theorem ptL_vecs {L : List V} {d : V} {amp : Int} (h : ptB L d amp = true) : ptL L d amp = (vecs L).map (dotF d amp) := by
  rw [ptL_yes h, vecs, List.map_map]
  exact List.map_congr_left fun x _ => ptF_vec L d amp x
theorem spread_law {vs : List V} {F : V → V} (hF : ∀ v, F (neg v) = opp (F v)) {k : Nat} (hk : k < vs.length) :
    (if vs.getD k (0, 0) = vs.getD (fst vs (vs.getD k (0, 0))) (0, 0) then F (vs.getD (fst vs (vs.getD k (0, 0))) (0, 0)) else opp (F (vs.getD (fst vs (vs.getD k (0, 0))) (0, 0)))) = F (vs.getD k (0, 0)) := by
  have h := (fst_self hk).2
  obtain ⟨u, hu⟩ : ∃ u, vs.getD (fst vs (vs.getD k (0, 0))) (0, 0) = u := ⟨_, rfl⟩
  rw [hu] at h ⊢
  rcases (rel_iff _ _).1 (rel_symm h) with e | e
  · rw [if_pos e, e]
  · by_cases e2 : vs.getD k (0, 0) = u
    · rw [if_pos e2, e2]
    · rw [if_neg e2, e, hF]
end Go.Proofs.Ytjpklbkeofjppaa.Vm
