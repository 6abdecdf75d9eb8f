/- Plain laws on closure phases. No program in sight. -/
import Derived.Test.YtjpklbkeofjppaaVisM
namespace Go.Proofs.Ytjpklbkeofjppaa.Vm

theorem apB_nodup (n : Int) (l : List Int) : apB n l = true ↔ (∀ x ∈ l, 0 ≤ x ∧ x < n) ∧ l.Nodup := by
  rw [apB_iff, List.Nodup, List.pairwise_iff_getElem]
  constructor
  · intro h
    refine ⟨fun x hx => ?_, fun i j hi hj hij e => ?_⟩
    · obtain ⟨k, hk, rfl⟩ := List.getElem_of_mem hx
      have := (h k hk).1
      simpa [hk] using this
    · have := (h j hj).2 i hij
      simp [hi, hj] at this
      exact this e
  · rintro ⟨h1, h2⟩ k hk
    refine ⟨by have := h1 _ (List.getElem_mem hk); simpa [hk] using this, fun m hm => ?_⟩
    have := h2 m k (by omega) hk hm
    have hm' : m < l.length := by omega
    simpa [hk, hm'] using this
theorem len_cases (l : List Int) (h1 : 3 ≤ l.length) (h2 : l.length ≤ 7) :
    (∃ a b c, l = [a, b, c]) ∨ (∃ a b c d, l = [a, b, c, d]) ∨ (∃ a b c d e, l = [a, b, c, d, e]) ∨ (∃ a b c d e f, l = [a, b, c, d, e, f]) ∨ (∃ a b c d e f g, l = [a, b, c, d, e, f, g]) := by
  match l, h1, h2 with
  | [a, b, c], _, _ => exact .inl ⟨a, b, c, rfl⟩
  | [a, b, c, d], _, _ => exact .inr (.inl ⟨a, b, c, d, rfl⟩)
  | [a, b, c, d, e], _, _ => exact .inr (.inr (.inl ⟨a, b, c, d, e, rfl⟩))
  | [a, b, c, d, e, f], _, _ => exact .inr (.inr (.inr (.inl ⟨a, b, c, d, e, f, rfl⟩)))
  | [a, b, c, d, e, f, g], _, _ => exact .inr (.inr (.inr (.inr ⟨a, b, c, d, e, f, g, rfl⟩)))
  | [], h1, _ => simp at h1
  | [_], h1, _ => simp at h1
  | [_, _], h1, _ => simp at h1
  | _ :: _ :: _ :: _ :: _ :: _ :: _ :: _ :: _, _, h2 => simp at h2

/-- The phase of two antennas. -/
def ph (n : Int) (L : List V) (i j : Int) : Int := (vget n L i j).2
theorem lsum_ph (n : Int) (L : List V) (l : List Int) (m : Nat) : lsum n L l m = sumN m fun k => ph n L (l.getD k 0) (l.getD ((k + 1) % l.length) 0) := rfl
theorem ph_facts {n : Nat} {L : List V} {l : List Int} (h : Ok n L) (ha : apB n l = true) : ∀ a ∈ l, ∀ b ∈ l, a ≠ b → ph n L b a = (-(ph n L a b)) % 360 ∧ 0 ≤ ph n L a b ∧ ph n L a b < 360 := by
  intro a hma b hmb hne
  obtain ⟨h1, _⟩ := (apB_nodup n l).1 ha
  refine ⟨?_, (h.get (h1 a hma) (h1 b hmb) hne).2⟩
  rw [ph, h.anti (h1 a hma) (h1 b hmb) hne]; rfl
theorem loopP_eq {n : Int} {L : List V} {l : List Int} (h : loopB n L l = true) : loopP n L l = lsum n L l l.length % 360 := by rw [loopP, if_pos h]
theorem loopP_no {n : Int} {L : List V} {l : List Int} (h : loopB n L l = false) : loopP n L l = 0 := by rw [loopP, h]; rfl
theorem loop_of {n : Nat} {L : List V} {l m : List Int} (h : loopB n L l = true) (h3 : 3 ≤ m.length) (h7 : m.length ≤ 7) (hs : ∀ x ∈ m, x ∈ l) (hd : m.Nodup) : loopB n L m = true := by
  obtain ⟨h1, h2, h4⟩ := (loopB_iff _ _ _).1 h
  obtain ⟨h5, h6⟩ := (apB_nodup n l).1 h4
  exact (loopB_iff _ _ _).2 ⟨h1, ⟨h3, h7⟩, (apB_nodup n m).2 ⟨fun x hx => h5 x (hs x hx), hd⟩⟩
theorem loop_nodup {n : Int} {L : List V} {l : List Int} (h : loopB n L l = true) : l.Nodup := ((apB_nodup n l).1 ((loopB_iff _ _ _).1 h).2.2).2
theorem loop_len {n : Int} {L : List V} {l : List Int} (h : loopB n L l = true) : 3 ≤ l.length ∧ l.length ≤ 7 := ((loopB_iff _ _ _).1 h).2.1
theorem loop_facts {n : Nat} {L : List V} {l : List Int} (h : loopB n L l = true) : ∀ a ∈ l, ∀ b ∈ l, a ≠ b → ph n L b a = (-(ph n L a b)) % 360 ∧ 0 ≤ ph n L a b ∧ ph n L a b < 360 := by
  obtain ⟨h1, _, h2⟩ := (loopB_iff _ _ _).1 h
  obtain ⟨m, e, hO⟩ := Ok.of h1
  obtain rfl : n = m := by omega
  exact ph_facts hO h2
theorem loop3 {n : Int} {L : List V} {i j k : Int} (h : loopB n L [i, j, k] = true) : loopP n L [i, j, k] = (ph n L i j + ph n L j k + ph n L k i) % 360 := by
  rw [loopP_eq h, lsum_ph]; simp [sumN]
theorem loop4 {n : Int} {L : List V} {a b c d : Int} (h : loopB n L [a, b, c, d] = true) : loopP n L [a, b, c, d] = (ph n L a b + ph n L b c + ph n L c d + ph n L d a) % 360 := by
  rw [loopP_eq h, lsum_ph]; simp [sumN]
theorem loop5 {n : Int} {L : List V} {a b c d e : Int} (h : loopB n L [a, b, c, d, e] = true) : loopP n L [a, b, c, d, e] = (ph n L a b + ph n L b c + ph n L c d + ph n L d e + ph n L e a) % 360 := by
  rw [loopP_eq h, lsum_ph]; simp [sumN]
theorem loop6 {n : Int} {L : List V} {a b c d e f : Int} (h : loopB n L [a, b, c, d, e, f] = true) : loopP n L [a, b, c, d, e, f] = (ph n L a b + ph n L b c + ph n L c d + ph n L d e + ph n L e f + ph n L f a) % 360 := by
  rw [loopP_eq h, lsum_ph]; simp [sumN]
theorem loop7 {n : Int} {L : List V} {a b c d e f g : Int} (h : loopB n L [a, b, c, d, e, f, g] = true) : loopP n L [a, b, c, d, e, f, g] = (ph n L a b + ph n L b c + ph n L c d + ph n L d e + ph n L e f + ph n L f g + ph n L g a) % 360 := by
  rw [loopP_eq h, lsum_ph]; simp [sumN]

/-- A closure phase has six orders. -/
theorem six {n : Nat} {L : List V} {i j k : Int} (h : loopB n L [i, j, k] = true) :
    loopB n L [j, k, i] = true ∧ loopB n L [j, i, k] = true ∧ loopP n L [j, k, i] = loopP n L [i, j, k] ∧ loopP n L [j, i, k] = (0 - loopP n L [i, j, k]) % 360 := by
  have hd := loop_nodup h
  simp at hd
  obtain ⟨⟨d1, d2⟩, d3⟩ := hd
  have h1 : loopB n L [j, k, i] = true := loop_of h (by simp) (by simp) (by simp) (by simp; exact ⟨⟨d3, fun e => d1 e.symm⟩, fun e => d2 e.symm⟩)
  have h2 : loopB n L [j, i, k] = true := loop_of h (by simp) (by simp) (by simp) (by simp; exact ⟨⟨fun e => d1 e.symm, d3⟩, d2⟩)
  have f1 := loop_facts h i (by simp) j (by simp) d1
  have f2 := loop_facts h i (by simp) k (by simp) d2
  have f3 := loop_facts h j (by simp) k (by simp) d3
  rw [loop3 h, loop3 h1, loop3 h2]
  refine ⟨h1, h2, ?_, ?_⟩
  · congr 1; omega
  · omega
/-- Four triangles close. -/
theorem four {n : Nat} {L : List V} {i j k l : Int} (h : loopB n L [i, j, k] = true) (hl : l ≠ i ∧ l ≠ j ∧ l ≠ k) (h0 : 0 ≤ l) (hn : l < n) :
    loopB n L [i, k, l] = true ∧ loopB n L [i, j, l] = true ∧ loopB n L [j, k, l] = true ∧ (loopP n L [i, j, k] + loopP n L [i, k, l]) % 360 = (loopP n L [i, j, l] + loopP n L [j, k, l]) % 360 := by
  have hd := loop_nodup h
  simp at hd
  obtain ⟨⟨d1, d2⟩, d3⟩ := hd
  obtain ⟨d4, d5, d6⟩ := hl
  have h4 : apB n [i, j, k, l] = true := by
    obtain ⟨_, _, ha⟩ := (loopB_iff _ _ _).1 h
    obtain ⟨h5, h6⟩ := (apB_nodup n _).1 ha
    refine (apB_nodup n _).2 ⟨fun x hx => ?_, ?_⟩
    · simp at hx
      rcases hx with rfl | rfl | rfl | rfl
      · exact h5 _ (by simp)
      · exact h5 _ (by simp)
      · exact h5 _ (by simp)
      · exact ⟨h0, hn⟩
    · simp; exact ⟨⟨d1, d2, fun e => d4 e.symm⟩, ⟨d3, fun e => d5 e.symm⟩, fun e => d6 e.symm⟩
  have h44 : loopB n L [i, j, k, l] = true := (loopB_iff _ _ _).2 ⟨((loopB_iff _ _ _).1 h).1, by simp, h4⟩
  have h1 : loopB n L [i, k, l] = true := loop_of h44 (by simp) (by simp) (by simp) (by simp; exact ⟨⟨d2, fun e => d4 e.symm⟩, fun e => d6 e.symm⟩)
  have h2 : loopB n L [i, j, l] = true := loop_of h44 (by simp) (by simp) (by simp) (by simp; exact ⟨⟨d1, fun e => d4 e.symm⟩, fun e => d5 e.symm⟩)
  have h3 : loopB n L [j, k, l] = true := loop_of h44 (by simp) (by simp) (by simp) (by simp; exact ⟨⟨d3, fun e => d5 e.symm⟩, fun e => d6 e.symm⟩)
  have f1 := loop_facts h44 i (by simp) k (by simp) d2
  have f2 := loop_facts h44 j (by simp) l (by simp) (fun e => d5 e.symm)
  rw [loop3 h, loop3 h1, loop3 h2, loop3 h3]
  refine ⟨h1, h2, h3, ?_⟩
  omega
theorem four_no {n : Nat} {L : List V} {i j l : Int} (hn : (n : Int) ≤ l) : loopB n L [i, j, l] = false := by
  rw [Bool.eq_false_iff]
  intro h
  obtain ⟨_, _, ha⟩ := (loopB_iff _ _ _).1 h
  have := ((apB_nodup n _).1 ha).1 l (by simp)
  omega

theorem rot_nodup {a : Int} {t : List Int} (h : (a :: t).Nodup) : (t ++ [a]).Nodup := by
  have h1 := List.nodup_cons.1 h
  rw [List.nodup_append]
  refine ⟨h1.2, by simp, fun x hx y hy e => h1.1 ?_⟩
  simp at hy
  subst hy; subst e; exact hx

set_option maxHeartbeats 1000000 in
/-- A loop is cut in two. -/
theorem cut2 {n : Nat} {L : List V} {l : List Int} (h : loopB n L l = true) (h4 : 4 ≤ l.length) :
    loopB n L (l.take 3) = true ∧ loopB n L (l.getD 0 0 :: l.drop 2) = true ∧ (loopP n L (l.take 3) + loopP n L (l.getD 0 0 :: l.drop 2)) % 360 = loopP n L l := by
  obtain ⟨h3, h7⟩ := loop_len h
  have hd := loop_nodup h
  have hf := loop_facts h
  have a1 : loopB n L (l.take 3) = true := loop_of h (by simp; omega) (by simp; omega) (fun x hx => List.mem_of_mem_take hx) (hd.sublist (List.take_sublist 3 l))
  rcases len_cases l h3 h7 with ⟨a, b, c, rfl⟩ | ⟨a, b, c, d, rfl⟩ | ⟨a, b, c, d, e, rfl⟩ | ⟨a, b, c, d, e, f, rfl⟩ | ⟨a, b, c, d, e, f, g, rfl⟩
  · simp at h4
  · have a2 : loopB n L [a, c, d] = true := loop_of h (by simp) (by simp) (by simp) (hd.sublist (by simp))
    have f1 := hf a (by simp) c (by simp) (by rintro rfl; simp at hd)
    refine ⟨a1, a2, ?_⟩
    show (loopP n L [a, b, c] + loopP n L [a, c, d]) % 360 = _
    rw [loop3 a1, loop3 a2, loop4 h]; omega
  · have a2 : loopB n L [a, c, d, e] = true := loop_of h (by simp) (by simp) (by simp) (hd.sublist (by simp))
    have f1 := hf a (by simp) c (by simp) (by rintro rfl; simp at hd)
    refine ⟨a1, a2, ?_⟩
    show (loopP n L [a, b, c] + loopP n L [a, c, d, e]) % 360 = _
    rw [loop3 a1, loop4 a2, loop5 h]; omega
  · have a2 : loopB n L [a, c, d, e, f] = true := loop_of h (by simp) (by simp) (by simp) (hd.sublist (by simp))
    have f1 := hf a (by simp) c (by simp) (by rintro rfl; simp at hd)
    refine ⟨a1, a2, ?_⟩
    show (loopP n L [a, b, c] + loopP n L [a, c, d, e, f]) % 360 = _
    rw [loop3 a1, loop5 a2, loop6 h]; omega
  · have a2 : loopB n L [a, c, d, e, f, g] = true := loop_of h (by simp) (by simp) (by simp) (hd.sublist (by simp))
    have f1 := hf a (by simp) c (by simp) (by rintro rfl; simp at hd)
    refine ⟨a1, a2, ?_⟩
    show (loopP n L [a, b, c] + loopP n L [a, c, d, e, f, g]) % 360 = _
    rw [loop3 a1, loop6 a2, loop7 h]; omega

set_option maxHeartbeats 1000000 in
/-- A loop begins anywhere, and goes either way. -/
theorem turn2 {n : Nat} {L : List V} {l : List Int} (h : loopB n L l = true) :
    loopB n L (l.drop 1 ++ [l.getD 0 0]) = true ∧ loopP n L (l.drop 1 ++ [l.getD 0 0]) = loopP n L l ∧ loopB n L l.reverse = true ∧ loopP n L l.reverse = (0 - loopP n L l) % 360 := by
  obtain ⟨h3, h7⟩ := loop_len h
  have hd := loop_nodup h
  have hf := loop_facts h
  have a1 : loopB n L l.reverse = true := loop_of h (by simp; omega) (by simp; omega) (by simp) (List.pairwise_reverse.2 (hd.imp fun h e => h e.symm))
  rcases len_cases l h3 h7 with ⟨a, b, c, rfl⟩ | ⟨a, b, c, d, rfl⟩ | ⟨a, b, c, d, e, rfl⟩ | ⟨a, b, c, d, e, f, rfl⟩ | ⟨a, b, c, d, e, f, g, rfl⟩
  · have a2 : loopB n L [b, c, a] = true := loop_of h (by simp) (by simp) (by simp) (rot_nodup hd)
    have a3 : loopB n L [c, b, a] = true := a1
    have f1 := hf a (by simp) b (by simp) (by rintro rfl; simp at hd)
    have f2 := hf b (by simp) c (by simp) (by rintro rfl; simp at hd)
    have f3 := hf c (by simp) a (by simp) (by rintro rfl; simp at hd)
    refine ⟨a2, ?_, a1, ?_⟩
    · show loopP n L [b, c, a] = _
      rw [loop3 a2, loop3 h]; congr 1; omega
    · show loopP n L [c, b, a] = _
      rw [loop3 a3, loop3 h]; omega
  · have a2 : loopB n L [b, c, d, a] = true := loop_of h (by simp) (by simp) (by simp) (rot_nodup hd)
    have a3 : loopB n L [d, c, b, a] = true := a1
    have f1 := hf a (by simp) b (by simp) (by rintro rfl; simp at hd)
    have f2 := hf b (by simp) c (by simp) (by rintro rfl; simp at hd)
    have f3 := hf c (by simp) d (by simp) (by rintro rfl; simp at hd)
    have f4 := hf d (by simp) a (by simp) (by rintro rfl; simp at hd)
    refine ⟨a2, ?_, a1, ?_⟩
    · show loopP n L [b, c, d, a] = _
      rw [loop4 a2, loop4 h]; congr 1; omega
    · show loopP n L [d, c, b, a] = _
      rw [loop4 a3, loop4 h]; omega
  · have a2 : loopB n L [b, c, d, e, a] = true := loop_of h (by simp) (by simp) (by simp) (rot_nodup hd)
    have a3 : loopB n L [e, d, c, b, a] = true := a1
    have f1 := hf a (by simp) b (by simp) (by rintro rfl; simp at hd)
    have f2 := hf b (by simp) c (by simp) (by rintro rfl; simp at hd)
    have f3 := hf c (by simp) d (by simp) (by rintro rfl; simp at hd)
    have f4 := hf d (by simp) e (by simp) (by rintro rfl; simp at hd)
    have f5 := hf e (by simp) a (by simp) (by rintro rfl; simp at hd)
    refine ⟨a2, ?_, a1, ?_⟩
    · show loopP n L [b, c, d, e, a] = _
      rw [loop5 a2, loop5 h]; congr 1; omega
    · show loopP n L [e, d, c, b, a] = _
      rw [loop5 a3, loop5 h]; omega
  · have a2 : loopB n L [b, c, d, e, f, a] = true := loop_of h (by simp) (by simp) (by simp) (rot_nodup hd)
    have a3 : loopB n L [f, e, d, c, b, a] = true := a1
    have f1 := hf a (by simp) b (by simp) (by rintro rfl; simp at hd)
    have f2 := hf b (by simp) c (by simp) (by rintro rfl; simp at hd)
    have f3 := hf c (by simp) d (by simp) (by rintro rfl; simp at hd)
    have f4 := hf d (by simp) e (by simp) (by rintro rfl; simp at hd)
    have f5 := hf e (by simp) f (by simp) (by rintro rfl; simp at hd)
    have f6 := hf f (by simp) a (by simp) (by rintro rfl; simp at hd)
    refine ⟨a2, ?_, a1, ?_⟩
    · show loopP n L [b, c, d, e, f, a] = _
      rw [loop6 a2, loop6 h]; congr 1; omega
    · show loopP n L [f, e, d, c, b, a] = _
      rw [loop6 a3, loop6 h]; omega
  · have a2 : loopB n L [b, c, d, e, f, g, a] = true := loop_of h (by simp) (by simp) (by simp) (rot_nodup hd)
    have a3 : loopB n L [g, f, e, d, c, b, a] = true := a1
    have f1 := hf a (by simp) b (by simp) (by rintro rfl; simp at hd)
    have f2 := hf b (by simp) c (by simp) (by rintro rfl; simp at hd)
    have f3 := hf c (by simp) d (by simp) (by rintro rfl; simp at hd)
    have f4 := hf d (by simp) e (by simp) (by rintro rfl; simp at hd)
    have f5 := hf e (by simp) f (by simp) (by rintro rfl; simp at hd)
    have f6 := hf f (by simp) g (by simp) (by rintro rfl; simp at hd)
    have f7 := hf g (by simp) a (by simp) (by rintro rfl; simp at hd)
    refine ⟨a2, ?_, a1, ?_⟩
    · show loopP n L [b, c, d, e, f, g, a] = _
      rw [loop7 a2, loop7 h]; congr 1; omega
    · show loopP n L [g, f, e, d, c, b, a] = _
      rw [loop7 a3, loop7 h]; omega

/-- A loop is a sum of triangles. -/
theorem tri_ok {n : Nat} {L : List V} {l : List Int} (h : loopB n L l = true) (k : Nat) (h1 : 1 ≤ k) (h2 : k + 1 < l.length) : loopB n L [l.getD 0 0, l.getD k 0, l.getD (k + 1) 0] = true := by
  obtain ⟨_, _, ha⟩ := (loopB_iff _ _ _).1 h
  have hq := (apB_iff n l).1 ha
  have mem : ∀ m, m < l.length → l.getD m 0 ∈ l := fun m hm => by
    rw [List.getD_eq_getElem?_getD, List.getElem?_eq_getElem hm]; exact List.getElem_mem hm
  refine loop_of h (by simp) (by simp) (fun x hx => ?_) ?_
  · simp only [List.mem_cons, List.not_mem_nil, or_false] at hx
    rcases hx with rfl | rfl | rfl
    · exact mem 0 (by omega)
    · exact mem k (by omega)
    · exact mem (k + 1) h2
  · have e1 := (hq k (by omega)).2 0 (by omega)
    have e2 := (hq (k + 1) h2).2 0 (by omega)
    have e3 := (hq (k + 1) h2).2 k (by omega)
    simp only [List.nodup_cons, List.mem_cons, List.not_mem_nil, or_false, not_or, not_false_eq_true, List.nodup_nil, and_true]
    exact ⟨⟨e1, e2⟩, e3⟩
set_option maxHeartbeats 1000000 in
theorem tri {n : Nat} {L : List V} {l : List Int} (h : loopB n L l = true) : (sumN (l.length - 2) fun k => loopP n L [l.getD 0 0, l.getD (k + 1) 0, l.getD (k + 2) 0]) % 360 = loopP n L l := by
  obtain ⟨h3, h7⟩ := loop_len h
  have hd := loop_nodup h
  have hf := loop_facts h
  have hk := fun k h1 h2 => loop3 (tri_ok h k h1 h2)
  rcases len_cases l h3 h7 with ⟨a, b, c, rfl⟩ | ⟨a, b, c, d, rfl⟩ | ⟨a, b, c, d, e, rfl⟩ | ⟨a, b, c, d, e, f, rfl⟩ | ⟨a, b, c, d, e, f, g, rfl⟩
  · have k1 := hk 1 (by omega) (by simp)
    simp [sumN] at k1 ⊢
    rw [k1]; omega
  · have k1 := hk 1 (by omega) (by simp)
    have k2 := hk 2 (by omega) (by simp)
    have f1 := hf a (by simp) c (by simp) (by rintro rfl; simp at hd)
    simp [sumN] at k1 k2 ⊢
    rw [k1, k2, loop4 h]; omega
  · have k1 := hk 1 (by omega) (by simp)
    have k2 := hk 2 (by omega) (by simp)
    have k3 := hk 3 (by omega) (by simp)
    have f1 := hf a (by simp) c (by simp) (by rintro rfl; simp at hd)
    have f2 := hf a (by simp) d (by simp) (by rintro rfl; simp at hd)
    simp [sumN] at k1 k2 k3 ⊢
    rw [k1, k2, k3, loop5 h]; omega
  · have k1 := hk 1 (by omega) (by simp)
    have k2 := hk 2 (by omega) (by simp)
    have k3 := hk 3 (by omega) (by simp)
    have k4 := hk 4 (by omega) (by simp)
    have f1 := hf a (by simp) c (by simp) (by rintro rfl; simp at hd)
    have f2 := hf a (by simp) d (by simp) (by rintro rfl; simp at hd)
    have f3 := hf a (by simp) e (by simp) (by rintro rfl; simp at hd)
    simp [sumN] at k1 k2 k3 k4 ⊢
    rw [k1, k2, k3, k4, loop6 h]; omega
  · have k1 := hk 1 (by omega) (by simp)
    have k2 := hk 2 (by omega) (by simp)
    have k3 := hk 3 (by omega) (by simp)
    have k4 := hk 4 (by omega) (by simp)
    have k5 := hk 5 (by omega) (by simp)
    have f1 := hf a (by simp) c (by simp) (by rintro rfl; simp at hd)
    have f2 := hf a (by simp) d (by simp) (by rintro rfl; simp at hd)
    have f3 := hf a (by simp) e (by simp) (by rintro rfl; simp at hd)
    have f4 := hf a (by simp) f (by simp) (by rintro rfl; simp at hd)
    simp [sumN] at k1 k2 k3 k4 k5 ⊢
    rw [k1, k2, k3, k4, k5, loop7 h]; omega

end Go.Proofs.Ytjpklbkeofjppaa.Vm
