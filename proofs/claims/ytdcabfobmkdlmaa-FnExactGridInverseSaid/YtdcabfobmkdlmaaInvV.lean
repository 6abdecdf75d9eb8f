/- Plain laws on the inverse of a grid. No program in sight. -/
import Derived.Test.YtdcabfobmkdlmaaSkyV
namespace Go.Proofs.Ytdcabfobmkdlmaa
open Go.RowKit

def gcells (G : List (Int × Int)) : Nat → Int × Int := fun j => G.getD j (0, 0)
def invT (G : List (Int × Int)) (x : Nat) : Int × Int := Sky.T (gcells G) (-1) x
def invK (G : List (Int × Int)) (x : Nat) : Bool := decide ((invT G x).2 = 0) && decide ((invT G x).1 % 16 = 0)
def invO (G : List (Int × Int)) : List Int := (List.range 16).map fun x => (invT G x).1 / 16
def invB (G : List (Int × Int)) : Bool := gridB G && (List.range 16).all (invK G) && skyB (invO G)
def invL (G : List (Int × Int)) : List Int := if invB G then invO G else []
theorem invB_iff (G : List (Int × Int)) : invB G = true ↔ gridB G = true ∧ (∀ x, x < 16 → (invT G x).2 = 0 ∧ (invT G x).1 % 16 = 0) ∧ skyB (invO G) = true := by
  simp only [invB, Bool.and_eq_true, List.all_eq_true, List.mem_range, invK, decide_eq_true_eq, and_assoc]
theorem invL_yes {G : List (Int × Int)} (h : invB G = true) : invL G = invO G := by rw [invL, if_pos h]
theorem invL_no {G : List (Int × Int)} (h : invB G = false) : invL G = [] := by rw [invL, h]; rfl
theorem invO_at (G : List (Int × Int)) (j : Nat) (hj : j < 16) : cells16 (invO G) j = (invT G j).1 / 16 := by simp [cells16, invO, hj]
theorem T_congr (g h : Nat → Int × Int) (s : Int) (i : Nat) (e : ∀ k, k < 16 → g k = h k) : Sky.T g s i = Sky.T h s i := Sky.Tn_congr 16 g h s i e
theorem T_scale (c : Int) (g : Nat → Int × Int) (s : Int) (i : Nat) : Sky.T (fun k => (c * (g k).1, c * (g k).2)) s i = (c * (Sky.T g s i).1, c * (Sky.T g s i).2) := by
  refine Prod.ext ?_ ?_
  · show Sky.S 16 _ = c * Sky.S 16 _
    rw [← Sky.S_mul]
    exact Sky.S_congr _ _ _ fun k _ => by simp only [Sky.gmul]; grind
  · show Sky.S 16 _ = c * Sky.S 16 _
    rw [← Sky.S_mul]
    exact Sky.S_congr _ _ _ fun k _ => by simp only [Sky.gmul]; grind
theorem T_zero (g : Nat → Int × Int) (s : Int) : Sky.T g s 0 = (Sky.S 16 fun k => (g k).1, Sky.S 16 fun k => (g k).2) := by
  have hu : ∀ k : Nat, Sky.unit (s * Sky.ex 0 k) = (1, 0) := fun k => by simp [Sky.ex, Sky.unit]
  refine Prod.ext ?_ ?_
  · exact Sky.S_congr _ _ _ fun k _ => by simp only [hu, Sky.gmul]; omega
  · exact Sky.S_congr _ _ _ fun k _ => by simp only [hu, Sky.gmul]; omega
theorem skyTr_yes {s : List Int} (h : skyB s = true) : skyTr s = (List.range 16).map (Sky.T (Sky.real (cells16 s)) 1) := by rw [skyTr, if_pos h]
theorem skyTr_at {s : List Int} (h : skyB s = true) (j : Nat) (hj : j < 16) : gcells (skyTr s) j = Sky.T (Sky.real (cells16 s)) 1 j := by
  rw [skyTr_yes h]; simp [gcells, hj]
theorem cells16_bd {s : List Int} (h : skyB s = true) (j : Nat) : -100000 ≤ cells16 s j ∧ cells16 s j ≤ 100000 := by
  by_cases hj : j < s.length
  · have := (inR_iff s[j] 100000).1 (List.all_eq_true.1 (skyB_all h) _ (List.getElem_mem hj))
    simp [cells16, hj]
    omega
  · simp [cells16, hj]
theorem skyTr_grid {s : List Int} (h : skyB s = true) : gridB (skyTr s) = true := by
  rw [skyTr_yes h]
  simp only [gridB, Bool.and_eq_true, decide_eq_true_eq, List.length_map, List.length_range, true_and, List.all_eq_true]
  intro p hp
  obtain ⟨i, _, rfl⟩ := List.mem_map.1 hp
  have := Sky.Tn_bound 16 (Sky.real (cells16 s)) 1 i 100000 (fun k _ => by have := cells16_bd h k; simp only [Sky.real]; omega)
  rw [gaussB_iff]
  show -1000000000 ≤ (Sky.Tn 16 _ 1 i).1 ∧ _
  simp only [Sky.T]
  omega
theorem inv_tr {s : List Int} (h : skyB s = true) (x : Nat) (hx : x < 16) : invT (skyTr s) x = (16 * cells16 s x, 0) := by
  unfold invT
  rw [T_congr _ (fun t => Sky.T (Sky.real (cells16 s)) 1 t) (-1) x (fun k hk => skyTr_at h k hk), Sky.T_T _ 1 (.inl rfl) x hx]
  simp [Sky.real]
/-- A transform leads back. -/
theorem tr_inv {s : List Int} (h : skyB s = true) : invB (skyTr s) = true ∧ invL (skyTr s) = s := by
  have hl := skyB_len h
  have e : invO (skyTr s) = s := by
    apply List.ext_getElem?
    intro j
    by_cases hj : j < 16
    · rw [invO, List.getElem?_map, List.getElem?_range hj, Option.map_some, inv_tr h j hj, List.getElem?_eq_getElem (by omega)]
      simp [cells16, hl, hj]
    · rw [List.getElem?_eq_none (by simp [invO]; omega), List.getElem?_eq_none (by omega)]
  have hb : invB (skyTr s) = true := (invB_iff _).2 ⟨skyTr_grid h, fun x hx => by rw [inv_tr h x hx]; simp, by rw [e]; exact h⟩
  exact ⟨hb, by rw [invL_yes hb, e]⟩
theorem skyTr_first {s : List Int} (h : skyB s = true) : (skyTr s)[0]? = some (Sky.S 16 (cells16 s), 0) := by
  rw [skyTr_yes h, List.getElem?_map, List.getElem?_range (by omega), Option.map_some, T_zero]
  simp only [Sky.real]
  rw [Sky.S_zero]
/-- An inverse leads back. -/
theorem inv_back {G : List (Int × Int)} (h : invB G = true) : skyB (invL G) = true ∧ skyTr (invL G) = G := by
  obtain ⟨h1, h2, h3⟩ := (invB_iff G).1 h
  have hl := gridB_len h1
  rw [invL_yes h]
  refine ⟨h3, ?_⟩
  rw [skyTr_yes h3]
  apply List.ext_getElem?
  intro u
  by_cases hu : u < 16
  · rw [List.getElem?_map, List.getElem?_range hu, Option.map_some, List.getElem?_eq_getElem (by omega)]
    have e1 := Sky.T_T (gcells G) (-1) (.inr rfl) u hu
    rw [Int.neg_neg] at e1
    have e2 : Sky.T (fun t => Sky.T (gcells G) (-1) t) 1 u = Sky.T (fun t => (16 * (Sky.real (cells16 (invO G)) t).1, 16 * (Sky.real (cells16 (invO G)) t).2)) 1 u := T_congr _ _ _ _ fun k hk => by
      obtain ⟨a, b⟩ := h2 k hk
      have a' : (Sky.T (gcells G) (-1) k).2 = 0 := a
      have b' : (Sky.T (gcells G) (-1) k).1 % 16 = 0 := b
      refine Prod.ext ?_ ?_
      · show (Sky.T (gcells G) (-1) k).1 = 16 * cells16 (invO G) k
        rw [invO_at G k hk]
        show _ = 16 * ((Sky.T (gcells G) (-1) k).1 / 16)
        omega
      · show (Sky.T (gcells G) (-1) k).2 = 16 * 0
        rw [a']; rfl
    rw [e2, T_scale] at e1
    injection e1 with f1 f2
    have g1 : gcells G u = G[u] := by simp [gcells, hl, hu]
    rw [g1] at f1 f2
    refine congrArg some (Prod.ext ?_ ?_) <;> omega
  · rw [List.getElem?_eq_none (by simp; omega), List.getElem?_eq_none (by omega)]
/-- One changed cell is no transform. -/
theorem inv_one {G : List (Int × Int)} (h : invB G = true) {k : Nat} (hk : k < G.length) : invB (G.set k ((G.getD k (0, 0)).1 + 1, (G.getD k (0, 0)).2)) = false := by
  rw [Bool.eq_false_iff]
  intro h'
  obtain ⟨h1, h2, _⟩ := (invB_iff _).1 h
  obtain ⟨_, h4, _⟩ := (invB_iff _).1 h'
  have hl := gridB_len h1
  have a := (h2 0 (by omega)).2
  have b := (h4 0 (by omega)).2
  unfold invT at a b
  rw [T_zero] at a b
  have e : (Sky.S 16 fun j => (gcells (G.set k ((G.getD k (0, 0)).1 + 1, (G.getD k (0, 0)).2)) j).1) = (Sky.S 16 fun j => (gcells G j).1) + 1 := by
    have e1 : (Sky.S 16 fun j => (gcells (G.set k ((G.getD k (0, 0)).1 + 1, (G.getD k (0, 0)).2)) j).1) = Sky.S 16 fun j => (gcells G j).1 + (if j = k then 1 else 0) := Sky.S_congr _ _ _ fun j hj => by
      unfold gcells
      rw [List.getD_eq_getElem?_getD]
      by_cases ej : j = k
      · subst ej
        rw [List.getElem?_set_self hk, if_pos rfl]; rfl
      · rw [List.getElem?_set_ne (fun e => ej e.symm), if_neg ej, List.getD_eq_getElem?_getD]; simp
    rw [e1, Sky.S_add, Sky.S_single 16 k (by omega) (fun j => if j = k then 1 else 0) (fun j _ hne => by simp [hne])]
    simp
  rw [e] at b
  omega
/-- Twice a grid. -/
def twice (G : List (Int × Int)) : List (Int × Int) := G.map fun p => (2 * p.1, 2 * p.2)
theorem twice_T {G : List (Int × Int)} (x : Nat) : invT (twice G) x = (2 * (invT G x).1, 2 * (invT G x).2) := by
  unfold invT
  rw [← T_scale]
  refine T_congr _ _ _ _ fun k _ => ?_
  unfold gcells twice
  rw [List.getD_eq_getElem?_getD, List.getElem?_map, List.getD_eq_getElem?_getD]
  cases G[k]? <;> simp
theorem inv_twice {G : List (Int × Int)} (h : invB G = true) (j : Nat) (hj : j < 16) : cells16 (invO (twice G)) j = 2 * cells16 (invO G) j := by
  obtain ⟨_, h2, _⟩ := (invB_iff _).1 h
  have := (h2 j hj).2
  rw [invO_at _ j hj, invO_at _ j hj, twice_T]
  simp only
  omega

end Go.Proofs.Ytdcabfobmkdlmaa
