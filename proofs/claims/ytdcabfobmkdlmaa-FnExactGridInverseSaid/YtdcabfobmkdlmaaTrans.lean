/- The contract of the transform. -/
import Derived.Test.YtdcabfobmkdlmaaMakeA
namespace Go.Proofs.Ytdcabfobmkdlmaa
open Go.RowKit

theorem ex_eq (i j : Nat) : ((i : Int) % 4 * ((j : Int) % 4) + (i : Int) / 4 * ((j : Int) / 4)) = Sky.ex i j := by simp [Sky.ex]
theorem make16G (w : World) : (Instr.makeSlice 25 (.int .i64 16) (.int .i64 16)).run Try.prog w = .ok (.slice (some ⟨w.heap.size, 0, none⟩) 16 16) (w.alloc (.cells (cp (List.replicate 16 (0, 0))).toArray 32)) := by kernel_rfl
/-- After 'i' whole cells and k terms of cell i. -/
def trM (M : List (Int × Int)) (G : Nat → Int × Int) (n : Nat) (s : Int) (i k : Nat) : Prop :=
  M.length = 16 ∧ (∀ j, j < i → M[j]? = some (Sky.Tn n G s j)) ∧ (i < 16 → M[i]? = some (Sky.Tn k G s i)) ∧ (∀ j, i < j → j < 16 → M[j]? = some (0, 0))
theorem trM_zero (G : Nat → Int × Int) (n : Nat) (s : Int) : trM (List.replicate 16 (0, 0)) G n s 0 0 :=
  ⟨by simp, fun j h => by omega, fun _ => by simp [Sky.Tn, Sky.S], fun j _ h => by rw [List.getElem?_replicate, if_pos h]⟩
theorem trM_next {M : List (Int × Int)} {G : Nat → Int × Int} {n : Nat} {s : Int} {i : Nat} (h : trM M G n s i n) (hi : i < 16) : trM M G n s (i + 1) 0 := by
  obtain ⟨h1, h2, h3, h4⟩ := h
  refine ⟨h1, fun j hj => ?_, fun hlt => ?_, fun j hj hj' => h4 j (by omega) hj'⟩
  · by_cases e : j = i
    · subst e; exact h3 hi
    · exact h2 j (by omega)
  · rw [h4 (i + 1) (by omega) hlt]; rfl
theorem trM_set {M : List (Int × Int)} {G : Nat → Int × Int} {n : Nat} {s : Int} {i k : Nat} (h : trM M G n s i k) (hi : i < 16) :
    trM (M.set i (Sky.gadd (Sky.Tn k G s i) (Sky.gmul (G k) (Sky.unit (s * Sky.ex i k))))) G n s i (k + 1) := by
  obtain ⟨h1, h2, h3, h4⟩ := h
  refine ⟨by simpa using h1, fun j hj => ?_, fun _ => ?_, fun j hj hj' => ?_⟩
  · rw [List.getElem?_set_ne (by omega)]; exact h2 j hj
  · rw [List.getElem?_set_self (by omega)]; rfl
  · rw [List.getElem?_set_ne (by omega)]; exact h4 j hj hj'
theorem trM_step {M : List (Int × Int)} {L : List (Int × Int)} {n : Nat} {s : Int} {i k : Nat} {a u m : Int × Int} (h : trM M (fun j => L.getD j (0, 0)) n s i k) (hi : i < 16) (hk : k < L.length) (ha : L[k] = a) (hu : Sky.unit (s * Sky.ex i k) = u)
    (hm : Sky.Tn k (fun j => L.getD j (0, 0)) s i = m) : trM (M.set i (Sky.gadd m (Sky.gmul a u))) (fun j => L.getD j (0, 0)) n s i (k + 1) := by
  have := trM_set h hi
  have e : L.getD k (0, 0) = a := by simp [hk, ha]
  simp only [e, hu, hm] at this
  exact this
theorem trM_done {M : List (Int × Int)} {G : Nat → Int × Int} {n : Nat} {s : Int} {i k : Nat} (h : trM M G n s i k) (hi : i = 16) : M = (List.range 16).map (Sky.Tn n G s) := by
  subst hi
  apply List.ext_getElem?
  intro j
  by_cases hj : j < 16
  · rw [h.2.1 j hj]; simp [hj]
  · rw [List.getElem?_eq_none (by rw [h.1]; omega), List.getElem?_eq_none (by simp; omega)]
def trRel (L : List (Int × Int)) (s : Int) (w : World) (i : Nat) (v : Value) (wr : World) : Prop :=
  ∃ (k : Nat) (M : List (Int × Int)), k ≤ L.length ∧ v = .int .i64 k ∧ Hid (trM M (fun j => L.getD j (0, 0)) L.length s i k) ∧ wr.ownsRow w.heap.size 32 2 (.slice (some ⟨w.heap.size, 0, none⟩) 16 16) 16 (cp M) ∧ Below w.heap.size w wr
def trRelO (L : List (Int × Int)) (s : Int) (w : World) (v : Value) (wr : World) : Prop :=
  ∃ (i : Nat) (M : List (Int × Int)), i ≤ 16 ∧ v = .int .i64 i ∧ Hid (trM M (fun j => L.getD j (0, 0)) L.length s i 0) ∧ wr.ownsRow w.heap.size 32 2 (.slice (some ⟨w.heap.size, 0, none⟩) 16 16) 16 (cp M) ∧ Below w.heap.size w wr

/-- What the statement in the loop's body reads and writes: the cell i of the block g0 holds m; the variable in the block g1 holds a. -/
structure StS (g0 g1 i : Nat) (m a : Int × Int) (W : World) : Prop where
  e1 : W.cell? ⟨g0, i * 2, none⟩ = some (.int .i64 m.1)
  e2 : W.cell? ⟨g0, i * 2 + 1, none⟩ = some (.int .i64 m.2)
  e3 : W.cell? ⟨g1, 0, none⟩ = some (.int .i64 a.1)
  e4 : W.cell? ⟨g1, 1, none⟩ = some (.int .i64 a.2)
  e5 : W.frozen? ⟨g0, i * 2, none⟩ = false
  e6 : W.frozen? ⟨g0, i * 2 + 1, none⟩ = false
theorem StS.drew {g0 g1 i : Nat} {m a : Int × Int} {W : World} (h : StS g0 g1 i m a W) : StS g0 g1 i m a W.drew := ⟨h.e1, h.e2, h.e3, h.e4, h.e5, h.e6⟩
theorem StS.after {g0 g1 i : Nat} {m a : Int × Int} {W w' : World} (h : StS g0 g1 i m a W) (hb : Below W.heap.size W w') : StS g0 g1 i m a w' := by
  have z1 := block_lt_of_cell h.e1
  have z2 := block_lt_of_cell h.e3
  exact ⟨(hb.cell (p := ⟨g0, i * 2, none⟩) z1).trans h.e1, (hb.cell (p := ⟨g0, i * 2 + 1, none⟩) z1).trans h.e2, (hb.cell (p := ⟨g1, 0, none⟩) z2).trans h.e3, (hb.cell (p := ⟨g1, 1, none⟩) z2).trans h.e4,
    (hb.frozen (p := ⟨g0, i * 2, none⟩) z1).trans h.e5, (hb.frozen (p := ⟨g0, i * 2 + 1, none⟩) z1).trans h.e6⟩
theorem arg_eq (s : Int) (i k : Nat) (hs1 : -1 ≤ s) (hs2 : s ≤ 1) (hi : i < 16) (hk : k < 16) :
    IntKind.i64.wrap (s * IntKind.i64.wrap (IntKind.i64.wrap ((i : Int).tmod 4 * (k : Int).tmod 4) + IntKind.i64.wrap (IntKind.i64.wrap ((i : Int) / 4) * IntKind.i64.wrap ((k : Int) / 4)))) = s * Sky.ex i k := by
  have b1 := mul_bd (a := (i : Int) % 4) (b := (k : Int) % 4) (A := 3) (B := 3) (by omega) (by omega) (by omega) (by omega)
  have b2 := mul_bd (a := (i : Int) / 4) (b := (k : Int) / 4) (A := 3) (B := 3) (by omega) (by omega) (by omega) (by omega)
  have b3 := mul_bd (a := s) (b := (i : Int) % 4 * ((k : Int) % 4) + (i : Int) / 4 * ((k : Int) / 4)) (A := 1) (B := 18) (by omega) (by omega) (by omega) (by omega)
  rw [Int.tmod_eq_emod_of_nonneg (by omega), Int.tmod_eq_emod_of_nonneg (by omega), IntWalk.i64_in ((i : Int) / 4) (by omega), IntWalk.i64_in ((k : Int) / 4) (by omega),
    IntWalk.i64_in ((i : Int) % 4 * ((k : Int) % 4)) (by omega), IntWalk.i64_in ((i : Int) / 4 * ((k : Int) / 4)) (by omega), IntWalk.i64_in (_ + _) (by omega), IntWalk.i64_in (s * _) (by omega), ex_eq]

set_option maxHeartbeats 1600000 in
theorem transform_any (A : Option Addr) (n c : Nat) (L : List (Int × Int)) (s : Int) (w : World) (h : Rd w w.heap.size 2 A n c (cp L)) (hlen : L.length ≤ 16) (hs1 : -1 ≤ s) (hs2 : s ≤ 1)
    (hok : L.all gaussB = true) :
    Calls Try.prog 37 #[.slice A n c, .int .i64 s] w fun e w' => ∃ v, e = .returned v ∧ w'.ownsRow w.heap.size 32 2 v 16 (cp ((List.range 16).map (Sky.Tn L.length (fun j => L.getD j (0, 0)) s))) ∧ Below w.heap.size w w' := by
  have hn := h.len
  rw [cp_length] at hn
  have hm := h.most
  have hcap := h.cap
  obtain rfl : L.length = n := by omega
  clear hn
  have HOK := Lib.hid hok
  clear hok
  have hmk := make16G
  go_enter Try.func37, Try.ntmps37
  go_wp2
  go_loopw [12] (fun i wr => trRelO L s w i wr) (fun i _ => 16 - (intOf i).toNat)
  case atStart => exact ⟨0, List.replicate 16 (0, 0), Nat.zero_le _, rfl, trM_zero _ _ _, World.ownsRow_lit _ _ 16 (Nat.le_refl _) (by decide) (by decide), bA (b0 w) _⟩
  case round =>
    obtain ⟨i, M, hi, rfl, hM, hown, hB⟩ := hrel
    by_cases hlt : i < 16
    · have hi0 : (0 : Int) ≤ (i : Int) := by omega
      have hi1 : (i : Int) < 16 := by omega
      have hi2 : decide ((i : Int) < 16) = true := by simp [hi1]
      go_wp2
      go_loopw [17] (fun v wr => trRel L s w i v wr) (fun v _ => L.length - (intOf v).toNat)
      case atStart => exact ⟨0, M, Nat.zero_le _, rfl, hM, hown, hB⟩
      case round =>
        clear hM hown hB M
        obtain ⟨k, M, hk, rfl, hM, hown, hB⟩ := hrel
        by_cases hlt2 : k < L.length
        · obtain ⟨b, off, rfl, hb, hc1, hc2⟩ := (h.below hB).pair_at hlt2
          have hg := (gaussB_iff L[k]).1 (List.all_eq_true.1 HOK.out _ (List.getElem_mem hlt2))
          obtain ⟨hg1, hg2, hg3, hg4⟩ := hg
          obtain ⟨a, ha⟩ : ∃ a, L[k] = a := ⟨_, rfl⟩
          rw [ha] at hg1 hg2 hg3 hg4 hc1 hc2
          have HA := Lib.hid ha
          clear ha
          obtain ⟨m, hmm⟩ : ∃ m, Sky.Tn k (fun j => L.getD j (0, 0)) s i = m := ⟨_, rfl⟩
          have hMi : (cp M)[i * 2]? = some (.int .i64 m.1) ∧ (cp M)[i * 2 + 1]? = some (.int .i64 m.2) := by
            obtain ⟨h1, h2, h3, h4⟩ := hM.out
            have h5 := h3 hlt
            obtain ⟨h6, h7⟩ := List.getElem?_eq_some_iff.1 h5
            have := cp_at M i h6
            rw [h7, hmm, Nat.mul_comm 2 i] at this
            exact this
          have hd1 := (hown.cellAt (i * 2) (by omega)).trans hMi.1
          have hd2 := (hown.cellAt (i * 2 + 1) (by omega)).trans hMi.2
          have hf1 := hown.frozenAt (i * 2)
          have hf2 := hown.frozenAt (i * 2 + 1)
          clear hMi
          have hzz := hB.size
          go_wp2
          obtain ⟨W, hW⟩ : ∃ W, wr.alloc (.cells #[.int .i64 a.1, .int .i64 a.2] 32) = W := ⟨_, rfl⟩
          have hS : StS w.heap.size wr.heap.size i m a W := by
            have z := block_lt_of_cell hd1
            rw [← hW]
            exact ⟨by rw [World.cell?_alloc_past _ _ _ z]; exact hd1, by rw [World.cell?_alloc_past _ _ _ z]; exact hd2, by simp [go_sem], by simp [go_sem],
              by rw [World.frozen?_alloc_past _ _ _ z]; exact hf1, by rw [World.frozen?_alloc_past _ _ _ z]; exact hf2⟩
          have hBW : Below w.heap.size w W := by rw [← hW]; exact bA hB _
          have hownW : W.ownsRow w.heap.size 32 2 (.slice (some ⟨w.heap.size, 0, none⟩) 16 16) 16 (cp M) := by rw [← hW]; exact hown.alloc _
          rw [hW]
          clear hW hc1 hc2 hd1 hd2 hf1 hf2 hown hB
          obtain ⟨u, hu⟩ : ∃ u, Sky.unit (s * Sky.ex i k) = u := ⟨_, rfl⟩
          have HX := Lib.hid (show Sky.unit (IntKind.i64.wrap (s * IntKind.i64.wrap (IntKind.i64.wrap ((i : Int).tmod 4 * (k : Int).tmod 4) + IntKind.i64.wrap (IntKind.i64.wrap ((i : Int) / 4) * IntKind.i64.wrap ((k : Int) / 4))))) = u by
            rw [arg_eq s i k hs1 hs2 hlt (by omega)]; exact hu)
          have hub := Sky.unit_bound (s * Sky.ex i k)
          rw [hu] at hub
          have hpb := Sky.gmul_unit_bound a (s * Sky.ex i k) 1000000000 hg1 hg2 hg3 hg4
          rw [hu] at hpb
          have hmb := Sky.Tn_bound k (fun j => L.getD j (0, 0)) s i 1000000000 (fun j hj => by
            have hjl : j < L.length := by omega
            have := (gaussB_iff L[j]).1 (List.all_eq_true.1 HOK.out _ (List.getElem_mem hjl))
            simpa [hjl] using this)
          rw [hmm] at hmb
          have HU := Lib.hid hu
          have HMM := Lib.hid hmm
          clear hu hmm
          obtain ⟨u1, u2, u3, u4⟩ := hub
          obtain ⟨q1, q2, q3, q4⟩ := hpb
          obtain ⟨m1, m2, m3, m4⟩ := hmb
          have hk16 : (k : Int) * 1000000000 ≤ 16000000000 := by omega
          have HS := Lib.hid hS.drew
          obtain ⟨e1, e2, e3, e4, e5, e6⟩ := hS
          go_region_with ((first
            | (go_at_call 16; refine (GaussUnit_any _ _).mono ?_; rintro e w1 ⟨rfl, hb1⟩; rw [HX.out]; have hS1 := StS.after HS.out hb1; have HS1 := Lib.hid hS1; obtain ⟨f1, f2, f3, f4, f5, f6⟩ := hS1)
            | (go_at_call 46; refine (times_any a u _ hg1 hg2 hg3 hg4 (by omega) (by omega) (by omega) (by omega)).mono ?_; rintro e w2 ⟨rfl, hb2⟩; have hS2 := StS.after HS1.out hb2; have HS2 := Lib.hid hS2; obtain ⟨g1, g2, g3, g4, g5, g6⟩ := hS2)
            | (go_at_call 58; refine (plus_any m (Sky.gmul a u) _ (by omega) (by omega) (by omega) (by omega) (by omega) (by omega) (by omega) (by omega)).mono ?_; rintro e w3 ⟨rfl, hb3⟩; have hS3 := StS.after HS2.out hb3; obtain ⟨h1, h2, h3, h4, h5, h6⟩ := hS3; unfold gv)))
          all_goals
            have hown3 := own_after (own_after (own_after hownW.drew hb1) hb2) hb3
            have hB3 := bT (bT (bT hBW.drew hb1) hb2) hb3
            clear hb1 hb2 hb3
            have HN := Lib.hid (trM_step hM.out hlt hlt2 HA.out HU.out HMM.out)
            have hown4 := ((hown3.stored (i * 2) (.int .i64 (Sky.gadd m (Sky.gmul a u)).1)).1.stored (i * 2 + 1) (.int .i64 (Sky.gadd m (Sky.gmul a u)).2)).1
            rw [← cp_set] at hown4
            go_wp2
            go_roundw
            case rel => exact ⟨k + 1, _, by omega, by go_num, HN, hown4, bS (p := ⟨w.heap.size, i * 2 + 1, none⟩) (bS (p := ⟨w.heap.size, i * 2, none⟩) hB3 (Nat.le_refl _) _) (Nat.le_refl _) _⟩
            case measure => simp [intOf]; omega
        · have he : k = L.length := by omega
          subst he
          have HN := Lib.hid (trM_next hM.out hlt)
          go_wp2
          go_roundw
          case rel => exact ⟨i + 1, M, by omega, by go_num, HN, hown, hB⟩
          case measure => simp [intOf]; omega
    · have he : i = 16 := by omega
      have HN := Lib.hid (trM_done hM.out he)
      go_wp2
      go_ret
      exact ⟨_, rfl, by rw [← HN.out]; exact hown, hB⟩

end Go.Proofs.Ytdcabfobmkdlmaa
