/- Contracts: visibilities that are not empty, and gains, drawn from a code. Written by drawegen.py. -/
import Derived.Test.YtmoeofclpnblmaaDrawC
import Derived.Test.YtmoeofclpnblmaaGainM
namespace Go.Proofs.Ytmoeofclpnblmaa
open Go.RowKit

def VisPos (R B N : Nat) (w : World) (e : Ending) (w' : World) : Prop := ∃ (v : Value) (L : List (Int × Int)), e = .returned v ∧ DRow w R B N 41 2 v L.length (cp L) w' ∧ 0 < L.length
theorem VisPos.of {R B N N' : Nat} {w wr : World} {v : Value} {L : List (Int × Int)} (h : DRow w R B N 41 2 v L.length (cp L) wr) (hpos : 0 < L.length) (hN : N ≤ N') : VisPos R B N' w (.returned v) wr := ⟨v, L, rfl, h.mono hN, hpos⟩
theorem VisPos.amp {R B N N' : Nat} {w wr : World} {g c : Nat} {L : List (Int × Int)} (h : DRow w R B N 41 2 (.slice (some ⟨g, 0, none⟩) L.length c) L.length (cp L) wr) (hpos : 0 < L.length) (x : Int) (hN : N ≤ N') :
    VisPos R B N' w (.returned (.slice (some ⟨g, 0, none⟩) L.length c)) (wr.setCell ⟨g, 0, none⟩ (.int .i64 x)) := by
  have := (h.set 0 (.int .i64 x)).mono hN
  rw [cp_set0 L x hpos] at this
  exact ⟨_, L.set 0 (x, (L.getD 0 (0, 0)).2), rfl, by simpa using this, by simpa using hpos⟩
theorem VisPos.phase {R B N N' : Nat} {w wr : World} {g c : Nat} {L : List (Int × Int)} (h : DRow w R B N 41 2 (.slice (some ⟨g, 0, none⟩) L.length c) L.length (cp L) wr) (hpos : 0 < L.length) (x : Int) (hN : N ≤ N') :
    VisPos R B N' w (.returned (.slice (some ⟨g, 0, none⟩) L.length c)) (wr.setCell ⟨g, 1, none⟩ (.int .i64 x)) := by
  have := (h.set 1 (.int .i64 x)).mono hN
  rw [cp_set1 L x hpos] at this
  exact ⟨_, L.set 0 ((L.getD 0 (0, 0)).1, x), rfl, by simpa using this, by simpa using hpos⟩
set_option maxHeartbeats 2000000 in
theorem l91Vis_pos (R B N : Nat) (n : Int) (w : World) (h : Rdr w R B N) (hN : N ≤ 1000000) (hn : 1 ≤ Vm.bmany n) : Calls Try.prog 56 #[.pointer (some ⟨R, 0, none⟩), .int .i64 n] w (VisPos R B (N + 120) w) := by
  obtain ⟨i0, hi, hz0, hz1, hz2⟩ := info_parts infoVis
  have b1 := Vm.bmany_nonneg n
  have b2 := Vm.bmany_le n
  obtain ⟨M, hM⟩ := Vm.nat_of b1
  have HM := Lib.hid hM
  have hM21 : M ≤ 21 := by omega
  have hM1 : 1 ≤ M := by omega
  clear hM b1 b2 hn
  go_enter Try.func56, Try.ntmps56
  go_wp2_with fail
  go_loopw [5, 6] (fun v i wr => l91Rel w R B N M v i wr) (fun _ i _ => M - (intOf i).toNat)
  case atStart => exact ⟨0, [], Nat.zero_le _, rfl, rfl, DRow.lit0 h _ _⟩
  case round =>
    obtain ⟨k, L, hk, hL, rfl, hD⟩ := hrel
    obtain ⟨A, c, rfl⟩ := own_form hD.own
    have HL := Lib.hid hL
    clear hL
    by_cases hlt : k < M
    · go_wp2_with (go_at_call 46; refine (sBaseMany_any _ _).mono ?_; rintro e w' ⟨rfl, rfl⟩; rw [HM.out])
      refine (pick_any R B (N + 5 * k) 12 _ hD.rdr (by omega) (by omega) (by omega)).mono ?_
      rintro e w1 ⟨a, rfl, a1, a2, hr1, hg1⟩
      have hD1 := hD.pick hr1 hg1
      clear hD hr1 hg1
      go_wp2_with fail
      refine (l91Phase_any R B (N + 5 * k + 1) _ hD1.rdr (by omega)).mono ?_
      rintro e w2 ⟨p, rfl, ⟨p1, p2⟩, hr2, hg2⟩
      have hD2 := hD1.pick hr2 hg2
      clear hD1 hr2 hg2
      have hD3 := hD2.alloc (.cells #[.int .i64 (1 + a), .int .i64 p] 41)
      have hsz := hD2.grown.size
      have hLk : L.length ≤ 21 := by have := HL.out; omega
      have HC := Lib.hid (cp_snoc L (1 + a) p)
      go_wp2_with (at_builtin; refine wpList_append_own _ rfl _ _ 23 rfl w.heap.size 41 i0 _ 2 16 Try.underlying23 hi hz0 hz1 hz2 rfl (by decide) _ _ _ rfl hD3.own ⟨w2.heap.size, 0, none⟩ 1 1 [.int .i64 (1 + a), .int .i64 p] rfl rfl (new_cells _ _ _) ?c2 ?c3 ?c4 ?c5 ?_)
      case c2 => intro u hu; simp at hu; rcases hu with rfl | rfl <;> rfl
      case c3 => unfold maxLen; omega
      case c4 => omega
      case c5 => simp; omega
      intro v' w3 hown' hgrow _
      have hD4 := hD3.app hown' hgrow
      rw [← HC.out] at hD4
      clear hown' hgrow hD2 hD3
      go_wp2_with fail
      go_roundw
      case rel => exact ⟨k + 1, L ++ [(1 + a, p)], by omega, by simp [HL.out], by go_num, by simpa using hD4.mono (by omega)⟩
      case measure => simp [intOf]; omega
    · by_cases hk0 : k = 0
      · exfalso; omega
      · have hpos : 0 < L.length := by rw [HL.out]; omega
        obtain ⟨g, c', e1⟩ := hD.form hpos
        injection e1 with e1 _ e3
        subst e1 e3
        have hd : ((L.length : Int) == 0) = false := by rw [beq_eq_false_iff_ne]; omega
        have hi1 : (0 : Int) < (L.length : Int) := by omega
        clear hk0
        go_wp2_with (go_at_call 46; refine (sBaseMany_any _ _).mono ?_; rintro e w' ⟨rfl, rfl⟩; rw [HM.out])
        refine (pick_any R B (N + 5 * k) 50 _ hD.rdr (by omega) (by omega) (by omega)).mono ?_
        rintro e w1 ⟨m, rfl, m1, m2, hr1, hg1⟩
        have hD1 := hD.pick hr1 hg1
        clear hD hr1 hg1
        have q0 := cp_at L 0 hpos
        have hcA := (hD1.own.cellAt 0 (by omega)).trans q0.1
        have hcP := (hD1.own.cellAt 1 (by omega)).trans q0.2
        have hf0 := hD1.own.frozenAt 0
        have hf1 := hD1.own.frozenAt 1
        by_cases hm0 : m = 0
        · have e0 : (m == 0) = true := by simp [hm0]
          clear hm0
          go_wp2_with fail
          refine (pick_any R B (N + 5 * k + 1) 2 _ (hD1.alloc _).rdr (by omega) (by omega) (by omega)).mono ?_
          rintro e w2 ⟨x, rfl, x1, x2, hr2, hg2⟩
          have hD2 := (hD1.alloc _).pick hr2 hg2
          have hR1 : R < w1.heap.size := hD1.rdr.lt
          have l0 : w2.cell? ⟨w1.heap.size, 0, none⟩ = some (.int .i64 0) := hg2.cell (by simp [go_sem]) (fun e => by injection e with e; simp at e; omega)
          have l1 : w2.cell? ⟨w1.heap.size, 1, none⟩ = some (.int .i64 1000001) := hg2.cell (by simp [go_sem]) (fun e => by injection e with e; simp at e; omega)
          clear hcA hcP hf0 hf1 hD1 hr2 hg2
          have hcA := (hD2.own.cellAt 0 (by omega)).trans q0.1
          have hf0 := hD2.own.frozenAt 0
          have hP1 := VisPos.amp (N' := N + 120) hD2 hpos 0 (by omega)
          have hP2 := VisPos.amp (N' := N + 120) hD2 hpos 1000001 (by omega)
          have hx : x = 0 ∨ x = 1 := by omega
          rcases hx with rfl | rfl
          · go_wp2_with fail
            go_ret
            exact hP1
          · go_wp2_with fail
            go_ret
            exact hP2
        · have e0 : (m == 0) = false := by simp [hm0]
          clear hm0
          by_cases hm1 : m = 1
          · have e1 : (m == 1) = true := by simp [hm1]
            clear hm1
            have hP := VisPos.phase (N' := N + 120) hD1 hpos 360 (by omega)
            go_wp2_with fail
            go_ret
            exact hP
          · have e1 : (m == 1) = false := by simp [hm1]
            clear hm1
            by_cases hm2 : m = 2
            · have e2 : (m == 2) = true := by simp [hm2]
              clear hm2
              obtain ⟨p, hp⟩ : ∃ p, L[0] = p := ⟨_, rfl⟩
              rw [hp] at hcA hcP
              clear hp q0
              have hD3 := hD1.alloc (.cells #[.int .i64 p.1, .int .i64 p.2] 41)
              have hsz := hD1.grown.size
              have hLk : L.length ≤ 21 := by have := HL.out; omega
              have HC := Lib.hid (cp_snoc L p.1 p.2)
              go_wp2_with (at_builtin; refine wpList_append_own _ rfl _ _ 23 rfl w.heap.size 41 i0 _ 2 16 Try.underlying23 hi hz0 hz1 hz2 rfl (by decide) _ _ _ rfl hD3.own ⟨w1.heap.size, 0, none⟩ 1 1 [.int .i64 p.1, .int .i64 p.2] rfl rfl (new_cells _ _ _) ?d2 ?d3 ?d4 ?d5 ?_)
              case d2 => intro u hu; simp at hu; rcases hu with rfl | rfl <;> rfl
              case d3 => unfold maxLen; omega
              case d4 => omega
              case d5 => simp; omega
              intro v' w3 hown' hgrow _
              have hD4 := hD3.app hown' hgrow
              rw [← HC.out] at hD4
              have hP : VisPos R B (N + 120) w (.returned v') w3 := ⟨v', L ++ [(p.1, p.2)], rfl, by simpa using hD4.mono (by omega), by simp⟩
              clear hown' hgrow hD3 hD4
              go_wp2_with fail
              go_ret
              exact hP
            · have e2 : (m == 2) = false := by simp [hm2]
              clear hm2
              have hP := VisPos.of (N' := N + 120) hD1 hpos (by omega)
              go_wp2_with fail
              go_ret
              exact hP


theorem DRow.capN {w wr : World} {R B N : Nat} {T : TypeId} {size g n c : Nat} {xs : List Value} (h : DRow w R B N T size (.slice (some ⟨g, 0, none⟩) n c) n xs wr) : n ≤ c ∧ c ≤ 9223372036854775807 := by
  have := Rd.of_own h.own
  exact ⟨this.cap, this.most⟩
/-- Gains that are drawn: a row of the call's own, or what follows behind its first one. -/
def GainsPost (R B N n : Nat) (w : World) (e : Ending) (w' : World) : Prop := ∃ (g c d : Nat) (L : List (Int × Int)), d ≤ 1 ∧ L.length = n ∧ e = .returned (.slice (some ⟨g, 2 * d, none⟩) (n - d) (c - d)) ∧ n ≤ c ∧ DRow w R B N 41 2 (.slice (some ⟨g, 0, none⟩) n c) n (cp L) w'
def l91gRel (w : World) (R B N : Nat) (n : Nat) (v i : Value) (wr : World) : Prop := ∃ (k : Nat) (L : List (Int × Int)), k ≤ n ∧ L.length = k ∧ i = .int .i64 k ∧ DRow w R B (N + 5 * k) 41 2 v k (cp L) wr
set_option maxHeartbeats 2000000 in
theorem l91Gains_any (R B N n : Nat) (w : World) (h : Rdr w R B N) (hN : N ≤ 1000000) (hn1 : 2 ≤ n) (hn2 : n ≤ 7) : Calls Try.prog 57 #[.pointer (some ⟨R, 0, none⟩), .int .i64 n] w (GainsPost R B (N + 40) n w) := by
  obtain ⟨i0, hi, hz0, hz1, hz2⟩ := info_parts infoVis
  go_enter Try.func57, Try.ntmps57
  go_wp2_with fail
  go_loopw [5, 6] (fun v i wr => l91gRel w R B N n v i wr) (fun _ i _ => n - (intOf i).toNat)
  case atStart => exact ⟨0, [], Nat.zero_le _, rfl, rfl, DRow.lit0 h _ _⟩
  case round =>
    obtain ⟨k, L, hk, hL, rfl, hD⟩ := hrel
    obtain ⟨A, c, rfl⟩ := own_form hD.own
    have HL := Lib.hid hL
    clear hL
    by_cases hlt : k < n
    · go_wp2_with fail
      refine (pick_any R B (N + 5 * k) 8 _ hD.rdr (by omega) (by omega) (by omega)).mono ?_
      rintro e w1 ⟨a, rfl, a1, a2, hr1, hg1⟩
      have hD1 := hD.pick hr1 hg1
      clear hD hr1 hg1
      go_wp2_with fail
      refine (l91Phase_any R B (N + 5 * k + 1) _ hD1.rdr (by omega)).mono ?_
      rintro e w2 ⟨p, rfl, ⟨p1, p2⟩, hr2, hg2⟩
      have hD2 := hD1.pick hr2 hg2
      clear hD1 hr2 hg2
      have hD3 := hD2.alloc (.cells #[.int .i64 (1 + a), .int .i64 p] 41)
      have hsz := hD2.grown.size
      have HC := Lib.hid (cp_snoc L (1 + a) p)
      go_wp2_with (at_builtin; refine wpList_append_own _ rfl _ _ 23 rfl w.heap.size 41 i0 _ 2 16 Try.underlying23 hi hz0 hz1 hz2 rfl (by decide) _ _ _ rfl hD3.own ⟨w2.heap.size, 0, none⟩ 1 1 [.int .i64 (1 + a), .int .i64 p] rfl rfl (new_cells _ _ _) ?c2 ?c3 ?c4 ?c5 ?_)
      case c2 => intro u hu; simp at hu; rcases hu with rfl | rfl <;> rfl
      case c3 => unfold maxLen; omega
      case c4 => omega
      case c5 => simp; omega
      intro v' w3 hown' hgrow _
      have hD4 := hD3.app hown' hgrow
      rw [← HC.out] at hD4
      clear hown' hgrow hD2 hD3
      go_wp2_with fail
      go_roundw
      case rel => exact ⟨k + 1, L ++ [(1 + a, p)], by omega, by simp [HL.out], by go_num, hD4.mono (by omega)⟩
      case measure => simp [intOf]; omega
    · obtain rfl : k = n := by omega
      obtain ⟨g, c', e1⟩ := hD.form (by omega)
      injection e1 with e1 _ e3
      subst e1 e3
      go_wp2_with fail
      refine (pick_any R B (N + 5 * k) 50 _ hD.rdr (by omega) (by omega) (by omega)).mono ?_
      rintro e w1 ⟨m, rfl, m1, m2, hr1, hg1⟩
      have hD1 := hD.pick hr1 hg1
      clear hD hr1 hg1
      obtain ⟨hcap, hmost⟩ := hD1.capN
      have hpos : 0 < L.length := by rw [HL.out]; omega
      have q0 := cp_at L 0 hpos
      have hcA := (hD1.own.cellAt 0 (by omega)).trans q0.1
      have hcP := (hD1.own.cellAt 1 (by omega)).trans q0.2
      have hf0 := hD1.own.frozenAt 0
      have hf1 := hD1.own.frozenAt 1
      have hi1 : (0 : Int) < (k : Int) := by omega
      by_cases hm0 : m = 0
      · have e0 : (m == 0) = true := by simp [hm0]
        clear hm0
        have hD2 := (hD1.set 0 (.int .i64 100)).mono (N' := N + 40) (by omega)
        rw [cp_set0 L 100 hpos] at hD2
        have hP : GainsPost R B (N + 40) k w (.returned (.slice (some ⟨g, 0, none⟩) k c)) (w1.setCell ⟨g, 0, none⟩ (.int .i64 100)) := ⟨g, c, 0, _, by omega, by simp [HL.out], rfl, hcap, hD2⟩
        go_wp2_with fail
        go_ret
        exact hP
      · have e0 : (m == 0) = false := by simp [hm0]
        clear hm0
        by_cases hm1 : m = 1
        · have e1 : (m == 1) = true := by simp [hm1]
          clear hm1
          have hD2 := (hD1.set 1 (.int .i64 (-1))).mono (N' := N + 40) (by omega)
          rw [cp_set1 L (-1) hpos] at hD2
          have hP : GainsPost R B (N + 40) k w (.returned (.slice (some ⟨g, 0, none⟩) k c)) (w1.setCell ⟨g, 1, none⟩ (.int .i64 (-1))) := ⟨g, c, 0, _, by omega, by simp [HL.out], rfl, hcap, hD2⟩
          go_wp2_with fail
          go_ret
          exact hP
        · have e1 : (m == 1) = false := by simp [hm1]
          clear hm1
          by_cases hm2 : m = 2
          · have e2 : (m == 2) = true := by simp [hm2]
            clear hm2
            have hP : GainsPost R B (N + 40) k w (.returned (.slice (some ⟨g, 2, none⟩) (k - 1) (c - 1))) w1 := ⟨g, c, 1, L, by omega, HL.out, rfl, hcap, hD1.mono (by omega)⟩
            have hc1 : ¬ c = 1 := by omega
            have hd1 : (1 = c) = False := by simp; omega
            go_wp2_with fail
            go_ret
            exact hP
          · have e2 : (m == 2) = false := by simp [hm2]
            clear hm2
            have hP : GainsPost R B (N + 40) k w (.returned (.slice (some ⟨g, 0, none⟩) k c)) w1 := ⟨g, c, 0, L, by omega, HL.out, rfl, hcap, hD1.mono (by omega)⟩
            go_wp2_with fail
            go_ret
            exact hP

theorem Rd.drop' {w : World} {B size n c g o : Nat} {xs : List Value} (h : Rd w B size (some ⟨g, o, none⟩) n c xs) (k : Nat) (hk : k ≤ n) : Rd w B size (some ⟨g, o + k * size, none⟩) (n - k) (c - k) (xs.drop (k * size)) := by
  have hl := h.len
  have hc := h.cap
  refine ⟨?_, by omega, by have := h.most; omega, fun h0 => ?_⟩
  · rw [List.length_drop, hl, Nat.sub_mul]
  · obtain ⟨b, off, e, hb, hcell⟩ := h.at_ (by omega)
    injection e with e
    injection e with e1 e2
    subst e1 e2
    refine ⟨_, _, rfl, hb, fun j u hu => ?_⟩
    rw [List.getElem?_drop] at hu
    have := hcell _ u hu
    rw [← Nat.add_assoc] at this
    exact this
theorem as_pairs : ∀ (m : Nat) (xs : List Value), xs.length = m * 2 → (∀ u ∈ xs, ∃ x : Int, u = .int .i64 x) → ∃ L : List (Int × Int), xs = cp L ∧ L.length = m
  | 0, xs, hl, _ => ⟨[], by simpa [cp] using hl, rfl⟩
  | m + 1, [], hl, _ => by simp at hl
  | m + 1, [_], hl, _ => by simp at hl; omega
  | m + 1, a :: b :: xs, hl, h => by
    obtain ⟨x, rfl⟩ := h a (by simp)
    obtain ⟨y, rfl⟩ := h b (by simp)
    obtain ⟨L, rfl, hL⟩ := as_pairs m xs (by simp at hl; omega) (fun u hu => h u (by simp [hu]))
    exact ⟨(x, y) :: L, by simp [cp], by simp [hL]⟩
theorem cp_ints (L : List (Int × Int)) : ∀ u ∈ cp L, ∃ x : Int, u = .int .i64 x := by
  intro u hu
  simp only [cp, List.mem_flatMap] at hu
  obtain ⟨p, _, hp⟩ := hu
  simp at hp
  rcases hp with rfl | rfl
  · exact ⟨_, rfl⟩
  · exact ⟨_, rfl⟩
theorem ints_set {xs : List Value} (h : ∀ u ∈ xs, ∃ x : Int, u = .int .i64 x) (j : Nat) (y : Int) : ∀ u ∈ xs.set j (.int .i64 y), ∃ x : Int, u = .int .i64 x := fun u hu => by
  rcases List.mem_or_eq_of_mem_set hu with hu | rfl
  · exact h u hu
  · exact ⟨_, rfl⟩
def GainDrawn (w : World) (e : Ending) (w' : World) : Prop := ∃ (n : Nat) (A : Option Addr) (m c : Nat) (L : List (Int × Int)) (A' : Option Addr) (m' c' : Nat) (G : List (Int × Int)), (2 ≤ n ∧ n ≤ 7) ∧ e = .returned (.tuple #[.int .i64 n, .slice A m c, .slice A' m' c']) ∧ Rd w' w'.heap.size 2 A m c (cp L) ∧ Rd w' w'.heap.size 2 A' m' c' (cp G) ∧ Below w.heap.size w w'
set_option maxHeartbeats 2000000 in
theorem DrawGainApply_any (A : Option Addr) (n c : Nat) (bs : List Int) (w : World) (h : Rd w w.heap.size 1 A n c (cb bs)) (hx : ∀ x ∈ bs, 0 ≤ x ∧ x ≤ 255) (hn : n ≤ 1048576) : Calls Try.prog 18 #[.slice A n c] w (GainDrawn w) := by
  have HX := Lib.hid hx
  clear hx
  go_enter Try.func18, Try.ntmps18
  go_wp2_with fail
  refine (l6Open_any _ _ _ bs _ h HX.out hn).mono ?_
  rintro e w1 ⟨rfl, hr, hb⟩
  go_wp2_with fail
  refine (l91Ants_any _ _ _ _ hr (by omega)).mono ?_
  rintro e w2 ⟨x, rfl, ⟨x1, x2⟩, hr2, hg2⟩
  obtain ⟨N, rfl⟩ := Vm.nat_of (i := x) (by omega)
  have hb2 := below_of_g hb hg2 (Nat.le_refl _)
  have hmany : 1 ≤ Vm.bmany N := by
    have := Vm.bidx_bd (n := N) (i := 0) (j := 1) (by omega) (by omega) (by omega) (by omega)
    omega
  go_wp2_with fail
  refine (l91Vis_pos _ _ _ N _ hr2 (by omega) hmany).mono ?_
  rintro e w3 ⟨v, L, rfl, hD, hLpos⟩
  obtain ⟨gl, cl, rfl⟩ := hD.form hLpos
  have hb3 := below_of_g hb2 hD.grown (Nat.le_refl _)
  have hsz3 := hD.grown.size
  go_wp2_with fail
  refine (l91Gains_any _ _ _ N _ hD.rdr (by omega) (by omega) (by omega)).mono ?_
  rintro e w4 ⟨g, cg, d, G, hd1, hG, rfl, hcg, hDG⟩
  have hb4 := below_of_g hb3 hDG.grown (Nat.le_refl _)
  have hL4 := own_g hD.own hDG.grown hD.lt
  have gl3 := (hD.own.lt gl rfl).2
  go_wp2_with fail
  refine (pick_any _ _ _ 24 _ hDG.rdr (by omega) (by omega) (by omega)).mono ?_
  rintro e w5 ⟨y, rfl, y1, y2, hr5, hg5⟩
  have hDG5 := hDG.pick hr5 hg5
  have hL5 := own_g hL4 hg5 hD.lt
  have hb5 := below_of_g hb4 hg5 (Nat.le_refl _)
  have gge := (hDG5.own.lt g rfl).1
  have glg : gl ≠ g := by omega
  have hw15 := hb5.size
  have hs2 := hg2.size
  have hcapL := (Rd.of_own hL5).cap
  have hmostG := hDG5.capN
  obtain ⟨hm1, hm2⟩ := hmostG
  have hmostL := (Rd.of_own hL5).most
  have hw1 := hb.size
  clear hr hr2 hr5 hg2 hg5 hb hb2 hb3 hb4 hL4 hD hDG
  have HG := Lib.hid hG
  clear hG
  by_cases hst : y = 0 ∧ 1 < N - d
  · obtain ⟨hy, hN1⟩ := hst
    have e0 : (y == 0) = true := by simp [hy]
    have hdc : decide ((1 : Int) < ((N - d : Nat) : Int)) = true := by simp; omega
    clear hy
    have hDa := hDG5.set (2 * d) (.int .i64 99)
    have hDb := hDa.set (2 * d + 2) (.int .i64 99)
    have hxs := ints_set (ints_set (cp_ints G) (2 * d) 99) (2 * d + 2) 99
    obtain ⟨G', eG, hG'⟩ := as_pairs N (((cp G).set (2 * d) (.int .i64 99)).set (2 * d + 2) (.int .i64 99)) (by simp [cp_length, HG.out]) hxs
    rw [eG] at hDb
    have c1 := hDG5.own.cellAt (2 * d) (by omega)
    have f1 := hDG5.own.frozenAt (2 * d)
    have q1 : ∃ u, w5.cell? ⟨g, 2 * d, none⟩ = some u := by rw [c1]; exact ⟨_, List.getElem?_eq_getElem (by rw [cp_length, HG.out]; omega)⟩
    obtain ⟨u1, hu1⟩ := q1
    have c2 := hDa.own.cellAt (2 * d + 2) (by omega)
    have f2 := hDa.own.frozenAt (2 * d + 2)
    have q2 : ∃ u, (w5.setCell ⟨g, 2 * d, none⟩ (.int .i64 99)).cell? ⟨g, 2 * d + 2, none⟩ = some u := by rw [c2]; exact ⟨_, List.getElem?_eq_getElem (by rw [List.length_set, cp_length, HG.out]; omega)⟩
    obtain ⟨u2, hu2⟩ := q2
    have gne : ∀ (w' : World) (j : Nat) (u : Value), w'.ownsRow w2.heap.size 41 2 (.slice (some ⟨gl, 0, none⟩) L.length cl) L.length (cp L) → (w'.setCell ⟨g, j, none⟩ u).ownsRow w2.heap.size 41 2 (.slice (some ⟨gl, 0, none⟩) L.length cl) L.length (cp L) := fun w' j u ho =>
      ho.kept (row := some g) ⟨rfl, rfl, rfl, by simp, fun k _ hk => heap_setCell_other w' ⟨g, j, none⟩ k u (fun e => hk (by simp [e]))⟩ (.inr (by simp [Value.ownBlock]; omega))
    have hLa := gne _ (2 * d) (.int .i64 99) hL5
    have hLb := gne _ (2 * d + 2) (.int .i64 99) hLa
    have hLc := (hLb.stored 0 (.int .i64 500)).1
    obtain ⟨L', eL, hL'⟩ := as_pairs L.length ((cp L).set 0 (.int .i64 500)) (by simp [cp_length]) (ints_set (cp_ints L) 0 500)
    rw [eL] at hLc
    have hDc := hDb.own.kept (row := some gl) (w' := ((w5.setCell ⟨g, 2 * d, none⟩ (.int .i64 99)).setCell ⟨g, 2 * d + 2, none⟩ (.int .i64 99)).setCell ⟨gl, 0, none⟩ (.int .i64 500)) ⟨rfl, rfl, rfl, by simp, fun k _ hk => heap_setCell_other _ ⟨gl, 0, none⟩ k _ (fun e => hk (by simp [e]))⟩ (.inr (by simp [Value.ownBlock]; omega))
    have c3 := hLb.cellAt 0 (by omega)
    have f3 := hLb.frozenAt 0
    have hu3 := c3.trans (cp_at L 0 hLpos).1
    have hg2d : w1.heap.size ≤ g := by omega
    have hbF := bS (p := ⟨gl, 0, none⟩) (bS (p := ⟨g, 2 * d + 2, none⟩) (bS (p := ⟨g, 2 * d, none⟩) hb5 (by show w.heap.size ≤ g; omega) (.int .i64 99)) (by show w.heap.size ≤ g; omega) (.int .i64 99)) (by show w.heap.size ≤ gl; have := (hL5.lt gl rfl).1; omega) (.int .i64 500)
    have hRG := (Rd.of_own hDc).drop' d (by omega)
    have eD : (cp G').drop (d * 2) = cp (G'.drop d) := by
      obtain rfl | rfl : d = 0 ∨ d = 1 := by omega
      · simp
      · cases G' with
        | nil => simp [cp]
        | cons a l => simp [cp]
    rw [eD, Nat.zero_add, Nat.mul_comm d 2] at hRG
    have hRL := Rd.of_own hLc
    have hP : GainDrawn w (.returned (.tuple #[.int .i64 N, .slice (some ⟨gl, 0, none⟩) L.length cl, .slice (some ⟨g, 2 * d, none⟩) (N - d) (cg - d)])) (((w5.setCell ⟨g, 2 * d, none⟩ (.int .i64 99)).setCell ⟨g, 2 * d + 2, none⟩ (.int .i64 99)).setCell ⟨gl, 0, none⟩ (.int .i64 500)) :=
      ⟨N, _, _, _, L', _, _, _, G'.drop d, ⟨by omega, by omega⟩, rfl, hRL, hRG, hbF⟩
    have hi0 : (0 : Int) < ((N - d : Nat) : Int) := by omega
    have hi1 : (1 : Int) < ((N - d : Nat) : Int) := by omega
    have hi2 : (0 : Int) < (L.length : Int) := by omega
    clear hRG hRL hbF hDc hLc hLa hDa hDb hL5 hDG5 c1 c2 c3 eG eL hG' hL' hxs gne eD hdc
    go_wp2_with fail
    refine bodyPost_ret (v := .tuple #[.int .i64 N, .slice (some ⟨gl, 0, none⟩) L.length cl, .slice (some ⟨g, 2 * d, none⟩) (N - d) (cg - d)]) (by simp [results, Try.results18, go_sem]) rfl hP
  · have hRG := (Rd.of_own hDG5.own).drop' d (by omega)
    have eD : (cp G).drop (d * 2) = cp (G.drop d) := by
      obtain rfl | rfl : d = 0 ∨ d = 1 := by omega
      · simp
      · cases G with
        | nil => simp [cp]
        | cons a l => simp [cp]
    rw [eD, Nat.zero_add, Nat.mul_comm d 2] at hRG
    have hP : GainDrawn w (.returned (.tuple #[.int .i64 N, .slice (some ⟨gl, 0, none⟩) L.length cl, .slice (some ⟨g, 2 * d, none⟩) (N - d) (cg - d)])) w5 :=
      ⟨N, _, _, _, L, _, _, _, G.drop d, ⟨by omega, by omega⟩, rfl, Rd.of_own hL5, hRG, hb5⟩
    have hway : ((y == 0) = false) ∨ ((y == 0) = true ∧ N - d ≤ 1) := by
      by_cases hy : y = 0
      · right; exact ⟨by simp [hy], by omega⟩
      · left; simp [hy]
    clear hst hRG hDG5 hL5 hb5 eD
    rcases hway with e0 | ⟨e0, e1⟩
    all_goals
      go_wp2_with fail
      refine bodyPost_ret (v := .tuple #[.int .i64 N, .slice (some ⟨gl, 0, none⟩) L.length cl, .slice (some ⟨g, 2 * d, none⟩) (N - d) (cg - d)]) (by simp [results, Try.results18, go_sem]) rfl hP

end Go.Proofs.Ytmoeofclpnblmaa
