/- Contracts: CloseSame of the program. -/
import Derived.Test.YtcolajhjjnkpmaaAmpC
import Derived.Test.YtcolajhjjnkpmaaBaseM2
namespace Go.Proofs.Ytcolajhjjnkpmaa
open Go.RowKit

/-- A bool that tells whether something holds. -/
def BoolPost (P : Prop) (w : World) (e : Ending) (w' : World) : Prop := ∃ b : Bool, e = .returned (.bool b) ∧ (b = true ↔ P) ∧ Below w.heap.size w w'
theorem BoolPost.yes {P : Prop} {w w' : World} (h : P) (hB : Below w.heap.size w w') : BoolPost P w (.returned (.bool true)) w' := ⟨true, rfl, by simp [h], hB⟩
theorem BoolPost.no {P : Prop} {w w' : World} (h : ¬ P) (hB : Below w.heap.size w w') : BoolPost P w (.returned (.bool false)) w' := ⟨false, rfl, by simp [h], hB⟩
def ampE (n : Int) (A B : List (Int × Int)) (i j k l : Int) : Prop := Vm.ampP n A i j k l = Vm.ampP n B i j k l ∧ Vm.ampQ n A i j k l = Vm.ampQ n B i j k l
def ampA (n : Int) (A B : List (Int × Int)) (i j k : Int) : Prop := ∀ l : Nat, (l : Int) < n → ampE n A B i j k l
theorem ampQ_rng (n : Int) (L : List (Int × Int)) (i j k l : Int) : (0 ≤ Vm.ampP n L i j k l ∧ Vm.ampP n L i j k l ≤ 1000000000000) ∧ 0 ≤ Vm.ampQ n L i j k l ∧ Vm.ampQ n L i j k l ≤ 1000000000000 := by
  cases h : Vm.ampB n L i j k l
  · rw [Vm.ampP_no h, Vm.ampQ_no h]; omega
  · obtain ⟨⟨t1, t2⟩, b1, b2⟩ := Vm.amp_rng h
    have g := Vm.gcd_pos (b := Vm.abot n L i j k l) t1
    rw [Vm.ampP_yes h, Vm.ampQ_yes h]
    unfold Vm.redT Vm.redB
    exact ⟨⟨Int.ediv_nonneg (by omega) (by omega), Int.le_trans (Int.ediv_le_self _ (by omega)) t2⟩, Int.ediv_nonneg (by omega) (by omega), Int.le_trans (Int.ediv_le_self _ (by omega)) b2⟩
set_option maxHeartbeats 2000000 in
theorem sameAmps_any (A A' : Option Addr) (m c m' c' N : Nat) (L M : List (Int × Int)) (i j k : Int) (w : World) (h : Rd w w.heap.size 2 A m c (cp L)) (h' : Rd w w.heap.size 2 A' m' c' (cp M)) (hN : N ≤ 1000) :
    Calls Try.prog 43 #[.int .i64 N, .slice A m c, .slice A' m' c', .int .i64 i, .int .i64 j, .int .i64 k] w (BoolPost (ampA N L M i j k) w) := by
  go_enter Try.func43, Try.ntmps43
  go_wp2_with fail
  go_loopw [21] (fun v wr => ∃ q : Nat, q ≤ N ∧ v = .int .i64 q ∧ Hid (∀ l : Nat, l < q → ampE N L M i j k l) ∧ Below w.heap.size w wr) (fun v _ => N - (intOf v).toNat)
  case atStart => exact ⟨0, Nat.zero_le _, rfl, fun l hl => by omega, b0 _⟩
  case round =>
    obtain ⟨q, hq, rfl, hall, hB⟩ := hrel
    by_cases hlt : q < N
    · obtain ⟨⟨a1, a2⟩, a3, a4⟩ := ampQ_rng N L i j k q
      obtain ⟨⟨b1, b2⟩, b3, b4⟩ := ampQ_rng N M i j k q
      obtain ⟨x1, hx1⟩ : ∃ x, Vm.ampP N L i j k q = x := ⟨_, rfl⟩
      obtain ⟨x2, hx2⟩ : ∃ x, Vm.ampQ N L i j k q = x := ⟨_, rfl⟩
      obtain ⟨y1, hy1⟩ : ∃ x, Vm.ampP N M i j k q = x := ⟨_, rfl⟩
      obtain ⟨y2, hy2⟩ : ∃ x, Vm.ampQ N M i j k q = x := ⟨_, rfl⟩
      rw [hx1] at a1 a2
      rw [hx2] at a3 a4
      rw [hy1] at b1 b2
      rw [hy2] at b3 b4
      have hE : ampE N L M i j k q ↔ x1 = y1 ∧ x2 = y2 := by unfold ampE; rw [hx1, hx2, hy1, hy2]
      have X1 := Lib.hid hx1
      have X2 := Lib.hid hx2
      have Y1 := Lib.hid hy1
      have Y2 := Lib.hid hy2
      clear hx1 hx2 hy1 hy2
      by_cases he : x1 = y1 ∧ x2 = y2
      · have HA := Lib.hid (show ∀ l : Nat, l < q + 1 → ampE N L M i j k l from fun l hl => by
          by_cases e : l = q
          · rw [e]; exact hE.2 he
          · exact hall.out l (by omega))
        have hd1 : (x1 != y1) = false := by simp [he.1]
        have hd2 : (x2 != y2) = false := by simp [he.2]
        clear he hE
        go_wp2_with fail
        refine (CloseAmp_any A m c N L i j k q _ ((h.below hB).more hB.size)).mono ?_
        rintro e w1 ⟨rfl, hB1⟩
        rw [X1.out, X2.out]
        have hB2 := bT hB hB1
        go_wp2_with fail
        refine (CloseAmp_any A' m' c' N M i j k q _ ((h'.below hB2).more hB2.size)).mono ?_
        rintro e w2 ⟨rfl, hB3⟩
        rw [Y1.out, Y2.out]
        have hB4 := bT hB2 hB3
        clear hB hB1 hB2 hB3
        go_wp2_with fail
        go_roundw
        case rel => exact ⟨q + 1, by omega, by go_num, HA, hB4⟩
        case measure => simp [intOf]; omega
      · have HA := Lib.hid (show ¬ ampA N L M i j k from fun hc => he (hE.1 (hc q (by omega))))
        have hd : (x1 != y1) = true ∨ ((x1 != y1) = false ∧ (x2 != y2) = true) := by
          by_cases e1 : x1 = y1
          · right; exact ⟨by simp [e1], by simp; exact fun e2 => he ⟨e1, e2⟩⟩
          · left; simp [e1]
        clear he hE
        rcases hd with hd | ⟨hd, hd2⟩
        all_goals
          go_wp2_with fail
          refine (CloseAmp_any A m c N L i j k q _ ((h.below hB).more hB.size)).mono ?_
          rintro e w1 ⟨rfl, hB1⟩
          rw [X1.out, X2.out]
          have hB2 := bT hB hB1
          go_wp2_with fail
          refine (CloseAmp_any A' m' c' N M i j k q _ ((h'.below hB2).more hB2.size)).mono ?_
          rintro e w2 ⟨rfl, hB3⟩
          rw [Y1.out, Y2.out]
          have hB4 := bT hB2 hB3
          clear hB hB1 hB2 hB3
          go_wp2_with fail
          go_ret
          exact BoolPost.no HA.out hB4
    · have HA := Lib.hid (show ampA N L M i j k from fun l hl => hall.out l (by omega))
      go_wp2_with fail
      go_ret
      exact BoolPost.yes HA.out hB
/-- What one round of three antennas asks. -/
def sameQ (n : Int) (A B : List (Int × Int)) (i j k : Int) : Prop := Vm.loopP n A [i, j, k] = Vm.loopP n B [i, j, k] ∧ ampA n A B i j k
theorem sameP_iff {N : Nat} {A B : List (Int × Int)} (hA : Vm.visB N A = true) (hB : Vm.visB N B = true) : Vm.SameP N A B ↔ ∀ i j k : Nat, i < N → j < N → k < N → sameQ N A B i j k := by
  constructor
  · rintro ⟨_, _, h1, h2⟩ i j k hi hj hk
    exact ⟨h1 i j k (by omega) (by omega) (by omega), fun l hl => h2 i j k l (by omega) (by omega) (by omega) hl⟩
  · intro h
    exact ⟨hA, hB, fun i j k hi hj hk => (h i j k (by omega) (by omega) (by omega)).1, fun i j k l hi hj hk hl => (h i j k (by omega) (by omega) (by omega)).2 l hl⟩
theorem loopP_rg (n : Int) (L : List (Int × Int)) (l : List Int) : 0 ≤ Vm.loopP n L l ∧ Vm.loopP n L l < 360 := Vm.loopP_rng n L l
set_option maxHeartbeats 4000000 in
theorem CloseSame_any (A A' : Option Addr) (m c m' c' : Nat) (n : Int) (L M : List (Int × Int)) (w : World) (h : Rd w w.heap.size 2 A m c (cp L)) (h' : Rd w w.heap.size 2 A' m' c' (cp M)) :
    Calls Try.prog 20 #[.int .i64 n, .slice A m c, .slice A' m' c'] w (BoolPost (Vm.SameP n L M) w) := by
  cases hv : Vm.visB n L
  · have H := Lib.hid (show ¬ Vm.SameP n L M from fun hc => by have := hc.1; rw [hv] at this; cases this)
    go_enter Try.func20, Try.ntmps20
    go_wp2_with fail
    refine (VisValid_any _ _ _ n L _ h).mono ?_
    rintro e w1 ⟨rfl, hB1⟩
    rw [hv]
    go_wp2_with fail
    go_ret
    exact BoolPost.no H.out hB1
  · have HV := Lib.hid hv
    cases hv' : Vm.visB n M
    · have H := Lib.hid (show ¬ Vm.SameP n L M from fun hc => by have := hc.2.1; rw [hv'] at this; cases this)
      have HV' := Lib.hid hv'
      clear hv hv'
      go_enter Try.func20, Try.ntmps20
      go_wp2_with fail
      refine (VisValid_any _ _ _ n L _ h).mono ?_
      rintro e w1 ⟨rfl, hB1⟩
      rw [HV.out]
      go_wp2_with fail
      refine (VisValid_any _ _ _ n M _ (h'.after hB1)).mono ?_
      rintro e w2 ⟨rfl, hB2⟩
      rw [HV'.out]
      go_wp2_with fail
      go_ret
      exact BoolPost.no H.out (bT hB1 hB2)
    · obtain ⟨N, rfl, hO⟩ := Vm.Ok.of hv
      have HV' := Lib.hid hv'
      have N7 := hO.hi
      have HQ := Lib.hid (sameP_iff hv hv')
      clear hv hv' hO
      go_enter Try.func20, Try.ntmps20
      go_wp2_with fail
      refine (VisValid_any _ _ _ N L _ h).mono ?_
      rintro e w1 ⟨rfl, hB1⟩
      rw [HV.out]
      go_wp2_with fail
      refine (VisValid_any _ _ _ N M _ (h'.after hB1)).mono ?_
      rintro e w2 ⟨rfl, hB2⟩
      rw [HV'.out]
      have hB0 := bT hB1 hB2
      clear hB1 hB2
      go_wp2_with fail
      go_loopw [25] (fun v wr => ∃ i : Nat, i ≤ N ∧ v = .int .i64 i ∧ Hid (∀ i' j k : Nat, i' < i → j < N → k < N → sameQ N L M i' j k) ∧ Below w.heap.size w wr) (fun v _ => N - (intOf v).toNat)
      case atStart => exact ⟨0, Nat.zero_le _, rfl, fun i' j k hi => by omega, hB0⟩
      case round =>
        clear hB0
        obtain ⟨i, hi, rfl, hI, hB⟩ := hrel
        by_cases hil : i < N
        · go_wp2_with fail
          go_loopw [29] (fun v wr => ∃ j : Nat, j ≤ N ∧ v = .int .i64 j ∧ Hid (∀ j' k : Nat, j' < j → k < N → sameQ N L M i j' k) ∧ Below w.heap.size w wr) (fun v _ => N - (intOf v).toNat)
          case atStart => exact ⟨0, Nat.zero_le _, rfl, fun j' k hj => by omega, hB⟩
          case round =>
            clear hB
            obtain ⟨j, hj, rfl, hJ, hB⟩ := hrel
            by_cases hjl : j < N
            · go_wp2_with fail
              go_loopw [33] (fun v wr => ∃ k : Nat, k ≤ N ∧ v = .int .i64 k ∧ Hid (∀ k' : Nat, k' < k → sameQ N L M i j k') ∧ Below w.heap.size w wr) (fun v _ => N - (intOf v).toNat)
              case atStart => exact ⟨0, Nat.zero_le _, rfl, fun k' hk => by omega, hB⟩
              case round =>
                clear hB
                obtain ⟨k, hk, rfl, hK, hB⟩ := hrel
                by_cases hkl : k < N
                · obtain ⟨p1, p2⟩ := loopP_rg N L [(i : Int), (j : Int), (k : Int)]
                  obtain ⟨q1, q2⟩ := loopP_rg N M [(i : Int), (j : Int), (k : Int)]
                  obtain ⟨p, hp⟩ : ∃ x, Vm.loopP N L [(i : Int), (j : Int), (k : Int)] = x := ⟨_, rfl⟩
                  obtain ⟨q, hq⟩ : ∃ x, Vm.loopP N M [(i : Int), (j : Int), (k : Int)] = x := ⟨_, rfl⟩
                  rw [hp] at p1 p2
                  rw [hq] at q1 q2
                  have hE : sameQ N L M i j k ↔ p = q ∧ ampA N L M i j k := by unfold sameQ; rw [hp, hq]
                  have P1 := Lib.hid hp
                  have Q1 := Lib.hid hq
                  have HE := Lib.hid hE
                  clear hp hq hE
                  by_cases he : p = q
                  · have hd : (p != q) = false := by simp [he]
                    have HPQ := Lib.hid he
                    clear he
                    go_wp2_with fail
                    refine (ClosePhase_any A m c N i j k L _ ((h.below hB).more hB.size)).mono ?_
                    rintro e w1 ⟨rfl, hB1⟩
                    rw [P1.out]
                    have hB2 := bT hB hB1
                    go_wp2_with fail
                    refine (ClosePhase_any A' m' c' N i j k M _ ((h'.below hB2).more hB2.size)).mono ?_
                    rintro e w2 ⟨rfl, hB3⟩
                    rw [Q1.out]
                    have hB4 := bT hB2 hB3
                    clear hB hB1 hB2 hB3
                    go_wp2_with fail
                    refine (sameAmps_any A A' m c m' c' N L M i j k _ ((h.below hB4).more hB4.size) ((h'.below hB4).more hB4.size) (by omega)).mono ?_
                    rintro e w3 ⟨b, rfl, hb, hB5⟩
                    have HBb := Lib.hid hb
                    have hB6 := bT hB4 hB5
                    clear hb hB4 hB5
                    cases b
                    · have H := Lib.hid (show ¬ Vm.SameP N L M from fun hc => by
                        have h3 := (HE.out.1 ((HQ.out.1 hc) i j k hil hjl hkl)).2
                        have := HBb.out.2 h3
                        cases this)
                      go_wp2_with fail
                      go_ret
                      exact BoolPost.no H.out hB6
                    · have HK := Lib.hid (show ∀ k' : Nat, k' < k + 1 → sameQ N L M i j k' from fun k' hk' => by
                        by_cases e : k' = k
                        · rw [e]; exact HE.out.2 ⟨HPQ.out, HBb.out.1 rfl⟩
                        · exact hK.out k' (by omega))
                      go_wp2_with fail
                      go_roundw
                      case rel => exact ⟨k + 1, by omega, by go_num, HK, hB6⟩
                      case measure => simp [intOf]; omega
                  · have hd : (p != q) = true := by simp [he]
                    have H := Lib.hid (show ¬ Vm.SameP N L M from fun hc => he (HE.out.1 ((HQ.out.1 hc) i j k hil hjl hkl)).1)
                    clear he
                    go_wp2_with fail
                    refine (ClosePhase_any A m c N i j k L _ ((h.below hB).more hB.size)).mono ?_
                    rintro e w1 ⟨rfl, hB1⟩
                    rw [P1.out]
                    have hB2 := bT hB hB1
                    go_wp2_with fail
                    refine (ClosePhase_any A' m' c' N i j k M _ ((h'.below hB2).more hB2.size)).mono ?_
                    rintro e w2 ⟨rfl, hB3⟩
                    rw [Q1.out]
                    have hB4 := bT hB2 hB3
                    clear hB hB1 hB2 hB3
                    go_wp2_with fail
                    go_ret
                    exact BoolPost.no H.out hB4
                · have HJ := Lib.hid (show ∀ j' k : Nat, j' < j + 1 → k < N → sameQ N L M i j' k from fun j' k' hj' hk' => by
                    by_cases e : j' = j
                    · rw [e]; exact hK.out k' (by omega)
                    · exact hJ.out j' k' (by omega) hk')
                  go_wp2_with fail
                  go_roundw
                  case rel => exact ⟨j + 1, by omega, by go_num, HJ, hB⟩
                  case measure => simp [intOf]; omega
            · have HI := Lib.hid (show ∀ i' j k : Nat, i' < i + 1 → j < N → k < N → sameQ N L M i' j k from fun i' j' k' hi' hj' hk' => by
                by_cases e : i' = i
                · rw [e]; exact hJ.out j' k' (by omega) hk'
                · exact hI.out i' j' k' (by omega) hj' hk')
              go_wp2_with fail
              go_roundw
              case rel => exact ⟨i + 1, by omega, by go_num, HI, hB⟩
              case measure => simp [intOf]; omega
        · have H := Lib.hid (show Vm.SameP N L M from HQ.out.2 fun i' j' k' hi' hj' hk' => hI.out i' j' k' (by omega) hj' hk')
          go_wp2_with fail
          go_ret
          exact BoolPost.yes H.out hB

end Go.Proofs.Ytcolajhjjnkpmaa
