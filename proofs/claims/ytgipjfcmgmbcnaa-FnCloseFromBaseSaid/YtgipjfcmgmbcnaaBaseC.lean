/- Contracts: what follows from a base; of the program and of the reference. -/
import Derived.Test.YtgipjfcmgmbcnaaBaseV
import Derived.Test.YtgipjfcmgmbcnaaMkN
import Derived.Test.YtgipjfcmgmbcnaaDrawC
namespace Go.Proofs.Ytgipjfcmgmbcnaa
open Go.RowKit

def cvL (n : Int) (B : List Int) : List (Int × Int) := if Vm.baseB n B then Vm.bvL n.toNat B else []
theorem cvL_yes {N : Nat} {B : List Int} (h : Vm.baseB N B = true) : cvL N B = Vm.bvL N B := by rw [cvL, if_pos h, Int.toNat_natCast]
theorem cvL_no {n : Int} {B : List Int} (h : Vm.baseB n B = false) : cvL n B = [] := by rw [cvL, h]; rfl
theorem cf_no1 {n : Int} {B : List Int} {i j k : Int} (h : Vm.baseB n B = false) : Vm.cfB n B i j k = false := by simp [Vm.cfB, h]
theorem cf_no2 {n : Int} {B : List Int} {i j k : Int} (h : Vm.apB n [i, j, k] = false) : Vm.cfB n B i j k = false := by simp [Vm.cfB, h]
theorem cf_yes {n : Int} {B : List Int} {i j k : Int} (h : Vm.baseB n B = true) (h2 : Vm.apB n [i, j, k] = true) : Vm.cfB n B i j k = true := by simp [Vm.cfB, h, h2]
def FromPost (n : Int) (B : List Int) (i j k : Int) (w : World) (e : Ending) (w' : World) : Prop := e = .returned (.tuple #[.int .i64 (Vm.cfP n B i j k), .bool (Vm.cfB n B i j k)]) ∧ Below w.heap.size w w'
theorem FromPost.no {n : Int} {B : List Int} {i j k : Int} {w w' : World} (h : Vm.cfB n B i j k = false) (hB : Below w.heap.size w w') : FromPost n B i j k w (.returned (.tuple #[.int .i64 0, .bool false])) w' := ⟨by rw [Vm.cfP, h]; rfl, hB⟩
theorem FromPost.yes {n : Int} {B : List Int} {i j k : Int} {w w' : World} (h : Vm.cfB n B i j k = true) {x : Int} (hx : x = Vm.cfP n B i j k) (hB : Below w.heap.size w w') : FromPost n B i j k w (.returned (.tuple #[.int .i64 x, .bool true])) w' := ⟨by rw [h, hx], hB⟩
set_option maxHeartbeats 1000000 in
theorem CloseFrom_any (A : Option Addr) (m c : Nat) (n : Int) (B : List Int) (i j k : Int) (w : World) (h : Rd w w.heap.size 1 A m c (ci B)) :
    Calls Try.prog 17 #[.int .i64 n, .slice A m c, .int .i64 i, .int .i64 j, .int .i64 k] w (FromPost n B i j k w) := by
  cases hb : Vm.baseB n B
  · have H := Lib.hid (cf_no1 (i := i) (j := j) (k := k) hb)
    go_enter Try.func17, Try.ntmps17
    go_wp2_with (go_at_call 49; refine (isBase_any _ _ _ n B _ h).mono ?_; rintro e w' ⟨rfl, rfl⟩)
    go_ret2
    exact FromPost.no H.out (b0 _)
  · obtain ⟨N, rfl, hO⟩ := Vm.OkB.of hb
    have HO := Lib.hid hO
    have N7 := hO.hi
    have HB := Lib.hid hb
    clear hO
    cases ha : Vm.apB N [i, j, k]
    · have H := Lib.hid (cf_no2 (B := B) ha)
      have HA := Lib.hid ha
      clear ha hb
      go_enter Try.func17, Try.ntmps17
      go_wp2_with fail
      refine (isBase_any _ _ _ N B _ h).mono ?_
      rintro e w' ⟨rfl, rfl⟩
      rw [HB.out]
      go_wp2_with fail
      refine (differentAnts_any _ _ _ N [i, j, k] _ ((rd3 w i j k _).more (by simp))).mono ?_
      rintro e w2 ⟨rfl, rfl⟩
      rw [HA.out]
      go_wp2_with fail
      go_ret2
      exact FromPost.no H.out (bA (b0 _) _)
    · have H := Lib.hid (cf_yes hb ha)
      have HA := Lib.hid ha
      clear ha hb
      go_enter Try.func17, Try.ntmps17
      go_wp2_with fail
      refine (isBase_any _ _ _ N B _ h).mono ?_
      rintro e w' ⟨rfl, rfl⟩
      rw [HB.out]
      go_wp2_with fail
      refine (differentAnts_any _ _ _ N [i, j, k] _ ((rd3 w i j k _).more (by simp))).mono ?_
      rintro e w2 ⟨rfl, rfl⟩
      rw [HA.out]
      go_wp2_with fail
      refine (baseVis_any _ _ _ N B _ (h.after (bA (b0 _) _)) HO.out).mono ?_
      rintro e w3 ⟨v, rfl, hown, hB3⟩
      obtain ⟨A3, c3, rfl⟩ := own_form hown
      go_wp2_with fail
      have hr := rd3 w3 i j k 3
      have HX := Lib.hid ((Vm.loopP_eq ((Vm.cf_loopB HO.out i j k).trans H.out)).symm.trans (Vm.cf_loopP HO.out i j k))
      refine (loopPhase_any _ _ _ _ _ _ N (Vm.bvL N B) [i, j, k] _ ((Rd.of_own hown).after (bA (b0 _) _)) (hr.more (by simp)) (Vm.bv_ok HO.out).to (by simp) (by simp) HA.out).mono ?_
      rintro e w4 ⟨rfl, hB4⟩
      go_wp2_with fail
      go_ret2
      exact FromPost.yes H.out HX.out (bT (bA (bT (bA (b0 _) _) hB3) _) hB4)
def VisOut (n : Int) (B : List Int) (w : World) (e : Ending) (w' : World) : Prop := ∃ v, e = .returned (.tuple #[v, .bool (Vm.baseB n B)]) ∧ w'.ownsRow w.heap.size 38 2 v (cvL n B).length (cp (cvL n B)) ∧ Below w.heap.size w w'
set_option maxHeartbeats 1000000 in
theorem CloseVis_any (A : Option Addr) (m c : Nat) (n : Int) (B : List Int) (w : World) (h : Rd w w.heap.size 1 A m c (ci B)) :
    Calls Try.prog 20 #[.int .i64 n, .slice A m c] w (VisOut n B w) := by
  cases hb : Vm.baseB n B
  · have H : Hid (VisOut n B w (.returned (.tuple #[.slice none 0 0, .bool false])) w) := ⟨_, by rw [hb], by rw [cvL_no hb]; exact World.ownsRow_nil _ _ _ _, b0 _⟩
    go_enter Try.func20, Try.ntmps20
    go_wp2_with (go_at_call 49; refine (isBase_any _ _ _ n B _ h).mono ?_; rintro e w' ⟨rfl, rfl⟩)
    go_ret2
    exact H.out
  · obtain ⟨N, rfl, hO⟩ := Vm.OkB.of hb
    have HO := Lib.hid hO
    have HB := Lib.hid hb
    clear hO hb
    go_enter Try.func20, Try.ntmps20
    go_wp2_with fail
    refine (isBase_any _ _ _ N B _ h).mono ?_
    rintro e w' ⟨rfl, rfl⟩
    rw [HB.out]
    go_wp2_with fail
    refine (baseVis_any _ _ _ N B _ h HO.out).mono ?_
    rintro e w3 ⟨v, rfl, hown, hB3⟩
    obtain ⟨A3, c3, rfl⟩ := own_form hown
    have H : Hid (VisOut N B w (.returned (.tuple #[.slice A3 (Vm.bvL N B).length c3, .bool true])) w3) := ⟨_, by rw [HB.out], by rw [cvL_yes HB.out]; exact hown, hB3⟩
    go_wp2_with fail
    go_ret2
    exact H.out
theorem bget_at {N : Nat} {B : List Int} (hO : Vm.OkB N B) {j k : Int} (hj : 0 < j ∧ j < N) (hk : 0 < k ∧ k < N) (hne : j ≠ k) :
    ∃ q : Nat, ∃ hq : q < B.length, bix ((N : Int) - 1) (j - 1) (k - 1) = q ∧ (0 ≤ B[q] ∧ B[q] < 360) ∧ Vm.bget N B j k = (if k < j then 0 - B[q] else B[q]) := by
  have h3 := hO.lo
  have h7 := hO.hi
  obtain ⟨j, rfl⟩ := Vm.nat_of (i := j) (by omega)
  obtain ⟨k, rfl⟩ := Vm.nat_of (i := k) (by omega)
  have hb := bix_eq (n := (N : Int) - 1) (i := (j : Int) - 1) (j := (k : Int) - 1) (by omega) (by omega) (by omega) (by omega)
  have fin : ∀ q, Vm.bidx ((N : Int) - 1) ((j : Int) - 1) ((k : Int) - 1) = ((q : Nat) : Int) → q < B.length → ∃ q : Nat, ∃ hq : q < B.length, bix ((N : Int) - 1) ((j : Int) - 1) ((k : Int) - 1) = q ∧ (0 ≤ B[q] ∧ B[q] < 360) ∧ Vm.bget N B j k = (if (k : Int) < j then 0 - B[q] else B[q]) := fun q hq hl => by
    refine ⟨q, hl, hb.trans hq, (Vm.phB_iff _).1 (List.all_eq_true.1 hO.all _ (List.getElem_mem hl)), ?_⟩
    have e : B.getD q 0 = B[q] := by simp [hl]
    rw [Vm.bget, if_neg (by omega), hq, Int.toNat_natCast, e]
  rcases Nat.lt_or_gt_of_ne (show j ≠ k by omega) with hh | hh
  · exact fin _ (Vm.bt_base N j k h3 h7 (by omega) hh (by omega)).1 ((hO.get hh (by omega)).2.2.2 (by omega)).2
  · exact fin _ (Vm.bt_base N k j h3 h7 (by omega) hh (by omega)).2.1 ((hO.get hh (by omega)).2.2.2 (by omega)).2
set_option maxHeartbeats 1000000 in
theorem l14Get_any (A : Option Addr) (m c N : Nat) (B : List Int) (j k : Int) (w : World) (h : Rd w w.heap.size 1 A m c (ci B)) (hO : Vm.OkB N B) (hj : 0 ≤ j ∧ j < N) (hk : 0 ≤ k ∧ k < N) (hne : j ≠ k) :
    Calls Try.prog 48 #[.int .i64 N, .slice A m c, .int .i64 j, .int .i64 k] w fun e w' => e = .returned (.int .i64 (Vm.bget N B j k)) ∧ w = w' := by
  have N3 := hO.lo
  have N7 := hO.hi
  have hn := h.len
  rw [ci_length, Nat.mul_one] at hn
  have hm := h.most
  have hcap := h.cap
  subst hn
  by_cases hj0 : j = 0
  · have H := Lib.hid (show Vm.bget N B j k = 0 by simp [Vm.bget, hj0])
    have hd : (j == 0) = true := by simp [hj0]
    clear hj0 hO hne
    go_enter Try.func48, Try.ntmps48
    go_wp2_with fail
    go_ret
    exact ⟨ret_int H.out.symm, rfl⟩
  · have hd : (j == 0) = false := by simp [hj0]
    by_cases hk0 : k = 0
    · have H := Lib.hid (show Vm.bget N B j k = 0 by simp [Vm.bget, hk0])
      have hd2 : (k == 0) = true := by simp [hk0]
      clear hj0 hk0 hO hne
      go_enter Try.func48, Try.ntmps48
      go_wp2_with fail
      go_ret
      exact ⟨ret_int H.out.symm, rfl⟩
    · have hd2 : (k == 0) = false := by simp [hk0]
      obtain ⟨q, hq, hbx, hy, hg⟩ := bget_at hO (j := j) (k := k) (by omega) (by omega) hne
      obtain ⟨b, off, rfl, hb, hc⟩ := h.int_at hq
      obtain ⟨y, hyy⟩ : ∃ y, B[q] = y := ⟨_, rfl⟩
      rw [hyy] at hy hg hc
      obtain ⟨y1, y2⟩ := hy
      have HX := Lib.hid hbx
      clear hbx hyy hO hj0 hk0
      by_cases hlt : k < j
      · rw [if_pos hlt] at hg
        have H := Lib.hid hg
        clear hg hne
        go_enter Try.func48, Try.ntmps48
        go_wp2_with (go_at_call 81; refine (sBaseIndex_any _ _ _ _).mono ?_; rintro e w' ⟨rfl, rfl⟩; rw [HX.out])
        go_ret
        exact ⟨ret_int (by have := H.out; omega), rfl⟩
      · rw [if_neg hlt] at hg
        have H := Lib.hid hg
        clear hg hne
        go_enter Try.func48, Try.ntmps48
        go_wp2_with (go_at_call 81; refine (sBaseIndex_any _ _ _ _).mono ?_; rintro e w' ⟨rfl, rfl⟩; rw [HX.out])
        go_ret
        exact ⟨ret_int H.out.symm, rfl⟩
theorem bget_bd {N : Nat} {B : List Int} (hO : Vm.OkB N B) {j k : Int} (hj : 0 ≤ j ∧ j < N) (hk : 0 ≤ k ∧ k < N) (hne : j ≠ k) : -360 < Vm.bget N B j k ∧ Vm.bget N B j k < 360 := by
  obtain ⟨j, rfl⟩ := Vm.nat_of hj.1
  obtain ⟨k, rfl⟩ := Vm.nat_of hk.1
  rcases Nat.lt_or_gt_of_ne (show j ≠ k by omega) with hh | hh
  · have := hO.get hh (show k < N by omega)
    omega
  · have := hO.get hh (show j < N by omega)
    omega
set_option maxHeartbeats 1000000 in
theorem sCloseFrom_any (A : Option Addr) (m c : Nat) (n : Int) (B : List Int) (i j k : Int) (w : World) (h : Rd w w.heap.size 1 A m c (ci B)) :
    Calls Try.prog 15 #[.int .i64 n, .slice A m c, .int .i64 i, .int .i64 j, .int .i64 k] w (FromPost n B i j k w) := by
  cases hb : Vm.baseB n B
  · have H := Lib.hid (cf_no1 (i := i) (j := j) (k := k) hb)
    go_enter Try.func15, Try.ntmps15
    go_wp2_with (go_at_call 45; refine (l14Ok_any _ _ _ n B _ h).mono ?_; rintro e w' ⟨rfl, rfl⟩)
    go_ret2
    exact FromPost.no H.out (b0 _)
  · obtain ⟨N, rfl, hO⟩ := Vm.OkB.of hb
    have HO := Lib.hid hO
    have N7 := hO.hi
    have HB := Lib.hid hb
    clear hO
    cases ha : Vm.apB N [i, j, k]
    · have H := Lib.hid (cf_no2 (B := B) ha)
      have HA := Lib.hid ha
      clear ha hb
      go_enter Try.func15, Try.ntmps15
      go_wp2_with fail
      refine (l14Ok_any _ _ _ N B _ h).mono ?_
      rintro e w' ⟨rfl, rfl⟩
      rw [HB.out]
      go_wp2_with fail
      refine (l13Apart_any _ _ _ N [i, j, k] _ ((rd3 w i j k _).more (by simp)) (by omega) (by omega)).mono ?_
      rintro e w2 ⟨rfl, nq, rfl⟩
      rw [HA.out]
      go_wp2_with fail
      go_ret2
      exact FromPost.no H.out (bD (bA (b0 _) _) _)
    · have H := Lib.hid (cf_yes hb ha)
      have HP := Lib.hid (show Vm.cfP N B i j k = (Vm.bget N B i j + Vm.bget N B j k + Vm.bget N B k i) % 360 by rw [Vm.cfP, if_pos (cf_yes hb ha)])
      obtain ⟨ri, rj, rk, d1, d2, d3⟩ := Vm.ap3 ha
      have d2' : k ≠ i := fun e => d2 e.symm
      have g1 := bget_bd HO.out ri rj d1
      have g2 := bget_bd HO.out rj rk d3
      have g3 := bget_bd HO.out rk ri d2'
      obtain ⟨g11, g12⟩ := g1
      obtain ⟨g21, g22⟩ := g2
      obtain ⟨g31, g32⟩ := g3
      have HA := Lib.hid ha
      clear ha hb
      go_enter Try.func15, Try.ntmps15
      go_wp2_with fail
      refine (l14Ok_any _ _ _ N B _ h).mono ?_
      rintro e w' ⟨rfl, rfl⟩
      rw [HB.out]
      go_wp2_with fail
      refine (l13Apart_any _ _ _ N [i, j, k] _ ((rd3 w i j k _).more (by simp)) (by omega) (by omega)).mono ?_
      rintro e w2 ⟨rfl, nq, rfl⟩
      rw [HA.out]
      have hr := h.after (bD (bA (b0 w) (.cells #[.int .i64 i, .int .i64 j, .int .i64 k] 3)) nq)
      go_wp2_with fail
      refine (l14Get_any _ _ _ N B i j _ hr HO.out ri rj d1).mono ?_
      rintro e w' ⟨rfl, rfl⟩
      go_wp2_with fail
      refine (l14Get_any _ _ _ N B j k _ hr HO.out rj rk d3).mono ?_
      rintro e w' ⟨rfl, rfl⟩
      go_wp2_with fail
      refine (l14Get_any _ _ _ N B k i _ hr HO.out rk ri d2').mono ?_
      rintro e w' ⟨rfl, rfl⟩
      go_wp2_with fail
      refine (sPhaseOf_any _ _).mono ?_
      rintro e w' ⟨rfl, rfl⟩
      go_wp2_with fail
      go_ret2
      exact FromPost.yes H.out HP.out.symm (bD (bA (b0 _) _) _)
theorem bvF_eq (n : Int) (B : List Int) (i j : Int) : Vm.bvF n B i j = (1, Vm.bget n B i j) := rfl
set_option maxHeartbeats 4000000 in
theorem sCloseVis_any (A : Option Addr) (m c : Nat) (n : Int) (B : List Int) (w : World) (h : Rd w w.heap.size 1 A m c (ci B)) :
    Calls Try.prog 21 #[.int .i64 n, .slice A m c] w (VisOut n B w) := by
  have hO0 : (w.alloc (.cells #[] 38)).ownsRow w.heap.size 38 2 (.slice (some ⟨w.heap.size, 0, none⟩) 0 0) 0 [] := World.ownsRow_lit w #[] 0 (Nat.le_refl _) (by decide) rfl
  have hrA := h.after (bA (b0 w) (.cells #[] 38))
  cases hb : Vm.baseB n B
  · have H : Hid (VisOut n B w (.returned (.tuple #[.slice (some ⟨w.heap.size, 0, none⟩) 0 0, .bool false])) (w.alloc (.cells #[] 38))) := ⟨_, by rw [hb], by rw [cvL_no hb]; exact hO0, bA (b0 w) _⟩
    clear hO0
    go_enter Try.func21, Try.ntmps21
    go_wp2_with (go_at_call 45; refine (l14Ok_any _ _ _ n B _ hrA).mono ?_; rintro e w' ⟨rfl, rfl⟩)
    go_ret2
    exact H.out
  · obtain ⟨N, rfl, hO⟩ := Vm.OkB.of hb
    have HO := Lib.hid hO
    have h3 := hO.lo
    have h7 := hO.hi
    have HB := Lib.hid hb
    clear hO hb
    obtain ⟨i0, hi, hz0, hz1, hz2⟩ := info_parts infoVis
    go_enter Try.func21, Try.ntmps21
    go_wp2_with fail
    refine (l14Ok_any _ _ _ N B _ hrA).mono ?_
    rintro e w' ⟨rfl, rfl⟩
    rw [HB.out]
    go_wp2_with fail
    go_loopw [6, 7] (fun v i wr => ∃ q : Nat, q ≤ N ∧ i = .int .i64 q ∧ wr.ownsRow w.heap.size 38 2 v (mkN N (Vm.bt N q (q + 1)) (Vm.bvF N B)).length (cp (mkN N (Vm.bt N q (q + 1)) (Vm.bvF N B))) ∧ Below w.heap.size w wr) (fun _ i _ => N - (intOf i).toNat)
    case atStart => exact ⟨0, Nat.zero_le _, rfl, by rw [(Vm.bt_zero_all N (by omega)).1, mkN_zero]; exact hO0, bA (b0 w) _⟩
    case round =>
      clear hO0 hrA
      obtain ⟨q, hq, rfl, hown, hB⟩ := hrel
      by_cases hlt : q < N
      · go_wp2_with fail
        go_loopw [6, 8] (fun v i wr => ∃ r : Nat, q < r ∧ r ≤ N ∧ i = .int .i64 r ∧ wr.ownsRow w.heap.size 38 2 v (mkN N (Vm.bt N q r) (Vm.bvF N B)).length (cp (mkN N (Vm.bt N q r) (Vm.bvF N B))) ∧ Below w.heap.size w wr) (fun _ i _ => N - (intOf i).toNat)
        case atStart => exact ⟨q + 1, by omega, by omega, by go_num, hown, hB⟩
        case round =>
          clear hown hB
          obtain ⟨r, hqr, hr, rfl, hown, hB⟩ := hrel
          by_cases hrl : r < N
          · have HM := Lib.hid (mkN_step h7 hqr hrl (Vm.bvF N B))
            have hlen := mkN_len h7 (Vm.bt N q r) (Vm.bvF N B)
            rw [bvF_eq] at HM
            go_wp2_with fail
            refine (l14Get_any A m c N B q r _ ((h.below hB).more hB.size) HO.out (by omega) (by omega) (by omega)).mono ?_
            rintro e w1 ⟨rfl, rfl⟩
            obtain ⟨p, hp⟩ : ∃ p, Vm.bget N B q r = p := ⟨_, rfl⟩
            rw [hp] at HM ⊢
            clear hp
            have hown1 := hown.alloc (.cells #[.int .i64 1, .int .i64 p] 38)
            have hB2 := bA hB (.cells #[.int .i64 1, .int .i64 p] 38)
            have hsz := hB.size
            clear hown
            go_wp2_with (at_builtin; refine wpList_append_own _ rfl _ _ 31 rfl w.heap.size 38 i0 _ 2 16 Try.underlying31 hi hz0 hz1 hz2 rfl (by decide) _ _ _ rfl hown1 ⟨wr.heap.size, 0, none⟩ 1 1 [.int .i64 1, .int .i64 p] rfl rfl (new_cells _ _ _) ?c2 ?c3 ?c4 ?c5 ?_)
            case c2 => intro u hu; simp at hu; rcases hu with rfl | rfl <;> rfl
            case c3 => unfold maxLen; omega
            case c4 => omega
            case c5 => simp; omega
            intro v' w3 hown' hgrow _
            have hB3 := own_below hB2 hown1 hgrow
            clear hown1 hgrow hB2 hB
            go_wp2_with fail
            go_roundw
            case rel => exact ⟨r + 1, by omega, by omega, by go_num, by rw [HM.out.1, HM.out.2]; exact hown', hB3⟩
            case measure => simp [intOf]; omega
          · have hre : r = N := by omega
            subst hre
            have HB2 := Lib.hid (Vm.bt_row_all r (by omega) q hlt)
            go_wp2_with fail
            go_roundw
            case rel => exact ⟨q + 1, by omega, by go_num, by rw [← HB2.out]; exact hown, hB⟩
            case measure => simp [intOf]; omega
      · have hqe : q = N := by omega
        subst hqe
        obtain ⟨A', c', rfl⟩ := own_form hown
        have H : Hid (VisOut q B w (.returned (.tuple #[.slice A' (mkN q (Vm.bt q q (q + 1)) (Vm.bvF q B)).length c', .bool true])) wr) := ⟨_, by rw [HB.out], by rw [cvL_yes HB.out, Vm.bvL, ← mkN_all h7]; exact hown, hB⟩
        clear hown hB
        go_wp2_with fail
        go_ret2
        exact H.out

end Go.Proofs.Ytgipjfcmgmbcnaa
