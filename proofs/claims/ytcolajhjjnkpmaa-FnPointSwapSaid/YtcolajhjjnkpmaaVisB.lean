/- Contracts: visibilities, one and all; different antennas; the program's closure phases. -/
import Derived.Test.YtcolajhjjnkpmaaVisA
import Derived.Test.YtcolajhjjnkpmaaCloM
import Derived.Deep.RegionWith
import Derived.RegionTactic
import Derived.BigRegion
namespace Go.Proofs.Ytcolajhjjnkpmaa
open Go.RowKit

/-- A pair as a value. -/
def gv (p : Int × Int) : Value := .agg #[.int .i64 p.1, .int .i64 p.2]
theorem gv_eq (a b : Int) : Value.agg #[.int .i64 a, .int .i64 b] = gv (a, b) := rfl
theorem all_take_succ {α : Type} (p : α → Bool) (L : List α) (k : Nat) (h : k < L.length) : (L.take (k + 1)).all p = ((L.take k).all p && p L[k]) := by
  rw [List.take_succ_eq_append_getElem h, List.all_append]; simp
theorem all_false_of {α : Type} (p : α → Bool) (L : List α) (k : Nat) (h : k < L.length) (hp : p L[k] = false) : L.all p = false := by
  rw [List.all_eq_false]; exact ⟨L[k], List.getElem_mem h, by simp [hp]⟩
theorem drewN2 (w : World) (a b : Nat) : ∃ n, (w.drewN a).drewN b = w.drewN n := ⟨_, World.drewN_drewN _ _ _⟩

theorem st2 {w : World} {g : Nat} {x y : Value} (h0 : w.cell? ⟨g, 0, none⟩ = some x) (h1 : w.cell? ⟨g, 1, none⟩ = some y) (u v : Value) :
    (w.setCell ⟨g, 0, none⟩ u).cell? ⟨g, 0, none⟩ = some u ∧ ((w.setCell ⟨g, 0, none⟩ u).setCell ⟨g, 1, none⟩ v).cell? ⟨g, 1, none⟩ = some v ∧ ((w.setCell ⟨g, 0, none⟩ u).setCell ⟨g, 1, none⟩ v).cell? ⟨g, 0, none⟩ = some u := by
  have e0 : (w.setCell ⟨g, 0, none⟩ u).cell? ⟨g, 0, none⟩ = some u := World.cell?_setCell_same' _ _ _ (by rw [h0]; rfl)
  have e1 : (w.setCell ⟨g, 0, none⟩ u).cell? ⟨g, 1, none⟩ = some y := (World.cell?_setCell_other _ _ _ _ (by simp)).trans h1
  exact ⟨e0, World.cell?_setCell_same' _ _ _ (by rw [e1]; rfl), (World.cell?_setCell_other _ _ _ _ (by simp)).trans e0⟩
set_option maxHeartbeats 400000 in
theorem opposite_any (p : Int × Int) (w : World) (h1 : 0 ≤ p.2) (h2 : p.2 < 360) : Calls Try.prog 65 #[gv p] w fun e w' => e = .returned (gv (Vm.opp p)) ∧ Below w.heap.size w w' := by
  obtain ⟨a, b⟩ := p
  simp only at h1 h2
  unfold gv
  have hw : IntKind.i64.wrap (-b) = -b := IntWalk.i64_in _ (by omega)
  go_enter Try.func65, Try.ntmps65
  go_wp2_with fail
  go_region_with ((go_at_call 33; refine (PhaseOf_any _ _).mono ?_; rintro e w' ⟨rfl, rfl⟩))
  all_goals
    go_wp2_with fail
    refine bodyPost_ret (v := .agg #[.int .i64 a, .int .i64 ((-b) % 360)]) (by simp [results, Try.results65, go_sem]) rfl ⟨rfl, ?_⟩
    go_grown

theorem visOk_parts {m : Int} {v : Int × Int} (h : Vm.visOk m v = false) : v.1 < 1 ∨ (1 ≤ v.1 ∧ m < v.1) ∨ (1 ≤ v.1 ∧ v.1 ≤ m ∧ Vm.phB v.2 = false) := by
  by_cases h1 : v.1 < 1
  · exact .inl h1
  · by_cases h2 : m < v.1
    · exact .inr (.inl ⟨by omega, h2⟩)
    · refine .inr (.inr ⟨by omega, by omega, ?_⟩)
      have : 1 ≤ v.1 := by omega
      have : v.1 ≤ m := by omega
      simpa [Vm.visOk, *] using h
set_option maxHeartbeats 1000000 in
theorem visInRange_any (A : Option Addr) (n c : Nat) (L : List (Int × Int)) (m : Int) (w : World) (h : Rd w w.heap.size 2 A n c (cp L)) :
    Calls Try.prog 60 #[.slice A n c, .int .i64 m] w fun e w' => e = .returned (.bool (L.all (Vm.visOk m))) ∧ Below w.heap.size w w' := by
  have hn := h.len
  rw [cp_length] at hn
  have hm := h.most
  have hcap := h.cap
  obtain rfl : L.length = n := by omega
  clear hn
  go_enter Try.func60, Try.ntmps60
  go_wp2
  go_loopw [9] (fun i wr => ∃ k : Nat, k ≤ L.length ∧ i = .int .i64 k ∧ Hid ((L.take k).all (Vm.visOk m) = true) ∧ Below w.heap.size w wr) (fun i _ => L.length - (intOf i).toNat)
  case atStart => exact ⟨0, Nat.zero_le _, rfl, by simp [Hid], Below.refl _ _⟩
  case round =>
    obtain ⟨k, hk, rfl, hall, hB⟩ := hrel
    by_cases hlt : k < L.length
    · obtain ⟨b, off, rfl, hb, hc1, hc2⟩ := (h.below hB).pair_at hlt
      have hz := hB.size
      cases hin : Vm.visOk m L[k]
      · have H := Lib.hid (all_false_of (Vm.visOk m) L k hlt hin)
        have hp := visOk_parts hin
        clear hin
        obtain ⟨v, hv⟩ : ∃ v, L[k] = v := ⟨_, rfl⟩
        rw [hv] at hc1 hc2 hp
        clear hv
        rcases hp with h1 | ⟨h1, h2⟩ | ⟨h1, h2, h3⟩
        · go_wp2_with (go_at_call 72; refine (isPhase_any _ _).mono ?_; rintro e w' ⟨rfl, rfl⟩)
          go_ret
          exact ⟨ret_bool H.out.symm, bA hB _⟩
        · go_wp2_with (go_at_call 72; refine (isPhase_any _ _).mono ?_; rintro e w' ⟨rfl, rfl⟩)
          go_ret
          exact ⟨ret_bool H.out.symm, bA hB _⟩
        · go_wp2_with (go_at_call 72; refine (isPhase_any _ _).mono ?_; rintro e w' ⟨rfl, rfl⟩)
          go_ret
          exact ⟨ret_bool H.out.symm, bA hB _⟩
      · have H := Lib.hid ((all_take_succ (Vm.visOk m) L k hlt).trans (by rw [hall.out, hin]))
        have hp := (Vm.visOk_iff _ _).1 hin
        clear hin
        obtain ⟨v, hv⟩ : ∃ v, L[k] = v := ⟨_, rfl⟩
        rw [hv] at hc1 hc2 hp
        clear hv
        obtain ⟨⟨h1, h2⟩, h3, h4⟩ := hp
        have h5 : Vm.phB v.2 = true := (Vm.phB_iff _).2 ⟨h3, h4⟩
        go_wp2_with (go_at_call 72; refine (isPhase_any _ _).mono ?_; rintro e w' ⟨rfl, rfl⟩)
        go_roundw
        case rel => exact ⟨k + 1, by omega, by go_num, H, bA hB _⟩
        case measure => simp [intOf]; omega
    · have H := Lib.hid (show L.all (Vm.visOk m) = true by rw [← List.take_of_length_le (Nat.le_of_not_lt hlt)]; exact hall.out)
      go_wp2
      go_ret
      exact ⟨ret_bool H.out.symm, hB⟩

theorem vis_false1 {n : Int} {L : List (Int × Int)} (h : Vm.manyB n = false) : Vm.visB n L = false := by simp [Vm.visB, h]
theorem vis_false2 {n : Int} {L : List (Int × Int)} (h : ¬ (L.length : Int) = Vm.bmany n) : Vm.visB n L = false := by simp [Vm.visB, h]
theorem vis_last {n : Int} {L : List (Int × Int)} (h : Vm.manyB n = true) (h' : (L.length : Int) = Vm.bmany n) : Vm.visB n L = L.all (Vm.visOk 1000000) := by simp [Vm.visB, h, h']
set_option maxHeartbeats 400000 in
theorem VisValid_any (A : Option Addr) (m c : Nat) (n : Int) (L : List (Int × Int)) (w : World) (h : Rd w w.heap.size 2 A m c (cp L)) :
    Calls Try.prog 30 #[.int .i64 n, .slice A m c] w fun e w' => e = .returned (.bool (Vm.visB n L)) ∧ Below w.heap.size w w' := by
  have hn := h.len
  rw [cp_length] at hn
  have hm := h.most
  have hcap := h.cap
  obtain rfl : L.length = m := by omega
  clear hn
  cases hmb : Vm.manyB n
  · have H := Lib.hid (vis_false1 (L := L) hmb)
    go_enter Try.func30, Try.ntmps30
    go_wp2_with (go_at_call 58; refine (isMany_any _ _).mono ?_; rintro e w' ⟨rfl, rfl⟩)
    go_ret
    exact ⟨ret_bool H.out.symm, b0 _⟩
  · by_cases hl : (L.length : Int) = Vm.bmany n
    · have H := Lib.hid (vis_last hmb hl)
      have hd : ((L.length : Int) == Vm.bmany n) = true := by simp [hl]
      clear hl
      go_enter Try.func30, Try.ntmps30
      go_wp2_with (first
        | (go_at_call 58; refine (isMany_any _ _).mono ?_; rintro e w' ⟨rfl, rfl⟩)
        | (go_at_call 59; refine (BaseMany_any _ _).mono ?_; rintro e w' ⟨rfl, rfl⟩))
      refine (visInRange_any _ _ _ L _ _ h).mono ?_
      rintro e w1 ⟨rfl, hB⟩
      go_wp2_with fail
      go_ret
      exact ⟨ret_bool H.out.symm, hB⟩
    · have H := Lib.hid (vis_false2 hl)
      have hd : ((L.length : Int) == Vm.bmany n) = false := by simp [hl]
      clear hl
      go_enter Try.func30, Try.ntmps30
      go_wp2_with (first
        | (go_at_call 58; refine (isMany_any _ _).mono ?_; rintro e w' ⟨rfl, rfl⟩)
        | (go_at_call 59; refine (BaseMany_any _ _).mono ?_; rintro e w' ⟨rfl, rfl⟩))
      go_ret
      exact ⟨ret_bool H.out.symm, b0 _⟩

theorem vget_le {n : Int} {L : List (Int × Int)} {i j : Int} (h : ¬ j < i) : Vm.vget n L i j = L.getD (Vm.bidx n i j).toNat (0, 0) := by rw [Vm.vget, if_neg h]
theorem vget_gt {n : Int} {L : List (Int × Int)} {i j : Int} (h : j < i) : Vm.vget n L i j = Vm.opp (L.getD (Vm.bidx n i j).toNat (0, 0)) := by rw [Vm.vget, if_pos h]
/-- What a look at one visibility needs. -/
theorem vis_at {n : Int} {L : List (Int × Int)} (hv : Vm.visB n L = true) {i j : Int} (hi : 0 ≤ i ∧ i < n) (hj : 0 ≤ j ∧ j < n) (hne : i ≠ j) :
    (2 ≤ n ∧ n ≤ 7) ∧ ∃ k : Nat, ∃ hk : k < L.length, Vm.bidx n i j = k ∧ k < 21 ∧ L.getD k (0, 0) = L[k] ∧ 0 ≤ L[k].2 ∧ L[k].2 < 360 := by
  obtain ⟨h1, h2, h3⟩ := (Vm.visB_iff n L).1 hv
  have h4 := (Vm.manyB_iff n).1 h1
  obtain ⟨b1, b2, _⟩ := Vm.bidx_bd h4 hi hj hne
  obtain ⟨k, hk⟩ := Vm.nat_of b1
  have hle := Vm.bmany_le n
  have hkl : k < L.length := by omega
  refine ⟨h4, k, hkl, hk, by omega, by simp [hkl], ?_⟩
  exact ((Vm.visOk_iff _ _).1 (List.all_eq_true.1 h3 _ (List.getElem_mem hkl))).2

set_option maxHeartbeats 1000000 in
theorem visGet_any (A : Option Addr) (m c : Nat) (n i j : Int) (L : List (Int × Int)) (w : World) (h : Rd w w.heap.size 2 A m c (cp L)) (hv : Vm.visB n L = true) (hi : 0 ≤ i ∧ i < n) (hj : 0 ≤ j ∧ j < n) (hne : i ≠ j) :
    Calls Try.prog 40 #[.int .i64 n, .slice A m c, .int .i64 i, .int .i64 j] w fun e w' => e = .returned (gv (Vm.vget n L i j)) ∧ Below w.heap.size w w' := by
  have hn := h.len
  rw [cp_length] at hn
  have hm := h.most
  have hcap := h.cap
  obtain rfl : L.length = m := by omega
  clear hn
  obtain ⟨⟨n1, n2⟩, k, hk, hkk, hk21, hgd, hp1, hp2⟩ := vis_at hv hi hj hne
  obtain ⟨i1, i2⟩ := hi
  obtain ⟨j1, j2⟩ := hj
  obtain ⟨b, off, rfl, hb, hc1, hc2⟩ := h.pair_at hk
  obtain ⟨v, hvv⟩ : ∃ v, L[k] = v := ⟨_, rfl⟩
  rw [hvv] at hgd hp1 hp2 hc1 hc2
  have HG := Lib.hid (show L.getD (Vm.bidx n i j).toNat (0, 0) = v by rw [hkk, Int.toNat_natCast]; exact hgd)
  have HK := Lib.hid hkk
  clear hvv hgd hkk hv
  by_cases hlt : j < i
  · have H := Lib.hid ((vget_gt hlt).trans (by rw [HG.out]) : Vm.vget n L i j = Vm.opp v)
    go_enter Try.func40, Try.ntmps40
    go_wp2_with (go_at_call 54; refine (baseAt_any _ _ _ _ n1 n2 i1 i2 j1 j2).mono ?_; rintro e w' ⟨rfl, rfl⟩; rw [HK.out])
    refine (opposite_any v _ hp1 hp2).mono ?_
    rintro e w1 ⟨rfl, hB⟩
    obtain ⟨q1, q2⟩ := bcell hB
    have c0 : w1.cell? ⟨w.heap.size, 0, none⟩ = some (.int .i64 0) := (q1 _ _ (by simp; omega)).trans (by simp [go_sem])
    have c1 : w1.cell? ⟨w.heap.size, 1, none⟩ = some (.int .i64 0) := (q1 _ _ (by simp; omega)).trans (by simp [go_sem])
    obtain ⟨_, s1, s2⟩ := st2 c0 c1 (.int .i64 (Vm.opp v).1) (.int .i64 (Vm.opp v).2)
    unfold gv
    go_wp2_with fail
    refine bodyPost_ret (v := .agg #[.int .i64 (Vm.opp v).1, .int .i64 (Vm.opp v).2]) (by simp [results, Try.results40, go_sem, s1, s2]) rfl ⟨by rw [H.out]; rfl, ?_⟩
    exact bS (bS (bT (bA (bA (b0 w) _) _) hB) (by simp) _) (by simp) _
  · have H := Lib.hid ((vget_le hlt).trans HG.out : Vm.vget n L i j = v)
    go_enter Try.func40, Try.ntmps40
    go_wp2_with (go_at_call 54; refine (baseAt_any _ _ _ _ n1 n2 i1 i2 j1 j2).mono ?_; rintro e w' ⟨rfl, rfl⟩; rw [HK.out])
    refine bodyPost_ret (v := .agg #[.int .i64 v.1, .int .i64 v.2]) (by simp [results, Try.results40, go_sem]) rfl ⟨by rw [H.out]; rfl, ?_⟩
    go_grown

def hasB (L : List Int) (x : Int) : Bool := L.contains x
def IdxPost (L : List Int) (x : Int) (w : World) (e : Ending) (w' : World) : Prop := ∃ r : Int, e = .returned (.int .i64 r) ∧ decide (0 ≤ r) = hasB L x ∧ w = w'
theorem has_not {L : List Int} {x : Int} {k : Nat} (h : k < L.length) (h1 : x ∉ L.take k) (h2 : x ≠ L[k]) : x ∉ L.take (k + 1) := by
  rw [List.take_succ_eq_append_getElem h, List.mem_append, List.mem_singleton, not_or]; exact ⟨h1, h2⟩
set_option maxHeartbeats 400000 in
theorem Index_any (A : Option Addr) (n c : Nat) (L : List Int) (x : Int) (w : World) (h : Rd w w.heap.size 1 A n c (ci L)) : Calls Try.prog 73 #[.slice A n c, .int .i64 x] w (IdxPost L x w) := by
  have hn := h.len
  rw [ci_length, Nat.mul_one] at hn
  have hm := h.most
  have hcap := h.cap
  subst hn
  go_enter Try.func73, Try.ntmps73
  go_wp2
  go_loop [8] (fun i => ∃ k : Nat, k ≤ L.length ∧ i = .int .i64 k ∧ Hid (x ∉ L.take k)) (fun i => L.length - (intOf i).toNat)
  case atStart => exact ⟨0, Nat.zero_le _, rfl, by simp [Hid]⟩
  case round =>
    obtain ⟨k, hk, rfl, hall⟩ := hrel
    by_cases hlt : k < L.length
    · obtain ⟨b, off, rfl, hb, hc⟩ := h.int_at hlt
      by_cases he : x = L[k]
      · have H : IdxPost L x w (.returned (.int .i64 k)) w := ⟨k, rfl, by rw [hasB, he]; simp, rfl⟩
        have hd : (x == L[k]) = true := by simp [he]
        clear he
        go_wp2
        go_ret
        exact H
      · have H := Lib.hid (has_not hlt hall.out he)
        have hd : (x == L[k]) = false := by simp [he]
        clear he
        go_wp2
        go_round
        case rel => exact ⟨k + 1, by omega, by go_num, H⟩
        case measure => simp [intOf]; omega
    · have H : IdxPost L x w (.returned (.int .i64 (-1))) w := ⟨-1, rfl, by
        have h1 := hall.out
        rw [List.take_of_length_le (by omega)] at h1
        simp [hasB, h1], rfl⟩
      go_wp2
      go_ret
      exact H
set_option maxHeartbeats 400000 in
theorem Contains_any (A : Option Addr) (n c : Nat) (L : List Int) (x : Int) (w : World) (h : Rd w w.heap.size 1 A n c (ci L)) : Calls Try.prog 66 #[.slice A n c, .int .i64 x] w fun e w' => e = .returned (.bool (hasB L x)) ∧ w = w' := by
  go_enter Try.func66, Try.ntmps66
  go_wp2_with fail
  refine (Index_any _ _ _ L x _ h).mono ?_
  rintro e w' ⟨r, rfl, hr, rfl⟩
  have H := Lib.hid hr
  clear hr
  go_wp2
  go_ret
  exact ⟨ret_bool H.out, rfl⟩

theorem ci_take (L : List Int) (k : Nat) : (ci L).take (k * 1) = ci (L.take k) := by simp [ci, List.map_take]
theorem ap_range_succ (n : Int) (l : List Int) (k : Nat) : (List.range (k + 1)).all (Vm.apK n l) = ((List.range k).all (Vm.apK n l) && Vm.apK n l k) := by
  rw [List.range_succ, List.all_append]; simp
theorem ap_false (n : Int) (l : List Int) (k : Nat) (h : k < l.length) (hk : Vm.apK n l k = false) : Vm.apB n l = false := by
  rw [Vm.apB, List.all_eq_false]; exact ⟨k, by simpa using h, by simp [hk]⟩
theorem apK_split (n : Int) (l : List Int) (k : Nat) (h : k < l.length) : Vm.apK n l k = (Vm.antB n l[k] && !hasB (l.take k) l[k]) := by
  simp [Vm.apK, hasB, h]
set_option maxHeartbeats 1000000 in
theorem differentAnts_any (A : Option Addr) (m c : Nat) (n : Int) (l : List Int) (w : World) (h : Rd w w.heap.size 1 A m c (ci l)) :
    Calls Try.prog 42 #[.int .i64 n, .slice A m c] w fun e w' => e = .returned (.bool (Vm.apB n l)) ∧ w = w' := by
  have hn := h.len
  rw [ci_length, Nat.mul_one] at hn
  have hm := h.most
  have hcap := h.cap
  subst hn
  go_enter Try.func42, Try.ntmps42
  go_wp2
  go_loop [9] (fun i => ∃ k : Nat, k ≤ l.length ∧ i = .int .i64 k ∧ Hid ((List.range k).all (Vm.apK n l) = true)) (fun i => l.length - (intOf i).toNat)
  case atStart => exact ⟨0, Nat.zero_le _, rfl, by simp [Hid]⟩
  case round =>
    obtain ⟨k, hk, rfl, hall⟩ := hrel
    by_cases hlt : k < l.length
    · have hrd := h.take k hk
      rw [ci_take] at hrd
      obtain ⟨b, off, rfl, hb, hc⟩ := h.int_at hlt
      have hsp := apK_split n l k hlt
      obtain ⟨x, hx⟩ : ∃ x, l[k] = x := ⟨_, rfl⟩
      rw [hx] at hsp hc
      clear hx
      cases ha : Vm.antB n x
      · have H := Lib.hid (ap_false n l k hlt (by rw [hsp, ha]; rfl))
        clear hsp
        go_wp2_with (go_at_call 38; refine (isAnt_any _ _ _).mono ?_; rintro e w' ⟨rfl, rfl⟩)
        go_ret
        exact ⟨ret_bool H.out.symm, rfl⟩
      · cases hb2 : hasB (l.take k) x
        · have H := Lib.hid ((ap_range_succ n l k).trans (by rw [hall.out, hsp, ha, hb2]))
          clear hsp
          go_wp2_with (first
            | (go_at_call 38; refine (isAnt_any _ _ _).mono ?_; rintro e w' ⟨rfl, rfl⟩)
            | (go_at_call 66; refine (Contains_any _ _ _ (l.take k) x _ hrd).mono ?_; rintro e w' ⟨rfl, rfl⟩))
          go_round
          case rel => exact ⟨k + 1, by omega, by go_num, H⟩
          case measure => simp [intOf]; omega
        · have H := Lib.hid (ap_false n l k hlt (by rw [hsp, ha, hb2]; rfl))
          clear hsp
          go_wp2_with (first
            | (go_at_call 38; refine (isAnt_any _ _ _).mono ?_; rintro e w' ⟨rfl, rfl⟩)
            | (go_at_call 66; refine (Contains_any _ _ _ (l.take k) x _ hrd).mono ?_; rintro e w' ⟨rfl, rfl⟩))
          go_ret
          exact ⟨ret_bool H.out.symm, rfl⟩
    · have H := Lib.hid (show Vm.apB n l = true by rw [Vm.apB, show l.length = k by omega]; exact hall.out)
      go_wp2
      go_ret
      exact ⟨ret_bool H.out.symm, rfl⟩

theorem field0 (a b : Value) (w : World) : (Instr.field 30 (.agg #[a, b]) 0).run Try.prog w = .ok a w := by kernel_rfl
theorem field1 (a b : Value) (w : World) : (Instr.field 30 (.agg #[a, b]) 1).run Try.prog w = .ok b w := by kernel_rfl
set_option maxHeartbeats 1000000 in
theorem loopPhase_any (A A' : Option Addr) (m c m' c' : Nat) (n : Int) (L : List (Int × Int)) (l : List Int) (w : World) (h : Rd w w.heap.size 2 A m c (cp L)) (h' : Rd w w.heap.size 1 A' m' c' (ci l))
    (hv : Vm.visB n L = true) (h2 : 2 ≤ l.length) (h7 : l.length ≤ 7) (ha : Vm.apB n l = true) :
    Calls Try.prog 41 #[.int .i64 n, .slice A m c, .slice A' m' c'] w fun e w' => e = .returned (.int .i64 (Vm.lsum n L l l.length % 360)) ∧ Below w.heap.size w w' := by
  have hn' := h'.len
  rw [ci_length, Nat.mul_one] at hn'
  have hm' := h'.most
  have hcap' := h'.cap
  subst hn'
  obtain ⟨N, rfl, hO⟩ := Vm.Ok.of hv
  have HO := Lib.hid hO
  have HV := Lib.hid hv
  have HA := Lib.hid ha
  clear hO hv ha
  have hfd := field1
  go_enter Try.func41, Try.ntmps41
  go_wp2
  go_loopw [7, 12] (fun s i wr => ∃ k : Nat, k ≤ l.length ∧ i = .int .i64 k ∧ s = .int .i64 (Vm.lsum N L l k) ∧ Below w.heap.size w wr) (fun _ i _ => l.length - (intOf i).toNat)
  case atStart => exact ⟨0, Nat.zero_le _, rfl, rfl, Below.refl _ _⟩
  case round =>
    obtain ⟨k, hk, rfl, rfl, hB⟩ := hrel
    obtain ⟨s1, s2⟩ := Vm.lsum_bd HO.out h2 HA.out k hk
    have s3 : (k : Int) * 359 ≤ 2513 := by omega
    by_cases hlt : k < l.length
    · obtain ⟨t1, t2, t3, t4, t5⟩ := Vm.step_bd HO.out h2 HA.out k hlt
      have hq : (k + 1) % l.length < l.length := Nat.mod_lt _ (by omega)
      obtain ⟨b, off, rfl, hb, hc⟩ := (h'.below hB).int_at hlt
      obtain ⟨b2, off2, e2, hb2, hc2⟩ := (h'.below hB).int_at hq
      injection e2 with e2
      injection e2 with e2 e3
      subst e2 e3
      have g1 : l.getD k 0 = l[k] := by simp [hlt]
      have g2 : l.getD ((k + 1) % l.length) 0 = l[(k + 1) % l.length] := by simp [hq]
      have HS := Lib.hid (show Vm.lsum N L l (k + 1) = Vm.lsum N L l k + (Vm.vget N L (l.getD k 0) (l.getD ((k + 1) % l.length) 0)).2 from rfl)
      rw [g1, g2] at t3 t4 t5 HS
      rw [g1] at t1
      rw [g2] at t2
      obtain ⟨x, hx⟩ : ∃ x, l[k] = x := ⟨_, rfl⟩
      obtain ⟨y, hy⟩ : ∃ y, l[(k + 1) % l.length] = y := ⟨_, rfl⟩
      rw [hx] at t1 t3 t4 t5 HS hc
      rw [hy] at t2 t3 t4 t5 HS hc2
      clear hx hy g1 g2
      obtain ⟨q, hqq⟩ : ∃ q : Nat, (k + 1) % l.length = q := ⟨_, rfl⟩
      rw [hqq] at hq hc2
      have hQ : ((k : Int) + 1) % (l.length : Int) = (q : Int) := by rw [← hqq]; norm_cast
      clear hqq
      go_wp2_with fail
      refine (visGet_any A m c N x y L _ ((h.below hB).more hB.size) HV.out t1 t2 t3).mono ?_
      rintro e w1 ⟨rfl, hB1⟩
      clear hQ
      unfold gv
      go_wp2_with fail
      go_roundw
      case rel => exact ⟨k + 1, by omega, by go_num, by rw [HS.out], bT hB hB1⟩
      case measure => simp [intOf]; omega
    · have he : k = l.length := by omega
      subst he
      go_wp2_with (go_at_call 33; refine (PhaseOf_any _ _).mono ?_; rintro e w' ⟨rfl, rfl⟩)
      go_ret
      exact ⟨rfl, hB⟩

theorem loop_no1 {n : Int} {L : List (Int × Int)} {l : List Int} (h : Vm.visB n L = false) : Vm.loopB n L l = false := by simp [Vm.loopB, h]
theorem loop_no2 {n : Int} {L : List (Int × Int)} {l : List Int} (h : ¬ (3 ≤ l.length ∧ l.length ≤ 7)) : Vm.loopB n L l = false := by
  rw [Bool.eq_false_iff]; exact fun e => h ((Vm.loopB_iff _ _ _).1 e).2.1
theorem loop_no3 {n : Int} {L : List (Int × Int)} {l : List Int} (h : Vm.apB n l = false) : Vm.loopB n L l = false := by simp [Vm.loopB, h]
theorem loop_yes {n : Int} {L : List (Int × Int)} {l : List Int} (h1 : Vm.visB n L = true) (h2 : 3 ≤ l.length) (h3 : l.length ≤ 7) (h4 : Vm.apB n l = true) : Vm.loopB n L l = true := (Vm.loopB_iff _ _ _).2 ⟨h1, ⟨h2, h3⟩, h4⟩
/-- What a closure phase comes to: 0 and false, or the phase and true. -/
def LoopPost (n : Int) (L : List (Int × Int)) (l : List Int) (w : World) (e : Ending) (w' : World) : Prop := e = .returned (.tuple #[.int .i64 (Vm.loopP n L l), .bool (Vm.loopB n L l)]) ∧ Below w.heap.size w w'
theorem LoopPost.no {n : Int} {L : List (Int × Int)} {l : List Int} {w w' : World} (h : Vm.loopB n L l = false) (hB : Below w.heap.size w w') : LoopPost n L l w (.returned (.tuple #[.int .i64 0, .bool false])) w' := ⟨by rw [Vm.loopP_no h, h], hB⟩
theorem LoopPost.yes {n : Int} {L : List (Int × Int)} {l : List Int} {w w' : World} (h : Vm.loopB n L l = true) (hB : Below w.heap.size w w') : LoopPost n L l w (.returned (.tuple #[.int .i64 (Vm.lsum n L l l.length % 360), .bool true])) w' := ⟨by rw [Vm.loopP_eq h, h], hB⟩
set_option maxHeartbeats 1000000 in
theorem CloseLoop_any (A A' : Option Addr) (m c m' c' : Nat) (n : Int) (L : List (Int × Int)) (l : List Int) (w : World) (h : Rd w w.heap.size 2 A m c (cp L)) (h' : Rd w w.heap.size 1 A' m' c' (ci l)) :
    Calls Try.prog 18 #[.int .i64 n, .slice A m c, .slice A' m' c'] w (LoopPost n L l w) := by
  have hn' := h'.len
  rw [ci_length, Nat.mul_one] at hn'
  have hm' := h'.most
  have hcap' := h'.cap
  subst hn'
  cases hv : Vm.visB n L
  · have H := Lib.hid (loop_no1 (l := l) hv)
    go_enter Try.func18, Try.ntmps18
    go_wp2_with fail
    refine (VisValid_any _ _ _ n L _ h).mono ?_
    rintro e w1 ⟨rfl, hB⟩
    rw [hv]
    go_wp2_with fail
    go_ret2
    exact LoopPost.no H.out hB
  · have HV := Lib.hid hv
    clear hv
    by_cases h37 : 3 ≤ l.length ∧ l.length ≤ 7
    · obtain ⟨h3, h7⟩ := h37
      cases ha : Vm.apB n l
      · have H := Lib.hid (loop_no3 (L := L) ha)
        have HA := Lib.hid ha
        clear ha
        go_enter Try.func18, Try.ntmps18
        go_wp2_with fail
        refine (VisValid_any _ _ _ n L _ h).mono ?_
        rintro e w1 ⟨rfl, hB⟩
        rw [HV.out]
        go_wp2_with fail
        refine (differentAnts_any _ _ _ n l _ (h'.after hB)).mono ?_
        rintro e w2 ⟨rfl, rfl⟩
        rw [HA.out]
        go_wp2_with fail
        go_ret2
        exact LoopPost.no H.out hB
      · have H := Lib.hid (loop_yes HV.out h3 h7 ha)
        have HA := Lib.hid ha
        clear ha
        go_enter Try.func18, Try.ntmps18
        go_wp2_with fail
        refine (VisValid_any _ _ _ n L _ h).mono ?_
        rintro e w1 ⟨rfl, hB⟩
        rw [HV.out]
        go_wp2_with fail
        refine (differentAnts_any _ _ _ n l _ (h'.after hB)).mono ?_
        rintro e w2 ⟨rfl, rfl⟩
        rw [HA.out]
        go_wp2_with fail
        refine (loopPhase_any _ _ _ _ _ _ n L l _ (h.after hB) (h'.after hB) HV.out (by omega) h7 HA.out).mono ?_
        rintro e w2 ⟨rfl, hB2⟩
        go_wp2_with fail
        go_ret2
        exact LoopPost.yes H.out (bT hB hB2)
    · have H := Lib.hid (loop_no2 (n := n) (L := L) h37)
      have hh : l.length < 3 ∨ (3 ≤ l.length ∧ 7 < l.length) := by omega
      clear h37
      rcases hh with hh | ⟨hh, hh2⟩
      all_goals
        go_enter Try.func18, Try.ntmps18
        go_wp2_with fail
        refine (VisValid_any _ _ _ n L _ h).mono ?_
        rintro e w1 ⟨rfl, hB⟩
        rw [HV.out]
        go_wp2_with fail
        go_ret2
        exact LoopPost.no H.out hB
theorem rd3 (w : World) (i j k : Int) (T : TypeId) : Rd (w.alloc (.cells #[.int .i64 i, .int .i64 j, .int .i64 k] T)) (w.heap.size + 1) 1 (some ⟨w.heap.size, 0, none⟩) 3 3 (ci [i, j, k]) := by
  refine ⟨by simp [ci], by omega, by omega, fun _ => ⟨_, _, rfl, by omega, fun q u hu => ?_⟩⟩
  have hq : q < 3 := by
    have := (List.getElem?_eq_some_iff.1 hu).1
    simpa [ci] using this
  rw [Nat.zero_add, World.cell?_alloc_at _ _ _ q rfl]
  simpa [ci] using hu
set_option maxHeartbeats 1000000 in
theorem ClosePhase_any (A : Option Addr) (m c : Nat) (n i j k : Int) (L : List (Int × Int)) (w : World) (h : Rd w w.heap.size 2 A m c (cp L)) :
    Calls Try.prog 19 #[.int .i64 n, .slice A m c, .int .i64 i, .int .i64 j, .int .i64 k] w (LoopPost n L [i, j, k] w) := by
  cases hv : Vm.visB n L
  · have H := Lib.hid (loop_no1 (l := [i, j, k]) hv)
    go_enter Try.func19, Try.ntmps19
    go_wp2_with fail
    refine (VisValid_any _ _ _ n L _ h).mono ?_
    rintro e w1 ⟨rfl, hB⟩
    rw [hv]
    go_wp2_with fail
    go_ret2
    exact LoopPost.no H.out hB
  · have HV := Lib.hid hv
    clear hv
    cases ha : Vm.apB n [i, j, k]
    · have H := Lib.hid (loop_no3 (L := L) ha)
      have HA := Lib.hid ha
      clear ha
      go_enter Try.func19, Try.ntmps19
      go_wp2_with fail
      refine (VisValid_any _ _ _ n L _ h).mono ?_
      rintro e w1 ⟨rfl, hB⟩
      rw [HV.out]
      go_wp2_with fail
      refine (differentAnts_any _ _ _ n [i, j, k] _ ((rd3 w1 i j k _).more (by simp))).mono ?_
      rintro e w2 ⟨rfl, rfl⟩
      rw [HA.out]
      go_wp2_with fail
      go_ret2
      exact LoopPost.no H.out (bA hB _)
    · have H := Lib.hid (loop_yes HV.out (by simp) (by simp) ha)
      have HA := Lib.hid ha
      clear ha
      go_enter Try.func19, Try.ntmps19
      go_wp2_with fail
      refine (VisValid_any _ _ _ n L _ h).mono ?_
      rintro e w1 ⟨rfl, hB⟩
      rw [HV.out]
      go_wp2_with fail
      refine (differentAnts_any _ _ _ n [i, j, k] _ ((rd3 w1 i j k _).more (by simp))).mono ?_
      rintro e w2 ⟨rfl, rfl⟩
      rw [HA.out]
      go_wp2_with fail
      have hr := rd3 (w1.alloc (.cells #[.int .i64 i, .int .i64 j, .int .i64 k] 3)) i j k 3
      rw [World.size_alloc] at hr
      refine (loopPhase_any _ _ _ _ _ _ n L [i, j, k] _ (h.after (bA (bA hB _) _)) (hr.more (by simp)) HV.out (by simp) (by simp) HA.out).mono ?_
      rintro e w2 ⟨rfl, hB2⟩
      go_wp2_with fail
      go_ret2
      exact LoopPost.yes H.out (bT (bA (bA hB _) _) hB2)

end Go.Proofs.Ytcolajhjjnkpmaa
