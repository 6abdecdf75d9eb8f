/- Contracts: visibilities, one and all; different antennas; the program's closure phases. -/
import Derived.Test.YtjpklbkeofjppaaVisA
import Derived.Test.YtjpklbkeofjppaaCloM
import Derived.Deep.RegionWith
import Derived.RegionTactic
import Derived.BigRegion
namespace Go.Proofs.Ytjpklbkeofjppaa
open Go.RowKit

/-- A pair as a value. -/
def gv (p : Int × Int) : Value := .agg #[.int .i64 p.1, .int .i64 p.2]
theorem gv_eq (a b : Int) : Value.agg #[.int .i64 a, .int .i64 b] = gv (a, b) := rfl
theorem all_take_succ {α : Type} (p : α → Bool) (L : List α) (k : Nat) (h : k < L.length) : (L.take (k + 1)).all p = ((L.take k).all p && p L[k]) := by
  rw [List.take_succ_eq_append_getElem h, List.all_append]; simp
theorem all_false_of {α : Type} (p : α → Bool) (L : List α) (k : Nat) (h : k < L.length) (hp : p L[k] = false) : L.all p = false := by
  rw [List.all_eq_false]; exact ⟨L[k], List.getElem_mem h, by simp [hp]⟩
theorem drewN2 (w : World) (a b : Nat) : ∃ n, (w.drewN a).drewN b = w.drewN n := ⟨_, World.drewN_drewN _ _ _⟩

theorem st2 {w : World} {g : Nat} {x y : Value} (h0 : w.cell? ⟨g, 0, none⟩ = some x) (h1 : w.cell? ⟨g, 1, none⟩ = some y) (u v : Value) :
    (w.setCell ⟨g, 0, none⟩ u).cell? ⟨g, 0, none⟩ = some u ∧ ((w.setCell ⟨g, 0, none⟩ u).setCell ⟨g, 1, none⟩ v).cell? ⟨g, 1, none⟩ = some v ∧ ((w.setCell ⟨g, 0, none⟩ u).setCell ⟨g, 1, none⟩ v).cell? ⟨g, 0, none⟩ = some u := by
  have e0 : (w.setCell ⟨g, 0, none⟩ u).cell? ⟨g, 0, none⟩ = some u := World.cell?_setCell_same' _ _ _ (by rw [h0]; rfl)
  have e1 : (w.setCell ⟨g, 0, none⟩ u).cell? ⟨g, 1, none⟩ = some y := (World.cell?_setCell_other _ _ _ _ (by simp)).trans h1
  exact ⟨e0, World.cell?_setCell_same' _ _ _ (by rw [e1]; rfl), (World.cell?_setCell_other _ _ _ _ (by simp)).trans e0⟩
set_option maxHeartbeats 400000 in
theorem opposite_any (p : Int × Int) (w : World) (h1 : 0 ≤ p.2) (h2 : p.2 < 360) : Calls Try.prog 75 #[gv p] w fun e w' => e = .returned (gv (Vm.opp p)) ∧ Below w.heap.size w w' := by
  obtain ⟨a, b⟩ := p
  simp only at h1 h2
  unfold gv
  have hw : IntKind.i64.wrap (-b) = -b := IntWalk.i64_in _ (by omega)
  go_enter Try.func75, Try.ntmps75
  go_wp2_with fail
  go_region_with ((go_at_call 70; refine (PhaseOf_any _ _).mono ?_; rintro e w' ⟨rfl, rfl⟩))
  all_goals
    go_wp2_with fail
    refine bodyPost_ret (v := .agg #[.int .i64 a, .int .i64 ((-b) % 360)]) (by simp [results, Try.results75, go_sem]) rfl ⟨rfl, ?_⟩
    go_grown

theorem visOk_parts {m : Int} {v : Int × Int} (h : Vm.visOk m v = false) : v.1 < 1 ∨ (1 ≤ v.1 ∧ m < v.1) ∨ (1 ≤ v.1 ∧ v.1 ≤ m ∧ Vm.phB v.2 = false) := by
  by_cases h1 : v.1 < 1
  · exact .inl h1
  · by_cases h2 : m < v.1
    · exact .inr (.inl ⟨by omega, h2⟩)
    · refine .inr (.inr ⟨by omega, by omega, ?_⟩)
      have : 1 ≤ v.1 := by omega
      have : v.1 ≤ m := by omega
      simpa [Vm.visOk, *] using h
set_option maxHeartbeats 1000000 in
theorem visInRange_any (A : Option Addr) (n c : Nat) (L : List (Int × Int)) (m : Int) (w : World) (h : Rd w w.heap.size 2 A n c (cp L)) :
    Calls Try.prog 81 #[.slice A n c, .int .i64 m] w fun e w' => e = .returned (.bool (L.all (Vm.visOk m))) ∧ Below w.heap.size w w' := by
  have hn := h.len
  rw [cp_length] at hn
  have hm := h.most
  have hcap := h.cap
  obtain rfl : L.length = n := by omega
  clear hn
  go_enter Try.func81, Try.ntmps81
  go_wp2
  go_loopw [9] (fun i wr => ∃ k : Nat, k ≤ L.length ∧ i = .int .i64 k ∧ Hid ((L.take k).all (Vm.visOk m) = true) ∧ Below w.heap.size w wr) (fun i _ => L.length - (intOf i).toNat)
  case atStart => exact ⟨0, Nat.zero_le _, rfl, by simp [Hid], Below.refl _ _⟩
  case round =>
    obtain ⟨k, hk, rfl, hall, hB⟩ := hrel
    by_cases hlt : k < L.length
    · obtain ⟨b, off, rfl, hb, hc1, hc2⟩ := (h.below hB).pair_at hlt
      have hz := hB.size
      cases hin : Vm.visOk m L[k]
      · have H := Lib.hid (all_false_of (Vm.visOk m) L k hlt hin)
        have hp := visOk_parts hin
        clear hin
        obtain ⟨v, hv⟩ : ∃ v, L[k] = v := ⟨_, rfl⟩
        rw [hv] at hc1 hc2 hp
        clear hv
        rcases hp with h1 | ⟨h1, h2⟩ | ⟨h1, h2, h3⟩
        · go_wp2_with (go_at_call 82; refine (isPhase_any _ _).mono ?_; rintro e w' ⟨rfl, rfl⟩)
          go_ret
          exact ⟨ret_bool H.out.symm, bA hB _⟩
        · go_wp2_with (go_at_call 82; refine (isPhase_any _ _).mono ?_; rintro e w' ⟨rfl, rfl⟩)
          go_ret
          exact ⟨ret_bool H.out.symm, bA hB _⟩
        · go_wp2_with (go_at_call 82; refine (isPhase_any _ _).mono ?_; rintro e w' ⟨rfl, rfl⟩)
          go_ret
          exact ⟨ret_bool H.out.symm, bA hB _⟩
      · have H := Lib.hid ((all_take_succ (Vm.visOk m) L k hlt).trans (by rw [hall.out, hin]))
        have hp := (Vm.visOk_iff _ _).1 hin
        clear hin
        obtain ⟨v, hv⟩ : ∃ v, L[k] = v := ⟨_, rfl⟩
        rw [hv] at hc1 hc2 hp
        clear hv
        obtain ⟨⟨h1, h2⟩, h3, h4⟩ := hp
        have h5 : Vm.phB v.2 = true := (Vm.phB_iff _).2 ⟨h3, h4⟩
        go_wp2_with (go_at_call 82; refine (isPhase_any _ _).mono ?_; rintro e w' ⟨rfl, rfl⟩)
        go_roundw
        case rel => exact ⟨k + 1, by omega, by go_num, H, bA hB _⟩
        case measure => simp [intOf]; omega
    · have H := Lib.hid (show L.all (Vm.visOk m) = true by rw [← List.take_of_length_le (Nat.le_of_not_lt hlt)]; exact hall.out)
      go_wp2
      go_ret
      exact ⟨ret_bool H.out.symm, hB⟩

theorem vis_false1 {n : Int} {L : List (Int × Int)} (h : Vm.manyB n = false) : Vm.visB n L = false := by simp [Vm.visB, h]
theorem vis_false2 {n : Int} {L : List (Int × Int)} (h : ¬ (L.length : Int) = Vm.bmany n) : Vm.visB n L = false := by simp [Vm.visB, h]
theorem vis_last {n : Int} {L : List (Int × Int)} (h : Vm.manyB n = true) (h' : (L.length : Int) = Vm.bmany n) : Vm.visB n L = L.all (Vm.visOk 1000000) := by simp [Vm.visB, h, h']
set_option maxHeartbeats 400000 in
theorem VisValid_any (A : Option Addr) (m c : Nat) (n : Int) (L : List (Int × Int)) (w : World) (h : Rd w w.heap.size 2 A m c (cp L)) :
    Calls Try.prog 73 #[.int .i64 n, .slice A m c] w fun e w' => e = .returned (.bool (Vm.visB n L)) ∧ Below w.heap.size w w' := by
  have hn := h.len
  rw [cp_length] at hn
  have hm := h.most
  have hcap := h.cap
  obtain rfl : L.length = m := by omega
  clear hn
  cases hmb : Vm.manyB n
  · have H := Lib.hid (vis_false1 (L := L) hmb)
    go_enter Try.func73, Try.ntmps73
    go_wp2_with (go_at_call 48; refine (isMany_any _ _).mono ?_; rintro e w' ⟨rfl, rfl⟩)
    go_ret
    exact ⟨ret_bool H.out.symm, b0 _⟩
  · by_cases hl : (L.length : Int) = Vm.bmany n
    · have H := Lib.hid (vis_last hmb hl)
      have hd : ((L.length : Int) == Vm.bmany n) = true := by simp [hl]
      clear hl
      go_enter Try.func73, Try.ntmps73
      go_wp2_with (first
        | (go_at_call 48; refine (isMany_any _ _).mono ?_; rintro e w' ⟨rfl, rfl⟩)
        | (go_at_call 24; refine (BaseMany_any _ _).mono ?_; rintro e w' ⟨rfl, rfl⟩))
      refine (visInRange_any _ _ _ L _ _ h).mono ?_
      rintro e w1 ⟨rfl, hB⟩
      go_wp2_with fail
      go_ret
      exact ⟨ret_bool H.out.symm, hB⟩
    · have H := Lib.hid (vis_false2 hl)
      have hd : ((L.length : Int) == Vm.bmany n) = false := by simp [hl]
      clear hl
      go_enter Try.func73, Try.ntmps73
      go_wp2_with (first
        | (go_at_call 48; refine (isMany_any _ _).mono ?_; rintro e w' ⟨rfl, rfl⟩)
        | (go_at_call 24; refine (BaseMany_any _ _).mono ?_; rintro e w' ⟨rfl, rfl⟩))
      go_ret
      exact ⟨ret_bool H.out.symm, b0 _⟩

theorem vget_le {n : Int} {L : List (Int × Int)} {i j : Int} (h : ¬ j < i) : Vm.vget n L i j = L.getD (Vm.bidx n i j).toNat (0, 0) := by rw [Vm.vget, if_neg h]
theorem vget_gt {n : Int} {L : List (Int × Int)} {i j : Int} (h : j < i) : Vm.vget n L i j = Vm.opp (L.getD (Vm.bidx n i j).toNat (0, 0)) := by rw [Vm.vget, if_pos h]
/-- What a look at one visibility needs. -/
theorem vis_at {n : Int} {L : List (Int × Int)} (hv : Vm.visB n L = true) {i j : Int} (hi : 0 ≤ i ∧ i < n) (hj : 0 ≤ j ∧ j < n) (hne : i ≠ j) :
    (2 ≤ n ∧ n ≤ 7) ∧ ∃ k : Nat, ∃ hk : k < L.length, Vm.bidx n i j = k ∧ k < 21 ∧ L.getD k (0, 0) = L[k] ∧ 0 ≤ L[k].2 ∧ L[k].2 < 360 := by
  obtain ⟨h1, h2, h3⟩ := (Vm.visB_iff n L).1 hv
  have h4 := (Vm.manyB_iff n).1 h1
  obtain ⟨b1, b2, _⟩ := Vm.bidx_bd h4 hi hj hne
  obtain ⟨k, hk⟩ := Vm.nat_of b1
  have hle := Vm.bmany_le n
  have hkl : k < L.length := by omega
  refine ⟨h4, k, hkl, hk, by omega, by simp [hkl], ?_⟩
  exact ((Vm.visOk_iff _ _).1 (List.all_eq_true.1 h3 _ (List.getElem_mem hkl))).2




theorem field0 (a b : Value) (w : World) : (Instr.field 79 (.agg #[a, b]) 0).run Try.prog w = .ok a w := by kernel_rfl
theorem field1 (a b : Value) (w : World) : (Instr.field 79 (.agg #[a, b]) 1).run Try.prog w = .ok b w := by kernel_rfl

theorem loop_no1 {n : Int} {L : List (Int × Int)} {l : List Int} (h : Vm.visB n L = false) : Vm.loopB n L l = false := by simp [Vm.loopB, h]
theorem loop_no2 {n : Int} {L : List (Int × Int)} {l : List Int} (h : ¬ (3 ≤ l.length ∧ l.length ≤ 7)) : Vm.loopB n L l = false := by
  rw [Bool.eq_false_iff]; exact fun e => h ((Vm.loopB_iff _ _ _).1 e).2.1
theorem loop_no3 {n : Int} {L : List (Int × Int)} {l : List Int} (h : Vm.apB n l = false) : Vm.loopB n L l = false := by simp [Vm.loopB, h]
theorem loop_yes {n : Int} {L : List (Int × Int)} {l : List Int} (h1 : Vm.visB n L = true) (h2 : 3 ≤ l.length) (h3 : l.length ≤ 7) (h4 : Vm.apB n l = true) : Vm.loopB n L l = true := (Vm.loopB_iff _ _ _).2 ⟨h1, ⟨h2, h3⟩, h4⟩
/-- What a closure phase comes to: 0 and false, or the phase and true. -/
def LoopPost (n : Int) (L : List (Int × Int)) (l : List Int) (w : World) (e : Ending) (w' : World) : Prop := e = .returned (.tuple #[.int .i64 (Vm.loopP n L l), .bool (Vm.loopB n L l)]) ∧ Below w.heap.size w w'
theorem LoopPost.no {n : Int} {L : List (Int × Int)} {l : List Int} {w w' : World} (h : Vm.loopB n L l = false) (hB : Below w.heap.size w w') : LoopPost n L l w (.returned (.tuple #[.int .i64 0, .bool false])) w' := ⟨by rw [Vm.loopP_no h, h], hB⟩
theorem LoopPost.yes {n : Int} {L : List (Int × Int)} {l : List Int} {w w' : World} (h : Vm.loopB n L l = true) (hB : Below w.heap.size w w') : LoopPost n L l w (.returned (.tuple #[.int .i64 (Vm.lsum n L l l.length % 360), .bool true])) w' := ⟨by rw [Vm.loopP_eq h, h], hB⟩

end Go.Proofs.Ytjpklbkeofjppaa
