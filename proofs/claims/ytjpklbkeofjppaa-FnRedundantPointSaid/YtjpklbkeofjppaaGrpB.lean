/- RedundantGroups of the program for all inputs; RedundantMany of both. -/
import Derived.Test.YtjpklbkeofjppaaGrpA
namespace Go.Proofs.Ytjpklbkeofjppaa
open Go.RowKit

set_option maxHeartbeats 2000000 in
theorem RedundantGroups_any (A : Option Addr) (n c : Nat) (L : List (Int × Int)) (w : World) (h : Rd w w.heap.size 2 A n c (cp L)) :
    Calls Try.prog 18 #[.slice A n c] w (GrpPost L w) := by
  cases ha : Vm.arrB L
  · have HA := Lib.hid ha
    have H : Hid (∀ w', Below w.heap.size w w' → GrpPost L w (.returned (.slice none 0 0)) w') := fun w' hb => ⟨_, rfl, by rw [Vm.grpL_no ha]; exact World.ownsRow_nil _ _ _ _, hb⟩
    clear ha
    go_enter Try.func18, Try.ntmps18
    go_wp2_with fail
    refine (ArrayValid_any _ _ _ L _ (h.after (bA (b0 w) _))).mono ?_
    rintro e w1 ⟨rfl, hB1⟩
    rw [HA.out]
    go_wp2_with fail
    go_ret
    exact H.out _ (bT (bA (b0 w) _) hB1)
  · exact RedundantGroups_ok A n c L w h ha
theorem own_step (G : List Int) (k : Nat) (z : Int) (hz : G[k]? = some z) : Vm.own G (k + 1) = Vm.own G k + if z = (k : Int) then 1 else 0 := by
  simp only [Vm.own, List.getD_eq_getElem?_getD, hz, Option.getD_some]
set_option maxHeartbeats 2000000 in
theorem sRedundantMany_any (A : Option Addr) (n c : Nat) (L : List (Int × Int)) (w : World) (h : Rd w w.heap.size 2 A n c (cp L)) :
    Calls Try.prog 13 #[.slice A n c] w fun e w' => e = .returned (.int .i64 (Vm.redN L)) ∧ Below w.heap.size w w' := by
  cases ha : Vm.arrB L
  · have HA := Lib.hid ha
    have HR := Lib.hid (Vm.redN_no ha)
    clear ha
    go_enter Try.func13, Try.ntmps13
    go_wp2_with fail
    refine (sArrayValid_any _ _ _ L _ h).mono ?_
    rintro e w1 ⟨rfl, hB1⟩
    rw [HA.out]
    go_wp2_with fail
    go_ret
    exact ⟨by rw [HR.out]; rfl, hB1⟩
  · have hg := grp_len ha
    have h22 := (vecs_21 ha).1
    have HA := Lib.hid ha
    have HR := Lib.hid (Vm.redN_yes ha)
    obtain ⟨G, hG⟩ : ∃ G, Vm.grpL L = G := ⟨_, rfl⟩
    have HG := Lib.hid hG
    rw [hG] at hg HR
    have hG22 : G.length < 22 := by omega
    clear ha hG hg h22
    go_enter Try.func13, Try.ntmps13
    go_wp2_with fail
    refine (sArrayValid_any _ _ _ L _ h).mono ?_
    rintro e w1 ⟨rfl, hB1⟩
    rw [HA.out]
    go_wp2_with fail
    refine (sRedundantGroups_any _ _ _ L _ ((h.below hB1).more hB1.size)).mono ?_
    rintro e w2 ⟨v, rfl, hown, hB2⟩
    rw [HG.out] at hown
    obtain ⟨Av, cv, rfl⟩ := own_form hown
    have hrd := Rd.of_own hown
    have hB := bT hB1 hB2
    have hmv := hrd.most
    have hcv := hrd.cap
    clear hown hB1 hB2
    go_wp2_with fail
    go_loopw [3, 5] (fun m i wr => ∃ k : Nat, k ≤ G.length ∧ i = .int .i64 k ∧ m = .int .i64 (Vm.own G k) ∧ wr = w2) (fun _ i _ => G.length - (intOf i).toNat)
    case atStart => exact ⟨0, Nat.zero_le _, rfl, rfl, rfl⟩
    case round =>
      obtain ⟨k, hk, rfl, rfl, rfl⟩ := hrel
      by_cases hlt : k < G.length
      · have hz := List.getElem?_eq_getElem hlt
        have hle := Vm.own_le G k
        have HO := Lib.hid (own_step G k G[k] hz)
        obtain ⟨b, off, rfl, hb, hc⟩ := hrd.int_at hlt
        obtain ⟨z, hzz⟩ : ∃ z, G[k] = z := ⟨_, rfl⟩
        rw [hzz] at hc HO
        clear hz hzz
        have hk0 : (0 : Int) ≤ (k : Int) := by omega
        have hk1 : (k : Int) < (G.length : Int) := by omega
        obtain ⟨o, ho⟩ : ∃ o, Vm.own G k = o := ⟨_, rfl⟩
        rw [ho] at HO hle ⊢
        by_cases he : z = (k : Int)
        · have HO2 : Hid (Vm.own G (k + 1) = o + 1) := by
            show Vm.own G (k + 1) = o + 1
            rw [HO.out, if_pos (by omega)]
          clear HO ho
          go_wp2_with fail
          go_roundw
          case rel => exact ⟨k + 1, by omega, by go_num, by rw [HO2.out]; go_num, by simp⟩
          case measure => simp [intOf]; omega
        · have HO2 : Hid (Vm.own G (k + 1) = o) := by
            show Vm.own G (k + 1) = o
            rw [HO.out, if_neg (by omega)]; rfl
          have he2 : ¬ (k : Int) = z := fun e => he e.symm
          clear HO ho
          go_wp2_with fail
          go_roundw
          case rel => exact ⟨k + 1, by omega, by go_num, by rw [HO2.out], by simp⟩
          case measure => simp [intOf]; omega
      · have hke : k = G.length := by omega
        subst hke
        go_wp2_with fail
        go_ret
        exact ⟨by rw [HR.out]; rfl, hB⟩
set_option maxHeartbeats 2000000 in
theorem RedundantMany_any (A : Option Addr) (n c : Nat) (L : List (Int × Int)) (w : World) (h : Rd w w.heap.size 2 A n c (cp L)) :
    Calls Try.prog 15 #[.slice A n c] w fun e w' => e = .returned (.int .i64 (Vm.redN L)) ∧ Below w.heap.size w w' := by
  cases ha : Vm.arrB L
  · have HA := Lib.hid ha
    have HR := Lib.hid (Vm.redN_no ha)
    clear ha
    go_enter Try.func15, Try.ntmps15
    go_wp2_with fail
    refine (ArrayValid_any _ _ _ L _ h).mono ?_
    rintro e w1 ⟨rfl, hB1⟩
    rw [HA.out]
    go_wp2_with fail
    go_ret
    exact ⟨by rw [HR.out]; rfl, hB1⟩
  · have hg := grp_len ha
    have h22 := (vecs_21 ha).1
    have HA := Lib.hid ha
    have HR := Lib.hid (Vm.redN_yes ha)
    obtain ⟨G, hG⟩ : ∃ G, Vm.grpL L = G := ⟨_, rfl⟩
    have HG := Lib.hid hG
    rw [hG] at hg HR
    have hG22 : G.length < 22 := by omega
    clear ha hG hg h22
    go_enter Try.func15, Try.ntmps15
    go_wp2_with fail
    refine (ArrayValid_any _ _ _ L _ h).mono ?_
    rintro e w1 ⟨rfl, hB1⟩
    rw [HA.out]
    go_wp2_with fail
    refine (RedundantGroups_any _ _ _ L _ ((h.below hB1).more hB1.size)).mono ?_
    rintro e w2 ⟨v, rfl, hown, hB2⟩
    rw [HG.out] at hown
    obtain ⟨Av, cv, rfl⟩ := own_form hown
    have hrd := Rd.of_own hown
    have hB := bT hB1 hB2
    have hmv := hrd.most
    have hcv := hrd.cap
    clear hown hB1 hB2
    go_wp2_with fail
    go_loopw [3, 12] (fun m i wr => ∃ k : Nat, k ≤ G.length ∧ i = .int .i64 k ∧ m = .int .i64 (Vm.own G k) ∧ wr = w2) (fun _ i _ => G.length - (intOf i).toNat)
    case atStart => exact ⟨0, Nat.zero_le _, rfl, rfl, rfl⟩
    case round =>
      obtain ⟨k, hk, rfl, rfl, rfl⟩ := hrel
      by_cases hlt : k < G.length
      · have hz := List.getElem?_eq_getElem hlt
        have hle := Vm.own_le G k
        have HO := Lib.hid (own_step G k G[k] hz)
        obtain ⟨b, off, rfl, hb, hc⟩ := hrd.int_at hlt
        obtain ⟨z, hzz⟩ : ∃ z, G[k] = z := ⟨_, rfl⟩
        rw [hzz] at hc HO
        clear hz hzz
        have hk0 : (0 : Int) ≤ (k : Int) := by omega
        have hk1 : (k : Int) < (G.length : Int) := by omega
        obtain ⟨o, ho⟩ : ∃ o, Vm.own G k = o := ⟨_, rfl⟩
        rw [ho] at HO hle ⊢
        by_cases he : z = (k : Int)
        · have HO2 : Hid (Vm.own G (k + 1) = o + 1) := by
            show Vm.own G (k + 1) = o + 1
            rw [HO.out, if_pos (by omega)]
          clear HO ho
          go_wp2_with fail
          go_roundw
          case rel => exact ⟨k + 1, by omega, by go_num, by rw [HO2.out]; go_num, by simp⟩
          case measure => simp [intOf]; omega
        · have HO2 : Hid (Vm.own G (k + 1) = o) := by
            show Vm.own G (k + 1) = o
            rw [HO.out, if_neg (by omega)]; rfl
          have he2 : ¬ (k : Int) = z := fun e => he e.symm
          clear HO ho
          go_wp2_with fail
          go_roundw
          case rel => exact ⟨k + 1, by omega, by go_num, by rw [HO2.out], by simp⟩
          case measure => simp [intOf]; omega
      · have hke : k = G.length := by omega
        subst hke
        go_wp2_with fail
        go_ret
        exact ⟨by rw [HR.out]; rfl, hB⟩
end Go.Proofs.Ytjpklbkeofjppaa
