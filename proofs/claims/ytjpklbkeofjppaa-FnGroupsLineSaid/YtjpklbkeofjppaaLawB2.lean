/- The laws FnGroupsLess, FnGroupsMany. Written by lawsB2.py. -/
import Derived.Test.YtjpklbkeofjppaaDrawT
import Derived.Test.YtjpklbkeofjppaaGrpB
import Derived.Test.YtjpklbkeofjppaaRedD
import Derived.BigQuiet
namespace Go.Proofs.Ytjpklbkeofjppaa
open Go.RowKit

set_option maxRecDepth 100000 in
set_option maxHeartbeats 4000000 in
theorem law_groupsLess (A : Option Addr) (n c : Nat) (bs : List Int) (w : World) (h : Rd w w.heap.size 1 A n c (cb bs)) (hx : ∀ x ∈ bs, 0 ≤ x ∧ x ≤ 255) :
    Calls Try.prog 5 #[.slice A n c] w fun e w' => e = .returned (.bool true) ∧ Below w.heap.size w w' := by
  have hm := h.most
  have hcap := h.cap
  have HX := Lib.hid hx
  clear hx
  by_cases hz0 : 1048576 < n
  · have hd0 : decide ((1048576 : Int) < (n : Int)) = true := by simp; omega
    clear hz0
    go_enter Try.func5, Try.ntmps5
    go_wp2
    go_ret
    exact ⟨rfl, b0 _⟩
  have hd0 : decide ((1048576 : Int) < (n : Int)) = false := by simp; omega
  go_enter Try.func5, Try.ntmps5
  go_wp2_with fail
  refine (DrawRedundantMany_any _ _ _ bs _ h HX.out (by omega)).mono ?_
  rintro e w1 ⟨A1, m1, c1, L, rfl, hr, hB⟩
  have mL : m1 = L.length := by have := hr.len; rw [cp_length] at this; omega
  subst mL
  have hrcap := hr.cap
  have hrmost := hr.most
  go_wp2_with fail
  with_reducible refine (RedundantMany_any _ _ _ L _ hr).mono ?_
  rintro e w2 ⟨rfl, hB2⟩
  replace hr := hr.after hB2
  replace hB := bT hB hB2
  clear hB2
  go_wp2_with fail
  with_reducible refine (sRedundantMany_any _ _ _ L _ hr).mono ?_
  rintro e w3 ⟨rfl, hB3⟩
  replace hr := hr.after hB3
  replace hB := bT hB hB3
  clear hB3
  cases hok : Vm.arrB L
  ·
    have e1 := Vm.redN_no hok
    rw [e1]
    clear hok e1
    go_wp2_with fail
    go_ret
    exact ⟨rfl, hB⟩
  ·
    obtain ⟨⟨N2, N7⟩, -, -⟩ := (Vm.arrB_iff L).1 hok
    have HK := Lib.hid hok
    obtain ⟨o1, o2⟩ := Vm.many_law hok
    obtain ⟨l1, l2⟩ := Vm.less_law hok
    clear hok
    obtain ⟨o, ho⟩ : ∃ o, Vm.redN L = o := ⟨_, rfl⟩
    rw [ho] at o1 o2 l1 l2 ⊢
    obtain ⟨N, hN⟩ : ∃ N, L.length = N := ⟨_, rfl⟩
    have HN := Lib.hid hN
    rw [hN] at hr hrcap o2 l1 l2 N2 N7 ⊢
    clear ho hN o2
    have ho0 : ¬ o < 0 := by omega
    by_cases hn : N = 2
    ·
      subst hn
      clear l2
      go_wp2_with fail
      go_ret
      exact ⟨rfl, hB⟩
    ·
      have hn2 : ¬ (N : Int) = 2 := by omega
      have HL := Lib.hid (l2.resolve_left hn)
      have ht := hr.take (N - 1) (by omega)
      rw [cp_take] at ht
      clear l2 hn
      go_wp2_with fail
      with_reducible refine (RedundantMany_any _ _ _ _ _ ht).mono ?_
      rintro e w4 ⟨rfl, hB4⟩
      replace hr := hr.after hB4
      replace ht := ht.after hB4
      replace hB := bT hB hB4
      clear hB4
      have hl := HL.out
      obtain ⟨x, hx⟩ : ∃ x, Vm.redN (L.take (N - 1)) = x := ⟨_, rfl⟩
      rw [hx] at hl ⊢
      clear hx
      have g1 : ((N : Int) == 2) = false := by simp; omega
      have g2 : decide (x ≤ o) = true := by simp; omega
      clear hl hn2
      go_wp2_with fail
      go_ret
      exact ⟨rfl, hB⟩
set_option maxRecDepth 100000 in
set_option maxHeartbeats 4000000 in
theorem law_groupsMany (A : Option Addr) (n c : Nat) (bs : List Int) (w : World) (h : Rd w w.heap.size 1 A n c (cb bs)) (hx : ∀ x ∈ bs, 0 ≤ x ∧ x ≤ 255) :
    Calls Try.prog 8 #[.slice A n c] w fun e w' => e = .returned (.bool true) ∧ Below w.heap.size w w' := by
  have hm := h.most
  have hcap := h.cap
  have HX := Lib.hid hx
  clear hx
  by_cases hz0 : 1048576 < n
  · have hd0 : decide ((1048576 : Int) < (n : Int)) = true := by simp; omega
    clear hz0
    go_enter Try.func8, Try.ntmps8
    go_wp2
    go_ret
    exact ⟨rfl, b0 _⟩
  have hd0 : decide ((1048576 : Int) < (n : Int)) = false := by simp; omega
  go_enter Try.func8, Try.ntmps8
  go_wp2_with fail
  refine (DrawRedundantMany_any _ _ _ bs _ h HX.out (by omega)).mono ?_
  rintro e w1 ⟨A1, m1, c1, L, rfl, hr, hB⟩
  have mL : m1 = L.length := by have := hr.len; rw [cp_length] at this; omega
  subst mL
  have hrcap := hr.cap
  have hrmost := hr.most
  go_wp2_with fail
  with_reducible refine (RedundantMany_any _ _ _ L _ hr).mono ?_
  rintro e w2 ⟨rfl, hB2⟩
  replace hr := hr.after hB2
  replace hB := bT hB hB2
  clear hB2
  go_wp2_with fail
  with_reducible refine (sRedundantMany_any _ _ _ L _ hr).mono ?_
  rintro e w3 ⟨rfl, hB3⟩
  replace hr := hr.after hB3
  replace hB := bT hB hB3
  clear hB3
  cases hok : Vm.arrB L
  ·
    have e1 := Vm.redN_no hok
    rw [e1]
    clear hok e1
    go_wp2_with fail
    go_ret
    exact ⟨rfl, hB⟩
  ·
    obtain ⟨⟨N2, N7⟩, -, -⟩ := (Vm.arrB_iff L).1 hok
    have HK := Lib.hid hok
    obtain ⟨o1, o2⟩ := Vm.many_law hok
    have hgl := grp_len hok
    obtain ⟨v1, v2, v3⟩ := vecs_21 hok
    rw [v3, ← hgl] at o2
    rw [← hgl] at v1 v3
    have HF := Lib.hid (fun k (hk : k < (Vm.grpL L).length) => Vm.fresh_law hok (k := k) (by omega))
    have HR := Lib.hid (Vm.redN_yes hok)
    clear v2 hgl hok
    obtain ⟨o, ho⟩ : ∃ o, Vm.redN L = o := ⟨_, rfl⟩
    rw [ho] at o1 o2 HR ⊢
    clear ho
    have ho0 : ¬ o < 0 := by omega
    go_wp2_with fail
    refine (RedundantGroups_any _ _ _ L _ hr).mono ?_
    rintro e w4 ⟨v4, rfl, ho4, hB4⟩
    obtain ⟨A4, c4, rfl⟩ := own_form ho4
    replace hr := hr.after hB4
    replace hB := bT hB hB4
    clear hB4
    have hg := Rd.of_own ho4
    clear ho4
    have V3 := Lib.hid v3
    obtain ⟨G, hG⟩ : ∃ G, Vm.grpL L = G := ⟨_, rfl⟩
    rw [hG] at hg v1 o2 HF HR V3 ⊢
    clear hG v3
    have hgcap := hg.cap
    have hgmost := hg.most
    go_wp2_with fail
    go_loopw [7, 8] (fun m i wr => ∃ k : Nat, k ≤ G.length ∧ i = .int .i64 k ∧ m = .int .i64 (Vm.own G k) ∧ Below w4.heap.size w4 wr) (fun _ i _ => G.length - (intOf i).toNat)
    case atStart => exact ⟨0, Nat.zero_le _, rfl, rfl, b0 _⟩
    case round =>
      obtain ⟨k, hk, rfl, rfl, hW⟩ := hrel
      have hgk := hg.after hW
      have hle := Vm.own_le G k
      by_cases hlt : k < G.length
      ·
        have hz := List.getElem?_eq_getElem hlt
        have HO := Lib.hid (own_step G k G[k] hz)
        have hFk := HF.out k hlt
        obtain ⟨b, off, rfl, hb, hc⟩ := hgk.int_at hlt
        obtain ⟨z, hzz⟩ : ∃ z, G[k] = z := ⟨_, rfl⟩
        rw [hzz] at hc HO hz
        have hD : G.getD k 0 = z := by rw [List.getD_eq_getElem?_getD, hz]; rfl
        rw [hD] at hFk
        have HD := Lib.hid hD
        have HFK := Lib.hid hFk
        clear hz hzz hD hFk
        have hk1 : (k : Int) < (G.length : Int) := by omega
        go_wp2_with fail
        go_loopw [9, 10] (fun f i wv => ∃ m : Nat, m ≤ k ∧ i = .int .i64 m ∧ f = .bool (Vm.freshB G k m) ∧ Below wr.heap.size wr wv) (fun _ i _ => k - (intOf i).toNat)
        case atStart => exact ⟨0, Nat.zero_le _, rfl, rfl, b0 _⟩
        case round =>
          obtain ⟨m, hm, rfl, rfl, hV⟩ := hrel
          replace hc := (hV.cell hb).trans hc
          have hgm := hgk.after hV
          by_cases hmk : m < k
          ·
            have hml : m < G.length := by omega
            have hz2 := List.getElem?_eq_getElem hml
            obtain ⟨b2, off2, eA, hb2, hc2⟩ := hgm.int_at hml
            obtain ⟨rfl, rfl⟩ : b = b2 ∧ off = off2 := by simpa using eA
            obtain ⟨y, hyy⟩ : ∃ y, G[m] = y := ⟨_, rfl⟩
            rw [hyy] at hc2 hz2
            have hD2 : G.getD m 0 = y := by rw [List.getD_eq_getElem?_getD, hz2]; rfl
            have hm1 : (m : Int) < (G.length : Int) := by omega
            have hS : Hid (Vm.freshB G k (m + 1) = (Vm.freshB G k m && decide (y ≠ z))) := by
              show Vm.freshB G k (m + 1) = _
              rw [Vm.freshB, hD2, HD.out]
            clear hz2 hyy hD2 eA
            cases hfm : Vm.freshB G k m
            ·
              rw [hfm] at hS
              clear hfm
              go_wp2_with fail
              go_quiet (fail)
              go_wp2_with fail
              go_roundw
              case rel => exact ⟨m + 1, by omega, by go_num, by rw [hS.out]; rfl, bD hV _⟩
              case measure => simp [intOf]; omega
            ·
              rw [hfm] at hS
              clear hfm
              by_cases hyz : y = z
              ·
                subst hyz
                go_wp2_with fail
                go_quiet (fail)
                go_wp2_with fail
                go_roundw
                case rel => exact ⟨m + 1, by omega, by go_num, by rw [hS.out]; simp, bD hV _⟩
                case measure => simp [intOf]; omega
              ·
                have hyz2 : ¬ z = y := fun e => hyz e.symm
                go_wp2_with fail
                go_quiet (fail)
                go_wp2_with fail
                go_roundw
                case rel => exact ⟨m + 1, by omega, by go_num, by rw [hS.out]; simp [hyz], bD hV _⟩
                case measure => simp [intOf]; omega
          · obtain rfl : m = k := by omega
            rw [HFK.out]
            by_cases hzk : z = (m : Int)
            ·
              have hO2 : Hid (Vm.own G (m + 1) = Vm.own G m + 1) := by
                show Vm.own G (m + 1) = _
                rw [HO.out, if_pos hzk]
              have hdz : decide (z = (m : Int)) = true := by simp [hzk]
              rw [hdz]
              clear hdz hzk
              obtain ⟨o9, ho9⟩ : ∃ o, Vm.own G m = o := ⟨_, rfl⟩
              rw [ho9] at hle hO2 ⊢
              clear ho9
              go_wp2_with fail
              go_roundw
              case rel => exact ⟨m + 1, by omega, by go_num, by rw [hO2.out]; go_num, bT hW hV⟩
              case measure => simp [intOf]; omega
            ·
              have hO2 : Hid (Vm.own G (m + 1) = Vm.own G m + 0) := by
                show Vm.own G (m + 1) = _
                rw [HO.out, if_neg hzk]
              have hdz : decide (z = (m : Int)) = false := by simp [hzk]
              rw [hdz]
              clear hdz hzk
              obtain ⟨o9, ho9⟩ : ∃ o, Vm.own G m = o := ⟨_, rfl⟩
              rw [ho9] at hle hO2 ⊢
              clear ho9
              go_wp2_with fail
              go_roundw
              case rel => exact ⟨m + 1, by omega, by go_num, by rw [hO2.out]; go_num, bT hW hV⟩
              case measure => simp [intOf]; omega
      ·
        obtain rfl : k = G.length := by omega
        have hro := HR.out
        rw [← hro]
        go_wp2_with (go_at_call 24; refine (BaseMany_any _ _).mono ?_; rintro e w' ⟨rfl, rfl⟩; rw [V3.out])
        go_ret
        exact ⟨rfl, bT hB hW⟩

end Go.Proofs.Ytjpklbkeofjppaa
