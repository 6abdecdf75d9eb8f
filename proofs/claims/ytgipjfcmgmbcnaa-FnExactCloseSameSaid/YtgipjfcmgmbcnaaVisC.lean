/- Contracts: the reference's visibilities and closure phases. -/
import Derived.Test.YtgipjfcmgmbcnaaVisB
namespace Go.Proofs.Ytgipjfcmgmbcnaa
open Go.RowKit

theorem visOk_in3 (m : Int) (v : Int × Int) : Vm.visOk m v = (in3 v.1 1 m && Vm.phB v.2) := rfl
set_option maxHeartbeats 1000000 in
theorem sVisValid_any (A : Option Addr) (m c : Nat) (n : Int) (L : List (Int × Int)) (w : World) (h : Rd w w.heap.size 2 A m c (cp L)) :
    Calls Try.prog 59 #[.int .i64 n, .slice A m c] w fun e w' => e = .returned (.bool (Vm.visB n L)) ∧ w = w' := by
  have hn := h.len
  rw [cp_length] at hn
  have hm := h.most
  have hcap := h.cap
  obtain rfl : L.length = m := by omega
  clear hn
  cases hmb : Vm.manyB n
  · have H := Lib.hid (vis_false1 (L := L) hmb)
    have hz : (Vm.bmany n == 0) = true := by rw [bmany_zero, hmb]; rfl
    go_enter Try.func59, Try.ntmps59
    go_wp2_with (go_at_call 87; refine (sBaseMany_any _ _).mono ?_; rintro e w' ⟨rfl, rfl⟩)
    go_ret
    exact ⟨ret_bool H.out.symm, rfl⟩
  · have hz : (Vm.bmany n == 0) = false := by rw [bmany_zero, hmb]; rfl
    by_cases hl : (L.length : Int) = Vm.bmany n
    · have H := Lib.hid (vis_last hmb hl)
      have hd : ((L.length : Int) != Vm.bmany n) = false := by simp [hl]
      clear hl
      go_enter Try.func59, Try.ntmps59
      go_wp2_with (go_at_call 87; refine (sBaseMany_any _ _).mono ?_; rintro e w' ⟨rfl, rfl⟩)
      go_loop [5] (fun i => ∃ k : Nat, k ≤ L.length ∧ i = .int .i64 k ∧ Hid ((L.take k).all (Vm.visOk 1000000) = true)) (fun i => L.length - (intOf i).toNat)
      case atStart => exact ⟨0, Nat.zero_le _, rfl, by simp [Hid]⟩
      case round =>
        obtain ⟨k, hk, rfl, hall⟩ := hrel
        by_cases hlt : k < L.length
        · obtain ⟨b, off, rfl, hb, hc1, hc2⟩ := h.pair_at hlt
          have hsp := visOk_in3 1000000 L[k]
          have hf := all_false_of (Vm.visOk 1000000) L k hlt
          have ht := all_take_succ (Vm.visOk 1000000) L k hlt
          rw [hall.out] at ht
          obtain ⟨v, hv⟩ : ∃ v, L[k] = v := ⟨_, rfl⟩
          rw [hv] at hc1 hc2 hsp hf ht
          clear hv
          cases h1 : in3 v.1 1 1000000
          · have HF := Lib.hid (H.out.trans (hf (by rw [hsp, h1]; rfl)))
            clear hf ht hsp
            go_wp2_with (go_at_call 79; refine (l6In_any _ _ _ _).mono ?_; rintro e w' ⟨rfl, rfl⟩)
            go_ret
            exact ⟨ret_bool HF.out.symm, rfl⟩
          · cases h2 : Vm.phB v.2
            · have HF := Lib.hid (H.out.trans (hf (by rw [hsp, h1, h2]; rfl)))
              clear hf ht hsp
              go_wp2_with (first
                | (go_at_call 79; refine (l6In_any _ _ _ _).mono ?_; rintro e w' ⟨rfl, rfl⟩)
                | (go_at_call 78; refine (l2Phase_any _ _).mono ?_; rintro e w' ⟨rfl, rfl⟩))
              go_ret
              exact ⟨ret_bool HF.out.symm, rfl⟩
            · have HT := Lib.hid (ht.trans (by rw [hsp, h1, h2]))
              clear hf ht hsp
              go_wp2_with (first
                | (go_at_call 79; refine (l6In_any _ _ _ _).mono ?_; rintro e w' ⟨rfl, rfl⟩)
                | (go_at_call 78; refine (l2Phase_any _ _).mono ?_; rintro e w' ⟨rfl, rfl⟩))
              go_round
              case rel => exact ⟨k + 1, by omega, by go_num, HT⟩
              case measure => simp [intOf]; omega
        · have HF := Lib.hid (show Vm.visB n L = true by rw [H.out, ← List.take_of_length_le (Nat.le_of_not_lt hlt)]; exact hall.out)
          go_wp2
          go_ret
          exact ⟨ret_bool HF.out.symm, rfl⟩
    · have H := Lib.hid (vis_false2 hl)
      have hd : ((L.length : Int) != Vm.bmany n) = true := by simp [hl]
      clear hl
      go_enter Try.func59, Try.ntmps59
      go_wp2_with (go_at_call 87; refine (sBaseMany_any _ _).mono ?_; rintro e w' ⟨rfl, rfl⟩)
      go_ret
      exact ⟨ret_bool H.out.symm, rfl⟩

theorem bix_eq {n i j : Int} (hn : 2 ≤ n ∧ n ≤ 7) (hi : 0 ≤ i ∧ i < n) (hj : 0 ≤ j ∧ j < n) (hne : i ≠ j) : bix n i j = Vm.bidx n i j := by
  have h1 := (Vm.manyB_iff n).2 hn
  have h2 := (Vm.antB_iff n i).2 hi
  have h3 := (Vm.antB_iff n j).2 hj
  have h4 : (i == j) = false := by simp [hne]
  rw [bix, h1, h2, h3, h4]; rfl
set_option maxHeartbeats 1000000 in
theorem l11Get_any (A : Option Addr) (m c : Nat) (n i j : Int) (L : List (Int × Int)) (w : World) (h : Rd w w.heap.size 2 A m c (cp L)) (hv : Vm.visB n L = true) (hi : 0 ≤ i ∧ i < n) (hj : 0 ≤ j ∧ j < n) (hne : i ≠ j) :
    Calls Try.prog 71 #[.int .i64 n, .slice A m c, .int .i64 i, .int .i64 j] w fun e w' => e = .returned (gv (Vm.vget n L i j)) ∧ Below w.heap.size w w' := by
  have hn := h.len
  rw [cp_length] at hn
  have hm := h.most
  have hcap := h.cap
  obtain rfl : L.length = m := by omega
  clear hn
  obtain ⟨⟨n1, n2⟩, k, hk, hkk, hk21, hgd, hp1, hp2⟩ := vis_at hv hi hj hne
  have HK := Lib.hid ((bix_eq ⟨n1, n2⟩ hi hj hne).trans hkk)
  obtain ⟨i1, i2⟩ := hi
  obtain ⟨j1, j2⟩ := hj
  obtain ⟨b, off, rfl, hb, hc1, hc2⟩ := h.pair_at hk
  obtain ⟨v, hvv⟩ : ∃ v, L[k] = v := ⟨_, rfl⟩
  rw [hvv] at hgd hp1 hp2 hc1 hc2
  have HG := Lib.hid (show L.getD (Vm.bidx n i j).toNat (0, 0) = v by rw [hkk, Int.toNat_natCast]; exact hgd)
  clear hvv hgd hkk hv
  by_cases hlt : j < i
  · have H := Lib.hid ((vget_gt hlt).trans (by rw [HG.out]) : Vm.vget n L i j = Vm.opp v)
    have HZ := Lib.hid (show (0 - v.2) % 360 = (-v.2) % 360 by congr 1; omega)
    go_enter Try.func71, Try.ntmps71
    go_wp2_with (first
      | (go_at_call 81; refine (sBaseIndex_any _ _ _ _).mono ?_; rintro e w' ⟨rfl, rfl⟩; rw [HK.out])
      | (go_at_call 47; refine (sPhaseOf_any _ _).mono ?_; rintro e w' ⟨rfl, rfl⟩))
    refine bodyPost_ret (v := .agg #[.int .i64 (Vm.opp v).1, .int .i64 (Vm.opp v).2]) (by simp [results, Try.results71, go_sem, Vm.opp]) rfl ⟨by rw [H.out]; rfl, ?_⟩
    go_grown
  · have H := Lib.hid ((vget_le hlt).trans HG.out : Vm.vget n L i j = v)
    go_enter Try.func71, Try.ntmps71
    go_wp2_with (go_at_call 81; refine (sBaseIndex_any _ _ _ _).mono ?_; rintro e w' ⟨rfl, rfl⟩; rw [HK.out])
    refine bodyPost_ret (v := .agg #[.int .i64 v.1, .int .i64 v.2]) (by simp [results, Try.results71, go_sem]) rfl ⟨by rw [H.out]; rfl, ?_⟩
    go_grown

theorem has_at {L : List Int} {x : Int} {k : Nat} (h : k < L.length) (h2 : L[k] = x) (j : Nat) (hj : k < j) : hasB (L.take j) x = true := by
  rw [hasB, List.contains_eq_mem, decide_eq_true_eq]
  exact List.mem_take_iff_getElem.2 ⟨k, by omega, h2⟩
theorem has_none {L : List Int} {x : Int} {k : Nat} (h : x ∉ L.take k) : hasB (L.take k) x = false := by
  rw [hasB, List.contains_eq_mem, decide_eq_false_iff_not]; exact h
set_option maxHeartbeats 1000000 in
theorem l13Apart_any (A : Option Addr) (m c : Nat) (n : Int) (l : List Int) (w : World) (h : Rd w w.heap.size 1 A m c (ci l)) (hn1 : -1000000 ≤ n) (hn2 : n ≤ 1000000) :
    Calls Try.prog 46 #[.int .i64 n, .slice A m c] w fun e w' => e = .returned (.bool (Vm.apB n l)) ∧ ∃ nq, w' = w.drewN nq := by
  have hn := h.len
  rw [ci_length, Nat.mul_one] at hn
  have hm := h.most
  have hcap := h.cap
  subst hn
  go_enter Try.func46, Try.ntmps46
  go_wp2
  go_loopw [5] (fun i wr => ∃ k : Nat, k ≤ l.length ∧ i = .int .i64 k ∧ Hid ((List.range k).all (Vm.apK n l) = true) ∧ ∃ nq, wr = w.drewN nq) (fun i _ => l.length - (intOf i).toNat)
  case atStart => exact ⟨0, Nat.zero_le _, rfl, by simp [Hid], 0, rfl⟩
  case round =>
    obtain ⟨k, hk, rfl, hall, nq, rfl⟩ := hrel
    by_cases hlt : k < l.length
    · obtain ⟨b, off, rfl, hb, hc⟩ := h.int_at hlt
      have hsp := apK_split n l k hlt
      have HX := Lib.hid (show ∃ x, l[k] = x from ⟨_, rfl⟩)
      obtain ⟨x, hx⟩ := HX.out
      rw [hx] at hsp hc
      clear hx HX
      cases ha : Vm.antB n x
      · have H := Lib.hid (ap_false n l k hlt (by rw [hsp, ha]; rfl))
        clear hsp
        go_wp2_with (go_at_call 79; refine (l6In_any _ _ _ _).mono ?_; rintro e w' ⟨rfl, rfl⟩; rw [in3_antB])
        go_ret
        exact ⟨ret_bool H.out.symm, nq, rfl⟩
      · have HSP := Lib.hid hsp
        have HA := Lib.hid ha
        clear hsp
        go_wp2_with (go_at_call 79; refine (l6In_any _ _ _ _).mono ?_; rintro e w' ⟨rfl, rfl⟩; rw [in3_antB])
        clear ha
        go_loopw [6] (fun i wr => ∃ q : Nat, q ≤ k ∧ i = .int .i64 q ∧ Hid (x ∉ l.take q) ∧ ∃ nq, wr = w.drewN nq) (fun i _ => k - (intOf i).toNat)
        case atStart => exact ⟨0, Nat.zero_le _, rfl, by simp [Hid], nq, rfl⟩
        case round =>
          clear nq
          obtain ⟨q, hq, rfl, hnot, nq, rfl⟩ := hrel
          by_cases hqk : q < k
          · have hql : q < l.length := by omega
            obtain ⟨b2, off2, e2, hb2, hc2⟩ := h.int_at hql
            injection e2 with e2
            injection e2 with e2 e3
            subst e2 e3
            by_cases he : l[q] = x
            · have H := Lib.hid (ap_false n l k hlt (by rw [HSP.out, has_at hql he k hqk]; simp))
              have hd : (l[q] == x) = true := by simp [he]
              clear he
              go_wp2
              go_quiet (fail)
              go_wp2
              go_ret
              exact ⟨ret_bool H.out.symm, drewN2 _ _ _⟩
            · have H := Lib.hid (has_not hql hnot.out (fun e => he e.symm))
              have hd : (l[q] == x) = false := by simp [he]
              clear he
              go_wp2
              go_quiet (fail)
              go_wp2
              go_roundw
              case rel => exact ⟨q + 1, by omega, by go_num, H, _, rfl⟩
              case measure => simp [intOf]; omega
          · have hqe : q = k := by omega
            subst hqe
            have H := Lib.hid ((ap_range_succ n l q).trans (by rw [hall.out, HSP.out, HA.out, has_none hnot.out]))
            go_wp2
            go_roundw
            case rel => exact ⟨q + 1, by omega, by go_num, H, _, rfl⟩
            case measure => simp [intOf]; omega
    · have H := Lib.hid (show Vm.apB n l = true by rw [Vm.apB, show l.length = k by omega]; exact hall.out)
      go_wp2
      go_ret
      exact ⟨ret_bool H.out.symm, nq, rfl⟩

set_option maxHeartbeats 2000000 in
theorem sCloseLoop_any (A A' : Option Addr) (m c m' c' : Nat) (n : Int) (L : List (Int × Int)) (l : List Int) (w : World) (h : Rd w w.heap.size 2 A m c (cp L)) (h' : Rd w w.heap.size 1 A' m' c' (ci l)) :
    Calls Try.prog 88 #[.int .i64 n, .slice A m c, .slice A' m' c'] w (LoopPost n L l w) := by
  have hn' := h'.len
  rw [ci_length, Nat.mul_one] at hn'
  have hm' := h'.most
  have hcap' := h'.cap
  subst hn'
  cases hv : Vm.visB n L
  · have H := Lib.hid (loop_no1 (l := l) hv)
    go_enter Try.func88, Try.ntmps88
    go_wp2_with (go_at_call 59; refine (sVisValid_any _ _ _ n L _ h).mono ?_; rintro e w' ⟨rfl, rfl⟩; rw [hv])
    go_ret2
    exact LoopPost.no H.out (b0 _)
  · have HV := Lib.hid hv
    obtain ⟨N, rfl, hO⟩ := Vm.Ok.of hv
    have HO := Lib.hid hO
    have N2 := hO.lo
    have N7 := hO.hi
    clear hv hO
    by_cases h37 : 3 ≤ l.length ∧ l.length ≤ 7
    · have hin : in3 (l.length : Int) 3 7 = true := (in3_iff _ _ _).2 (by omega)
      obtain ⟨h3, h7⟩ := h37
      cases ha : Vm.apB N l
      · have H := Lib.hid (loop_no3 (L := L) ha)
        have HA := Lib.hid ha
        clear ha
        go_enter Try.func88, Try.ntmps88
        go_wp2_with (first
          | (go_at_call 59; refine (sVisValid_any _ _ _ N L _ h).mono ?_; rintro e w' ⟨rfl, rfl⟩; rw [HV.out])
          | (go_at_call 79; refine (l6In_any _ _ _ _).mono ?_; rintro e w' ⟨rfl, rfl⟩))
        refine (l13Apart_any _ _ _ N l _ h' (by omega) (by omega)).mono ?_
        rintro e w2 ⟨rfl, nq, rfl⟩
        rw [HA.out]
        go_wp2_with fail
        go_ret2
        exact LoopPost.no H.out (bD (b0 _) _)
      · have H := Lib.hid (loop_yes HV.out h3 h7 ha)
        have HA := Lib.hid ha
        clear ha
        have hfd := field1
        go_enter Try.func88, Try.ntmps88
        go_wp2_with (first
          | (go_at_call 59; refine (sVisValid_any _ _ _ N L _ h).mono ?_; rintro e w' ⟨rfl, rfl⟩; rw [HV.out])
          | (go_at_call 79; refine (l6In_any _ _ _ _).mono ?_; rintro e w' ⟨rfl, rfl⟩))
        refine (l13Apart_any _ _ _ N l _ h' (by omega) (by omega)).mono ?_
        rintro e w2 ⟨rfl, nq, rfl⟩
        rw [HA.out]
        have hB0 := bD (b0 w) nq
        obtain ⟨W, hW⟩ : ∃ W, w.drewN nq = W := ⟨_, rfl⟩
        rw [hW] at hB0 ⊢
        clear hW
        go_wp2_with fail
        go_loopw [8, 9] (fun s i wr => ∃ k : Nat, k ≤ l.length ∧ i = .int .i64 k ∧ s = .int .i64 (Vm.lsum N L l k) ∧ Below w.heap.size w wr) (fun _ i _ => l.length - (intOf i).toNat)
        case atStart => exact ⟨0, Nat.zero_le _, rfl, rfl, hB0⟩
        case round =>
          clear hB0
          obtain ⟨k, hk, rfl, rfl, hB⟩ := hrel
          obtain ⟨s1, s2⟩ := Vm.lsum_bd HO.out (by omega) HA.out k hk
          have s3 : (k : Int) * 359 ≤ 2513 := by omega
          by_cases hlt : k < l.length
          · obtain ⟨t1, t2, t3, t4, t5⟩ := Vm.step_bd HO.out (by omega) HA.out k hlt
            have hq : (k + 1) % l.length < l.length := Nat.mod_lt _ (by omega)
            obtain ⟨b, off, rfl, hb, hc⟩ := (h'.below hB).int_at hlt
            obtain ⟨b2, off2, e2, hb2, hc2⟩ := (h'.below hB).int_at hq
            injection e2 with e2
            injection e2 with e2 e3
            subst e2 e3
            have g1 : l.getD k 0 = l[k] := by simp [hlt]
            have g2 : l.getD ((k + 1) % l.length) 0 = l[(k + 1) % l.length] := by simp [hq]
            have HS := Lib.hid (show Vm.lsum N L l (k + 1) = Vm.lsum N L l k + (Vm.vget N L (l.getD k 0) (l.getD ((k + 1) % l.length) 0)).2 from rfl)
            rw [g1, g2] at t3 t4 t5 HS
            rw [g1] at t1
            rw [g2] at t2
            obtain ⟨x, hx⟩ : ∃ x, l[k] = x := ⟨_, rfl⟩
            obtain ⟨y, hy⟩ : ∃ y, l[(k + 1) % l.length] = y := ⟨_, rfl⟩
            rw [hx] at t1 t3 t4 t5 HS hc
            rw [hy] at t2 t3 t4 t5 HS hc2
            clear hx hy g1 g2
            obtain ⟨q, hqq⟩ : ∃ q : Nat, (k + 1) % l.length = q := ⟨_, rfl⟩
            rw [hqq] at hq hc2
            have hl0 : ((l.length : Int) == 0) = false := by rw [beq_eq_false_iff_ne]; omega
            have hl1 : ¬ (l.length : Int) = 0 := by omega
            have hl2 : ¬ l.length = 0 := by omega
            have hi0 : (0 : Int) ≤ (k : Int) := by omega
            have hi1 : (k : Int) < (l.length : Int) := by omega
            have hi2 : (0 : Int) ≤ (q : Int) := by omega
            have hi3 : (q : Int) < (l.length : Int) := by omega
            have hQ : ((k : Int) + 1).tmod (l.length : Int) = (q : Int) := by rw [Int.tmod_eq_emod_of_nonneg (by omega), ← hqq]; norm_cast
            have hw1 : IntKind.i64.wrap ((k : Int) + 1) = (k : Int) + 1 := IntWalk.i64_in _ (by omega)
            have hw2 : IntKind.i64.wrap (Vm.lsum N L l k + (Vm.vget N L x y).2) = Vm.lsum N L l k + (Vm.vget N L x y).2 := IntWalk.i64_in _ (by omega)
            clear hqq
            have hrd := (h.below hB).more hB.size
            have hzz := hB.size
            go_wp2_with fail
            go_region_with ((go_at_call 71; refine (l11Get_any A m c N x y L _ (hrd.after (Below.drew (b0 _))) HV.out t1 t2 t3).mono ?_; rintro e w1 ⟨rfl, hB1⟩; unfold gv))
            all_goals
              clear hQ hw1 hw2 hl0 hl1 hl2
              go_wp2_with fail
              go_roundw
              case rel => exact ⟨k + 1, by omega, by go_num, by rw [HS.out], bT (Below.drew hB) hB1⟩
              case measure => simp [intOf]; omega
          · have he : k = l.length := by omega
            subst he
            go_wp2_with (go_at_call 47; refine (sPhaseOf_any _ _).mono ?_; rintro e w' ⟨rfl, rfl⟩)
            go_ret2
            exact LoopPost.yes H.out hB
    · have H := Lib.hid (loop_no2 (n := N) (L := L) h37)
      have hin : in3 (l.length : Int) 3 7 = false := by rw [Bool.eq_false_iff]; exact fun e => h37 (by have := (in3_iff _ _ _).1 e; omega)
      clear h37
      go_enter Try.func88, Try.ntmps88
      go_wp2_with (first
        | (go_at_call 59; refine (sVisValid_any _ _ _ N L _ h).mono ?_; rintro e w' ⟨rfl, rfl⟩; rw [HV.out])
        | (go_at_call 79; refine (l6In_any _ _ _ _).mono ?_; rintro e w' ⟨rfl, rfl⟩))
      go_ret2
      exact LoopPost.no H.out (b0 _)
set_option maxHeartbeats 400000 in
theorem sClosePhase_any (A : Option Addr) (m c : Nat) (n i j k : Int) (L : List (Int × Int)) (w : World) (h : Rd w w.heap.size 2 A m c (cp L)) :
    Calls Try.prog 60 #[.int .i64 n, .slice A m c, .int .i64 i, .int .i64 j, .int .i64 k] w (LoopPost n L [i, j, k] w) := by
  go_enter Try.func60, Try.ntmps60
  go_wp2_with fail
  refine (sCloseLoop_any _ _ _ _ _ _ n L [i, j, k] _ (h.after (bA (b0 w) _)) ((rd3 w i j k _).more (by simp))).mono ?_
  rintro e w2 ⟨rfl, hB2⟩
  go_wp2_with fail
  go_ret2
  exact ⟨rfl, bT (bA (b0 w) _) hB2⟩

end Go.Proofs.Ytgipjfcmgmbcnaa
