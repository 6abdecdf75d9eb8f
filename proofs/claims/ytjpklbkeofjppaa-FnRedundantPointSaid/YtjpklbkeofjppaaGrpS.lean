/- RedundantGroups and RedundantMany of the reference. -/
import Derived.Test.YtjpklbkeofjppaaPairS
import Derived.Test.YtjpklbkeofjppaaDrawC
namespace Go.Proofs.Ytjpklbkeofjppaa
open Go.RowKit

def GrpPost (L : List (Int × Int)) (w : World) (e : Ending) (w' : World) : Prop := ∃ v, e = .returned v ∧ w'.ownsRow w.heap.size 3 1 v (Vm.grpL L).length (ci (Vm.grpL L)) ∧ Below w.heap.size w w'
theorem vec_mem {L : List (Int × Int)} (ha : Vm.arrB L = true) {v : Int × Int} (h : v ∈ Vm.vecs L) : (-2000 ≤ v.1 ∧ v.1 ≤ 2000) ∧ -2000 ≤ v.2 ∧ v.2 ≤ 2000 := by
  obtain ⟨x, hx, rfl⟩ := List.mem_map.1 h
  obtain ⟨m1, m2⟩ := bases_mem2 hx
  exact Vm.vec_bd ha (by omega) m2
theorem grp_len {L : List (Int × Int)} (ha : Vm.arrB L = true) : (Vm.grpL L).length = (Vm.vecs L).length := by rw [Vm.grpL_yes ha, List.length_map]
theorem grp_at {L : List (Int × Int)} (ha : Vm.arrB L = true) {k : Nat} (hk : k < (Vm.vecs L).length) : (Vm.grpL L)[k]? = some (Vm.fst (Vm.vecs L) ((Vm.vecs L).getD k (0, 0)) : Int) := by
  rw [Vm.grpL_yes ha, List.getElem?_map, List.getElem?_eq_getElem hk, List.getD_eq_getElem?_getD, List.getElem?_eq_getElem hk]; rfl
theorem grp_take {L : List (Int × Int)} (ha : Vm.arrB L = true) {k : Nat} (hk : k < (Vm.vecs L).length) : (Vm.grpL L).take (k + 1) = (Vm.grpL L).take k ++ [(Vm.fst (Vm.vecs L) ((Vm.vecs L).getD k (0, 0)) : Int)] := by
  have h := grp_at ha hk
  obtain ⟨hl, he⟩ := List.getElem?_eq_some_iff.1 h
  rw [List.take_succ_eq_append_getElem hl, he]
theorem vecs_21 {L : List (Int × Int)} (ha : Vm.arrB L = true) : (Vm.vecs L).length < 22 ∧ (Vm.vecs L).length = L.length * (L.length - 1) / 2 ∧ Vm.bmany (L.length : Int) = ((Vm.vecs L).length : Int) := by
  obtain ⟨l1, l2⟩ := ((Vm.arrB_iff L).1 ha).1
  rw [Vm.vecs_len l2]
  exact ⟨Vm.many_le _ (by omega), rfl, Vm.bmany_nat _ ((Vm.manyB_iff _).2 (by omega))⟩
theorem fst_self {vs : List (Int × Int)} {k : Nat} (hk : k < vs.length) : Vm.fst vs (vs.getD k (0, 0)) ≤ k ∧ Vm.rel (vs.getD k (0, 0)) (vs.getD (Vm.fst vs (vs.getD k (0, 0))) (0, 0)) = true := by
  obtain ⟨v, hv⟩ : ∃ v, vs.getD k (0, 0) = v := ⟨_, rfl⟩
  have hvk : vs[k] = v := by rw [← hv, List.getD_eq_getElem?_getD, List.getElem?_eq_getElem hk]; rfl
  have hex : vs.findIdx (Vm.rel v) < vs.length := List.findIdx_lt_length_of_exists ⟨v, by rw [← hvk]; exact List.getElem_mem hk, Vm.rel_self v⟩
  rw [hv]
  refine ⟨?_, ?_⟩
  · have := List.not_of_lt_findIdx (p := Vm.rel v) (xs := vs) (i := k)
    refine Nat.le_of_not_lt fun h => ?_
    have h2 := this h
    rw [hvk, Vm.rel_self] at h2
    cases h2
  · have := List.findIdx_getElem (p := Vm.rel v) (xs := vs) (w := hex)
    unfold Vm.fst
    rw [List.getD_eq_getElem?_getD, List.getElem?_eq_getElem hex]
    exact this
theorem fst_not {vs : List (Int × Int)} {v : Int × Int} {r : Nat} (hr : r < Vm.fst vs v) : Vm.rel v (vs.getD r (0, 0)) = false := by
  have hl : r < vs.length := Nat.lt_of_lt_of_le hr (Vm.fst_le vs v)
  have := List.not_of_lt_findIdx (p := Vm.rel v) (xs := vs) (i := r) hr
  rw [List.getD_eq_getElem?_getD, List.getElem?_eq_getElem hl]
  simpa using this
set_option maxHeartbeats 4000000 in
theorem sRedundantGroups_any (A : Option Addr) (n c : Nat) (L : List (Int × Int)) (w : World) (h : Rd w w.heap.size 2 A n c (cp L)) :
    Calls Try.prog 17 #[.slice A n c] w (GrpPost L w) := by
  have hn := h.len
  rw [cp_length] at hn
  have hm := h.most
  have hcap := h.cap
  obtain rfl : L.length = n := by omega
  clear hn
  have hO0 : (w.alloc (.cells #[] 3)).ownsRow w.heap.size 3 1 (.slice (some ⟨w.heap.size, 0, none⟩) 0 0) 0 [] := by
    have := World.ownsRow_lit (base := w.heap.size) (e := 3) (size := 1) w #[] 0 (by simp) (by decide) rfl
    simpa using this
  cases ha : Vm.arrB L
  · have HA := Lib.hid ha
    have HG := Lib.hid (Vm.grpL_no ha)
    clear ha
    go_enter Try.func17, Try.ntmps17
    go_wp2_with fail
    refine (sArrayValid_any _ _ _ L _ (h.after (bA (b0 w) _))).mono ?_
    rintro e w1 ⟨rfl, hB1⟩
    rw [HA.out]
    have H : Hid (GrpPost L w (.returned (.slice (some ⟨w.heap.size, 0, none⟩) 0 0)) w1) := ⟨_, rfl, by rw [HG.out]; exact own_after hO0 hB1, bT (bA (b0 w) _) hB1⟩
    clear hO0 hB1
    go_wp2_with fail
    go_ret
    exact H.out
  · obtain ⟨v1, v2, v3⟩ := vecs_21 ha
    have HA := Lib.hid ha
    have HM := Lib.hid v3
    obtain ⟨M, hM⟩ : ∃ M, (Vm.vecs L).length = M := ⟨_, rfl⟩
    have HMM := Lib.hid hM
    rw [hM] at v1 HM
    clear ha v2 v3 hM
    obtain ⟨i0, hi, hz0, hz1, hz2⟩ := info_parts infoInt
    go_enter Try.func17, Try.ntmps17
    go_wp2_with fail
    refine (sArrayValid_any _ _ _ L _ (h.after (bA (b0 w) _))).mono ?_
    rintro e w1 ⟨rfl, hB1⟩
    rw [HA.out]
    have hO1 := own_after hO0 hB1
    have hBB1 := bT (bA (b0 w) (.cells #[] 3)) hB1
    clear hO0 hB1
    go_wp2_with fail
    go_loopw [3, 4] (fun v i wr => ∃ q : Nat, q ≤ M ∧ i = .int .i64 q ∧ wr.ownsRow w.heap.size 3 1 v q (ci ((Vm.grpL L).take q)) ∧ Below w.heap.size w wr) (fun _ i _ => M - (intOf i).toNat)
    case atStart => exact ⟨0, Nat.zero_le _, rfl, hO1, hBB1⟩
    case round =>
      clear hO1 hBB1
      obtain ⟨q, hq, rfl, hown, hB⟩ := hrel
      by_cases hlt : q < M
      · have hl1 : q < (Vm.vecs L).length := by rw [HMM.out]; exact hlt
        have HT := Lib.hid (grp_take HA.out hl1)
        obtain ⟨f1, f2⟩ := fst_self hl1
        obtain ⟨v, hv⟩ : ∃ v, (Vm.vecs L).getD q (0, 0) = v := ⟨_, rfl⟩
        have hvm : v ∈ Vm.vecs L := by rw [← hv, List.getD_eq_getElem?_getD, List.getElem?_eq_getElem hl1]; exact List.getElem_mem hl1
        have HV := Lib.hid hv
        have hbd := vec_mem HA.out hvm
        obtain ⟨g, hg⟩ : ∃ g, Vm.fst (Vm.vecs L) v = g := ⟨_, rfl⟩
        rw [hv, hg] at f1 f2
        rw [hv, hg] at HT
        have HF := Lib.hid f2
        have HG := Lib.hid hg
        clear hv hvm f2 hg hl1
        go_wp2_with (go_at_call 40; refine (sBaseMany_any _ _).mono ?_; rintro e w' ⟨rfl, rfl⟩; rw [HM.out])
        obtain ⟨Av, cv, rfl⟩ := own_form hown
        go_loopw [5] (fun i wr' => ∃ r : Nat, r ≤ g ∧ i = .int .i64 r ∧ Below wr.heap.size wr wr') (fun i _ => g - (intOf i).toNat)
        case atStart => exact ⟨0, Nat.zero_le _, rfl, b0 _⟩
        case round =>
          obtain ⟨r, hr, rfl, hB2⟩ := hrel
          have hBa := bT hB hB2
          have hlr : r < (Vm.vecs L).length := by rw [HMM.out]; omega
          have hlq : q < (Vm.vecs L).length := by rw [HMM.out]; omega
          go_wp2_with fail
          refine (l17Vector_ok A L.length c L r _ ((h.below hBa).more hBa.size) HA.out hlr).mono ?_
          rintro e w2 ⟨rfl, hB3⟩
          have hBb := bT hBa hB3
          have hBb2 := bT hB2 hB3
          obtain ⟨u, hu⟩ : ∃ u, (Vm.vecs L).getD r (0, 0) = u := ⟨_, rfl⟩
          rw [hu]
          have HU := Lib.hid hu
          clear hu hB3 hBa hB2
          go_wp2_with fail
          refine (l17Vector_ok A L.length c L q _ ((h.below hBb).more hBb.size) HA.out hlq).mono ?_
          rintro e w3 ⟨rfl, hB4⟩
          rw [HV.out]
          have hBc := bT hBb hB4
          have hBc2 := bT hBb2 hB4
          clear hB4 hBb hBb2 hlr hlq
          go_wp2_with fail
          refine (l17Sign_any u v _ hbd).mono ?_
          rintro e w4 ⟨rfl, hB5⟩
          have hBd := bT hBc hB5
          have hBd2 := bT hBc2 hB5
          clear hBc hBc2 hB5
          have hsg := sgn_zero u v
          obtain ⟨s, hs⟩ : ∃ s, sgn u v = s := ⟨_, rfl⟩
          rw [hs] at hsg ⊢
          clear hs
          by_cases hrg : r = g
          · have hs0 : ¬ s = 0 := by
              have e1 := HF.out
              rw [← hrg, HU.out] at e1
              rw [e1] at hsg
              simpa using hsg
            subst hrg
            clear hsg hr f1
            have hown1 := (own_after hown hBd2).alloc (.cells #[.int .i64 r] 3)
            have hB6 := bA hBd (.cells #[.int .i64 r] 3)
            have hsz := hBd.size
            clear hown hBd hBd2 hB
            go_wp2_with (at_builtin; refine wpList_append_own _ rfl _ _ 29 rfl w.heap.size 3 i0 _ 1 8 Try.underlying29 hi hz0 hz1 hz2 rfl (by decide) _ _ _ rfl hown1 ⟨w4.heap.size, 0, none⟩ 1 1 [.int .i64 r] rfl rfl (new_cells _ _ _) ?c2 ?c3 ?c4 ?c5 ?_)
            case c2 => intro u hu; simp at hu; subst hu; rfl
            case c3 => unfold maxLen; omega
            case c4 => omega
            case c5 => simp; omega
            intro v' w5 hown' hgrow _
            have hB7 := own_below hB6 hown1 hgrow
            clear hown1 hgrow hB6
            go_wp2_with fail
            go_roundw
            case rel => exact ⟨q + 1, by omega, by go_num, by rw [HT.out, ci_append]; exact hown', hB7⟩
            case measure => simp [intOf]; omega
          · have hs0 : s = 0 := by
              have e1 := fst_not (vs := Vm.vecs L) (v := v) (r := r) (by rw [HG.out]; omega)
              rw [HU.out] at e1
              rw [e1] at hsg
              simpa using hsg
            subst hs0
            clear hsg
            go_wp2_with fail
            go_roundw
            case rel => exact ⟨r + 1, by omega, by go_num, hBd2⟩
            case measure => simp [intOf]; omega
      · have hqe : q = M := by omega
        subst hqe
        obtain ⟨A', c', rfl⟩ := own_form hown
        have hlen : (Vm.grpL L).length = q := by rw [grp_len HA.out, HMM.out]
        have H : Hid (GrpPost L w (.returned (.slice A' q c')) wr) := ⟨_, rfl, by rw [List.take_of_length_le (by omega)] at hown; rw [hlen]; exact hown, hB⟩
        clear hown hB hlen
        go_wp2_with (go_at_call 40; refine (sBaseMany_any _ _).mono ?_; rintro e w' ⟨rfl, rfl⟩; rw [HM.out])
        go_ret
        exact H.out
end Go.Proofs.Ytjpklbkeofjppaa
