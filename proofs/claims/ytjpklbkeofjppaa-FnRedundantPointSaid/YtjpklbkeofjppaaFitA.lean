/- Contracts of baseVector, RedundantSpread and RedundantFits for visibilities that depend on the vector alone. Written by fitgen.py. -/
import Derived.Test.YtjpklbkeofjppaaGrpB
import Derived.Test.YtjpklbkeofjppaaRedD
import Derived.Test.YtjpklbkeofjppaaVisB
import Derived.Test.YtjpklbkeofjppaaDrawC
import Derived.Test.YtjpklbkeofjppaaPointA
import Derived.BigQuiet
namespace Go.Proofs.Ytjpklbkeofjppaa
open Go.RowKit

theorem grown_set (W : World) (b i : Nat) (v : Value) : W.grownBy (W.setCell ⟨b, i, none⟩ v) (some b) :=
  ⟨rfl, rfl, rfl, by simp, fun k _ hk => heap_setCell_other _ _ k _ (fun e => hk (by rw [e]))⟩
set_option maxHeartbeats 2000000 in
theorem baseVector_ok (A : Option Addr) (n c : Nat) (L : List (Int × Int)) (k : Nat) (w : World) (h : Rd w w.heap.size 2 A n c (cp L)) (ha : Vm.arrB L = true) (hk : k < (Vm.vecs L).length) :
    Calls Try.prog 74 #[.slice A n c, .int .i64 k] w fun e w' => e = .returned (gv ((Vm.vecs L).getD k (0, 0))) ∧ Below w.heap.size w w' := by
  have hn := h.len
  rw [cp_length] at hn
  have hm := h.most
  have hcap := h.cap
  obtain rfl : L.length = n := by omega
  clear hn
  have hl7 := ((Vm.arrB_iff L).1 ha).1
  rw [Vm.vecs_len hl7.2] at hk
  have HA := Lib.hid ha
  have HK := Lib.hid hk
  clear ha hk
  go_enter Try.func74, Try.ntmps74
  go_wp2_with fail
  refine (BasePair_at L.length k _ hl7.1 hl7.2 HK.out).mono ?_
  rintro e w1 ⟨i, j, hij, rfl, hB1⟩
  have hBw := bT (bA (b0 w) (.cells #[.int .i64 0, .int .i64 0] 38)) hB1
  obtain ⟨m1, m2⟩ := bases_mem2 (List.mem_of_getElem? hij)
  have HV := Lib.hid (show (Vm.vecs L).getD k (0, 0) = Vm.vec L (i, j) by rw [List.getD_eq_getElem?_getD, Vm.vecs_get hij]; rfl)
  clear hij
  go_wp2_with fail
  refine (vector_ok _ _ _ L i j _ (h.after hBw) HA.out (by omega) m2).mono ?_
  rintro e w2 ⟨rfl, hB2⟩
  have hB12 := bT hB1 hB2
  clear hB1 hB2 hBw
  obtain ⟨k0, k1, k2⟩ := box2 hB12
  obtain ⟨f0, f1⟩ := box2f hB12
  have hBw := bT (bA (b0 w) (.cells #[.int .i64 0, .int .i64 0] 38)) hB12
  obtain ⟨va, vb, hvv⟩ : ∃ va vb, Vm.vec L (i, j) = (va, vb) := ⟨_, _, rfl⟩
  rw [hvv] at HV ⊢
  unfold gv
  obtain ⟨t1, t2, t3⟩ := st2 k0 k1 (.int .i64 va) (.int .i64 vb)
  have hBw2 := bS (bS hBw (p := ⟨w.heap.size, 0, none⟩) (Nat.le_refl _) (.int .i64 va)) (p := ⟨w.heap.size, 1, none⟩) (Nat.le_refl _) (.int .i64 vb)
  clear hB12
  go_wp2_with fail
  refine bodyPost_ret (v := .agg #[.int .i64 va, .int .i64 vb]) (by simp [results, Try.results74, go_sem, t2, t3]) rfl ⟨by rw [HV.out]; rfl, hBw2⟩
set_option maxHeartbeats 2000000 in
theorem EqualVis_self (A B : Option Addr) (n c m d : Nat) (X : List (Int × Int)) (w : World) (h : Rd w w.heap.size 2 A n c (cp X)) (h' : Rd w w.heap.size 2 B m d (cp X)) :
    Calls Try.prog 62 #[.slice A n c, .slice B m d] w fun e w' => e = .returned (.bool true) ∧ Below w.heap.size w w' := by
  obtain rfl : X.length = n := by have := h.len; rw [cp_length] at this; omega
  obtain rfl : X.length = m := by have := h'.len; rw [cp_length] at this; omega
  have hm := h.most
  have hcap := h.cap
  have hcap' := h'.cap
  have hne := run_neq_Vis
  go_enter Try.func62, Try.ntmps62
  go_wp2_with fail
  go_loopw [13] (fun i wr => ∃ k : Nat, k ≤ X.length ∧ i = .int .i64 k ∧ Below w.heap.size w wr) (fun i _ => X.length - (intOf i).toNat)
  case atStart => exact ⟨0, Nat.zero_le _, rfl, b0 _⟩
  case round =>
    obtain ⟨k, hk, rfl, hB⟩ := hrel
    by_cases hlt : k < X.length
    · obtain ⟨b1, o1, rfl, _, q1, q2⟩ := (h.below hB).pair_at hlt
      obtain ⟨b2, o2, rfl, _, q3, q4⟩ := (h'.below hB).pair_at hlt
      obtain ⟨p, hp⟩ : ∃ p, X[k] = p := ⟨_, rfl⟩
      rw [hp] at q1 q2 q3 q4
      have hk1 : (k : Int) < (X.length : Int) := by omega
      have hpe : peq p.1 p.2 p.1 p.2 = true := by simp [peq]
      clear hp
      go_wp2_with fail
      go_quiet (fail)
      go_wp2_with fail
      go_roundw
      case rel => exact ⟨k + 1, by omega, by go_num, bD hB _⟩
      case measure => simp [intOf]; omega
    · go_wp2_with fail
      go_ret
      exact ⟨rfl, hB⟩
theorem map_take {vs : List (Int × Int)} {F : Int × Int → Int × Int} {k : Nat} (h : k < vs.length) : (vs.map F).take (k + 1) = (vs.map F).take k ++ [F (vs.getD k (0, 0))] := by
  have hl : k < (vs.map F).length := by simpa using h
  rw [List.take_succ_eq_append_getElem hl, List.getD_eq_getElem?_getD, List.getElem?_eq_getElem h]
  simp
def SpreadPost (X : List (Int × Int)) (w : World) (e : Ending) (w' : World) : Prop := ∃ v, e = .returned (.tuple #[v, .bool true]) ∧ w'.ownsRow w.heap.size 79 2 v X.length (cp X) ∧ Below w.heap.size w w'
set_option maxRecDepth 100000 in
set_option maxHeartbeats 8000000 in
theorem RedundantSpread_ok (A A' : Option Addr) (n c n' c' : Nat) (L X : List (Int × Int)) (F : Int × Int → Int × Int) (w : World) (h : Rd w w.heap.size 2 A n c (cp L)) (h' : Rd w w.heap.size 2 A' n' c' (cp X)) (ha : Vm.arrB L = true) (hX : X = (Vm.vecs L).map F)
    (hF : ∀ v, F (Vm.neg v) = Vm.opp (F v)) (hb : ∀ v, 0 ≤ (F v).2 ∧ (F v).2 < 360) (hv : Vm.visB L.length X = true) :
    Calls Try.prog 61 #[.slice A n c, .slice A' n' c'] w (SpreadPost X w) := by
  have hm := h.most
  have hcap := h.cap
  have hm' := h'.most
  have hcap' := h'.cap
  obtain rfl : L.length = n := by have := h.len; rw [cp_length] at this; omega
  obtain rfl : X.length = n' := by have := h'.len; rw [cp_length] at this; omega
  have hXl : X.length = (Vm.vecs L).length := by rw [hX, List.length_map]
  have hgl := grp_len ha
  have h22 := (vecs_21 ha).1
  obtain ⟨⟨l2, l7⟩, -⟩ := (Vm.arrB_iff L).1 ha
  have HA := Lib.hid ha
  have HV := Lib.hid hv
  have HX := Lib.hid hX
  have HF := Lib.hid hF
  have HB := Lib.hid hb
  have HXL := Lib.hid hXl
  have HGL := Lib.hid hgl
  have hx22 : X.length < 22 := by omega
  obtain ⟨i0, hi, hz0, hz1, hz2⟩ := info_parts infoVis
  have hne := run_neq_Ant
  clear ha hv hX hF hb hXl hgl h22
  go_enter Try.func61, Try.ntmps61
  go_wp2_with fail
  refine (ArrayValid_any _ _ _ L _ h).mono ?_
  rintro e w1 ⟨rfl, hB1⟩
  rw [HA.out]
  replace h := h.after hB1
  replace h' := h'.after hB1
  go_wp2_with fail
  refine (VisValid_any _ _ _ _ _ _ h').mono ?_
  rintro e w2 ⟨rfl, hB2⟩
  rw [HV.out]
  replace h := h.after hB2
  replace h' := h'.after hB2
  have hB := bT hB1 hB2
  clear hB1 hB2
  go_wp2_with fail
  refine (RedundantGroups_any _ _ _ L _ h).mono ?_
  rintro e w3 ⟨vg, rfl, hog, hB3⟩
  obtain ⟨Ag, cg, rfl⟩ := own_form hog
  replace h := h.after hB3
  replace h' := h'.after hB3
  replace hB := bT hB hB3
  have hg := Rd.of_own hog
  have hgc := hg.cap
  have hgm := hg.most
  rw [HGL.out, ← HXL.out] at hgc
  have hgX : (Vm.grpL L).length = X.length := by rw [HGL.out, HXL.out]
  rw [hgX]
  clear hog hB3
  have hBw := hB.size
  go_wp2_with fail
  go_loopw [6, 23] (fun v i wr => ∃ q : Nat, q ≤ X.length ∧ i = .int .i64 q ∧ wr.ownsRow w3.heap.size 79 2 v q (cp (X.take q)) ∧ Below w3.heap.size w3 wr) (fun _ i _ => X.length - (intOf i).toNat)
  case atStart => exact ⟨0, Nat.zero_le _, rfl, World.ownsRow_nil _ _ _ _, b0 _⟩
  case round =>
    obtain ⟨q, hq, rfl, hown, hW⟩ := hrel
    by_cases hlt : q < X.length
    · have hqv : q < (Vm.vecs L).length := by rw [← HXL.out]; exact hlt
      obtain ⟨f1, f2⟩ := fst_self hqv
      have hsp := Vm.spread_law HF.out hqv
      have hat := grp_at HA.out hqv
      obtain ⟨g, hg9⟩ : ∃ g, Vm.fst (Vm.vecs L) ((Vm.vecs L).getD q (0, 0)) = g := ⟨_, rfl⟩
      rw [hg9] at f1 f2 hsp hat
      have hgv : g < (Vm.vecs L).length := by omega
      have hgX2 : g < X.length := by omega
      have hqg : q < (Vm.grpL L).length := by rw [hgX]; exact hlt
      obtain ⟨b1, o1, rfl, hb1, cc1⟩ := (hg.below hW).int_at hqg
      rw [show (Vm.grpL L)[q] = (g : Int) by rw [List.getElem?_eq_getElem hqg] at hat; simpa using hat] at cc1
      obtain ⟨b2, o2, rfl, hb2, cc2, cc3⟩ := (h'.below hW).pair_at hgX2
      have hXg : X[g] = F ((Vm.vecs L).getD g (0, 0)) := by
        have := HX.out
        simp only [this, List.getElem_map]
        rw [List.getD_eq_getElem?_getD, List.getElem?_eq_getElem hgv]; rfl
      rw [hXg] at cc2 cc3
      have HT := Lib.hid (show X.take (q + 1) = X.take q ++ [F ((Vm.vecs L).getD q (0, 0))] by rw [HX.out]; exact map_take hqv)
      have bnd := HB.out ((Vm.vecs L).getD g (0, 0))
      obtain ⟨u, hu⟩ : ∃ u, (Vm.vecs L).getD q (0, 0) = u := ⟨_, rfl⟩
      obtain ⟨v, hv⟩ : ∃ u, (Vm.vecs L).getD g (0, 0) = u := ⟨_, rfl⟩
      have HU := Lib.hid hu
      have HVv := Lib.hid hv
      rw [hu, hv] at hsp
      rw [hu] at HT
      rw [hv] at cc2 cc3 bnd
      obtain ⟨fv, hfv⟩ : ∃ z, F v = z := ⟨_, rfl⟩
      obtain ⟨fu, hfu⟩ : ∃ z, F u = z := ⟨_, rfl⟩
      rw [hfv, hfu] at hsp
      rw [hfv] at cc2 cc3 bnd
      rw [hfu] at HT
      obtain ⟨fa, fb⟩ := fv
      obtain ⟨ua, ub⟩ := u
      obtain ⟨va, vb⟩ := v
      simp only at cc2 cc3 bnd
      have hq1 : (q : Int) < (X.length : Int) := by omega
      have hg1 : (g : Int) < (X.length : Int) := by omega
      have hq0 : (0 : Int) ≤ (q : Int) := by omega
      have hg0 : (0 : Int) ≤ (g : Int) := by omega
      have HSP := Lib.hid hsp
      have hhW := h.after hW
      clear hu hv hfv hfu hsp f2 hat hXg hg9
      obtain ⟨Av, cv, rfl⟩ := own_form hown
      go_wp2_with fail
      have hX5 : Bx (wr.alloc (.cells #[.int .i64 fa, .int .i64 fb] 79)) wr.heap.size #[.int .i64 fa, .int .i64 fb] 79 := Bx.new wr _ _ _ rfl
      have hB5 := bA hW (.cells #[.int .i64 fa, .int .i64 fb] 79)
      have hown5 := hown.alloc (.cells #[.int .i64 fa, .int .i64 fb] 79)
      have hh5 := hhW.after (bA (b0 wr) (.cells #[.int .i64 fa, .int .i64 fb] 79))
      have HOWN := Lib.hid hown
      clear hown hhW
      refine (baseVector_ok _ _ _ L q _ hh5 HA.out hqv).mono ?_
      rintro e w6 ⟨rfl, hb6⟩
      rw [HU.out]
      replace hX5 := hX5.after hb6
      replace hB5 := bT hB5 hb6
      replace hown5 := own_after hown5 hb6
      replace hh5 := hh5.after hb6
      unfold gv
      clear hb6
      go_wp2_with fail
      refine (baseVector_ok _ _ _ L g _ hh5 HA.out hgv).mono ?_
      rintro e w7 ⟨rfl, hb7⟩
      rw [HVv.out]
      replace hX5 := hX5.after hb7
      replace hB5 := bT hB5 hb7
      replace hown5 := own_after hown5 hb7
      unfold gv
      clear hb7 hh5
      have x0 := hX5.cell 0
      have x1 := hX5.cell 1
      simp only [List.getElem?_toArray, List.getElem?_cons_zero, List.getElem?_cons_succ] at x0 x1
      have zb := hB5.size
      by_cases huv : ua = va ∧ ub = vb
      · obtain ⟨rfl, rfl⟩ := huv
        have hpe : peq ua ub ua ub = true := by simp [peq]
        have hfu : fu = (fa, fb) := by have := HSP.out; rw [if_pos rfl] at this; exact this.symm
        subst hfu
        have hown6 := hown5.alloc (.cells #[.int .i64 fa, .int .i64 fb] 79)
        have hB6 := bA hB5 (.cells #[.int .i64 fa, .int .i64 fb] 79)
        clear hX5
        go_wp2_with (at_builtin; refine wpList_append_own _ rfl _ _ 50 rfl w3.heap.size 79 i0 _ 2 16 Try.underlying50 hi hz0 hz1 hz2 rfl (by decide) _ _ _ rfl hown6 ⟨w7.heap.size, 0, none⟩ 1 1 [.int .i64 fa, .int .i64 fb] rfl rfl (new_cells _ _ _) ?c2 ?c3 ?c4 ?c5 ?_)
        case c2 => intro u hu; simp at hu; rcases hu with rfl | rfl <;> rfl
        case c3 => unfold maxLen; omega
        case c4 => omega
        case c5 => simp; omega
        intro v' w9 hown' hgrow _
        have hB9 := own_below hB6 hown6 hgrow
        rw [← cp_snoc, ← HT.out] at hown'
        clear hown6 hgrow hB6 hown5
        go_wp2_with fail
        go_roundw
        case rel => exact ⟨q + 1, by omega, by go_num, hown', hB9⟩
        case measure => simp [intOf]; omega
      · have hpe : peq ua ub va vb = false := peq_false huv
        have hfu : fu = Vm.opp (fa, fb) := by have := HSP.out; rw [if_neg (fun e => huv (by simpa using e))] at this; exact this.symm
        have f0 := hX5.frozen 0
        have f1 := hX5.frozen 1
        go_wp2_with fail
        refine (opposite_any (fa, fb) _ bnd.1 bnd.2).mono ?_
        rintro e w8 ⟨rfl, hb8⟩
        rw [← hfu]
        replace hX5 := hX5.after hb8
        replace hB5 := bT hB5 hb8
        replace hown5 := own_after hown5 hb8
        clear hb8 x0 x1 f0 f1 hfu
        obtain ⟨ga, gb⟩ := fu
        unfold gv
        have x0 := hX5.cell 0
        have x1 := hX5.cell 1
        have f0 := hX5.frozen 0
        have f1 := hX5.frozen 1
        simp only [List.getElem?_toArray, List.getElem?_cons_zero, List.getElem?_cons_succ] at x0 x1
        obtain ⟨t1, t2, t3⟩ := st2 x0 x1 (.int .i64 ga) (.int .i64 gb)
        have hne8 : some wr.heap.size ≠ (Value.slice Av q cv).ownBlock := fun e => Nat.lt_irrefl _ (HOWN.out.lt _ e.symm).2
        have hk1 := (hown5.kept (grown_set w8 wr.heap.size 0 (.int .i64 ga)) (.inr (fun e => hne8 (by rw [e]))))
        have hk2 := hk1.kept (grown_set _ wr.heap.size 1 (.int .i64 gb)) (.inr (fun e => hne8 (by rw [e])))
        have hown6 := hk2.alloc (.cells #[.int .i64 ga, .int .i64 gb] 79)
        have hw3 := hW.size
        have zb8 := hB5.size
        have hB6 := bA (bS (bS hB5 (p := ⟨wr.heap.size, 0, none⟩) (by show w3.heap.size ≤ wr.heap.size; omega) (.int .i64 ga)) (p := ⟨wr.heap.size, 1, none⟩) (by show w3.heap.size ≤ wr.heap.size; omega) (.int .i64 gb)) (.cells #[.int .i64 ga, .int .i64 gb] 79)
        clear hX5 hown5 hk1 hk2
        go_wp2_with (at_builtin; refine wpList_append_own _ rfl _ _ 50 rfl w3.heap.size 79 i0 _ 2 16 Try.underlying50 hi hz0 hz1 hz2 rfl (by decide) _ _ _ rfl hown6 ⟨w8.heap.size, 0, none⟩ 1 1 [.int .i64 ga, .int .i64 gb] rfl rfl (by have := new_cells ((w8.setCell ⟨wr.heap.size, 0, none⟩ (.int .i64 ga)).setCell ⟨wr.heap.size, 1, none⟩ (.int .i64 gb)) #[.int .i64 ga, .int .i64 gb] 79; simpa using this) ?c2 ?c3 ?c4 ?c5 ?_)
        case c2 => intro u hu; simp at hu; rcases hu with rfl | rfl <;> rfl
        case c3 => unfold maxLen; omega
        case c4 => omega
        case c5 => simp; omega
        intro v' w9 hown' hgrow _
        have hB9 := own_below hB6 hown6 hgrow
        rw [← cp_snoc, ← HT.out] at hown'
        clear hown6 hgrow hB6
        go_wp2_with fail
        go_roundw
        case rel => exact ⟨q + 1, by omega, by go_num, hown', hB9⟩
        case measure => simp [intOf]; omega
    · obtain rfl : q = X.length := by omega
      rw [List.take_of_length_le (Nat.le_refl _)] at hown
      obtain ⟨A9, c9, rfl⟩ := own_form hown
      have HP : Hid (SpreadPost X w (.returned (.tuple #[.slice A9 X.length c9, .bool true])) wr) := ⟨_, rfl, own_less hown hBw, bT hB hW⟩
      clear hown h h' hg hW
      go_wp2_with fail
      go_ret2
      exact HP.out
set_option maxHeartbeats 2000000 in
theorem RedundantFits_ok (A A' : Option Addr) (n c n' c' : Nat) (L X : List (Int × Int)) (F : Int × Int → Int × Int) (w : World) (h : Rd w w.heap.size 2 A n c (cp L)) (h' : Rd w w.heap.size 2 A' n' c' (cp X)) (ha : Vm.arrB L = true) (hX : X = (Vm.vecs L).map F)
    (hF : ∀ v, F (Vm.neg v) = Vm.opp (F v)) (hb : ∀ v, 0 ≤ (F v).2 ∧ (F v).2 < 360) (hv : Vm.visB L.length X = true) :
    Calls Try.prog 35 #[.slice A n c, .slice A' n' c'] w fun e w' => e = .returned (.bool true) ∧ Below w.heap.size w w' := by
  have hm := h.most
  have hcap := h.cap
  have hm' := h'.most
  have hcap' := h'.cap
  have HS := Lib.hid (RedundantSpread_ok A A' n c n' c' L X F w h h' ha hX hF hb hv)
  clear h ha hX hF hb hv
  go_enter Try.func35, Try.ntmps35
  go_wp2_with fail
  refine HS.out.mono ?_
  rintro e w1 ⟨v, rfl, hown, hB1⟩
  obtain ⟨A9, c9, rfl⟩ := own_form hown
  have hr := Rd.of_own hown
  have hr' := h'.after hB1
  clear hown
  go_wp2_with fail
  refine (EqualVis_self _ _ _ _ _ _ X _ hr hr').mono ?_
  rintro e w2 ⟨rfl, hB2⟩
  have hB := bT hB1 hB2
  go_wp2_with fail
  go_ret
  exact ⟨rfl, hB⟩
end Go.Proofs.Ytjpklbkeofjppaa
