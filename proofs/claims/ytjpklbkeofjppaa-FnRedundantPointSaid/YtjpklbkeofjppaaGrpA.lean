/- RedundantGroups of the program. Written by grpagen.py. -/
import Derived.Test.YtjpklbkeofjppaaMapK
import Derived.Test.YtjpklbkeofjppaaGrpS
import Derived.Test.YtjpklbkeofjppaaIntRow
import Derived.Maps.AppendAt
import Derived.Carry
import Derived.Laws.EntriesVeiled
namespace Go.Proofs.Ytjpklbkeofjppaa
open Go.RowKit Go.Shelf

attribute [local go_sem] Oper.semAt_some

theorem zeroInt (w : World) : (zeroValue 3).run Try.prog w = .ok (.int .i64 0) w := by kernel_rfl
/-- The vectors so far. -/
def vsP (L : List (Int × Int)) (pre : List (Nat × Nat)) : List (Int × Int) := pre.map (Vm.vec L)
def grpG (L : List (Int × Int)) (pre : List (Nat × Nat)) : List Int := Vm.grpK (vsP L pre)
theorem vsP_next (L : List (Int × Int)) (pre : List (Nat × Nat)) (x : Nat × Nat) : vsP L (pre ++ [x]) = vsP L pre ++ [Vm.vec L x] := by simp [vsP]
theorem grpG_len (L : List (Int × Int)) (pre : List (Nat × Nat)) : (grpG L pre).length = pre.length := by simp [grpG, Vm.grpK, vsP]
theorem grpG_old {L : List (Int × Int)} {pre : List (Nat × Nat)} {x : Nat × Nat} (h : (vsP L pre).any (Vm.rel (Vm.vec L x)) = true) : grpG L (pre ++ [x]) = grpG L pre ++ [(Vm.fst (vsP L pre) (Vm.vec L x) : Int)] := by
  rw [grpG, vsP_next, Vm.grpK_step, if_pos h]; rfl
theorem grpG_new {L : List (Int × Int)} {pre : List (Nat × Nat)} {x : Nat × Nat} (h : (vsP L pre).any (Vm.rel (Vm.vec L x)) = false) : grpG L (pre ++ [x]) = grpG L pre ++ [(pre.length : Int)] := by
  rw [grpG, vsP_next, Vm.grpK_step, if_neg (by rw [h]; simp)]
  simp [grpG, vsP]
theorem grpG_all {L : List (Int × Int)} (h : Vm.arrB L = true) : grpG L (Vm.basesL L.length) = Vm.grpL L := by
  rw [Vm.grpL_yes h]; rfl
theorem ownsMap_after {P : Program} {k : TypeId} {R : Value → Option (DataW Unit × List MemPlace)} {W W' : World} {B n : Nat} {D : DataW Unit} (h : W.ownsMap P k R B n D) (hb : Below W.heap.size W W') : W'.ownsMap P k R B n D := by
  have hlt := h.lt
  obtain ⟨es, clock, hh, F, hs, hD⟩ := h
  exact ⟨es, clock, (hb.block B hlt).trans hh, F, hs, hD⟩
set_option maxRecDepth 100000 in
set_option maxHeartbeats 8000000 in
theorem RedundantGroups_ok (A : Option Addr) (n c : Nat) (L : List (Int × Int)) (w : World) (h : Rd w w.heap.size 2 A n c (cp L)) (ha : Vm.arrB L = true) :
    Calls Try.prog 18 #[.slice A n c] w (GrpPost L w) := by
  have hn := h.len
  rw [cp_length] at hn
  have hm := h.most
  have hcap := h.cap
  obtain rfl : L.length = n := by omega
  clear hn
  obtain ⟨h2, h7⟩ := ((Vm.arrB_iff L).1 ha).1
  have HA := Lib.hid ha
  clear ha
  refine callsIn_wide.1 (callsIn_of_wp_marks (n := 6) Try.func18 rfl trivial ?_ rfl)
  simp only [Try.ntmps18, List.size_toArray, List.length_cons, List.length_nil, Nat.reduceAdd, Nat.reduceSub, Array.replicate_succ, Array.replicate_zero, List.push_toArray, List.append_toArray, List.nil_append, List.cons_append]
  refine wpIn_wide.2 ?_
  go_wp2_with fail
  refine (ArrayValid_any _ _ _ L _ (h.after (bA (b0 w) _))).mono ?_
  rintro e w1 ⟨rfl, hB1⟩
  rw [HA.out]
  obtain ⟨q1, q2⟩ := bcell hB1
  have k0 : w1.cell? ⟨w.heap.size, 0, none⟩ = some (.slice A L.length c) := (q1 _ _ (by simp)).trans (by simp [go_sem])
  have hsz := hB1.size
  simp at hsz
  have z0 : w.heap.size < w1.heap.size := by omega
  clear q1 q2
  have bx0 := boxed_of_below (Boxed.new w 25 (.slice A L.length c)) hB1
  have bB1 := bT (bA (b0 w) (.cells #[.slice A L.length c] 25)) hB1
  have hmk : (Sem.run Try.prog (Instr.makeMap 61 none) (w1.alloc (.cells #[.slice none 0 0] 29))) = .ok (.map (some (w1.heap.size + 1))) ((w1.alloc (.cells #[.slice none 0 0] 29)).alloc (.map #[] 0)) := by
    have := run_makeMap (P := Try.prog) 61 (w1.alloc (.cells #[.slice none 0 0] 29))
    simpa using this
  have k1 := (((bx0.alloc (.cells #[.slice none 0 0] 29)).alloc (.map #[] 0)).alloc (.cells #[.map (some (w1.heap.size + 1))] 61)).cell
  go_wp2_with (go_at_call 43; refine (bases_any _ _).mono ?_; rintro e w' ⟨rfl, rfl⟩)
  obtain ⟨i0, hi, hz0, hz1, hz2⟩ := info_parts infoInt
  obtain ⟨W0, hW0⟩ : ∃ W0, (((w1.alloc (.cells #[.slice none 0 0] 29)).alloc (.map #[] 0)).alloc (.cells #[.map (some (w1.heap.size + 1))] 61)).alloc (.cells #[.int .i64 L.length] 3) = W0 := ⟨_, rfl⟩
  have hs0 : W0.heap.size = w1.heap.size + 4 := by rw [← hW0]; simp
  have bxo : Boxed W0 w1.heap.size 29 (.slice none 0 0) := by rw [← hW0]; exact (((Boxed.new w1 _ _).alloc _).alloc _).alloc _
  have bxm : Boxed W0 (w1.heap.size + 2) 61 (.map (some (w1.heap.size + 1))) := by rw [← hW0]; exact (Boxed.new' ((w1.alloc _).alloc _) _ (by simp) _ _).alloc _
  have bxn : Boxed W0 (w1.heap.size + 3) 3 (.int .i64 L.length) := by rw [← hW0]; exact Boxed.new' (((w1.alloc _).alloc _).alloc _) _ (by simp) _ _
  have bB0 : Below w.heap.size w W0 := by rw [← hW0]; exact bA (bA (bA (bA bB1 _) _) _) _
  have by0 : Boxed W0 w.heap.size 25 (.slice A L.length c) := by rw [← hW0]; exact (((bx0.alloc _).alloc _).alloc _).alloc _
  have hmap0 : MapI (w1.heap.size + 1) (vsP L []) W0 := by
    have e := World.ownsMap_made (H := Unit) (w1.alloc (.cells #[.slice none 0 0] 29)) Try.prog 38 (plainElem Try.prog 3)
    rw [World.size_alloc] at e
    rw [← hW0]
    exact ⟨0, .map [], (e.alloc _).alloc _, Nat.zero_le _, Kn.nil⟩
  rw [hW0]
  have HS0 := Lib.hid hs0
  clear hW0 hs0 bx0 bB1 hB1 k0 k1 hmk
  refine (wpIn_wide (n := 6)).1 ?_
  refine' range_law (n := 6) (gf := 66) (lb := #[.pointer (some ⟨w1.heap.size + 3, 0, none⟩)]) (xs := Vm.basesL L.length) (encs := encB) (Kp := keepC (w1.heap.size + 3)) rfl (enters_of Try.func66 (by kernel_rfl) rfl)
    (bases_seq 5 L.length h2 h7 (w1.heap.size + 3) W0 (by rw [HS0.out]; omega) bxn.cell) (Below.refl _ _) keepC_t (keepC_b (by rw [HS0.out]; omega)) (fun _ => rfl)
    (fun pre W => rowJ (w1.heap.size + 4) w1.heap.size (grpG L) pre W ∧ Boxed W w.heap.size 25 (.slice A L.length c) ∧ MapI (w1.heap.size + 1) (vsP L pre) W ∧ Boxed W (w1.heap.size + 2) 61 (.map (some (w1.heap.size + 1))) ∧ Boxed W (w1.heap.size + 3) 3 (.int .i64 L.length) ∧ Below w.heap.size w W)
    (fun _ _ _ => False)
    (OwnFrom.and (rowJ_own _ _ _ _) (OwnFrom.and (ownFrom_box _ _ _ _) (OwnFrom.and (ownFrom_map _ _ (vsP L) (by rw [HS0.out]; omega)) (OwnFrom.and (ownFrom_box _ _ _ _) (OwnFrom.and (ownFrom_box _ _ _ _) (ownFrom_below (Nat.le_refl _) bB0.size))))))
    (fun _ _ _ _ _ hs _ _ => hs)
    ⟨⟨_, bxo, World.ownsRow_nil _ _ _ _, trivial⟩, by0, hmap0, bxm, bxn, bB0⟩
    _ ?assign ?body ?done ?stop
  case assign =>
    intro l x W K hK
    simp only [encB]
    gi_wp2
    exact hK
  case body =>
    rintro l pre x W ⟨⟨v, hv, hrow, _⟩, c0, hmp, cm, cn, hB⟩ hpre
    have hrd := (h.below hB).more hB.size
    obtain ⟨pl, x12, x2N, plen, pq⟩ := prefix_at h7 hpre
    have PL := Lib.hid pl
    clear pq pl
    have hmax := Vm.many_le L.length (by omega)
    have HGL := Lib.hid (grpG_len L pre)
    have zW := cn.lt
    obtain ⟨Av, cv, rfl⟩ := own_form hrow
    rw [HGL.out] at hrow hv
    have hbd : Bd (Vm.vec L x) := Vm.vec_bd HA.out (by omega) x2N
    have hc0 := c0.cell
    gi_wp2_with fail
    refine ⟨trivial, (CallsIn.inRound l (callsIn_wide.2 (vector_ok A L.length c L x.1 x.2 _ hrd HA.out (by omega) x2N))).mono ?_⟩
    rintro e w4 ⟨rfl, hb4⟩
    obtain ⟨p, hp⟩ : ∃ p, Vm.vec L x = p := ⟨_, rfl⟩
    have HP := Lib.hid hp
    rw [show Vm.vec L (x.1, x.2) = p from hp]
    rw [hp] at hbd
    clear hp hc0
    obtain ⟨W5, hW5⟩ : ∃ W5, w4.alloc (.cells #[.int .i64 p.1, .int .i64 p.2] 38) = W5 := ⟨_, rfl⟩
    have hb5 : Below W.heap.size W W5 := by rw [← hW5]; exact bA hb4 _
    have hx5 : W5.heap[w4.heap.size]? = some (.cells #[.int .i64 p.1, .int .i64 p.2] 38 (0, 0)) := by rw [← hW5]; exact heap_alloc_new w4 _
    have hmp5 := hmp.after hb5
    have hcm5 := (boxed_of_below cm hb5).cell
    have hcv5 := (boxed_of_below hv hb5).cell
    have t0 := cell_of_row W5 w4.heap.size 0 _ _ _ hx5
    have t1 := cell_of_row W5 w4.heap.size 1 _ _ _ hx5
    have zb5 := hb5.size
    have z4 := hb4.size
    obtain ⟨n, Dm, hown, hnn, hKn⟩ := hmp5
    have hkey := key_ant p hbd
    have hhas := hKn.has p hbd
    have hn21 : n < maxLen := by simp [vsP] at hnn; unfold maxLen; omega
    unfold gv at hkey ⊢
    have bo : w.heap.size ≤ w1.heap.size := by omega
    have zo5 : w1.heap.size < W5.heap.size := by omega
    cases hany : (vsP L pre).any (Vm.rel p)
    · rw [hany] at hhas
      have HN := Lib.hid (grpG_new (L := L) (pre := pre) (x := x) (by rw [HP.out]; exact hany))
      have hKn' := hKn.new hbd hany
      have hpl21 : pre.length ≤ 21 := by omega
      have zs0 : w1.heap.size + 4 ≤ W5.heap.size := by omega
      have hvl : (vsP L pre).length = pre.length := by simp [vsP]
      rw [hvl] at hKn' hnn
      have hwl : (Lit.int .i64 (pre.length : Int)).wf = true := wf64 (by omega)
      have hn22 : n + 1 < maxLen := by unfold maxLen; omega
      have hkeyn := key_ant (Vm.neg p) hbd.neg
      clear hvl
      gi_wp2_with (gi_at_lookup; refine wpListIn_lookup_own_ok_int (H := Unit) _ rfl _ _ 61 rfl 38 3 .i64 antKeyed Try.underlying61 Try.underlying3 (zeroInt _) _ n Dm rfl hown _ (kl2 p) rfl hkey ?_; intro cc hat hwc; clear hat hwc)
      refine round_held (S := fun W' => W'.cell? ⟨w1.heap.size + 1 + 1, 0, none⟩ = some (.map (some (w1.heap.size + 1))) ∧ W'.cell? ⟨w4.heap.size, 0, none⟩ = some (.int .i64 p.1) ∧ W'.cell? ⟨w4.heap.size, 1, none⟩ = some (.int .i64 p.2)) (by kernel_rfl) (by kernel_rfl) (noOut_then (noOut_block noOut_own)) ⟨hcm5, t0, t1⟩ (fun hS => ?_)
      refine wpAnyH_take (i := 0) (v := .map (some (w1.heap.size + 1))) rfl (by kernel_rfl) (by kernel_rfl) (by kernel_rfl) (fun _ _ _ h => h) (Or.inl ⟨by rfl, fun ww hSw => ?_⟩) hS ?_
      · (try obtain ⟨s0, s1, s2⟩ := hSw); go_simp
      refine wpAnyH_take (i := 1) (v := .agg #[.int .i64 p.1, .int .i64 p.2]) rfl (by kernel_rfl) (by kernel_rfl) (by kernel_rfl) (fun _ _ _ h => h) (Or.inl ⟨by rfl, fun ww hSw => ?_⟩) hS ?_
      · (try obtain ⟨s0, s1, s2⟩ := hSw); go_simp
      refine wpAnyH_take (i := 2) (v := .map (some (w1.heap.size + 1))) rfl (by kernel_rfl) (by kernel_rfl) (by kernel_rfl) (fun _ _ _ h => h) (Or.inl ⟨by rfl, fun ww hSw => ?_⟩) hS ?_
      · (try obtain ⟨s0, s1, s2⟩ := hSw); go_simp
      refine wpAnyH_take (i := 3) (v := .agg #[.int .i64 p.1, .int .i64 p.2]) rfl (by kernel_rfl) (by kernel_rfl) (by kernel_rfl) (fun _ _ _ h => h) (Or.inl ⟨by rfl, fun ww hSw => ?_⟩) hS ?_
      · (try obtain ⟨s0, s1, s2⟩ := hSw); go_simp
      refine wpAnyH_take (i := 5) (v := .int .i64 (pre.length : Int)) rfl (by kernel_rfl) (by kernel_rfl) (by kernel_rfl) (fun _ _ _ h => h) (Or.inl ⟨by rfl, fun ww hSw => ?_⟩) hS ?_
      · (try obtain ⟨s0, s1, s2⟩ := hSw); go_simp
      refine wpAnyH_take (i := 6) (v := .int .i64 (pre.length : Int)) rfl (by kernel_rfl) (by kernel_rfl) (by kernel_rfl) (fun _ _ _ h => h) (Or.inl ⟨by rfl, fun ww hSw => ?_⟩) hS ?_
      · (try obtain ⟨s0, s1, s2⟩ := hSw); go_simp
      refine wpAnyH_ready (rs := [4]) (by kernel_rfl) (by simp) ?_
      refine AllReadyH.cons rfl (fun K hK => ?_) AllReadyH.nil
      go_simp
      refine (oppA_any p _ hbd).mono ?_
      rintro e w6 ⟨rfl, hb6⟩
      have hb6' : Below W5.heap.size W5 w6 := bT (Below.drew (b0 W5)) hb6
      have cm6 := boxed_of_below (boxed_of_below cm hb5) hb6'
      have hx6 := (hb6'.block w4.heap.size (lt_of_block hx5)).trans hx5
      refine hK.out _ _ ⟨cm6.cell, cell_of_row _ w4.heap.size 0 _ _ _ hx6, cell_of_row _ w4.heap.size 1 _ _ _ hx6⟩ (fun hS => ?_)
      clear hK K
      refine wpAnyH_ready (rs := [7]) (by kernel_rfl) (by simp) ?_
      refine AllReadyH.cons rfl (fun K hK => ?_) AllReadyH.nil
      obtain ⟨w7, hrun7, hown7, hg7⟩ := (ownsMap_after hown hb6').update (val := .int .i64 (pre.length : Int)) (d := .lit (.int .i64 (pre.length : Int))) (ps := []) antKeyed Try.underlying61 hn21 hkey (plainElem_int Try.underlying3 hwl)
      have cm7 := cm6.kept hg7 (by simp)
      have hx7 := (hg7.block w4.heap.size (lt_of_block hx6) (by simp; omega)).trans hx6
      go_simp
      refine hK.out _ _ ⟨cm7.cell, cell_of_row _ w4.heap.size 0 _ _ _ hx7, cell_of_row _ w4.heap.size 1 _ _ _ hx7⟩ (fun hS => ?_)
      clear hK K
      refine wpAnyH_ready (rs := [8]) (by kernel_rfl) (by simp) ?_
      refine AllReadyH.cons rfl (fun K hK => ?_) AllReadyH.nil
      obtain ⟨w8, hrun8, hown8, hg8⟩ := hown7.update (val := .int .i64 (pre.length : Int)) (d := .lit (.int .i64 (pre.length : Int))) (ps := []) antKeyed Try.underlying61 hn22 hkeyn (plainElem_int Try.underlying3 hwl)
      have cm8 := cm7.kept hg8 (by simp)
      have hx8 := (hg8.block w4.heap.size (lt_of_block hx7) (by simp; omega)).trans hx7
      go_simp
      refine hK.out _ _ ⟨cm8.cell, cell_of_row _ w4.heap.size 0 _ _ _ hx8, cell_of_row _ w4.heap.size 1 _ _ _ hx8⟩ (fun hS => ?_)
      clear hK K
      refine ⟨by kernel_rfl, ?_⟩
      have hg5 : KeepsFrom W0.heap.size W w8 := (((keeps_below hb5).from _).trans ((keeps_below hb6').from _)).trans ((KeepsFrom.of_grownBy hg7 (fun j e => by cases e; rw [HS0.out]; omega)).trans (KeepsFrom.of_grownBy hg8 (fun j e => by cases e; rw [HS0.out]; omega)))
      have hB6 := bT (bT hB hb5) hb6'
      have hB7 := below_of_g hB6 hg7 (by omega)
      have hBX := below_of_g hB7 hg8 (by omega)
      have hvX := ((boxed_of_below (boxed_of_below hv hb5) hb6').kept hg7 (by simp)).kept hg8 (by simp)
      have c0X := ((boxed_of_below (boxed_of_below c0 hb5) hb6').kept hg7 (by simp; omega)).kept hg8 (by simp; omega)
      have cmX := cm8
      have cnX := ((boxed_of_below (boxed_of_below cn hb5) hb6').kept hg7 (by simp)).kept hg8 (by simp)
      have hrow6 := own_after (own_after hrow hb5) hb6'
      have hrow7 := hrow6.kept hg7 (.inr (fun e => by have := (hrow6.lt _ e).1; omega))
      have hrowX := hrow7.kept hg8 (.inr (fun e => by have := (hrow7.lt _ e).1; omega))
      have hmX : MapI (w1.heap.size + 1) (vsP L pre ++ [p]) w8 := ⟨n + 1 + 1, _, hown8, by simp [vsP] at hnn ⊢; omega, hKn'⟩
      have hr8 := hrowX.alloc (.cells #[.int .i64 (pre.length : Int)] 3)
      have hcv8 := hvX.cell
      have zs8 := (bT hb5 hb6').size
      have zs9 := hg7.size
      have zsA := hg8.size
      have KX := hg5
      clear hS hrun7 hrun8 hg5 hcm5 hcv5 t0 t1
      gi_wp2_with (gi_at_builtin; refine wpListIn_append_own _ rfl _ _ 29 rfl (w1.heap.size + 4) 3 i0 _ 1 8 Try.underlying29 hi hz0 hz1 hz2 rfl (by decide) _ _ _ rfl hr8 ⟨w8.heap.size, 0, none⟩ 1 1 [.int .i64 (pre.length : Int)] rfl rfl (new_cells _ _ _) ?c2 ?c3 ?c4 ?c5 ?_)
      case c2 => intro u hu; simp at hu; subst hu; rfl
      case c3 => unfold maxLen; omega
      case c4 => omega
      case c5 => simp; omega
      intro v' w6 hown6 hgrow6 _
      obtain ⟨g6, c6, rfl⟩ := own_head hown6 (by omega)
      have hrowG : w8.ownsRow (w1.heap.size + 4) 3 1 (.slice Av pre.length cv) (grpG L pre).length (ci (grpG L pre)) := by rw [HGL.out]; exact hrowX
      obtain ⟨r1, r2, r3, r4, r5, r6⟩ := row_stepJ (y := (pre.length : Int)) hvX hrowG hBX bo (by omega) (b0 w8) (by rw [HGL.out]; exact hown6) hgrow6
      rw [HGL.out] at r2 r3 r4 r5 r6
      have e0 := (r6 _ _ _ c0X (by omega) (by omega)).2
      have em := (r6 _ _ _ cmX (by omega) (by omega)).2
      have en := (r6 _ _ _ cnX (by omega) (by omega)).2
      have hmp6 := ((hmX.after (bA (b0 w8) (.cells #[.int .i64 (pre.length : Int)] 3))).kept hgrow6 (fun e => by have := ((hrowX.alloc (.cells #[.int .i64 (pre.length : Int)] 3)).lt _ e.symm).1; omega)).kept (grownBy_setCell' w6 w1.heap.size (.slice (some ⟨g6, 0, none⟩) (pre.length + 1) c6)) (by simp)
      skip
      have hc6 := r1.cell
      have hf6 := r1.frozen
      have hkf := KX.trans (r4.from _)
      have hcn := en.cell.trans cn.cell.symm
      have hvp := vsP_next L pre x
      rw [HP.out] at hvp
      clear hgrow6 hown6 hrowG r1 r4 r6
      gi_wp2_with fail
      exact ⟨hkf, hcn, ⟨_, r2, by rw [HN.out]; exact r3, trivial⟩, e0, by rw [hvp]; exact hmp6, em, en, r5⟩
    · rw [hany] at hhas
      have HAT := Lib.hid (hKn.at' p hbd hany)
      have HN := Lib.hid (grpG_old (L := L) (pre := pre) (x := x) (by rw [HP.out]; exact hany))
      rw [HP.out] at HN
      have hKn' := hKn.old hany
      have hvX := boxed_of_below hv hb5
      have hrowX := own_after hrow hb5
      have hBX := bT hB hb5
      have c0X := boxed_of_below c0 hb5
      have cmX := boxed_of_below cm hb5
      have cnX := boxed_of_below cn hb5
      have hmX : MapI (w1.heap.size + 1) (vsP L pre ++ [p]) W5 := ⟨n, Dm, hown, by rw [List.length_append]; omega, hKn'⟩
      have KX : KeepsFrom W0.heap.size W W5 := (keeps_below hb5).from _
      have hpl21 : pre.length ≤ 21 := by omega
      have zs0 : w1.heap.size + 4 ≤ W5.heap.size := by omega
      gi_wp2_with first | (gi_at_lookup; refine wpListIn_lookup_own_ok_int (H := Unit) _ rfl _ _ 61 rfl 38 3 .i64 antKeyed Try.underlying61 Try.underlying3 (zeroInt _) _ n Dm rfl hown _ (kl2 p) rfl hkey ?_; intro cc hat hwc; have hcc : cc = (Vm.fst (vsP L pre) p : Int) := (by have := hat.symm.trans (HAT.out _); simpa using this); have HCC := Lib.hid hcc; have hr5 := (own_after hrow hb5).alloc (.cells #[.int .i64 cc] 3); clear hat hcc) | (gi_at_builtin; refine wpListIn_append_own _ rfl _ _ 29 rfl (w1.heap.size + 4) 3 i0 _ 1 8 Try.underlying29 hi hz0 hz1 hz2 rfl (by decide) _ _ _ rfl hr5 ⟨W5.heap.size, 0, none⟩ 1 1 [.int .i64 cc] rfl rfl (new_cells _ _ _) ?c2 ?c3 ?c4 ?c5 ?_)
      case c2 => intro u hu; simp at hu; subst hu; rfl
      case c3 => unfold maxLen; omega
      case c4 => omega
      case c5 => simp; omega
      intro v' w6 hown6 hgrow6 _
      obtain ⟨g6, c6, rfl⟩ := own_head hown6 (by omega)
      have hrowG : W5.ownsRow (w1.heap.size + 4) 3 1 (.slice Av pre.length cv) (grpG L pre).length (ci (grpG L pre)) := by rw [HGL.out]; exact hrowX
      obtain ⟨r1, r2, r3, r4, r5, r6⟩ := row_stepJ (y := cc) hvX hrowG hBX bo (by omega) (b0 W5) (by rw [HGL.out]; exact hown6) hgrow6
      rw [HGL.out] at r2 r3 r4 r5 r6
      have e0 := (r6 _ _ _ c0X (by omega) (by omega)).2
      have em := (r6 _ _ _ cmX (by omega) (by omega)).2
      have en := (r6 _ _ _ cnX (by omega) (by omega)).2
      have hmp6 := ((hmX.after (bA (b0 W5) (.cells #[.int .i64 cc] 3))).kept hgrow6 (fun e => by have := ((hrowX.alloc (.cells #[.int .i64 cc] 3)).lt _ e.symm).1; omega)).kept (grownBy_setCell' w6 w1.heap.size (.slice (some ⟨g6, 0, none⟩) (pre.length + 1) c6)) (by simp)
      rw [← HCC.out] at HN
      have hc6 := r1.cell
      have hf6 := r1.frozen
      have hkf := KX.trans (r4.from _)
      have hcn := en.cell.trans cn.cell.symm
      have hvp := vsP_next L pre x
      rw [HP.out] at hvp
      clear hgrow6 hown6 hrowG r1 r4 r6
      gi_wp2_with fail
      exact ⟨hkf, hcn, ⟨_, r2, by rw [HN.out]; exact r3, trivial⟩, e0, by rw [hvp]; exact hmp6, em, en, r5⟩
  case done =>
    rintro D W hD ⟨⟨v, hv, hrow, _⟩, _, _, _, _, hB⟩ hK
    have hc := hv.cell
    have hg := grpG_all HA.out
    rw [hg] at hrow
    obtain ⟨Av, cv, rfl⟩ := own_form hrow
    obtain ⟨X, hX⟩ : ∃ X, Vm.grpL L = X := ⟨_, rfl⟩
    have HX := Lib.hid hX
    rw [hX] at hrow hc
    clear hX hg
    go_wp2_with fail
    refine ⟨by simp, .inl ⟨_, _, rfl, run_takeDeferred hK, ?_⟩⟩
    refine ⟨.slice Av X.length cv, by simp [results, Try.results18, go_sem], _, rfl, ?_, ?_⟩
    · rw [HX.out]; exact ownsRow_putObj (own_less hrow (by omega)) _ hK rfl
    · exact hB.trans (belowK_b (w := w) (Nat.le_refl _) W D _ _ (Nat.le_trans bB0.size hD) hK rfl rfl)
  case stop =>
    intro D cc pre W hD hpre hI hK
    exact hI.elim
end Go.Proofs.Ytjpklbkeofjppaa
