/- Contracts: visibilities that differ by gains, drawn from a code; flags. -/
import Derived.Test.YtmoeofclpnblmaaDrawE
import Derived.Test.YtmoeofclpnblmaaGainS
import Derived.Test.YtmoeofclpnblmaaRowB
namespace Go.Proofs.Ytmoeofclpnblmaa
open Go.RowKit

theorem own_far {w w' : World} {base : Nat} {e : TypeId} {size n : Nat} {v : Value} {xs : List Value} (h : w.ownsRow base e size v n xs) (hk : ∀ k, base ≤ k → k < w.heap.size → w'.heap[k]? = w.heap[k]?) : w'.ownsRow base e size v n xs := by
  obtain ⟨h1, h2⟩ := h
  refine ⟨h1, ?_⟩
  rcases h2 with h2 | ⟨g, cap, cur, hv, hg, hh, r⟩
  · exact .inl h2
  · exact .inr ⟨g, cap, cur, hv, hg, (hk g hg (lt_of_block hh)).trans hh, r⟩
theorem Rd.of_own_lt {w : World} {base B : Nat} {e : TypeId} {size n c : Nat} {A : Option Addr} {xs : List Value} (h : w.ownsRow base e size (.slice A n c) n xs) (hB : ∀ k, (Value.slice A n c).ownBlock = some k → k < B) : Rd w B size A n c xs := by
  have hr := Rd.of_own h
  refine ⟨hr.len, hr.cap, hr.most, fun h0 => ?_⟩
  obtain ⟨b, off, e, _, hc⟩ := hr.at_ h0
  exact ⟨b, off, e, hB b (by rw [e]; rfl), hc⟩
/-- A slice that lies below the world's end, and not in the reader's block. -/
def KB (R : Nat) (w : World) (size : Nat) (A : Option Addr) (n c : Nat) (xs : List Value) : Prop := ∀ w', (∀ k, k < w.heap.size → k ≠ R → w'.heap[k]? = w.heap[k]?) → Rd w' w.heap.size size A n c xs
theorem KB.of_own {R : Nat} {w : World} {base : Nat} {e : TypeId} {size n c : Nat} {A : Option Addr} {xs : List Value} (h : w.ownsRow base e size (.slice A n c) n xs) (hR : R < base) : KB R w size A n c xs := fun _ hk =>
  Rd.of_own_lt (own_far h (fun k hb hl => hk k hl (by omega))) (fun k hk2 => (h.lt k hk2).2)
theorem KB.rd {R : Nat} {w w' : World} {size n c : Nat} {A : Option Addr} {xs : List Value} (h : KB R w size A n c xs) (hg : w.grownBy w' (some R)) : Rd w' w'.heap.size size A n c xs :=
  (h w' (fun k hk hne => hg.block k hk (fun e => hne (by injection e)))).more hg.size
theorem cp_drop (G : List (Int × Int)) (d : Nat) : (cp G).drop (d * 2) = cp (G.drop d) := by
  induction d generalizing G with
  | zero => simp
  | succ d ih =>
    cases G with
    | nil => simp [cp]
    | cons a l =>
      have := ih l
      simp only [cp, List.flatMap_cons, List.cons_append, List.nil_append, List.drop_succ_cons] at this ⊢
      rw [show (d + 1) * 2 = d * 2 + 1 + 1 by omega, List.drop_succ_cons, List.drop_succ_cons]
      exact this
section
variable {w wr w1 : World} {R B N N' : Nat} {T : TypeId} {size : Nat} {v : Value} {n : Nat} {xs : List Value}
theorem DRow.setV {g c : Nat} {L : List (Int × Int)} (h : DRow w R B N 41 2 (.slice (some ⟨g, 0, none⟩) L.length c) L.length (cp L) wr) (j : Nat) (x : Int) : ∃ L', L'.length = L.length ∧ DRow w R B N 41 2 (.slice (some ⟨g, 0, none⟩) L.length c) L.length (cp L') (wr.setCell ⟨g, j, none⟩ (.int .i64 x)) := by
  obtain ⟨L', e, hl⟩ := as_pairs L.length ((cp L).set j (.int .i64 x)) (by simp [cp_length]) (ints_set (cp_ints L) j x)
  have := h.set j (.int .i64 x)
  rw [e] at this
  exact ⟨L', hl, this⟩
theorem DRow.cellV {g c : Nat} {L : List (Int × Int)} (h : DRow w R B N 41 2 (.slice (some ⟨g, 0, none⟩) L.length c) L.length (cp L) wr) (k : Nat) (hk : k < L.length) :
    wr.cell? ⟨g, k * 2, none⟩ = some (.int .i64 L[k].1) ∧ wr.cell? ⟨g, k * 2 + 1, none⟩ = some (.int .i64 L[k].2) ∧ wr.frozen? ⟨g, k * 2, none⟩ = false ∧ wr.frozen? ⟨g, k * 2 + 1, none⟩ = false := by
  have hx := cp_at L k hk
  rw [Nat.mul_comm 2 k] at hx
  exact ⟨(h.own.cellAt (k * 2) (by omega)).trans hx.1, (h.own.cellAt (k * 2 + 1) (by omega)).trans hx.2, h.own.frozenAt _, h.own.frozenAt _⟩
end
/-- Visibilities, and a model, that are drawn. -/
def AppPost (R B N : Nat) (least : Int) (w : World) (e : Ending) (w' : World) : Prop :=
  ∃ (w3 : World) (n : Nat) (v : Value) (L : List (Int × Int)) (A : Option Addr) (m c : Nat) (M : List (Int × Int)), (2 ≤ n ∧ n ≤ 7) ∧ least ≤ n ∧ e = .returned (.tuple #[.int .i64 n, v, .slice A m c]) ∧
    DRow w3 R B N 41 2 v L.length (cp L) w' ∧ KB R w3 2 A m c (cp M) ∧ w.grownBy w3 (some R)
set_option maxRecDepth 100000 in
set_option maxHeartbeats 4000000 in
theorem l92Applied_any (R B N : Nat) (least : Int) (w : World) (h : Rdr w R B N) (hN : N ≤ 1000) (hl1 : 2 ≤ least) (hl2 : least ≤ 6) :
    Calls Try.prog 43 #[.pointer (some ⟨R, 0, none⟩), .int .i64 least] w (AppPost R B (N + 300) least w) := by
  go_enter Try.func43, Try.ntmps43
  go_wp2_with fail
  refine (l92Many_any R B N least _ h hN hl1 hl2).mono ?_
  rintro e w1 ⟨n, vm, M, n2, n7, hln, rfl, hDM⟩
  obtain ⟨A, c, rfl⟩ := own_form hDM.own
  go_wp2_with fail
  refine (l91Gains_any R B (N + 121) n _ hDM.rdr (by omega) (by omega) (by omega)).mono ?_
  rintro e w2 ⟨g, cg, d, G, hd1, hG, rfl, hcg, hDG⟩
  have hM2 := own_g hDM.own hDG.grown hDM.lt
  have hGr := (Rd.of_own hDG.own).drop' d (by omega)
  rw [cp_drop, Nat.zero_add, Nat.mul_comm d 2] at hGr
  have hKB2 := KB.of_own hM2 hDM.lt
  have hg2 := gTrans hDM.grown hDG.grown
  have hr2 := hDG.rdr
  have hlt2 := hr2.lt
  have hN2 := hDM.lt
  go_wp2_with fail
  refine (sGainApply_any _ _ _ _ _ _ n M (G.drop d) _ (Rd.of_own hM2) hGr).mono ?_
  rintro e w3 ⟨v, rfl, ho, hb3⟩
  have hr3 := hr2.after hb3
  have hM3 := own_after hM2 hb3
  have hKB3 := KB.of_own hM3 hN2
  have hg3 := gTrans hg2 (gBelow hb3 (some R))
  clear hGr hDG hM2 hr2
  cases hok : Vm.gapB n M (G.drop d)
  · clear ho
    go_wp2_with fail
    refine (l91Vis_any R B (N + 121 + 40) n _ hr3 (by omega)).mono ?_
    rintro e w4 ⟨v4, L, rfl, hD4⟩
    obtain ⟨A4, c4, rfl⟩ := own_form hD4.own
    have H : Hid (AppPost R B (N + 300) least w (.returned (.tuple #[.int .i64 n, .slice A4 L.length c4, .slice A M.length c])) w4) := ⟨w3, n, _, L, A, _, c, M, ⟨n2, n7⟩, hln, rfl, hD4.mono (by omega), hKB3, hg3⟩
    clear hD4 hKB3 hKB2 hM3
    go_wp2_with fail
    exact bodyPost_ret (by simp [results, Try.results43, go_sem]) rfl H.out
  · obtain ⟨N', e, hO⟩ := Vm.OkG.of hok
    obtain rfl : n = N' := by omega
    have hLen := hO.out.len
    have hvis := hO.out.all
    have hD3 : DRow w2 R B (N + 121 + 40) 41 2 v (Vm.gapL n M (G.drop d)).length (cp (Vm.gapL n M (G.drop d))) w3 := ⟨ho, hr3, gBelow hb3 _, hlt2⟩
    obtain ⟨L, hL⟩ : ∃ L, Vm.gapL n M (G.drop d) = L := ⟨_, rfl⟩
    rw [hL] at hLen hvis hD3
    clear ho hO hok hL hKB3 hM3 hr3 hb3
    have hpos : 0 < L.length := by
      have := Vm.bidx_bd (n := n) (i := 0) (j := 1) (by omega) (by omega) (by omega) (by omega)
      have := Vm.bmany_nat n ((Vm.manyB_iff _).2 (by omega))
      omega
    have h21 : L.length ≤ 21 := by have := Vm.many_le n (by omega); omega
    obtain ⟨gl, cl, rfl⟩ := hD3.form hpos
    clear hLen
    have HV := Lib.hid hvis
    clear hvis e
    go_wp2_with fail
    refine (pick_any R B _ 8 _ hD3.rdr (by omega) (by omega) (by omega)).mono ?_
    rintro e w4 ⟨y, rfl, y1, y2, hr4, hg4⟩
    have hD4 := hD3.pick hr4 hg4
    clear hD3 hr4 hg4
    by_cases hy0 : y = 0
    · have e0 : (y == 0) = true := by simp [hy0]
      clear hy0
      go_wp2_with fail
      refine (pick_any R B _ L.length _ hD4.rdr (by omega) (by omega) (by omega)).mono ?_
      rintro e w5 ⟨k, rfl, k1, k2, hr5, hg5⟩
      have hD5 := hD4.pick hr5 hg5
      clear hD4 hr5 hg5
      obtain ⟨q, rfl⟩ := Vm.nat_of k1
      go_wp2_with fail
      refine (l91Phase_any R B _ _ hD5.rdr (by omega)).mono ?_
      rintro e w6 ⟨x, rfl, _, hr6, hg6⟩
      have hD6 := hD5.pick hr6 hg6
      clear hD5 hr6 hg6
      have hql : q < L.length := by omega
      obtain ⟨c1, c2, f1, f2⟩ := hD6.cellV q hql
      obtain ⟨L', hL', hD7⟩ := hD6.setV (q * 2 + 1) x
      have H : Hid (AppPost R B (N + 300) least w (.returned (.tuple #[.int .i64 n, .slice (some ⟨gl, 0, none⟩) L.length cl, .slice A M.length c])) (w6.setCell ⟨gl, q * 2 + 1, none⟩ (.int .i64 x))) := ⟨w2, n, _, L', A, _, c, M, ⟨n2, n7⟩, hln, rfl, by rw [hL']; exact hD7.mono (by omega), hKB2, hg2⟩
      clear hD6 hD7 hKB2
      go_wp2_with fail
      exact bodyPost_ret (by simp [results, Try.results43, go_sem]) rfl H.out
    · have e0 : (y == 0) = false := by simp [hy0]
      clear hy0
      by_cases hy1 : y = 1
      · have e1 : (y == 1) = true := by simp [hy1]
        clear hy1
        go_wp2_with fail
        refine (pick_any R B _ L.length _ hD4.rdr (by omega) (by omega) (by omega)).mono ?_
        rintro e w5 ⟨k, rfl, k1, k2, hr5, hg5⟩
        have hD5 := hD4.pick hr5 hg5
        clear hD4 hr5 hg5
        obtain ⟨q, rfl⟩ := Vm.nat_of k1
        have hql : q < L.length := by omega
        obtain ⟨c1, c2, f1, f2⟩ := hD5.cellV q hql
        have hb := (Vm.visOk_iff _ _).1 (List.all_eq_true.1 HV.out _ (List.getElem_mem hql))
        obtain ⟨⟨b1, b2⟩, b3, b4⟩ := hb
        obtain ⟨p, hp⟩ : ∃ p, L[q] = p := ⟨_, rfl⟩
        rw [hp] at c1 c2 b1 b2 b3 b4
        clear hp
        obtain ⟨L', hL', hD7⟩ := hD5.setV (q * 2) (p.1 + 1)
        have H : Hid (AppPost R B (N + 300) least w (.returned (.tuple #[.int .i64 n, .slice (some ⟨gl, 0, none⟩) L.length cl, .slice A M.length c])) (w5.setCell ⟨gl, q * 2, none⟩ (.int .i64 (p.1 + 1)))) := ⟨w2, n, _, L', A, _, c, M, ⟨n2, n7⟩, hln, rfl, by rw [hL']; exact hD7.mono (by omega), hKB2, hg2⟩
        clear hD5 hD7 hKB2
        go_wp2_with fail
        exact bodyPost_ret (by simp [results, Try.results43, go_sem]) rfl H.out
      · have e1 : (y == 1) = false := by simp [hy1]
        clear hy1
        have H : Hid (AppPost R B (N + 300) least w (.returned (.tuple #[.int .i64 n, .slice (some ⟨gl, 0, none⟩) L.length cl, .slice A M.length c])) w4) := ⟨w2, n, _, L, A, _, c, M, ⟨n2, n7⟩, hln, rfl, hD4.mono (by omega), hKB2, hg2⟩
        clear hD4 hKB2
        go_wp2_with fail
        exact bodyPost_ret (by simp [results, Try.results43, go_sem]) rfl H.out
def FlagsDrawn (R B N : Nat) (w : World) (e : Ending) (w' : World) : Prop := ∃ (v : Value) (F : List Bool), e = .returned v ∧ DRow w R B N 4 1 v F.length (cbo F) w'
def flagRel (w : World) (R B N : Nat) (n : Nat) (v i : Value) (wr : World) : Prop := ∃ (k : Nat) (F : List Bool), k ≤ n ∧ F.length = k ∧ i = .int .i64 k ∧ DRow w R B (N + k) 4 1 v F.length (cbo F) wr
theorem cbo_snoc (F : List Bool) (x : Bool) : cbo (F ++ [x]) = cbo F ++ [.bool x] := by rw [cbo_append]; rfl
set_option maxHeartbeats 4000000 in
theorem l92Flags_any (R B N n : Nat) (w : World) (h : Rdr w R B N) (hN : N ≤ 1000) (n2 : 2 ≤ n) (n7 : n ≤ 7) :
    Calls Try.prog 44 #[.pointer (some ⟨R, 0, none⟩), .int .i64 n] w (FlagsDrawn R B (N + 30) w) := by
  obtain ⟨i0, hi, hz0, hz1, hz2⟩ := info_parts infoBool0
  have hbm := Vm.bmany_nat n ((Vm.manyB_iff _).2 (by omega))
  have h21 := Vm.many_le n (by omega)
  obtain ⟨b, hb⟩ : ∃ b, n * (n - 1) / 2 = b := ⟨_, rfl⟩
  rw [hb] at hbm h21
  have HBM := Lib.hid hbm
  clear hbm hb
  go_enter Try.func44, Try.ntmps44
  go_wp2_with fail
  have hD0 := DRow.lit0 h 4 1
  refine (pick_any R B N 4 _ hD0.rdr (by omega) (by omega) (by omega)).mono ?_
  rintro e w1 ⟨o, rfl, o1, o2, hr1, hg1⟩
  have hD1 := hD0.pick hr1 hg1
  clear hD0 hr1 hg1
  go_wp2_with fail
  go_loopw [5, 7] (fun v i wr => flagRel w R B (N + 1) b v i wr) (fun _ i _ => b - (intOf i).toNat)
  case atStart => exact ⟨0, [], Nat.zero_le _, rfl, rfl, hD1⟩
  case round =>
    clear hD1
    obtain ⟨k, F, hk, hF, rfl, hD⟩ := hrel
    obtain ⟨A, c, rfl⟩ := own_form hD.own
    have HF := Lib.hid hF
    clear hF
    by_cases hlt : k < b
    · go_wp2_with (go_at_call 46; refine (sBaseMany_any _ _).mono ?_; rintro e w' ⟨rfl, rfl⟩; rw [HBM.out])
      refine (pick_any R B (N + 1 + k) (2 + o) _ hD.rdr (by omega) (by omega) (by omega)).mono ?_
      rintro e w2 ⟨x, rfl, x1, x2, hr2, hg2⟩
      have hD2 := hD.pick hr2 hg2
      clear hD hr2 hg2
      have hD3 := hD2.alloc (.cells #[.bool (x == 0)] 4)
      have hsz := hD2.grown.size
      have hLk : F.length ≤ 21 := by have := HF.out; omega
      have HC := Lib.hid (cbo_snoc F (x == 0))
      go_wp2_with (at_builtin; refine wpList_append_own _ rfl _ _ 24 rfl w.heap.size 4 i0 _ 1 1 Try.underlying24 hi hz0 hz1 hz2 rfl (by decide) _ _ _ rfl hD3.own ⟨w2.heap.size, 0, none⟩ 1 1 [.bool (x == 0)] rfl rfl (new_cells _ _ _) ?c2 ?c3 ?c4 ?c5 ?_)
      case c2 => intro u hu; simp at hu; subst hu; rfl
      case c3 => unfold maxLen; omega
      case c4 => omega
      case c5 => simp; omega
      intro v' w3 hown' hgrow _
      have hD4 := hD3.app hown' hgrow
      rw [← HC.out] at hD4
      clear hown' hgrow hD2 hD3
      go_wp2_with fail
      go_roundw
      case rel => exact ⟨k + 1, F ++ [x == 0], by omega, by simp [HF.out], by go_num, by simpa [Nat.add_assoc] using hD4⟩
      case measure => simp [intOf]; omega
    · go_wp2_with (go_at_call 46; refine (sBaseMany_any _ _).mono ?_; rintro e w' ⟨rfl, rfl⟩; rw [HBM.out])
      refine (pick_any R B (N + 1 + k) 24 _ hD.rdr (by omega) (by omega) (by omega)).mono ?_
      rintro e w2 ⟨x, rfl, x1, x2, hr2, hg2⟩
      have hD2 := hD.pick hr2 hg2
      clear hD hr2 hg2
      by_cases hx : x = 0
      · have e0 : (x == 0) = true := by simp [hx]
        clear hx
        have hD3 := hD2.alloc (.cells #[.bool false] 4)
        have hsz := hD2.grown.size
        have hLk : F.length ≤ 21 := by have := HF.out; omega
        have HC := Lib.hid (cbo_snoc F false)
        go_wp2_with (at_builtin; refine wpList_append_own _ rfl _ _ 24 rfl w.heap.size 4 i0 _ 1 1 Try.underlying24 hi hz0 hz1 hz2 rfl (by decide) _ _ _ rfl hD3.own ⟨w2.heap.size, 0, none⟩ 1 1 [.bool false] rfl rfl (new_cells _ _ _) ?d2 ?d3 ?d4 ?d5 ?_)
        case d2 => intro u hu; simp at hu; subst hu; rfl
        case d3 => unfold maxLen; omega
        case d4 => omega
        case d5 => simp; omega
        intro v' w3 hown' hgrow _
        have hD4 := hD3.app hown' hgrow
        rw [← HC.out] at hD4
        obtain ⟨A9, c9, rfl⟩ := own_form hown'
        have H : Hid (FlagsDrawn R B (N + 30) w (.returned (.slice A9 (F.length + 1) c9)) w3) := ⟨_, F ++ [false], rfl, by simpa using hD4.mono (by omega)⟩
        clear hown' hgrow hD2 hD3 hD4
        go_wp2_with fail
        go_ret
        exact H.out
      · have e0 : (x == 0) = false := by simp [hx]
        clear hx
        have H : Hid (FlagsDrawn R B (N + 30) w (.returned (.slice A F.length c)) w2) := ⟨_, F, rfl, hD2.mono (by omega)⟩
        clear hD2
        go_wp2_with fail
        go_ret
        exact H.out

end Go.Proofs.Ytmoeofclpnblmaa
