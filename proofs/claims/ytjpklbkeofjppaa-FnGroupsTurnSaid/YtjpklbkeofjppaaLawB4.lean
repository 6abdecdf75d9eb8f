/- The law FnGroups. Written by lawsB4.py. -/
import Derived.Test.YtjpklbkeofjppaaDrawT
import Derived.Test.YtjpklbkeofjppaaGrpB
import Derived.Test.YtjpklbkeofjppaaRedD
import Derived.Test.YtjpklbkeofjppaaSameC
import Derived.BigQuiet
namespace Go.Proofs.Ytjpklbkeofjppaa
open Go.RowKit

theorem grp_pos {L : List (Int × Int)} (h : Vm.arrB L = true) : 1 ≤ (Vm.vecs L).length := by
  obtain ⟨⟨h2, h7⟩, _⟩ := (Vm.arrB_iff L).1 h
  exact List.length_pos_of_mem (Vm.vec_mem' h7 (i := 0) (j := 1) (by omega) (by omega))
/-- What the law asks of one entry. -/
theorem entry_law {L : List (Int × Int)} (h : Vm.arrB L = true) {k : Nat} (hk : k < (Vm.grpL L).length) : ∃ g : Nat, (Vm.grpL L)[k]? = some (g : Int) ∧ g ≤ k ∧ (Vm.grpL L)[g]? = some (g : Int) ∧ Vm.rel ((Vm.vecs L).getD k (0, 0)) ((Vm.vecs L).getD g (0, 0)) = true := by
  have hl := grp_len h
  have hk2 : k < (Vm.vecs L).length := by omega
  obtain ⟨f1, f2⟩ := fst_self hk2
  refine ⟨_, grp_at h hk2, f1, ?_, f2⟩
  rw [grp_at h (by omega), Vm.fst_fst hk2]
theorem vecs_at {L : List (Int × Int)} {k : Nat} {x : Nat × Nat} (h : (Vm.basesL L.length)[k]? = some x) : (Vm.vecs L).getD k (0, 0) = Vm.vec L x := by
  rw [List.getD_eq_getElem?_getD, Vm.vecs_get h]; rfl
set_option maxRecDepth 100000 in
set_option maxHeartbeats 8000000 in
theorem law_groups (A : Option Addr) (n c : Nat) (bs : List Int) (w : World) (h : Rd w w.heap.size 1 A n c (cb bs)) (hx : ∀ x ∈ bs, 0 ≤ x ∧ x ≤ 255) :
    Calls Try.prog 10 #[.slice A n c] w fun e w' => e = .returned (.bool true) ∧ Below w.heap.size w w' := by
  have hm := h.most
  have hcap := h.cap
  have HX := Lib.hid hx
  clear hx
  by_cases hz0 : 1048576 < n
  · have hd0 : decide ((1048576 : Int) < (n : Int)) = true := by simp; omega
    clear hz0
    go_enter Try.func10, Try.ntmps10
    go_wp2
    go_ret
    exact ⟨rfl, b0 _⟩
  have hd0 : decide ((1048576 : Int) < (n : Int)) = false := by simp; omega
  go_enter Try.func10, Try.ntmps10
  go_wp2_with fail
  refine (DrawRedundantGroups_any _ _ _ bs _ h HX.out (by omega)).mono ?_
  rintro e w1 ⟨A1, m1, c1, L, rfl, hr, hB⟩
  have mL : m1 = L.length := by have := hr.len; rw [cp_length] at this; omega
  subst mL
  have hrcap := hr.cap
  have hrmost := hr.most
  go_wp2_with fail
  refine (RedundantGroups_any _ _ _ L _ hr).mono ?_
  rintro e w2 ⟨v2, rfl, ho2, hB2⟩
  obtain ⟨A2, c2, rfl⟩ := own_form ho2
  replace hr := hr.after hB2
  replace hB := bT hB hB2
  clear hB2
  have hx := Rd.of_own ho2
  clear ho2
  go_wp2_with fail
  refine (sRedundantGroups_any _ _ _ L _ hr).mono ?_
  rintro e w3 ⟨v3, rfl, ho3, hB3⟩
  obtain ⟨A3, c3, rfl⟩ := own_form ho3
  replace hr := hr.after hB3
  replace hx := hx.after hB3
  replace hB := bT hB hB3
  clear hB3
  have hy := Rd.of_own ho3
  clear ho3
  cases hok : Vm.arrB L
  ·
    have e1 := Vm.grpL_no hok
    rw [e1] at hx hy ⊢
    simp only [List.length_nil] at hx hy ⊢
    clear hok e1
    go_wp2_with fail
    with_reducible refine (sameInts_self _ _ _ _ _ _ _ _ hx hy).mono ?_
    rintro e w4 ⟨rfl, hB4⟩
    replace hr := hr.after hB4
    replace hx := hx.after hB4
    replace hy := hy.after hB4
    replace hB := bT hB hB4
    clear hB4
    go_wp2_with fail
    with_reducible refine (sameInts_self _ _ _ _ _ _ _ _ hx hy).mono ?_
    rintro e w5 ⟨rfl, hB5⟩
    replace hr := hr.after hB5
    replace hx := hx.after hB5
    replace hy := hy.after hB5
    replace hB := bT hB hB5
    clear hB5
    go_wp2_with fail
    go_ret
    exact ⟨rfl, hB⟩
  ·
    obtain ⟨⟨N2, N7⟩, -, -⟩ := (Vm.arrB_iff L).1 hok
    have HK := Lib.hid hok
    have hgl := grp_len hok
    obtain ⟨v1, v2, v3⟩ := vecs_21 hok
    have hpos := grp_pos hok
    have hM : (Vm.grpL L).length = L.length * (L.length - 1) / 2 := by rw [hgl, v2]
    rw [← hgl] at v1 v3 hpos
    have HE := Lib.hid (fun k (hk : k < (Vm.grpL L).length) => entry_law hok hk)
    clear hok v2 hgl
    obtain ⟨G, hG⟩ : ∃ G, Vm.grpL L = G := ⟨_, rfl⟩
    rw [hG] at hx hy v1 v3 hpos hM HE ⊢
    have HM := Lib.hid hM
    have V3 := Lib.hid v3
    clear hG v3 hM
    have hgcap := hx.cap
    have hgmost := hx.most
    have hl0 : (((G.length : Nat) : Int) == 0) = false := by rw [beq_eq_false_iff_ne]; omega
    have heq := run_eql_Ant
    go_wp2_with fail
    with_reducible refine (sameInts_self _ _ _ _ _ _ _ _ hx hy).mono ?_
    rintro e w4 ⟨rfl, hB4⟩
    replace hr := hr.after hB4
    replace hx := hx.after hB4
    replace hy := hy.after hB4
    replace hB := bT hB hB4
    clear hB4
    clear hy
    go_wp2_with fail
    go_loopw [7] (fun i wr => ∃ k : Nat, k ≤ G.length ∧ i = .int .i64 k ∧ Below w4.heap.size w4 wr) (fun i _ => G.length - (intOf i).toNat)
    case atStart => exact ⟨0, Nat.zero_le _, rfl, b0 _⟩
    case round =>
      obtain ⟨k, hk, rfl, hW⟩ := hrel
      replace hr := hr.after hW
      replace hx := hx.after hW
      replace hB := bT hB hW
      have HW := Lib.hid hW
      clear hW
      by_cases hlt : k < G.length
      ·
        obtain ⟨g, eg1, eg2, eg3, eg4⟩ := HE.out k hlt
        have hgl : g < G.length := by omega
        have hk1 : (k : Int) < (G.length : Int) := by omega
        have hg1 : (g : Int) < (G.length : Int) := by omega
        obtain ⟨b, off, rfl, hb, hc⟩ := hx.int_at hlt
        obtain ⟨b2, off2, eA, hb2, hd⟩ := hx.int_at hgl
        obtain ⟨rfl, rfl⟩ : b = b2 ∧ off = off2 := by simpa using eA
        rw [show G[k] = (g : Int) by rw [List.getElem?_eq_getElem hlt] at eg1; simpa using eg1] at hc
        rw [show G[g] = (g : Int) by rw [List.getElem?_eq_getElem hgl] at eg3; simpa using eg3] at hd
        have HR := Lib.hid eg4
        clear eg1 eg3 eg4 eA
        have hx0 := hx
        have HC := Lib.hid hc
        have HD := Lib.hid hd
        have hB0 := hB
        have hBr := b0 wr
        clear hx hB
        go_wp2_with fail
        refine (BasePair_at L.length k _ N2 N7 (by rw [← HM.out]; exact hlt)).mono ?_
        rintro e w5 ⟨i, j, hij, rfl, hB5⟩
        replace hr := hr.after hB5
        replace hBr := bT hBr hB5
        clear hB5
        obtain ⟨m1, m2⟩ := bases_mem2 (List.mem_of_getElem? hij)
        have HU := Lib.hid (vecs_at hij)
        clear hij
        have hc9 := (hBr.cell (p := ⟨b, off + k, none⟩) hb).trans HC.out
        go_wp2_with fail
        refine (BasePair_at L.length g _ N2 N7 (by rw [← HM.out]; exact hgl)).mono ?_
        rintro e w6 ⟨i2, j2, hij2, rfl, hB6⟩
        replace hr := hr.after hB6
        replace hBr := bT hBr hB6
        clear hB6
        obtain ⟨q1, q2⟩ := bases_mem2 (List.mem_of_getElem? hij2)
        have HV := Lib.hid (vecs_at hij2)
        clear hij2 hc9
        go_wp2_with fail
        refine (BaseVector_ok _ _ _ L i j _ hr HK.out (by omega) m2).mono ?_
        rintro e w7 ⟨rfl, hB7⟩
        replace hr := hr.after hB7
        replace hBr := bT hBr hB7
        clear hB7
        have bu := Vm.vec_bd HK.out (x := (i, j)) (by show i < _; omega) m2
        rw [← HU.out] at bu ⊢
        obtain ⟨u, hu⟩ : ∃ u, (Vm.vecs L).getD k (0, 0) = u := ⟨_, rfl⟩
        rw [hu] at bu HR ⊢
        obtain ⟨ua, ub⟩ := u
        clear hu
        unfold gv
        have hX : Bx (w7.alloc (.cells #[.int .i64 ua, .int .i64 ub] 38)) w7.heap.size #[.int .i64 ua, .int .i64 ub] 38 := Bx.new w7 _ _ _ rfl
        replace hr := hr.after (bA (b0 w7) (.cells #[.int .i64 ua, .int .i64 ub] 38))
        replace hBr := bA hBr (.cells #[.int .i64 ua, .int .i64 ub] 38)
        go_wp2_with fail
        refine (BaseVector_ok _ _ _ L i2 j2 _ hr HK.out (by omega) q2).mono ?_
        rintro e w8 ⟨rfl, hB8⟩
        replace hX := hX.after hB8; replace hr := hr.after hB8
        replace hBr := bT hBr hB8
        clear hB8
        have bv := Vm.vec_bd HK.out (x := (i2, j2)) (by show i2 < _; omega) q2
        rw [← HV.out] at bv ⊢
        obtain ⟨v, hv⟩ : ∃ v, (Vm.vecs L).getD g (0, 0) = v := ⟨_, rfl⟩
        rw [hv] at bv HR ⊢
        obtain ⟨va, vb⟩ := v
        clear hv
        unfold gv
        have hY : Bx (w8.alloc (.cells #[.int .i64 va, .int .i64 vb] 38)) w8.heap.size #[.int .i64 va, .int .i64 vb] 38 := Bx.new w8 _ _ _ rfl
        replace hX := hX.after (bA (b0 w8) (.cells #[.int .i64 va, .int .i64 vb] 38))
        replace hr := hr.after (bA (b0 w8) (.cells #[.int .i64 va, .int .i64 vb] 38))
        replace hBr := bA hBr (.cells #[.int .i64 va, .int .i64 vb] 38)
        have x0 := hX.cell 0
        have x1 := hX.cell 1
        have y0 := hY.cell 0
        have y1 := hY.cell 1
        simp only [List.getElem?_toArray, List.getElem?_cons_zero, List.getElem?_cons_succ] at x0 x1 y0 y1
        have hc9 := (hBr.cell (p := ⟨b, off + k, none⟩) hb).trans HC.out
        have hd9 := (hBr.cell (p := ⟨b, off + g, none⟩) hb2).trans HD.out
        simp only at bu bv
        have hwa : IntKind.i64.wrap (0 - va) = 0 - va := IntWalk.i64_in _ (by omega)
        have hwb : IntKind.i64.wrap (0 - vb) = 0 - vb := IntWalk.i64_in _ (by omega)
        have hgk : decide ((k : Int) < (g : Int)) = false := by simp; omega
        have hg0 : (0 : Int) ≤ (g : Int) := by omega
        have hk0 : (0 : Int) ≤ (k : Int) := by omega
        have hrel := HR.out
        clear hX hY
        by_cases huv : ua = va ∧ ub = vb
        ·
          obtain ⟨rfl, rfl⟩ := huv
          have hpe : peq ua ub ua ub = true := by simp [peq]
          clear hrel
          go_wp2_with fail
          go_quiet (fail)
          go_wp2_with fail
          go_roundw
          case rel => exact ⟨k + 1, by omega, by go_num, bT HW.out (bD hBr _)⟩
          case measure => simp [intOf]; omega
        ·
          have hpe : peq ua ub va vb = false := by simp only [peq]; simp; omega
          have hn : ua = 0 - va ∧ ub = 0 - vb := by
            rcases (Vm.rel_iff _ _).1 hrel with e | e
            · injection e with e1 e2; exact absurd ⟨e1.symm, e2.symm⟩ huv
            · simp only [Vm.neg, Prod.mk.injEq] at e; omega
          obtain ⟨n1, n2⟩ := hn
          have n3 : (ua == -va) = true := by rw [beq_iff_eq]; omega
          have n4 : (ub == -vb) = true := by rw [beq_iff_eq]; omega
          clear hrel huv n1 n2
          go_wp2_with fail
          go_quiet (fail)
          go_wp2_with fail
          go_roundw
          case rel => exact ⟨k + 1, by omega, by go_num, bT HW.out (bD hBr _)⟩
          case measure => simp [intOf]; omega
      ·
        obtain rfl : k = G.length := by omega
        go_wp2_with (go_at_call 24; refine (BaseMany_any _ _).mono ?_; rintro e w' ⟨rfl, rfl⟩; rw [V3.out])
        go_ret
        exact ⟨rfl, hB⟩

end Go.Proofs.Ytjpklbkeofjppaa
