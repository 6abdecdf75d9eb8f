/- Contracts: regular arrays that are drawn. Written by drawtgen.py. -/
import Derived.Test.YtjpklbkeofjppaaDrawQ
namespace Go.Proofs.Ytjpklbkeofjppaa
open Go.RowKit

theorem KO.lower {b b' : Nat} {w : World} {size n c : Nat} {A : Option Addr} {xs : List Value} (h : KO b w size A n c xs) (hb : b' ≤ b) : KO b' w size A n c xs := fun w2 hs hk => h w2 hs (fun k h1 h2 => hk k (Nat.le_trans hb h1) h2)
theorem DRow.base' {w w1 wr : World} {R B N : Nat} {T : TypeId} {size : Nat} {v : Value} {n : Nat} {xs : List Value} (h : DRow w1 R B N T size v n xs wr) (hg : w.grownBy w1 (some R)) (hR : R < w.heap.size) : DRow w R B N T size v n xs wr :=
  ⟨own_less h.own hg.size, h.rdr, hg.trans h.grown, hR⟩
/-- A product of small numbers is small. -/
theorem mul12 {x : Int} {k : Nat} (h1 : 0 ≤ x) (h2 : x ≤ 3) (hk : k ≤ 4) : 0 ≤ x * (k : Int) ∧ x * (k : Int) ≤ 12 := by
  have hx : x = 0 ∨ x = 1 ∨ x = 2 ∨ x = 3 := by omega
  rcases hx with rfl | rfl | rfl | rfl <;> omega
def regRel (w : World) (R B N : Nat) (n : Int) (v i : Value) (wr : World) : Prop := ∃ (k : Nat) (L : List (Int × Int)), (k : Int) ≤ n ∧ L.length = k ∧ i = .int .i64 k ∧ DRow w R B N 38 2 v L.length (cp L) wr
set_option maxRecDepth 100000 in
set_option maxHeartbeats 8000000 in
theorem l92Regular_any (R B N : Nat) (w : World) (h : Rdr w R B N) (hN : N ≤ 900) : Calls Try.prog 46 #[.pointer (some ⟨R, 0, none⟩)] w (ArrPost R B (N + 60) w) := by
  obtain ⟨i0, hi, hz0, hz1, hz2⟩ := info_parts infoAnt
  have hR := h.lt
  go_enter Try.func46, Try.ntmps46
  go_wp2_with fail
  refine (pick_any R B N 3 _ h (by omega) (by omega) (by omega)).mono ?_
  rintro e w0 ⟨f, rfl, f1, f2, hr0, hg0⟩
  have hs0 := hg0.size
  by_cases hf : f = 0
  · subst hf
    go_wp2_with fail
    refine (l91Array_any R B (N + 1) _ hr0 (by omega)).mono ?_
    rintro e w1 ⟨A1, n1, c1, L1, rfl, hKO, hr1, hg1⟩
    have H : Hid (ArrPost R B (N + 60) w (.returned (.slice A1 n1 c1)) w1) := ⟨_, _, _, L1, rfl, hKO.lower hs0, hr1.mono (by omega), hg0.trans hg1⟩
    clear hKO hr1 hg1 hg0 hr0
    go_wp2_with fail
    go_ret
    exact H.out
  · have e0 : (f == 0) = false := by simp [hf]
    have hD0 := (DRow.lit0 hr0 38 2).base' hg0 hR
    clear hr0 hg0
    go_wp2_with fail
    refine (pick_any R B _ 3 _ hD0.rdr (by omega) (by omega) (by omega)).mono ?_
    rintro e w1 ⟨n, rfl, n1, n2, hr1, hg1⟩
    have hD1 := hD0.pick hr1 hg1
    clear hD0 hr1 hg1
    go_wp2_with fail
    refine (pick_any R B _ 3 _ hD1.rdr (by omega) (by omega) (by omega)).mono ?_
    rintro e w2 ⟨x, rfl, x1, x2, hr2, hg2⟩
    have hD2 := hD1.pick hr2 hg2
    clear hD1 hr2 hg2
    go_wp2_with fail
    refine (pick_any R B _ 3 _ hD2.rdr (by omega) (by omega) (by omega)).mono ?_
    rintro e w3 ⟨y, rfl, y1, y2, hr3, hg3⟩
    have hD3 := hD2.pick hr3 hg3
    clear hD2 hr3 hg3
    go_wp2_with fail
    go_loopw [3, 7] (fun v i wr => regRel w R B (N + 4) (2 + n) v i wr) (fun _ i _ => (2 + n).toNat - (intOf i).toNat)
    case atStart => exact ⟨0, [], by omega, rfl, rfl, hD3.mono (by omega)⟩
    case round =>
      clear hD3
      obtain ⟨_, L, hk, rfl, rfl, hD⟩ := hrel
      obtain ⟨A1, c1, rfl⟩ := own_form hD.own
      by_cases hlt : (L.length : Int) < 2 + n
      · obtain ⟨p1, p2⟩ := mul12 (x := 1 + x) (k := L.length) (by omega) (by omega) (by omega)
        obtain ⟨q1, q2⟩ := mul12 (x := y) (k := L.length) (by omega) (by omega) (by omega)
        obtain ⟨pa, hpa⟩ : ∃ z, (1 + x) * (L.length : Int) = z := ⟨_, rfl⟩
        obtain ⟨pb, hpb⟩ : ∃ z, y * (L.length : Int) = z := ⟨_, rfl⟩
        rw [hpa] at p1 p2
        rw [hpb] at q1 q2
        have hD7 := hD.alloc (.cells #[.int .i64 pa, .int .i64 pb] 38)
        have hsz := hD.grown.size
        have hLk : L.length ≤ 21 := by omega
        have HC := Lib.hid (cp_snoc L pa pb)
        clear hD
        go_wp2_with (at_builtin; refine wpList_append_own _ rfl _ _ 25 rfl w.heap.size 38 i0 _ 2 16 Try.underlying25 hi hz0 hz1 hz2 rfl (by decide) _ _ _ rfl hD7.own ⟨wr.heap.size, 0, none⟩ 1 1 [.int .i64 pa, .int .i64 pb] rfl rfl (new_cells _ _ _) ?c2 ?c3 ?c4 ?c5 ?_)
        case c2 => intro u hu; simp at hu; rcases hu with rfl | rfl <;> rfl
        case c3 => unfold maxLen; omega
        case c4 => omega
        case c5 => simp; omega
        intro v' w7 hown' hgrow _
        have hD8 := hD7.app hown' hgrow
        rw [← HC.out] at hD8
        clear hown' hgrow hD7
        go_wp2_with fail
        go_roundw
        case rel => exact ⟨L.length + 1, L ++ [(pa, pb)], by omega, by simp, by go_num, by simpa using hD8⟩
        case measure => simp [intOf]; omega
      · have hLlo : 2 ≤ L.length := by omega
        have hLhi : L.length ≤ 4 := by omega
        go_wp2_with fail
        refine (pick_any R B _ 2 _ hD.rdr (by omega) (by omega) (by omega)).mono ?_
        rintro e w9 ⟨z, rfl, z1, z2, hr9, hg9⟩
        have hD9 := hD.pick hr9 hg9
        clear hD hr9 hg9
        by_cases hz : z = 0
        · subst hz
          have hD7 := hD9.alloc (.cells #[.int .i64 (-3), .int .i64 7] 38)
          have hsz := hD9.grown.size
          clear hD9
          go_wp2_with (at_builtin; refine wpList_append_own _ rfl _ _ 25 rfl w.heap.size 38 i0 _ 2 16 Try.underlying25 hi hz0 hz1 hz2 rfl (by decide) _ _ _ rfl hD7.own ⟨w9.heap.size, 0, none⟩ 1 1 [.int .i64 (-3), .int .i64 7] rfl rfl (new_cells _ _ _) ?c2 ?c3 ?c4 ?c5 ?_)
          case c2 => intro u hu; simp at hu; rcases hu with rfl | rfl <;> rfl
          case c3 => unfold maxLen; omega
          case c4 => omega
          case c5 => simp; omega
          intro v' w10 hown' hgrow _
          have hD8 := hD7.app hown' hgrow
          rw [← cp_snoc L (-3) 7] at hD8
          clear hown' hgrow hD7
          obtain ⟨M, hM⟩ : ∃ M, L ++ [((-3 : Int), (7 : Int))] = M := ⟨_, rfl⟩
          have hMl : M.length = L.length + 1 := by rw [← hM]; simp
          have hT : DRow w R B (N + 5) 38 2 v' M.length (cp M) w10 := by rw [← hM]; simpa using hD8
          clear hD8
          have hMlo : 2 ≤ M.length := by omega
          have hMhi : M.length ≤ 5 := by omega
          clear hM hMl hLlo hLhi hlt hk
          go_wp2_with fail
          obtain ⟨g, cg, rfl⟩ := hT.form (by omega)
          obtain ⟨hcap, hmost⟩ := hT.capN
          refine (pick_any R B _ 3 _ hT.rdr (by omega) (by omega) (by omega)).mono ?_
          rintro e w20 ⟨s, rfl, s1, s2, hr20, hg20⟩
          have hDe := hT.pick hr20 hg20
          clear hT hr20 hg20
          by_cases hs : s = 0
          · subst hs
            obtain ⟨p0, hp0⟩ : ∃ p, M[0]'(by omega) = p := ⟨_, rfl⟩
            obtain ⟨p1, hp1⟩ : ∃ p, M[1]'(by omega) = p := ⟨_, rfl⟩
            obtain ⟨a1, a2, fa1, fa2⟩ := hDe.cellP 0 (by omega)
            obtain ⟨b1, b2, fb1, fb2⟩ := hDe.cellP 1 (by omega)
            simp only [Nat.zero_mul, Nat.zero_add, Nat.one_mul] at a1 a2 fa1 fa2 b1 b2 fb1 fb2
            rw [hp0] at a1 a2
            rw [hp1] at b1 b2
            have hl0 : (0 : Int) < (M.length : Int) := by omega
            have hl1 : (1 : Int) < (M.length : Int) := by omega
            have hne : g ≠ w20.heap.size := by have := World.block_lt_of_cell? _ _ a1; simp only at this; omega
            obtain ⟨W, hW⟩ : ∃ W, w20.alloc (.cells #[.int .i64 p0.1, .int .i64 p0.2] 38) = W := ⟨_, rfl⟩
            have hDa := hDe.alloc (.cells #[.int .i64 p0.1, .int .i64 p0.2] 38)
            obtain ⟨L1, hL1, hD1⟩ := hDa.setP 0 p1.1
            rw [← hL1] at hD1
            obtain ⟨L2, hL2, hD2⟩ := hD1.setP 1 p1.2
            rw [← hL2] at hD2
            obtain ⟨L3, hL3, hD3⟩ := hD2.setP 2 p0.1
            rw [← hL3] at hD3
            obtain ⟨L4, hL4, hD4⟩ := hD3.setP 3 p0.2
            have e4 : L3.length = M.length := by omega
            rw [e4] at hD4
            have H : Hid (ArrPost R B (N + 60) w (.returned (.slice (some ⟨g, 0, none⟩) M.length cg)) (((((w20.alloc (.cells #[.int .i64 p0.1, .int .i64 p0.2] 38)).setCell ⟨g, 0, none⟩ (.int .i64 p1.1)).setCell ⟨g, 1, none⟩ (.int .i64 p1.2)).setCell ⟨g, 2, none⟩ (.int .i64 p0.1)).setCell ⟨g, 3, none⟩ (.int .i64 p0.2))) := ⟨_, _, _, L4, rfl, KO.of_own hD4.own, hD4.rdr.mono (by omega), hD4.grown⟩
            obtain ⟨a3, a4, fa3, fa4⟩ := hDa.cellP 0 (by omega)
            obtain ⟨b3, b4, fb3, fb4⟩ := hDa.cellP 1 (by omega)
            simp only [Nat.zero_mul, Nat.zero_add, Nat.one_mul] at a3 a4 fa3 fa4 b3 b4 fb3 fb4
            rw [hp0] at a3 a4
            rw [hp1] at b3 b4
            have k0 : (((w20.alloc (.cells #[.int .i64 p0.1, .int .i64 p0.2] 38)).setCell ⟨g, 0, none⟩ (.int .i64 p1.1)).setCell ⟨g, 1, none⟩ (.int .i64 p1.2)).cell? ⟨w20.heap.size, 0, none⟩ = some (.int .i64 p0.1) :=
              (World.cell?_setCell_other _ _ _ _ (fun e => by injection e with e; exact hne e)).trans ((World.cell?_setCell_other _ _ _ _ (fun e => by injection e with e; exact hne e)).trans (by simp [go_sem]))
            have k1 : (((w20.alloc (.cells #[.int .i64 p0.1, .int .i64 p0.2] 38)).setCell ⟨g, 0, none⟩ (.int .i64 p1.1)).setCell ⟨g, 1, none⟩ (.int .i64 p1.2)).cell? ⟨w20.heap.size, 1, none⟩ = some (.int .i64 p0.2) :=
              (World.cell?_setCell_other _ _ _ _ (fun e => by injection e with e; exact hne e)).trans ((World.cell?_setCell_other _ _ _ _ (fun e => by injection e with e; exact hne e)).trans (by simp [go_sem]))
            have k2 := hD2.own.frozenAt 2
            have k3 := hD2.own.frozenAt 3
            clear hDe hDa hD1 hD2 hD3 hD4 hL1 hL2 hL3 hL4 e4 hp0 hp1 hW W
            go_wp2_with fail
            go_ret
            exact H.out
          · have es : (s == 0) = false := by simp [hs]
            clear hs
            have H : Hid (ArrPost R B (N + 60) w (.returned (.slice (some ⟨g, 0, none⟩) M.length cg)) w20) := ⟨_, _, _, M, rfl, KO.of_own hDe.own, hDe.rdr.mono (by omega), hDe.grown⟩
            clear hDe
            go_wp2_with fail
            go_ret
            exact H.out
        · have e9 : (z == 0) = false := by simp [hz]
          have hLhi5 : L.length ≤ 5 := by omega
          clear hlt hk
          go_wp2_with fail
          obtain ⟨g, cg, eg⟩ := hD9.form (by omega)
          simp only [Value.slice.injEq, true_and] at eg
          obtain ⟨rfl, rfl⟩ := eg
          obtain ⟨hcap, hmost⟩ := hD9.capN
          refine (pick_any R B _ 3 _ hD9.rdr (by omega) (by omega) (by omega)).mono ?_
          rintro e w20 ⟨s, rfl, s1, s2, hr20, hg20⟩
          have hDe := hD9.pick hr20 hg20
          clear hD9 hr20 hg20
          by_cases hs : s = 0
          · subst hs
            obtain ⟨p0, hp0⟩ : ∃ p, L[0]'(by omega) = p := ⟨_, rfl⟩
            obtain ⟨p1, hp1⟩ : ∃ p, L[1]'(by omega) = p := ⟨_, rfl⟩
            obtain ⟨a1, a2, fa1, fa2⟩ := hDe.cellP 0 (by omega)
            obtain ⟨b1, b2, fb1, fb2⟩ := hDe.cellP 1 (by omega)
            simp only [Nat.zero_mul, Nat.zero_add, Nat.one_mul] at a1 a2 fa1 fa2 b1 b2 fb1 fb2
            rw [hp0] at a1 a2
            rw [hp1] at b1 b2
            have hl0 : (0 : Int) < (L.length : Int) := by omega
            have hl1 : (1 : Int) < (L.length : Int) := by omega
            have hne : g ≠ w20.heap.size := by have := World.block_lt_of_cell? _ _ a1; simp only at this; omega
            obtain ⟨W, hW⟩ : ∃ W, w20.alloc (.cells #[.int .i64 p0.1, .int .i64 p0.2] 38) = W := ⟨_, rfl⟩
            have hDa := hDe.alloc (.cells #[.int .i64 p0.1, .int .i64 p0.2] 38)
            obtain ⟨L1, hL1, hD1⟩ := hDa.setP 0 p1.1
            rw [← hL1] at hD1
            obtain ⟨L2, hL2, hD2⟩ := hD1.setP 1 p1.2
            rw [← hL2] at hD2
            obtain ⟨L3, hL3, hD3⟩ := hD2.setP 2 p0.1
            rw [← hL3] at hD3
            obtain ⟨L4, hL4, hD4⟩ := hD3.setP 3 p0.2
            have e4 : L3.length = L.length := by omega
            rw [e4] at hD4
            have H : Hid (ArrPost R B (N + 60) w (.returned (.slice (some ⟨g, 0, none⟩) L.length c1)) (((((w20.alloc (.cells #[.int .i64 p0.1, .int .i64 p0.2] 38)).setCell ⟨g, 0, none⟩ (.int .i64 p1.1)).setCell ⟨g, 1, none⟩ (.int .i64 p1.2)).setCell ⟨g, 2, none⟩ (.int .i64 p0.1)).setCell ⟨g, 3, none⟩ (.int .i64 p0.2))) := ⟨_, _, _, L4, rfl, KO.of_own hD4.own, hD4.rdr.mono (by omega), hD4.grown⟩
            obtain ⟨a3, a4, fa3, fa4⟩ := hDa.cellP 0 (by omega)
            obtain ⟨b3, b4, fb3, fb4⟩ := hDa.cellP 1 (by omega)
            simp only [Nat.zero_mul, Nat.zero_add, Nat.one_mul] at a3 a4 fa3 fa4 b3 b4 fb3 fb4
            rw [hp0] at a3 a4
            rw [hp1] at b3 b4
            have k0 : (((w20.alloc (.cells #[.int .i64 p0.1, .int .i64 p0.2] 38)).setCell ⟨g, 0, none⟩ (.int .i64 p1.1)).setCell ⟨g, 1, none⟩ (.int .i64 p1.2)).cell? ⟨w20.heap.size, 0, none⟩ = some (.int .i64 p0.1) :=
              (World.cell?_setCell_other _ _ _ _ (fun e => by injection e with e; exact hne e)).trans ((World.cell?_setCell_other _ _ _ _ (fun e => by injection e with e; exact hne e)).trans (by simp [go_sem]))
            have k1 : (((w20.alloc (.cells #[.int .i64 p0.1, .int .i64 p0.2] 38)).setCell ⟨g, 0, none⟩ (.int .i64 p1.1)).setCell ⟨g, 1, none⟩ (.int .i64 p1.2)).cell? ⟨w20.heap.size, 1, none⟩ = some (.int .i64 p0.2) :=
              (World.cell?_setCell_other _ _ _ _ (fun e => by injection e with e; exact hne e)).trans ((World.cell?_setCell_other _ _ _ _ (fun e => by injection e with e; exact hne e)).trans (by simp [go_sem]))
            have k2 := hD2.own.frozenAt 2
            have k3 := hD2.own.frozenAt 3
            clear hDe hDa hD1 hD2 hD3 hD4 hL1 hL2 hL3 hL4 e4 hp0 hp1 hW W
            go_wp2_with fail
            go_ret
            exact H.out
          · have es : (s == 0) = false := by simp [hs]
            clear hs
            have H : Hid (ArrPost R B (N + 60) w (.returned (.slice (some ⟨g, 0, none⟩) L.length c1)) w20) := ⟨_, _, _, L, rfl, KO.of_own hDe.own, hDe.rdr.mono (by omega), hDe.grown⟩
            clear hDe
            go_wp2_with fail
            go_ret
            exact H.out
/-- An array is drawn. -/
def AntDrawn (w : World) (e : Ending) (w' : World) : Prop := ∃ (A : Option Addr) (m c : Nat) (L : List (Int × Int)), e = .returned (.slice A m c) ∧ Rd w' w'.heap.size 2 A m c (cp L) ∧ Below w.heap.size w w'
theorem DrawRedundantMany_any (A : Option Addr) (n c : Nat) (bs : List Int) (w : World) (h : Rd w w.heap.size 1 A n c (cb bs)) (hx : ∀ x ∈ bs, 0 ≤ x ∧ x ≤ 255) (hn : n ≤ 1048576) : Calls Try.prog 23 #[.slice A n c] w (AntDrawn w) := by
  have HX := Lib.hid hx
  clear hx
  go_enter Try.func23, Try.ntmps23
  go_wp2_with fail
  refine (l6Open_any _ _ _ bs _ h HX.out hn).mono ?_
  rintro e w1 ⟨rfl, hr, hb⟩
  have hRlt := hr.lt
  go_wp2_with fail
  refine (l92Regular_any _ _ _ _ hr (by omega)).mono ?_
  rintro e w2 ⟨A2, m2, c2, L, rfl, hKO, hr2, hg2⟩
  have H : Hid (AntDrawn w (.returned (.slice A2 m2 c2)) w2) := ⟨_, _, _, L, rfl, hKO.rd, below_of_g hb hg2 (Nat.le_refl _)⟩
  clear hKO hr2 hg2 hr hb
  go_wp2_with fail
  go_ret
  exact H.out
theorem DrawRedundantGroups_any (A : Option Addr) (n c : Nat) (bs : List Int) (w : World) (h : Rd w w.heap.size 1 A n c (cb bs)) (hx : ∀ x ∈ bs, 0 ≤ x ∧ x ≤ 255) (hn : n ≤ 1048576) : Calls Try.prog 25 #[.slice A n c] w (AntDrawn w) := by
  have HX := Lib.hid hx
  clear hx
  go_enter Try.func25, Try.ntmps25
  go_wp2_with fail
  refine (l6Open_any _ _ _ bs _ h HX.out hn).mono ?_
  rintro e w1 ⟨rfl, hr, hb⟩
  have hRlt := hr.lt
  go_wp2_with fail
  refine (l92Regular_any _ _ _ _ hr (by omega)).mono ?_
  rintro e w2 ⟨A2, m2, c2, L, rfl, hKO, hr2, hg2⟩
  have H : Hid (AntDrawn w (.returned (.slice A2 m2 c2)) w2) := ⟨_, _, _, L, rfl, hKO.rd, below_of_g hb hg2 (Nat.le_refl _)⟩
  clear hKO hr2 hg2 hr hb
  go_wp2_with fail
  go_ret
  exact H.out
end Go.Proofs.Ytjpklbkeofjppaa
