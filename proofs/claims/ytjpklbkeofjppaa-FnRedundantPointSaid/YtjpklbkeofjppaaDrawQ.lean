/- Contracts: arrays that are drawn from a code. Written by drawp2gen.py. -/
import Derived.Test.YtjpklbkeofjppaaDrawP
namespace Go.Proofs.Ytjpklbkeofjppaa
open Go.RowKit

theorem own_farP {w w' : World} {base : Nat} {e : TypeId} {size n : Nat} {v : Value} {xs : List Value} (h : w.ownsRow base e size v n xs) (hk : ∀ k, base ≤ k → k < w.heap.size → w'.heap[k]? = w.heap[k]?) : w'.ownsRow base e size v n xs := by
  obtain ⟨h1, h2⟩ := h
  refine ⟨h1, ?_⟩
  rcases h2 with h2 | ⟨g, cap, cur, hv, hg, hh, r⟩
  · exact .inl h2
  · exact .inr ⟨g, cap, cur, hv, hg, (hk g hg (lt_of_block hh)).trans hh, r⟩
/-- A slice that lies at or above block 'base': whatever is done below is not seen. -/
def KO (base : Nat) (w : World) (size : Nat) (A : Option Addr) (n c : Nat) (xs : List Value) : Prop := ∀ w', w.heap.size ≤ w'.heap.size → (∀ k, base ≤ k → k < w.heap.size → w'.heap[k]? = w.heap[k]?) → Rd w' w'.heap.size size A n c xs
section
variable {base : Nat} {w w' : World} {size n c : Nat} {A : Option Addr} {xs : List Value}
theorem KO.of_own {e : TypeId} (h : w.ownsRow base e size (.slice A n c) n xs) : KO base w size A n c xs := fun _ _ hk => Rd.of_own (own_farP h hk)
theorem KO.next (h : KO base w size A n c xs) (hs : w.heap.size ≤ w'.heap.size) (hk : ∀ k, base ≤ k → k < w.heap.size → w'.heap[k]? = w.heap[k]?) : KO base w' size A n c xs := fun w2 hs2 hk2 => h w2 (Nat.le_trans hs hs2) (fun k h1 h2 => (hk2 k h1 (Nat.lt_of_lt_of_le h2 hs)).trans (hk k h1 h2))
theorem KO.g {R : Nat} (h : KO base w size A n c xs) (hg : w.grownBy w' (some R)) (hR : R < base) : KO base w' size A n c xs := h.next hg.size (fun k h1 h2 => hg.block k h2 (fun e => by injection e; omega))
theorem KO.below (h : KO base w size A n c xs) (hb : Below w.heap.size w w') : KO base w' size A n c xs := h.next hb.size (fun k _ h2 => hb.block k h2)
theorem KO.set (h : KO base w size A n c xs) (p : Addr) (hp : p.block < base) (u : Value) : KO base (w.setCell p u) size A n c xs := h.next (by simp) (fun k h1 _ => heap_setCell_other w p k u (by omega))
theorem KO.rd (h : KO base w size A n c xs) : Rd w w.heap.size size A n c xs := h w (Nat.le_refl _) (fun _ _ _ => rfl)
end
def ArrPost (R B N : Nat) (w : World) (e : Ending) (w' : World) : Prop := ∃ (A : Option Addr) (n c : Nat) (L : List (Int × Int)), e = .returned (.slice A n c) ∧ KO w.heap.size w' 2 A n c (cp L) ∧ Rdr w' R B N ∧ w.grownBy w' (some R)
def arRel (w : World) (R B N : Nat) (o : Int) (v i : Value) (wr : World) : Prop := ∃ (k : Nat) (L : List (Int × Int)), (k : Int) ≤ 2 + o ∧ L.length ≤ k ∧ i = .int .i64 k ∧ DRow w R B (N + 2 * k) 38 2 v L.length (cp L) wr
set_option maxRecDepth 100000 in
set_option maxHeartbeats 8000000 in
theorem l91Array_any (R B N : Nat) (w : World) (h : Rdr w R B N) (hN : N ≤ 1000) : Calls Try.prog 53 #[.pointer (some ⟨R, 0, none⟩)] w (ArrPost R B (N + 40) w) := by
  obtain ⟨i0, hi, hz0, hz1, hz2⟩ := info_parts infoAnt
  have hR := h.lt
  have hD0 := DRow.lit0 h 38 2
  go_enter Try.func53, Try.ntmps53
  go_wp2_with fail
  refine (pick_any R B N 4 _ hD0.rdr (by omega) (by omega) (by omega)).mono ?_
  rintro e w1 ⟨o, rfl, o1, o2, hr1, hg1⟩
  have hD1 := (hD0.pick hr1 hg1).alloc (.cells #[.int .i64 1, .int .i64 1, .int .i64 7] 3)
  have hsz1 := hg1.size
  clear hD0 hr1 hg1
  go_wp2_with fail
  refine (pick_any R B (N + 1) 3 _ hD1.rdr (by omega) (by omega) (by omega)).mono ?_
  rintro e w2 ⟨m, rfl, m1, m2, hr2, hg2⟩
  have hD2 := hD1.pick hr2 hg2
  simp at hsz1
  obtain ⟨q, rfl⟩ := Vm.nat_of m1
  obtain ⟨s, hs, hcell⟩ : ∃ s : Int, (s = 1 ∨ s = 7) ∧ w2.cell? ⟨w1.heap.size, q, none⟩ = some (.int .i64 s) := by
    have hq : q = 0 ∨ q = 1 ∨ q = 2 := by omega
    rcases hq with rfl | rfl | rfl
    · exact ⟨1, .inl rfl, hg2.cell (by simp [go_sem]) (fun e => by injection e with e; simp at e; omega)⟩
    · exact ⟨1, .inl rfl, hg2.cell (by simp [go_sem]) (fun e => by injection e with e; simp at e; omega)⟩
    · exact ⟨7, .inr rfl, hg2.cell (by simp [go_sem]) (fun e => by injection e with e; simp at e; omega)⟩
  clear hD1 hr2 hg2
  go_wp2_with fail
  clear hcell
  go_loopw [3, 6] (fun v i wr => arRel w R B (N + 2) o v i wr) (fun _ i _ => (2 + o).toNat - (intOf i).toNat)
  case atStart => exact ⟨0, [], by omega, Nat.le_refl _, rfl, hD2⟩
  case round =>
    clear hD2
    obtain ⟨k, L, hk, hL, rfl, hD⟩ := hrel
    obtain ⟨A1, c1, rfl⟩ := own_form hD.own
    by_cases hlt : (k : Int) < 2 + o
    · go_wp2_with fail
      refine (pick_any R B _ 6 _ hD.rdr (by omega) (by omega) (by omega)).mono ?_
      rintro e w3 ⟨x, rfl, x1, x2, hr3, hg3⟩
      have hD3 := hD.pick hr3 hg3
      have xb : -100 ≤ s * (x - 2) ∧ s * (x - 2) ≤ 100 := by rcases hs with rfl | rfl <;> omega
      obtain ⟨xb1, xb2⟩ := xb
      clear hD hr3 hg3
      go_wp2_with fail
      refine (pick_any R B _ 4 _ hD3.rdr (by omega) (by omega) (by omega)).mono ?_
      rintro e w4 ⟨y, rfl, y1, y2, hr4, hg4⟩
      have hD4 := hD3.pick hr4 hg4
      have yb : -100 ≤ s * (y - 1) ∧ s * (y - 1) ≤ 100 := by rcases hs with rfl | rfl <;> omega
      obtain ⟨yb1, yb2⟩ := yb
      clear hD3 hr4 hg4
      have hD5 := hD4.alloc (.cells #[.int .i64 (s * (x - 2)), .int .i64 (s * (y - 1))] 38)
      have hx5 : Bx (w4.alloc (.cells #[.int .i64 (s * (x - 2)), .int .i64 (s * (y - 1))] 38)) w4.heap.size #[.int .i64 (s * (x - 2)), .int .i64 (s * (y - 1))] 38 := Bx.new w4 _ _ _ rfl
      clear hD4
      go_wp2_with fail
      refine (l91Has_any _ _ _ L (s * (x - 2), s * (y - 1)) _ (Rd.of_own hD5.own)).mono ?_
      rintro e w6 ⟨b, rfl, hb6⟩
      have hD6 := hD5.afterP hb6
      have hx6 := hx5.after hb6
      have q0 := hx6.cell 0
      have q1 := hx6.cell 1
      simp only [List.getElem?_toArray, List.getElem?_cons_zero, List.getElem?_cons_succ] at q0 q1
      clear hD5 hx5 hb6 hx6
      obtain ⟨pa, hpa⟩ : ∃ z, s * (x - 2) = z := ⟨_, rfl⟩
      obtain ⟨pb, hpb⟩ : ∃ z, s * (y - 1) = z := ⟨_, rfl⟩
      rw [hpa] at q0 ⊢
      rw [hpb] at q1 ⊢
      clear hpa hpb xb1 xb2 yb1 yb2
      cases b
      · have hD7 := hD6.alloc (.cells #[.int .i64 pa, .int .i64 pb] 38)
        have hsz := hD6.grown.size
        have hLk : L.length ≤ 21 := by omega
        have HC := Lib.hid (cp_snoc L pa pb)
        clear hD6
        go_wp2_with (at_builtin; refine wpList_append_own _ rfl _ _ 25 rfl w.heap.size 38 i0 _ 2 16 Try.underlying25 hi hz0 hz1 hz2 rfl (by decide) _ _ _ rfl hD7.own ⟨w6.heap.size, 0, none⟩ 1 1 [.int .i64 pa, .int .i64 pb] rfl rfl (new_cells _ _ _) ?c2 ?c3 ?c4 ?c5 ?_)
        case c2 => intro u hu; simp at hu; rcases hu with rfl | rfl <;> rfl
        case c3 => unfold maxLen; omega
        case c4 => omega
        case c5 => simp; omega
        intro v' w7 hown' hgrow _
        have hD8 := hD7.app hown' hgrow
        rw [← HC.out] at hD8
        clear hown' hgrow hD7 q0 q1
        go_wp2_with fail
        go_roundw
        case rel => exact ⟨k + 1, L ++ [(pa, pb)], by omega, by simp; omega, by go_num, by have := hD8.mono (N' := N + 2 + 2 * (k + 1)) (by omega); simpa using this⟩
        case measure => simp [intOf]; omega
      · clear q0 q1
        go_wp2_with fail
        go_roundw
        case rel => exact ⟨k + 1, L, by omega, by omega, by go_num, hD6.mono (by omega)⟩
        case measure => simp [intOf]; omega
    · have hkb : k ≤ 5 := by omega
      clear hk
      by_cases h2L : 2 ≤ L.length
      · have hdl : decide ((L.length : Int) < 2) = false := by simp; omega
        go_wp2_with fail
        obtain ⟨g, cg, eg⟩ := hD.form (by omega)
        simp only [Value.slice.injEq, true_and] at eg
        obtain ⟨rfl, rfl⟩ := eg
        obtain ⟨hcap, hmost⟩ := hD.capN
        refine (pick_any R B _ 40 _ hD.rdr (by omega) (by omega) (by omega)).mono ?_
        rintro e w20 ⟨y, rfl, y1, y2, hr20, hg20⟩
        have hDe := hD.pick hr20 hg20
        clear hD hr20 hg20
        obtain ⟨a1, a2, fa1, fa2⟩ := hDe.cellP 0 (by omega)
        obtain ⟨b1, b2, fb1, fb2⟩ := hDe.cellP 1 (by omega)
        simp only [Nat.zero_mul, Nat.zero_add, Nat.one_mul] at a1 a2 fa1 fa2 b1 b2 fb1 fb2
        obtain ⟨p0, hp0⟩ : ∃ p, L[0]'(by omega) = p := ⟨_, rfl⟩
        obtain ⟨p1, hp1⟩ : ∃ p, L[1]'(by omega) = p := ⟨_, rfl⟩
        rw [hp0] at a1 a2
        rw [hp1] at b1 b2
        clear hp0 hp1
        have hl0 : (0 : Int) < (L.length : Int) := by omega
        have hl1 : (1 : Int) < (L.length : Int) := by omega
        by_cases y0 : y = 0
        · have e0 : (y == 0) = true := by simp [y0]
          clear y0
          obtain ⟨L1, hL1, hD1⟩ := hDe.setP 0 p1.1
          rw [← hL1] at hD1
          obtain ⟨L2, hL2, hD2⟩ := hD1.setP 1 p1.2
          rw [hL1] at hD2
          have H : Hid (ArrPost R B (N + 40) w (.returned (.slice (some ⟨g, 0, none⟩) L.length c1)) ((w20.setCell ⟨g, 0, none⟩ (.int .i64 p1.1)).setCell ⟨g, 1, none⟩ (.int .i64 p1.2))) := ⟨_, _, _, L2, rfl, KO.of_own hD2.own, hD2.rdr.mono (by omega), hD2.grown⟩
          clear hDe hD1 hD2 hL1 hL2
          go_wp2_with fail
          go_ret
          exact H.out
        · have e0 : (y == 0) = false := by simp [y0]
          clear y0
          by_cases y3 : y = 1
          · have e1 : (y == 1) = true := by simp [y3]
            clear y3
            obtain ⟨L1, hL1, hD1⟩ := hDe.setP 0 1001
            have H : Hid (ArrPost R B (N + 40) w (.returned (.slice (some ⟨g, 0, none⟩) L.length c1)) (w20.setCell ⟨g, 0, none⟩ (.int .i64 1001))) := ⟨_, _, _, L1, rfl, KO.of_own hD1.own, hD1.rdr.mono (by omega), hD1.grown⟩
            clear hDe hD1 hL1
            go_wp2_with fail
            go_ret
            exact H.out
          · have e1 : (y == 1) = false := by simp [y3]
            clear y3
            by_cases y4 : y = 2
            · have e2 : (y == 2) = true := by simp [y4]
              clear y4
              have H : Hid (ArrPost R B (N + 40) w (.returned (.slice (some ⟨g, 0, none⟩) 1 c1)) w20) := ⟨_, _, _, L.take 1, rfl, fun w' hs hk => by have := ((KO.of_own hDe.own) w' hs hk).take 1 (by omega); rwa [cp_take] at this, hDe.rdr.mono (by omega), hDe.grown⟩
              clear hDe
              go_wp2_with fail
              go_ret
              exact H.out
            · have e2 : (y == 2) = false := by simp [y4]
              clear y4
              have H : Hid (ArrPost R B (N + 40) w (.returned (.slice (some ⟨g, 0, none⟩) L.length c1)) w20) := ⟨_, _, _, L, rfl, KO.of_own hDe.own, hDe.rdr.mono (by omega), hDe.grown⟩
              clear hDe
              go_wp2_with fail
              go_ret
              exact H.out
      · have hdl : decide ((L.length : Int) < 2) = true := by simp; omega
        go_wp2_with fail
        refine (pick_any R B _ 3 _ hD.rdr (by omega) (by omega) (by omega)).mono ?_
        rintro e w3 ⟨x, rfl, x1, x2, hr3, hg3⟩
        have hD3 := hD.pick hr3 hg3
        clear hD hr3 hg3
        go_wp2_with fail
        refine (pick_any R B _ 3 _ hD3.rdr (by omega) (by omega) (by omega)).mono ?_
        rintro e w4 ⟨z, rfl, z1, z2, hr4, hg4⟩
        have hD4 := hD3.pick hr4 hg4
        clear hD3 hr4 hg4
        have hDn : DRow w R B (N + 2 + 2 * k + 2) 38 2 (.slice (some ⟨w4.heap.size, 0, none⟩) 3 3) 3 (cp [(0, 0), (1 + x, z), (5, 1)]) (w4.alloc (.cells #[.int .i64 0, .int .i64 0, .int .i64 (1 + x), .int .i64 z, .int .i64 5, .int .i64 1] 38)) :=
          ⟨World.ownsRow_lit w4 #[.int .i64 0, .int .i64 0, .int .i64 (1 + x), .int .i64 z, .int .i64 5, .int .i64 1] 3 hD4.grown.size (by decide) rfl, hD4.rdr.after (bA (b0 _) _), gAlloc hD4.grown _, hD4.lt⟩
        clear hD4
        go_wp2_with fail
        clear hdl h2L hL
        clear hlt
        obtain ⟨W, hW⟩ : ∃ W, w4.alloc (.cells #[.int .i64 0, .int .i64 0, .int .i64 (1 + x), .int .i64 z, .int .i64 5, .int .i64 1] 38) = W := ⟨_, rfl⟩
        rw [hW] at hDn ⊢
        clear hW
        obtain ⟨g, hg⟩ : ∃ g, w4.heap.size = g := ⟨_, rfl⟩
        rw [hg] at hDn ⊢
        clear hg
        obtain ⟨A9, hA9⟩ : ∃ A9, (some (⟨g, 0, none⟩ : Addr)) = A9 := ⟨_, rfl⟩
        obtain ⟨L3, hL3⟩ : ∃ L3, [((0 : Int), (0 : Int)), (1 + x, z), (5, 1)] = L3 := ⟨_, rfl⟩
        have hl3 : L3.length = 3 := by rw [← hL3]; rfl
        have hD : DRow w R B (N + 2 + 2 * k + 2) 38 2 (.slice (some ⟨g, 0, none⟩) L3.length 3) L3.length (cp L3) W := by rw [hl3, ← hL3]; exact hDn
        have h2L : 2 ≤ L3.length := by omega
        rw [show (Value.slice (some ⟨g, 0, none⟩) 3 3) = .slice (some ⟨g, 0, none⟩) L3.length 3 by rw [hl3]]
        have hkb3 : L3.length ≤ 5 := by omega
        clear hDn hL3 hl3 hA9
        obtain ⟨hcap, hmost⟩ := hD.capN
        refine (pick_any R B _ 40 _ hD.rdr (by omega) (by omega) (by omega)).mono ?_
        rintro e w20 ⟨y, rfl, y1, y2, hr20, hg20⟩
        have hDe := hD.pick hr20 hg20
        clear hD hr20 hg20
        obtain ⟨a1, a2, fa1, fa2⟩ := hDe.cellP 0 (by omega)
        obtain ⟨b1, b2, fb1, fb2⟩ := hDe.cellP 1 (by omega)
        simp only [Nat.zero_mul, Nat.zero_add, Nat.one_mul] at a1 a2 fa1 fa2 b1 b2 fb1 fb2
        obtain ⟨p0, hp0⟩ : ∃ p, L3[0]'(by omega) = p := ⟨_, rfl⟩
        obtain ⟨p1, hp1⟩ : ∃ p, L3[1]'(by omega) = p := ⟨_, rfl⟩
        rw [hp0] at a1 a2
        rw [hp1] at b1 b2
        clear hp0 hp1
        have hl0 : (0 : Int) < (L3.length : Int) := by omega
        have hl1 : (1 : Int) < (L3.length : Int) := by omega
        by_cases y0 : y = 0
        · have e0 : (y == 0) = true := by simp [y0]
          clear y0
          obtain ⟨L1, hL1, hD1⟩ := hDe.setP 0 p1.1
          rw [← hL1] at hD1
          obtain ⟨L2, hL2, hD2⟩ := hD1.setP 1 p1.2
          rw [hL1] at hD2
          have H : Hid (ArrPost R B (N + 40) w (.returned (.slice (some ⟨g, 0, none⟩) L3.length 3)) ((w20.setCell ⟨g, 0, none⟩ (.int .i64 p1.1)).setCell ⟨g, 1, none⟩ (.int .i64 p1.2))) := ⟨_, _, _, L2, rfl, KO.of_own hD2.own, hD2.rdr.mono (by omega), hD2.grown⟩
          clear hDe hD1 hD2 hL1 hL2
          go_wp2_with fail
          go_ret
          exact H.out
        · have e0 : (y == 0) = false := by simp [y0]
          clear y0
          by_cases y3 : y = 1
          · have e1 : (y == 1) = true := by simp [y3]
            clear y3
            obtain ⟨L1, hL1, hD1⟩ := hDe.setP 0 1001
            have H : Hid (ArrPost R B (N + 40) w (.returned (.slice (some ⟨g, 0, none⟩) L3.length 3)) (w20.setCell ⟨g, 0, none⟩ (.int .i64 1001))) := ⟨_, _, _, L1, rfl, KO.of_own hD1.own, hD1.rdr.mono (by omega), hD1.grown⟩
            clear hDe hD1 hL1
            go_wp2_with fail
            go_ret
            exact H.out
          · have e1 : (y == 1) = false := by simp [y3]
            clear y3
            by_cases y4 : y = 2
            · have e2 : (y == 2) = true := by simp [y4]
              clear y4
              have H : Hid (ArrPost R B (N + 40) w (.returned (.slice (some ⟨g, 0, none⟩) 1 3)) w20) := ⟨_, _, _, L3.take 1, rfl, fun w' hs hk => by have := ((KO.of_own hDe.own) w' hs hk).take 1 (by omega); rwa [cp_take] at this, hDe.rdr.mono (by omega), hDe.grown⟩
              clear hDe
              go_wp2_with fail
              go_ret
              exact H.out
            · have e2 : (y == 2) = false := by simp [y4]
              clear y4
              have H : Hid (ArrPost R B (N + 40) w (.returned (.slice (some ⟨g, 0, none⟩) L3.length 3)) w20) := ⟨_, _, _, L3, rfl, KO.of_own hDe.own, hDe.rdr.mono (by omega), hDe.grown⟩
              clear hDe
              go_wp2_with fail
              go_ret
              exact H.out

end Go.Proofs.Ytjpklbkeofjppaa
