/- Contracts: grids that are drawn from a code. -/
import Derived.Test.YtdcabfobmkdlmaaInvT
import Derived.Test.YtdcabfobmkdlmaaDrawA
namespace Go.Proofs.Ytdcabfobmkdlmaa
open Go.RowKit

/-- A number that is drawn. -/
def NumPost (R B N : Nat) (P : Int → Prop) (w : World) (e : Ending) (w' : World) : Prop := ∃ x : Int, e = .returned (.int .i64 x) ∧ P x ∧ Rdr w' R B N ∧ w.grownBy w' (some R)
/-- A row of the call's own while a reader is asked. -/
structure DRow (w : World) (R B N : Nat) (T : TypeId) (size : Nat) (v : Value) (n : Nat) (xs : List Value) (wr : World) : Prop where
  own : wr.ownsRow w.heap.size T size v n xs
  rdr : Rdr wr R B N
  grown : w.grownBy wr (some R)
  lt : R < w.heap.size
section
variable {w wr w1 : World} {R B N N' : Nat} {T : TypeId} {size : Nat} {v : Value} {n : Nat} {xs : List Value}
theorem DRow.start (h : Rdr w R B N) (T : TypeId) (size : Nat) : DRow w R B N T size (.slice none 0 0) 0 [] w := ⟨World.ownsRow_nil _ _ _ _, h, World.grownBy.refl w _, h.lt⟩
theorem DRow.lit0 (h : Rdr w R B N) (T : TypeId) (size : Nat) : DRow w R B N T size (.slice (some ⟨w.heap.size, 0, none⟩) 0 0) 0 [] (w.alloc (.cells #[] T)) :=
  ⟨World.ownsRow_lit w _ 0 (Nat.le_refl _) (by decide) (by simp), h.after (bA (b0 w) _), gAlloc (World.grownBy.refl w _) _, h.lt⟩
theorem DRow.pick (h : DRow w R B N T size v n xs wr) (hr : Rdr w1 R B N') (hg : wr.grownBy w1 (some R)) : DRow w R B N' T size v n xs w1 := ⟨own_g h.own hg h.lt, hr, gTrans h.grown hg, h.lt⟩
theorem DRow.alloc (h : DRow w R B N T size v n xs wr) (o : Obj) : DRow w R B N T size v n xs (wr.alloc o) := ⟨h.own.alloc o, h.rdr.after (bA (b0 _) o), gAlloc h.grown o, h.lt⟩
theorem DRow.mono (h : DRow w R B N T size v n xs wr) (hN : N ≤ N') : DRow w R B N' T size v n xs wr := ⟨h.own, h.rdr.mono hN, h.grown, h.lt⟩
theorem DRow.app {v' : Value} {n' : Nat} {xs' : List Value} (h : DRow w R B N T size v n xs wr) (ho : w1.ownsRow w.heap.size T size v' n' xs') (hg : wr.grownBy w1 v.ownBlock) : DRow w R B N T size v' n' xs' w1 :=
  ⟨ho, h.rdr.fresh hg (fun k hk => Nat.lt_of_lt_of_le h.lt (h.own.lt k hk).1), gOwn h.grown h.own hg, h.lt⟩
theorem DRow.set {g c : Nat} (h : DRow w R B N T size (.slice (some ⟨g, 0, none⟩) n c) n xs wr) (j : Nat) (u : Value) : DRow w R B N T size (.slice (some ⟨g, 0, none⟩) n c) n (xs.set j u) (wr.setCell ⟨g, j, none⟩ u) :=
  let hs := h.own.stored j u
  h.app hs.1 hs.2
theorem DRow.drewN (h : DRow w R B N T size v n xs wr) (k : Nat) : DRow w R B N T size v n xs (wr.drewN k) :=
  ⟨own_after h.own (bD (b0 _) k), h.rdr.drewN k, gDrew h.grown k, h.lt⟩
theorem DRow.form (h : DRow w R B N T size v n xs wr) (hn : 0 < n) : ∃ g c, v = .slice (some ⟨g, 0, none⟩) n c := by
  obtain ⟨k, rfl⟩ : ∃ k, n = k + 1 := ⟨n - 1, by omega⟩
  rcases h.own.2 with ⟨_, h0⟩ | ⟨g, cap, cur, rfl, _⟩
  · omega
  · exact ⟨_, _, rfl⟩
end


set_option maxHeartbeats 1000000 in
theorem l91Part_any (R B N : Nat) (w : World) (h : Rdr w R B N) (hN : N ≤ 1000000) : Calls Try.prog 69 #[.pointer (some ⟨R, 0, none⟩)] w (NumPost R B (N + 2) (fun x => -1000000000 ≤ x ∧ x ≤ 1000000000) w) := by
  have hRlt := h.lt
  go_enter Try.func69, Try.ntmps69
  go_wp2_with fail
  refine (pick_any R B N 12 _ h (by omega) (by omega) (by omega)).mono ?_
  rintro e w1 ⟨m, rfl, m1, m2, hr1, hg1⟩
  by_cases hm : m = 0
  · have hd : (m == 0) = true := by simp [hm]
    clear hm
    go_wp2_with fail
    refine (pick_any R B (N + 1) 4 _ (hr1.after (bA (b0 _) _)) (by omega) (by omega) (by omega)).mono ?_
    rintro e w2 ⟨x, rfl, x1, x2, hr2, hg2⟩
    have hR1 : R < w1.heap.size := hr1.lt
    have l0 : w2.cell? ⟨w1.heap.size, 0, none⟩ = some (.int .i64 1000000000) := hg2.cell (by simp [go_sem]) (fun e => by injection e with e; simp at e; omega)
    have l1 : w2.cell? ⟨w1.heap.size, 1, none⟩ = some (.int .i64 (-1000000000)) := hg2.cell (by simp [go_sem]) (fun e => by injection e with e; simp at e; omega)
    have l2 : w2.cell? ⟨w1.heap.size, 2, none⟩ = some (.int .i64 30000) := hg2.cell (by simp [go_sem]) (fun e => by injection e with e; simp at e; omega)
    have l3 : w2.cell? ⟨w1.heap.size, 3, none⟩ = some (.int .i64 (-30000)) := hg2.cell (by simp [go_sem]) (fun e => by injection e with e; simp at e; omega)
    have H : ∀ x : Int, -1000000000 ≤ x → x ≤ 1000000000 → NumPost R B (N + 2) (fun x => -1000000000 ≤ x ∧ x ≤ 1000000000) w (.returned (.int .i64 x)) w2 := fun x a b => ⟨_, rfl, ⟨a, b⟩, hr2, gTrans hg1 (gTrans (gAlloc (World.grownBy.refl w1 _) _) hg2)⟩
    have HH := Lib.hid H
    clear H hr2 hg2 hr1 hg1 h
    have hm : x = 0 ∨ x = 1 ∨ x = 2 ∨ x = 3 := by omega
    rcases hm with rfl | rfl | rfl | rfl
    all_goals
      go_wp2_with fail
      go_ret
      exact HH.out _ (by omega) (by omega)
  · have hd : (m == 0) = false := by simp [hm]
    clear hm
    by_cases hm1 : m = 1
    · have hd1 : (m == 1) = true := by simp [hm1]
      clear hm1
      go_wp2_with fail
      refine (pick_any R B (N + 1) 200 _ hr1 (by omega) (by omega) (by omega)).mono ?_
      rintro e w2 ⟨x, rfl, x1, x2, hr2, hg2⟩
      have H : NumPost R B (N + 2) (fun x => -1000000000 ≤ x ∧ x ≤ 1000000000) w (.returned (.int .i64 (x * 123))) w2 := ⟨_, rfl, ⟨by omega, by omega⟩, hr2.mono (by omega), gTrans hg1 hg2⟩
      go_wp2_with fail
      go_ret
      exact H
    · have hd1 : (m == 1) = false := by simp [hm1]
      clear hm1
      go_wp2_with fail
      refine (pick_any R B (N + 1) 13 _ hr1 (by omega) (by omega) (by omega)).mono ?_
      rintro e w2 ⟨x, rfl, x1, x2, hr2, hg2⟩
      have H : NumPost R B (N + 2) (fun x => -1000000000 ≤ x ∧ x ≤ 1000000000) w (.returned (.int .i64 (x - 6))) w2 := ⟨_, rfl, ⟨by omega, by omega⟩, hr2.mono (by omega), gTrans hg1 hg2⟩
      go_wp2_with fail
      go_ret
      exact H
/-- A pair that is drawn. -/
def PairPost (R B N : Nat) (w : World) (e : Ending) (w' : World) : Prop := ∃ p : Int × Int, e = .returned (gv p) ∧ Rdr w' R B N ∧ w.grownBy w' (some R)
set_option maxHeartbeats 1000000 in
theorem l91Gauss_any (R B N : Nat) (w : World) (h : Rdr w R B N) (hN : N ≤ 100000) : Calls Try.prog 66 #[.pointer (some ⟨R, 0, none⟩)] w (PairPost R B (N + 4) w) := by
  have hRlt := h.lt
  go_enter Try.func66, Try.ntmps66
  go_wp2_with fail
  refine (l91Part_any R B N _ (h.after (bA (b0 w) _)) (by omega)).mono ?_
  rintro e w1 ⟨x, rfl, ⟨x1, x2⟩, hr1, hg1⟩
  go_wp2_with fail
  refine (l91Part_any R B (N + 2) _ hr1 (by omega)).mono ?_
  rintro e w2 ⟨y, rfl, ⟨y1, y2⟩, hr2, hg2⟩
  have hg := gTrans hg1 hg2
  have c0 : w2.heap[w.heap.size]? = some (.cells #[.int .i64 0, .int .i64 0] 32 (0, 0)) :=
    (hg.block w.heap.size (by simp) (fun e => by injection e with e; omega)).trans (heap_alloc_new _ _)
  have hgS : w.grownBy ((w2.setCell ⟨w.heap.size, 0, none⟩ (.int .i64 x)).setCell ⟨w.heap.size, 1, none⟩ (.int .i64 y)) (some R) := gSet (gSet (gTrans (gAlloc (World.grownBy.refl w _) _) hg) (p := ⟨w.heap.size, 0, none⟩) (Nat.le_refl _) _) (p := ⟨w.heap.size, 1, none⟩) (Nat.le_refl _) _
  have hrS : Rdr ((w2.setCell ⟨w.heap.size, 0, none⟩ (.int .i64 x)).setCell ⟨w.heap.size, 1, none⟩ (.int .i64 y)) R B (N + 4) :=
    ((hr2.mono (by omega)).fresh (gSetRow _ _ 0 _) (fun k hk => by injection hk with hk; omega)).fresh (gSetRow _ _ 1 _) (fun k hk => by injection hk with hk; omega)
  have d0 : w2.cell? ⟨w.heap.size, 0, none⟩ = some (.int .i64 0) := by rw [cell_of_row _ _ 0 _ _ _ c0]; rfl
  have d1 : w2.cell? ⟨w.heap.size, 1, none⟩ = some (.int .i64 0) := by rw [cell_of_row _ _ 1 _ _ _ c0]; rfl
  have e0 : w2.frozen? ⟨w.heap.size, 0, none⟩ = false := frozen_of_row _ _ 0 _ _ c0
  have e1 : w2.frozen? ⟨w.heap.size, 1, none⟩ = false := frozen_of_row _ _ 1 _ _ c0
  have k0 := two_set (a' := .int .i64 x) (b' := .int .i64 y) c0
  have z0 := cell_of_row _ _ 0 _ _ _ k0
  have z1 := cell_of_row _ _ 1 _ _ _ k0
  simp only [List.getElem?_toArray, List.getElem?_cons_zero, List.getElem?_cons_succ] at z0 z1
  have hP : PairPost R B (N + 4) w (.returned (gv (x, y))) ((w2.setCell ⟨w.heap.size, 0, none⟩ (.int .i64 x)).setCell ⟨w.heap.size, 1, none⟩ (.int .i64 y)) := ⟨_, rfl, hrS, hgS⟩
  clear hgS hrS c0 k0 hr1 hr2 hg1 hg2 hg h
  go_wp2_with fail
  exact bodyPost_ret (v := .agg #[.int .i64 x, .int .i64 y]) (by simp [results, Try.results66, go_sem, z0, z1]) rfl hP
theorem cp_drop1 (L : List (Int × Int)) : (cp L).drop 2 = cp (L.drop 1) := by
  cases L with
  | nil => rfl
  | cons p l => simp [cp]
def gridRel (w : World) (R B N : Nat) (v i : Value) (wr : World) : Prop := ∃ (k : Nat) (L : List (Int × Int)), k ≤ 16 ∧ L.length = k ∧ i = .int .i64 k ∧ DRow w R B (N + 4 * k) 32 2 v L.length (cp L) wr
theorem grid_snoc (L : List (Int × Int)) (p : Int × Int) : cp (L ++ [p]) = cp L ++ [.int .i64 p.1, .int .i64 p.2] := by rw [cp_append]; rfl
set_option maxHeartbeats 2000000 in
theorem DrawGridValid_any (A : Option Addr) (n c : Nat) (bs : List Int) (w : World) (h : Rd w w.heap.size 1 A n c (cb bs)) (hx : ∀ x ∈ bs, 0 ≤ x ∧ x ≤ 255) (hn : n ≤ 1048576) :
    Calls Try.prog 55 #[.slice A n c] w (RdPost 2 (fun l => ∃ L, l = cp L) w) := by
  have HX := Lib.hid hx
  clear hx
  obtain ⟨i0, hi, hz0, hz1, hz2⟩ := info_parts infoGauss
  go_enter Try.func55, Try.ntmps55
  go_wp2_with fail
  refine (l6Open_any _ _ _ bs _ h HX.out hn).mono ?_
  rintro e w1 ⟨rfl, hr, hb⟩
  go_wp2_with fail
  go_loopw [4, 5] (fun v i wr => gridRel w1 w.heap.size w.heap.size 0 v i wr) (fun _ i _ => 16 - (intOf i).toNat)
  case atStart => exact ⟨0, [], Nat.zero_le _, rfl, rfl, DRow.lit0 hr _ _⟩
  case round =>
    obtain ⟨k, L, hk, hL, rfl, hD⟩ := hrel
    obtain ⟨A1, c1, rfl⟩ := own_form hD.own
    have HL := Lib.hid hL
    clear hL
    by_cases hlt : k < 16
    · go_wp2_with (go_at_call 40; refine (l21Cells_16 _).mono ?_; rintro e w' ⟨rfl, rfl⟩)
      refine (l91Gauss_any w.heap.size w.heap.size (0 + 4 * k) _ hD.rdr (by omega)).mono ?_
      rintro e w2 ⟨p, rfl, hr2, hg2⟩
      have hD2 := hD.pick hr2 hg2
      clear hD hr2 hg2
      have hD3 := hD2.alloc (.cells #[.int .i64 p.1, .int .i64 p.2] 32)
      have hsz := hD2.grown.size
      have hLk : L.length ≤ 16 := by have := HL.out; omega
      have HC := Lib.hid (grid_snoc L p)
      unfold gv
      go_wp2_with (at_builtin; refine wpList_append_own _ rfl _ _ 25 rfl w1.heap.size 32 i0 _ 2 16 Try.underlying25 hi hz0 hz1 hz2 rfl (by decide) _ _ _ rfl hD3.own ⟨w2.heap.size, 0, none⟩ 1 1 [.int .i64 p.1, .int .i64 p.2] rfl rfl (new_cells _ _ _) ?c2 ?c3 ?c4 ?c5 ?_)
      case c2 => intro u hu; simp at hu; rcases hu with rfl | rfl <;> rfl
      case c3 => unfold maxLen; omega
      case c4 => omega
      case c5 => simp; omega
      intro v' w3 hown' hgrow _
      have hD4 := hD3.app hown' hgrow
      rw [← HC.out] at hD4
      clear hown' hgrow hD2 hD3
      go_wp2_with fail
      go_roundw
      case rel => exact ⟨k + 1, L ++ [p], by omega, by simp [HL.out], by go_num, by simpa using hD4.mono (by omega)⟩
      case measure => simp [intOf]; omega
    · have hk16 : L.length = 16 := by have := HL.out; omega
      have HL16 := Lib.hid hk16
      obtain ⟨g, c', e1⟩ := hD.form (by omega)
      injection e1 with e1 _ e3
      subst e1 e3
      clear hk16
      go_wp2_with (go_at_call 40; refine (l21Cells_16 _).mono ?_; rintro e w' ⟨rfl, rfl⟩)
      refine (pick_any w.heap.size w.heap.size (0 + 4 * k) 10 _ hD.rdr (by omega) (by omega) (by omega)).mono ?_
      rintro e w2 ⟨m, rfl, m1, m2, hr2, hg2⟩
      have hD1 := hD.pick hr2 hg2
      clear hD hr2 hg2
      have hcap := (Rd.of_own hD1.own).cap
      by_cases hm0 : m = 0
      · have e0 : (m == 0) = true := by simp [hm0]
        clear hm0
        have q0 := cp_at L 3 (by rw [HL16.out]; omega)
        have hcP := (hD1.own.cellAt 7 (by rw [HL16.out]; omega)).trans q0.2
        have hf1 := hD1.own.frozenAt 7
        have hD2 := hD1.set 7 (.int .i64 1000000001)
        have hset : (cp L).set 7 (.int .i64 1000000001) = cp (L.set 3 ((L.getD 3 (0, 0)).1, 1000000001)) := by
          rw [cp_set]
          have h6 : ((cp L).set 6 (.int .i64 (L.getD 3 (0, 0)).1)) = cp L := by
            have q1 := q0.1
            have e3 : L.getD 3 (0, 0) = L[3]'(by rw [HL16.out]; omega) := by simp [HL16.out]
            rw [e3]
            obtain ⟨q2, q3⟩ := List.getElem?_eq_some_iff.1 q1
            rw [← q3]
            exact List.set_getElem_self q2
          rw [h6]
        rw [hset] at hD2
        have hP : RdPost 2 (fun l => ∃ L, l = cp L) w (.returned (.slice (some ⟨g, 0, none⟩) L.length c1)) (w2.setCell ⟨g, 7, none⟩ (.int .i64 1000000001)) :=
          ⟨_, _, _, _, rfl, Rd.of_own hD2.own, ⟨_, rfl⟩, below_of_g hb hD2.grown (Nat.le_refl _)⟩
        have hi3 : (3 : Int) < (L.length : Int) := by rw [HL16.out]; decide
        clear hD1 hD2 hset q0
        go_wp2_with fail
        go_ret
        exact hP
      · have e0 : (m == 0) = false := by simp [hm0]
        clear hm0
        by_cases hm1 : m = 1
        · have e1 : (m == 1) = true := by simp [hm1]
          clear hm1
          have hT := (KRd.of_own_tail hD1.own hD1.lt (by rw [HL16.out]; omega)).rd
          rw [cp_drop1] at hT
          have hP : RdPost 2 (fun l => ∃ L, l = cp L) w (.returned (.slice (some ⟨g, 2, none⟩) (L.length - 1) (c1 - 1))) w2 :=
            ⟨_, _, _, _, rfl, hT, ⟨_, rfl⟩, below_of_g hb hD1.grown (Nat.le_refl _)⟩
          have hl1 : (1 : Int) ≤ (L.length : Int) := by rw [HL16.out]; decide
          clear hD1 hT
          have hcne : ¬ c1 = 1 := by have := HL16.out; omega
          go_wp2_with fail
          go_ret
          exact hP
        · have e1 : (m == 1) = false := by simp [hm1]
          clear hm1
          have hP : RdPost 2 (fun l => ∃ L, l = cp L) w (.returned (.slice (some ⟨g, 0, none⟩) L.length c1)) w2 :=
            ⟨_, _, _, _, rfl, Rd.of_own hD1.own, ⟨_, rfl⟩, below_of_g hb hD1.grown (Nat.le_refl _)⟩
          clear hD1
          go_wp2_with fail
          go_ret
          exact hP

set_option maxHeartbeats 2000000 in
theorem DrawGridInverse_any (A : Option Addr) (n c : Nat) (bs : List Int) (w : World) (h : Rd w w.heap.size 1 A n c (cb bs)) (hx : ∀ x ∈ bs, 0 ≤ x ∧ x ≤ 255) (hn : n ≤ 1048576) :
    Calls Try.prog 33 #[.slice A n c] w (RdPost 2 (fun l => ∃ L, l = cp L) w) := by
  have HX := Lib.hid hx
  clear hx
  go_enter Try.func33, Try.ntmps33
  go_wp2_with fail
  refine (l6Open_any _ _ _ bs _ h HX.out hn).mono ?_
  rintro e w1 ⟨rfl, hr, hb⟩
  go_wp2_with fail
  refine (l92Sky_any _ _ _ _ hr (by omega)).mono ?_
  rintro e w2 ⟨A2, n2, c2, L, rfl, hK, hr2, hg⟩
  have hb2 := below_of_g hb hg (Nat.le_refl _)
  have hw1 : w.heap.size < w2.heap.size := hr2.lt
  clear hb hg hr
  go_wp2_with fail
  refine (sSkyTransform_any _ _ _ L _ hK.rd).mono ?_
  rintro e w3 ⟨v3, rfl, hown, hB3⟩
  obtain ⟨A3, c3, rfl⟩ := own_form hown
  have hb3 := bT hb2 hB3
  cases hs : skyB L
  · have hr3 := h.after hb3
    clear hK hown
    go_wp2_with fail
    refine (DrawGridValid_any _ _ _ bs _ hr3 HX.out hn).mono ?_
    rintro e w4 ⟨A4, n4, c4, l, rfl, hr4, ⟨M, rfl⟩, hB4⟩
    have hP : RdPost 2 (fun l => ∃ L, l = cp L) w (.returned (.slice A4 n4 c4)) w4 := ⟨_, _, _, _, rfl, hr4, ⟨M, rfl⟩, bT hb3 hB4⟩
    go_wp2_with fail
    go_ret
    exact hP
  · have hl16 : (skyTr L).length = 16 := by simp [skyTr, hs]
    obtain ⟨G, hG⟩ : ∃ G, skyTr L = G := ⟨_, rfl⟩
    rw [hG] at hown hl16 ⊢
    have hr3 := hr2.after hB3
    clear hK hG hs
    have HL16 := Lib.hid hl16
    have hi1 : (1 : Int) ≤ (G.length : Int) := by rw [hl16]; decide
    have hi2 : (G.length : Int) ≤ 1000000 := by rw [hl16]; decide
    clear hl16
    go_wp2_with fail
    refine (pick_any w.heap.size w.heap.size (0 + 20) 8 _ hr3 (by omega) (by omega) (by omega)).mono ?_
    rintro e w4 ⟨m, rfl, m1, m2, hr4, hg4⟩
    have hown4 := own_g hown hg4 hw1
    have hb4 := below_of_g hb3 hg4 (Nat.le_refl _)
    clear hown hr3 hg4 hb3
    by_cases hm0 : m = 0
    · have e0 : (m == 0) = true := by simp [hm0]
      clear hm0
      go_wp2_with fail
      refine (pick_any w.heap.size w.heap.size (0 + 20 + 1) G.length _ hr4 (by omega) (by omega) (by omega)).mono ?_
      rintro e w5 ⟨x, rfl, x1, x2, hr5, hg5⟩
      have hown5 := own_g hown4 hg5 hw1
      have hb5 := below_of_g hb4 hg5 (Nat.le_refl _)
      clear hown4 hg5 hb4
      obtain ⟨j, rfl⟩ := Int.eq_ofNat_of_zero_le x1
      have hj : j < G.length := by omega
      obtain ⟨g, c', e1⟩ : ∃ g c, (Value.slice A3 G.length c3) = .slice (some ⟨g, 0, none⟩) G.length c := by
        rcases hown5.2 with ⟨_, h0⟩ | ⟨g, cap, cur, e, _⟩
        · omega
        · exact ⟨_, _, e⟩
      injection e1 with e1 _ e3
      subst e1 e3
      have q0 := cp_at G j hj
      rw [Nat.mul_comm 2 j] at q0
      have hcP := (hown5.cellAt (j * 2) (by omega)).trans q0.1
      have hf1 := hown5.frozenAt (j * 2)
      have hst := hown5.stored (j * 2) (.int .i64 5)
      have hset : (cp G).set (j * 2) (.int .i64 5) = cp (G.set j (5, (G.getD j (0, 0)).2)) := by
        rw [cp_set]
        have e3 : G.getD j (0, 0) = G[j] := by simp [hj]
        obtain ⟨q2, q3⟩ := List.getElem?_eq_some_iff.1 q0.2
        rw [e3, List.set_comm _ _ (by omega)]
        have h6 : (cp G).set (j * 2 + 1) (.int .i64 G[j].2) = cp G := by rw [← q3]; exact List.set_getElem_self q2
        rw [h6]
      have hown6 := hst.1
      rw [hset] at hown6
      have hg1 : w2.heap.size ≤ g := (hown5.lt g rfl).1
      have hP : RdPost 2 (fun l => ∃ L, l = cp L) w (.returned (.slice (some ⟨g, 0, none⟩) G.length c3)) (w5.setCell ⟨g, j * 2, none⟩ (.int .i64 5)) :=
        ⟨_, _, _, _, rfl, Rd.of_own hown6, ⟨_, rfl⟩, bS (p := ⟨g, j * 2, none⟩) hb5 (by have : w.heap.size < w2.heap.size := hw1; show w.heap.size ≤ g; omega) _⟩
      clear hown5 hown6 hst hset q0 hr5
      go_wp2_with fail
      go_ret
      exact hP
    · have e0 : (m == 0) = false := by simp [hm0]
      clear hm0
      by_cases hm1 : m = 1
      · have e1 : (m == 1) = true := by simp [hm1]
        clear hm1
        have hr5 := h.after hb4
        clear hown4
        go_wp2_with fail
        refine (DrawGridValid_any _ _ _ bs _ hr5 HX.out hn).mono ?_
        rintro e w5 ⟨A5, n5, c5, l, rfl, hr6, ⟨M, rfl⟩, hB5⟩
        have hP : RdPost 2 (fun l => ∃ L, l = cp L) w (.returned (.slice A5 n5 c5)) w5 := ⟨_, _, _, _, rfl, hr6, ⟨M, rfl⟩, bT hb4 hB5⟩
        go_wp2_with fail
        go_ret
        exact hP
      · have e1 : (m == 1) = false := by simp [hm1]
        clear hm1
        have hP : RdPost 2 (fun l => ∃ L, l = cp L) w (.returned (.slice A3 G.length c3)) w4 := ⟨_, _, _, _, rfl, Rd.of_own hown4, ⟨_, rfl⟩, hb4⟩
        clear hown4
        go_wp2_with fail
        go_ret
        exact hP

end Go.Proofs.Ytdcabfobmkdlmaa
