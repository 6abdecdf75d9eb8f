/- Contracts: visibilities and antennas that are drawn from a code. -/
import Derived.Test.YtmoeofclpnblmaaDrawA
import Derived.Test.YtmoeofclpnblmaaVisC
namespace Go.Proofs.Ytmoeofclpnblmaa
open Go.RowKit

theorem infoInt : (Try.prog.info? 3).map (fun i => (i.zero, i.size, i.bytes)) = some (some (.int .i64 0), 1, 8) := by kernel_rfl
theorem infoVis : (Try.prog.info? 41).map (fun i => (i.zero, i.size, i.bytes)) = some (some (.agg #[.int .i64 0, .int .i64 0]), 2, 16) := by kernel_rfl

/-- A number that is drawn. -/
def NumPost (R B N : Nat) (P : Int → Prop) (w : World) (e : Ending) (w' : World) : Prop := ∃ x : Int, e = .returned (.int .i64 x) ∧ P x ∧ Rdr w' R B N ∧ w.grownBy w' (some R)
/-- A row of the call's own while a reader is asked. -/
structure DRow (w : World) (R B N : Nat) (T : TypeId) (size : Nat) (v : Value) (n : Nat) (xs : List Value) (wr : World) : Prop where
  own : wr.ownsRow w.heap.size T size v n xs
  rdr : Rdr wr R B N
  grown : w.grownBy wr (some R)
  lt : R < w.heap.size
section
variable {w wr w1 : World} {R B N N' : Nat} {T : TypeId} {size : Nat} {v : Value} {n : Nat} {xs : List Value}
theorem DRow.start (h : Rdr w R B N) (T : TypeId) (size : Nat) : DRow w R B N T size (.slice none 0 0) 0 [] w := ⟨World.ownsRow_nil _ _ _ _, h, World.grownBy.refl w _, h.lt⟩
theorem DRow.lit0 (h : Rdr w R B N) (T : TypeId) (size : Nat) : DRow w R B N T size (.slice (some ⟨w.heap.size, 0, none⟩) 0 0) 0 [] (w.alloc (.cells #[] T)) :=
  ⟨World.ownsRow_lit w _ 0 (Nat.le_refl _) (by decide) (by simp), h.after (bA (b0 w) _), gAlloc (World.grownBy.refl w _) _, h.lt⟩
theorem DRow.pick (h : DRow w R B N T size v n xs wr) (hr : Rdr w1 R B N') (hg : wr.grownBy w1 (some R)) : DRow w R B N' T size v n xs w1 := ⟨own_g h.own hg h.lt, hr, gTrans h.grown hg, h.lt⟩
theorem DRow.alloc (h : DRow w R B N T size v n xs wr) (o : Obj) : DRow w R B N T size v n xs (wr.alloc o) := ⟨h.own.alloc o, h.rdr.after (bA (b0 _) o), gAlloc h.grown o, h.lt⟩
theorem DRow.mono (h : DRow w R B N T size v n xs wr) (hN : N ≤ N') : DRow w R B N' T size v n xs wr := ⟨h.own, h.rdr.mono hN, h.grown, h.lt⟩
theorem DRow.app {v' : Value} {n' : Nat} {xs' : List Value} (h : DRow w R B N T size v n xs wr) (ho : w1.ownsRow w.heap.size T size v' n' xs') (hg : wr.grownBy w1 v.ownBlock) : DRow w R B N T size v' n' xs' w1 :=
  ⟨ho, h.rdr.fresh hg (fun k hk => Nat.lt_of_lt_of_le h.lt (h.own.lt k hk).1), gOwn h.grown h.own hg, h.lt⟩
theorem DRow.set {g c : Nat} (h : DRow w R B N T size (.slice (some ⟨g, 0, none⟩) n c) n xs wr) (j : Nat) (u : Value) : DRow w R B N T size (.slice (some ⟨g, 0, none⟩) n c) n (xs.set j u) (wr.setCell ⟨g, j, none⟩ u) :=
  let hs := h.own.stored j u
  h.app hs.1 hs.2
theorem DRow.drewN (h : DRow w R B N T size v n xs wr) (k : Nat) : DRow w R B N T size v n xs (wr.drewN k) :=
  ⟨own_after h.own (bD (b0 _) k), h.rdr.drewN k, gDrew h.grown k, h.lt⟩
theorem DRow.form (h : DRow w R B N T size v n xs wr) (hn : 0 < n) : ∃ g c, v = .slice (some ⟨g, 0, none⟩) n c := by
  obtain ⟨k, rfl⟩ : ∃ k, n = k + 1 := ⟨n - 1, by omega⟩
  rcases h.own.2 with ⟨_, h0⟩ | ⟨g, cap, cur, rfl, _⟩
  · omega
  · exact ⟨_, _, rfl⟩
end

set_option maxHeartbeats 400000 in
theorem l91Phase_any (R B N : Nat) (w : World) (h : Rdr w R B N) (hN : N ≤ 100000000) : Calls Try.prog 47 #[.pointer (some ⟨R, 0, none⟩)] w (NumPost R B (N + 3) (fun x => 0 ≤ x ∧ x < 360) w) := by
  go_enter Try.func47, Try.ntmps47
  go_wp2_with fail
  refine (pick_any R B N 3 _ h (by omega) (by omega) (by omega)).mono ?_
  rintro e w1 ⟨m, rfl, m1, m2, hr1, hg1⟩
  by_cases hm : m = 0
  · have hd : (m == 0) = true := by simp [hm]
    clear hm
    go_wp2_with fail
    refine (pick_any R B (N + 1) 4 _ hr1 (by omega) (by omega) (by omega)).mono ?_
    rintro e w2 ⟨x, rfl, x1, x2, hr2, hg2⟩
    have H : NumPost R B (N + 3) (fun x => 0 ≤ x ∧ x < 360) w (.returned (.int .i64 (90 * x))) w2 := ⟨_, rfl, ⟨by omega, by omega⟩, hr2.mono (by omega), gTrans hg1 hg2⟩
    go_wp2_with fail
    go_ret
    exact H
  · have hd : (m == 0) = false := by simp [hm]
    clear hm
    go_wp2_with fail
    refine (pick_any R B (N + 1) 200 _ hr1 (by omega) (by omega) (by omega)).mono ?_
    rintro e w2 ⟨x, rfl, x1, x2, hr2, hg2⟩
    go_wp2_with fail
    refine (pick_any R B (N + 1 + 1) 2 _ hr2 (by omega) (by omega) (by omega)).mono ?_
    rintro e w3 ⟨y, rfl, y1, y2, hr3, hg3⟩
    have H : NumPost R B (N + 3) (fun x => 0 ≤ x ∧ x < 360) w (.returned (.int .i64 ((x * 2 + y) % 360))) w3 := ⟨_, rfl, ⟨by omega, by omega⟩, hr3.mono (by omega), gTrans (gTrans hg1 hg2) hg3⟩
    go_wp2_with fail
    go_ret
    exact H
set_option maxHeartbeats 1000000 in
theorem l91Ants_any (R B N : Nat) (w : World) (h : Rdr w R B N) (hN : N ≤ 100000000) : Calls Try.prog 55 #[.pointer (some ⟨R, 0, none⟩)] w (NumPost R B (N + 1) (fun x => 2 ≤ x ∧ x ≤ 6) w) := by
  have hRlt := h.lt
  go_enter Try.func55, Try.ntmps55
  go_wp2_with fail
  refine (pick_any R B N 7 _ (h.after (bA (b0 w) _)) (by omega) (by omega) (by omega)).mono ?_
  rintro e w1 ⟨m, rfl, m1, m2, hr1, hg1⟩
  have l0 : w1.cell? ⟨w.heap.size, 0, none⟩ = some (.int .i64 2) := hg1.cell (by simp [go_sem]) (fun e => by injection e with e; simp at e; omega)
  have l1 : w1.cell? ⟨w.heap.size, 1, none⟩ = some (.int .i64 3) := hg1.cell (by simp [go_sem]) (fun e => by injection e with e; simp at e; omega)
  have l2 : w1.cell? ⟨w.heap.size, 2, none⟩ = some (.int .i64 3) := hg1.cell (by simp [go_sem]) (fun e => by injection e with e; simp at e; omega)
  have l3 : w1.cell? ⟨w.heap.size, 3, none⟩ = some (.int .i64 4) := hg1.cell (by simp [go_sem]) (fun e => by injection e with e; simp at e; omega)
  have l4 : w1.cell? ⟨w.heap.size, 4, none⟩ = some (.int .i64 4) := hg1.cell (by simp [go_sem]) (fun e => by injection e with e; simp at e; omega)
  have l5 : w1.cell? ⟨w.heap.size, 5, none⟩ = some (.int .i64 5) := hg1.cell (by simp [go_sem]) (fun e => by injection e with e; simp at e; omega)
  have l6 : w1.cell? ⟨w.heap.size, 6, none⟩ = some (.int .i64 6) := hg1.cell (by simp [go_sem]) (fun e => by injection e with e; simp at e; omega)
  have H : ∀ x : Int, 2 ≤ x → x ≤ 6 → NumPost R B (N + 1) (fun x => 2 ≤ x ∧ x ≤ 6) w (.returned (.int .i64 x)) w1 := fun x a b => ⟨_, rfl, ⟨a, b⟩, hr1, gTrans (gAlloc (World.grownBy.refl w _) _) hg1⟩
  have HH := Lib.hid H
  clear H hr1 hg1 h
  have hm : m = 0 ∨ m = 1 ∨ m = 2 ∨ m = 3 ∨ m = 4 ∨ m = 5 ∨ m = 6 := by omega
  rcases hm with rfl | rfl | rfl | rfl | rfl | rfl | rfl
  all_goals
    go_wp2_with fail
    go_ret
    exact HH.out _ (by omega) (by omega)

/-- A list of pairs that is drawn: a row of the call's own. -/
def VisPost (R B N : Nat) (w : World) (e : Ending) (w' : World) : Prop := ∃ (v : Value) (L : List (Int × Int)), e = .returned v ∧ DRow w R B N 41 2 v L.length (cp L) w'
theorem cp_snoc (L : List (Int × Int)) (a b : Int) : cp (L ++ [(a, b)]) = cp L ++ [.int .i64 a, .int .i64 b] := by rw [cp_append]; rfl
theorem cp_set0 (L : List (Int × Int)) (a : Int) (h : 0 < L.length) : (cp L).set 0 (.int .i64 a) = cp (L.set 0 (a, (L.getD 0 (0, 0)).2)) := by
  cases L with
  | nil => simp at h
  | cons p l => simp [cp]
theorem cp_set1 (L : List (Int × Int)) (a : Int) (h : 0 < L.length) : (cp L).set 1 (.int .i64 a) = cp (L.set 0 ((L.getD 0 (0, 0)).1, a)) := by
  cases L with
  | nil => simp at h
  | cons p l => simp [cp]
def l91Rel (w : World) (R B N : Nat) (n : Nat) (v i : Value) (wr : World) : Prop := ∃ (k : Nat) (L : List (Int × Int)), k ≤ n ∧ L.length = k ∧ i = .int .i64 k ∧ DRow w R B (N + 5 * k) 41 2 v L.length (cp L) wr
theorem VisPost.of {R B N N' : Nat} {w wr : World} {v : Value} {L : List (Int × Int)} (h : DRow w R B N 41 2 v L.length (cp L) wr) (hN : N ≤ N') : VisPost R B N' w (.returned v) wr := ⟨v, L, rfl, h.mono hN⟩

theorem VisPost.amp {R B N N' : Nat} {w wr : World} {g c : Nat} {L : List (Int × Int)} (h : DRow w R B N 41 2 (.slice (some ⟨g, 0, none⟩) L.length c) L.length (cp L) wr) (hpos : 0 < L.length) (x : Int) (hN : N ≤ N') :
    VisPost R B N' w (.returned (.slice (some ⟨g, 0, none⟩) L.length c)) (wr.setCell ⟨g, 0, none⟩ (.int .i64 x)) := by
  have := (h.set 0 (.int .i64 x)).mono hN
  rw [cp_set0 L x hpos] at this
  exact ⟨_, L.set 0 (x, (L.getD 0 (0, 0)).2), rfl, by simpa using this⟩
theorem VisPost.phase {R B N N' : Nat} {w wr : World} {g c : Nat} {L : List (Int × Int)} (h : DRow w R B N 41 2 (.slice (some ⟨g, 0, none⟩) L.length c) L.length (cp L) wr) (hpos : 0 < L.length) (x : Int) (hN : N ≤ N') :
    VisPost R B N' w (.returned (.slice (some ⟨g, 0, none⟩) L.length c)) (wr.setCell ⟨g, 1, none⟩ (.int .i64 x)) := by
  have := (h.set 1 (.int .i64 x)).mono hN
  rw [cp_set1 L x hpos] at this
  exact ⟨_, L.set 0 ((L.getD 0 (0, 0)).1, x), rfl, by simpa using this⟩

set_option maxHeartbeats 2000000 in
theorem l91Vis_any (R B N : Nat) (n : Int) (w : World) (h : Rdr w R B N) (hN : N ≤ 1000000) : Calls Try.prog 56 #[.pointer (some ⟨R, 0, none⟩), .int .i64 n] w (VisPost R B (N + 120) w) := by
  obtain ⟨i0, hi, hz0, hz1, hz2⟩ := info_parts infoVis
  have b1 := Vm.bmany_nonneg n
  have b2 := Vm.bmany_le n
  obtain ⟨M, hM⟩ := Vm.nat_of b1
  have HM := Lib.hid hM
  have hM21 : M ≤ 21 := by omega
  clear hM b1 b2
  go_enter Try.func56, Try.ntmps56
  go_wp2_with fail
  go_loopw [5, 6] (fun v i wr => l91Rel w R B N M v i wr) (fun _ i _ => M - (intOf i).toNat)
  case atStart => exact ⟨0, [], Nat.zero_le _, rfl, rfl, DRow.lit0 h _ _⟩
  case round =>
    obtain ⟨k, L, hk, hL, rfl, hD⟩ := hrel
    obtain ⟨A, c, rfl⟩ := own_form hD.own
    have HL := Lib.hid hL
    clear hL
    by_cases hlt : k < M
    · go_wp2_with (go_at_call 46; refine (sBaseMany_any _ _).mono ?_; rintro e w' ⟨rfl, rfl⟩; rw [HM.out])
      refine (pick_any R B (N + 5 * k) 12 _ hD.rdr (by omega) (by omega) (by omega)).mono ?_
      rintro e w1 ⟨a, rfl, a1, a2, hr1, hg1⟩
      have hD1 := hD.pick hr1 hg1
      clear hD hr1 hg1
      go_wp2_with fail
      refine (l91Phase_any R B (N + 5 * k + 1) _ hD1.rdr (by omega)).mono ?_
      rintro e w2 ⟨p, rfl, ⟨p1, p2⟩, hr2, hg2⟩
      have hD2 := hD1.pick hr2 hg2
      clear hD1 hr2 hg2
      have hD3 := hD2.alloc (.cells #[.int .i64 (1 + a), .int .i64 p] 41)
      have hsz := hD2.grown.size
      have hLk : L.length ≤ 21 := by have := HL.out; omega
      have HC := Lib.hid (cp_snoc L (1 + a) p)
      go_wp2_with (at_builtin; refine wpList_append_own _ rfl _ _ 23 rfl w.heap.size 41 i0 _ 2 16 Try.underlying23 hi hz0 hz1 hz2 rfl (by decide) _ _ _ rfl hD3.own ⟨w2.heap.size, 0, none⟩ 1 1 [.int .i64 (1 + a), .int .i64 p] rfl rfl (new_cells _ _ _) ?c2 ?c3 ?c4 ?c5 ?_)
      case c2 => intro u hu; simp at hu; rcases hu with rfl | rfl <;> rfl
      case c3 => unfold maxLen; omega
      case c4 => omega
      case c5 => simp; omega
      intro v' w3 hown' hgrow _
      have hD4 := hD3.app hown' hgrow
      rw [← HC.out] at hD4
      clear hown' hgrow hD2 hD3
      go_wp2_with fail
      go_roundw
      case rel => exact ⟨k + 1, L ++ [(1 + a, p)], by omega, by simp [HL.out], by go_num, by simpa using hD4.mono (by omega)⟩
      case measure => simp [intOf]; omega
    · by_cases hk0 : k = 0
      · have hP := VisPost.of (N' := N + 120) hD (by omega)
        have hd : ((L.length : Int) == 0) = true := by rw [beq_iff_eq, HL.out]; omega
        clear hD hk0
        go_wp2_with (go_at_call 46; refine (sBaseMany_any _ _).mono ?_; rintro e w' ⟨rfl, rfl⟩; rw [HM.out])
        go_ret
        exact hP
      · have hpos : 0 < L.length := by rw [HL.out]; omega
        obtain ⟨g, c', e1⟩ := hD.form hpos
        injection e1 with e1 _ e3
        subst e1 e3
        have hd : ((L.length : Int) == 0) = false := by rw [beq_eq_false_iff_ne]; omega
        have hi1 : (0 : Int) < (L.length : Int) := by omega
        clear hk0
        go_wp2_with (go_at_call 46; refine (sBaseMany_any _ _).mono ?_; rintro e w' ⟨rfl, rfl⟩; rw [HM.out])
        refine (pick_any R B (N + 5 * k) 50 _ hD.rdr (by omega) (by omega) (by omega)).mono ?_
        rintro e w1 ⟨m, rfl, m1, m2, hr1, hg1⟩
        have hD1 := hD.pick hr1 hg1
        clear hD hr1 hg1
        have q0 := cp_at L 0 hpos
        have hcA := (hD1.own.cellAt 0 (by omega)).trans q0.1
        have hcP := (hD1.own.cellAt 1 (by omega)).trans q0.2
        have hf0 := hD1.own.frozenAt 0
        have hf1 := hD1.own.frozenAt 1
        by_cases hm0 : m = 0
        · have e0 : (m == 0) = true := by simp [hm0]
          clear hm0
          go_wp2_with fail
          refine (pick_any R B (N + 5 * k + 1) 2 _ (hD1.alloc _).rdr (by omega) (by omega) (by omega)).mono ?_
          rintro e w2 ⟨x, rfl, x1, x2, hr2, hg2⟩
          have hD2 := (hD1.alloc _).pick hr2 hg2
          have hR1 : R < w1.heap.size := hD1.rdr.lt
          have l0 : w2.cell? ⟨w1.heap.size, 0, none⟩ = some (.int .i64 0) := hg2.cell (by simp [go_sem]) (fun e => by injection e with e; simp at e; omega)
          have l1 : w2.cell? ⟨w1.heap.size, 1, none⟩ = some (.int .i64 1000001) := hg2.cell (by simp [go_sem]) (fun e => by injection e with e; simp at e; omega)
          clear hcA hcP hf0 hf1 hD1 hr2 hg2
          have hcA := (hD2.own.cellAt 0 (by omega)).trans q0.1
          have hf0 := hD2.own.frozenAt 0
          have hP1 := VisPost.amp (N' := N + 120) hD2 hpos 0 (by omega)
          have hP2 := VisPost.amp (N' := N + 120) hD2 hpos 1000001 (by omega)
          have hx : x = 0 ∨ x = 1 := by omega
          rcases hx with rfl | rfl
          · go_wp2_with fail
            go_ret
            exact hP1
          · go_wp2_with fail
            go_ret
            exact hP2
        · have e0 : (m == 0) = false := by simp [hm0]
          clear hm0
          by_cases hm1 : m = 1
          · have e1 : (m == 1) = true := by simp [hm1]
            clear hm1
            have hP := VisPost.phase (N' := N + 120) hD1 hpos 360 (by omega)
            go_wp2_with fail
            go_ret
            exact hP
          · have e1 : (m == 1) = false := by simp [hm1]
            clear hm1
            by_cases hm2 : m = 2
            · have e2 : (m == 2) = true := by simp [hm2]
              clear hm2
              obtain ⟨p, hp⟩ : ∃ p, L[0] = p := ⟨_, rfl⟩
              rw [hp] at hcA hcP
              clear hp q0
              have hD3 := hD1.alloc (.cells #[.int .i64 p.1, .int .i64 p.2] 41)
              have hsz := hD1.grown.size
              have hLk : L.length ≤ 21 := by have := HL.out; omega
              have HC := Lib.hid (cp_snoc L p.1 p.2)
              go_wp2_with (at_builtin; refine wpList_append_own _ rfl _ _ 23 rfl w.heap.size 41 i0 _ 2 16 Try.underlying23 hi hz0 hz1 hz2 rfl (by decide) _ _ _ rfl hD3.own ⟨w1.heap.size, 0, none⟩ 1 1 [.int .i64 p.1, .int .i64 p.2] rfl rfl (new_cells _ _ _) ?d2 ?d3 ?d4 ?d5 ?_)
              case d2 => intro u hu; simp at hu; rcases hu with rfl | rfl <;> rfl
              case d3 => unfold maxLen; omega
              case d4 => omega
              case d5 => simp; omega
              intro v' w3 hown' hgrow _
              have hD4 := hD3.app hown' hgrow
              rw [← HC.out] at hD4
              have hP : VisPost R B (N + 120) w (.returned v') w3 := ⟨v', L ++ [(p.1, p.2)], rfl, by simpa using hD4.mono (by omega)⟩
              clear hown' hgrow hD3 hD4
              go_wp2_with fail
              go_ret
              exact hP
            · have e2 : (m == 2) = false := by simp [hm2]
              clear hm2
              have hP := VisPost.of (N' := N + 120) hD1 (by omega)
              go_wp2_with fail
              go_ret
              exact hP

/-- A number of antennas and visibilities that are drawn. -/
def ManyPost (R B N : Nat) (least : Int) (w : World) (e : Ending) (w' : World) : Prop := ∃ (n : Nat) (v : Value) (L : List (Int × Int)), 2 ≤ n ∧ n ≤ 7 ∧ least ≤ n ∧ e = .returned (.tuple #[.int .i64 n, v]) ∧ DRow w R B N 41 2 v L.length (cp L) w'
theorem DRow.base {w w1 wr : World} {R B N : Nat} {T : TypeId} {size : Nat} {v : Value} {n : Nat} {xs : List Value} (h : DRow w1 R B N T size v n xs wr) (hg : w.grownBy w1 (some R)) (hR : R < w.heap.size) : DRow w R B N T size v n xs wr :=
  ⟨own_less h.own hg.size, h.rdr, gTrans hg h.grown, hR⟩
set_option maxHeartbeats 1000000 in
theorem l92Many_any (R B N : Nat) (least : Int) (w : World) (h : Rdr w R B N) (hN : N ≤ 1000) (hl1 : 2 ≤ least) (hl2 : least ≤ 6) :
    Calls Try.prog 71 #[.pointer (some ⟨R, 0, none⟩), .int .i64 least] w (ManyPost R B (N + 121) least w) := by
  have hR := h.lt
  go_enter Try.func71, Try.ntmps71
  go_wp2_with fail
  refine (l91Ants_any R B N _ h (by omega)).mono ?_
  rintro e w1 ⟨x, rfl, ⟨x1, x2⟩, hr1, hg1⟩
  by_cases hx : x ≤ least
  · go_wp2_with fail
    refine (l91Vis_any R B (N + 1) least _ hr1 (by omega)).mono ?_
    rintro e w2 ⟨v, L, rfl, hD⟩
    obtain ⟨n, rfl⟩ := Vm.nat_of (i := least) (by omega)
    obtain ⟨A, c, rfl⟩ := own_form hD.own
    have hP : ManyPost R B (N + 121) n w (.returned (.tuple #[.int .i64 n, .slice A L.length c])) w2 := ⟨n, _, L, by omega, by omega, by omega, rfl, (hD.mono (by omega)).base hg1 hR⟩
    go_wp2_with fail
    go_ret2
    exact hP
  · have hx' : least ≤ x := by omega
    go_wp2_with fail
    refine (l91Vis_any R B (N + 1) x _ hr1 (by omega)).mono ?_
    rintro e w2 ⟨v, L, rfl, hD⟩
    obtain ⟨n, rfl⟩ := Vm.nat_of (i := x) (by omega)
    obtain ⟨A, c, rfl⟩ := own_form hD.own
    have hP : ManyPost R B (N + 121) least w (.returned (.tuple #[.int .i64 n, .slice A L.length c])) w2 := ⟨n, _, L, by omega, by omega, by omega, rfl, (hD.mono (by omega)).base hg1 hR⟩
    go_wp2_with fail
    go_ret2
    exact hP



end Go.Proofs.Ytmoeofclpnblmaa
