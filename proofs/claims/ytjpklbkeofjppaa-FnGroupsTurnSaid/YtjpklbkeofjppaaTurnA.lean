/- The program's ArrayTurn and ArrayShift for valid arrays. Written by turnagen.py. -/
import Derived.Test.YtjpklbkeofjppaaGrpB
import Derived.Test.YtjpklbkeofjppaaRedD
import Derived.Test.YtjpklbkeofjppaaDrawP
namespace Go.Proofs.Ytjpklbkeofjppaa
open Go.RowKit

/-- The first j are turned. -/
def partL (M : List (Int × Int)) (f : Int × Int → Int × Int) (j : Nat) : List (Int × Int) := (M.take j).map f ++ M.drop j
theorem partL_len (M : List (Int × Int)) (f : Int × Int → Int × Int) (j : Nat) : (partL M f j).length = M.length := by simp [partL]; omega
theorem partL_zero (M : List (Int × Int)) (f : Int × Int → Int × Int) : partL M f 0 = M := by simp [partL]
theorem partL_all (M : List (Int × Int)) (f : Int × Int → Int × Int) : partL M f M.length = M.map f := by simp [partL]
theorem partL_at {M : List (Int × Int)} {f : Int × Int → Int × Int} {j : Nat} (h : j < M.length) : (partL M f j)[j]'(by rw [partL_len]; exact h) = M[j] := by
  have hl : ((M.take j).map f).length = j := by simp; omega
  simp only [partL]
  rw [List.getElem_append_right (by omega)]
  simp only [List.getElem_drop, hl, Nat.sub_self, Nat.add_zero]
theorem partL_set {M : List (Int × Int)} {f : Int × Int → Int × Int} {j : Nat} (h : j < M.length) : (partL M f j).set j (f M[j]) = partL M f (j + 1) := by
  have hl : ((M.take j).map f).length = j := by simp; omega
  simp only [partL]
  rw [List.set_append_right _ _ (by omega), hl, Nat.sub_self, List.drop_eq_getElem_cons h, List.set_cons_zero, List.take_succ_eq_append_getElem h, List.map_append, List.append_assoc]
  rfl
theorem CloneAnt_ok (b off n c : Nat) (L : List (Int × Int)) (w : World) (h : Rd w w.heap.size 2 (some ⟨b, off, none⟩) n c (cp L)) (hn : 0 < n) (hn7 : n ≤ 7) :
    Calls Try.prog 49 #[.slice (some ⟨b, off, none⟩) n c] w fun e w' => ∃ v, e = .returned v ∧ w'.ownsRow w.heap.size 38 2 v n (cp L) ∧ Below w.heap.size w w' := by
  have hc := h.cap
  have hm := h.most
  have hl := h.len
  obtain ⟨i0, hi, hz0, hz1, hz2⟩ := info_parts infoAnt
  have hO0 : (w.alloc (.cells #[] 38)).ownsRow w.heap.size 38 2 (.slice (some ⟨w.heap.size, 0, none⟩) 0 0) 0 [] := by
    have := World.ownsRow_lit (base := w.heap.size) (e := 38) (size := 2) w #[] 0 (by simp) (by decide) rfl
    simpa using this
  have hcells : ∀ j u, (cp L)[j]? = some u → (w.alloc (.cells #[] 38)).cell? ((⟨b, off, none⟩ : Addr).add j) = some u := by
    intro j u hu
    obtain ⟨b', off', e, hb, hc⟩ := h.at_ hn
    injection e with e
    injection e with e1 e2
    subst e1 e2
    have e3 : ((⟨b, off, none⟩ : Addr).add j) = ⟨b, off + j, none⟩ := by unfold Addr.add; split <;> simp_all
    rw [e3]
    exact ((bA (b0 w) _).cell (p := ⟨b, off + j, none⟩) hb).trans (hc j u hu)
  have heq : ∀ W : World, (Sem.run Try.prog (binOp .eql 25 (.slice (some ⟨b, off, none⟩) n c) (.slice none 0 0)) W) = .ok (.bool false) W := fun W => by kernel_rfl
  go_enter Try.func49, Try.ntmps49
  go_wp2_with (at_builtin; refine wpList_append_own _ rfl _ _ 25 rfl w.heap.size 38 i0 _ 2 16 Try.underlying25 hi hz0 hz1 hz2 rfl (by decide) _ _ _ rfl hO0 ⟨b, off, none⟩ n c (cp L) rfl hl hcells (cp_one _) ?c3 ?c4 ?c5 ?_)
  case c3 => unfold maxLen; omega
  case c4 => omega
  case c5 => simp
  intro v' w5 hown5 hgrow5 _
  have hB5 := own_below (bA (b0 w) (.cells #[] 38)) hO0 hgrow5
  have hown5 : w5.ownsRow w.heap.size 38 2 v' n (cp L) := by simpa using hown5
  have HP : Hid (∃ v, Ending.returned v' = .returned v ∧ w5.ownsRow w.heap.size 38 2 v n (cp L) ∧ Below w.heap.size w w5) := ⟨_, rfl, hown5, hB5⟩
  clear hown5 hgrow5 hB5 hO0 hcells
  go_wp2_with fail
  go_ret
  exact HP.out
def TurnPost (L : List (Int × Int)) (w : World) (e : Ending) (w' : World) : Prop := ∃ v, e = .returned (.tuple #[v, .bool true]) ∧ w'.ownsRow w.heap.size 38 2 v L.length (cp L) ∧ Below w.heap.size w w'
set_option maxRecDepth 100000 in
set_option maxHeartbeats 4000000 in
theorem ArrayTurn_ok (A : Option Addr) (n c : Nat) (L : List (Int × Int)) (k : Nat) (w : World) (h : Rd w w.heap.size 2 A n c (cp L)) (ha : Vm.arrB L = true) (hk : k ≤ 3) :
    Calls Try.prog 27 #[.slice A n c, .int .i64 k] w (TurnPost (Vm.turnL L k) w) := by
  have hm := h.most
  have hcap := h.cap
  obtain rfl : L.length = n := by have := h.len; rw [cp_length] at this; omega
  obtain ⟨⟨h2, h7⟩, -⟩ := (Vm.arrB_iff L).1 ha
  have HA := Lib.hid ha
  have HT := Lib.hid (Vm.turnL_len L)
  have HTA := Lib.hid (Vm.turnL_arr ha)
  clear ha
  obtain ⟨b, off, rfl, -, -⟩ := h.at_ (by omega)
  have hk0 : decide ((k : Int) < 0) = false := by simp
  have hk3 : decide ((3 : Int) < (k : Int)) = false := by simp; omega
  go_enter Try.func27, Try.ntmps27
  go_wp2_with fail
  refine (ArrayValid_any _ _ _ L _ h).mono ?_
  rintro e w1 ⟨rfl, hB1⟩
  rw [HA.out]
  replace h := h.after hB1
  go_wp2_with fail
  refine (CloneAnt_ok _ _ _ _ L _ h (by omega) (by omega)).mono ?_
  rintro e w2 ⟨v, rfl, hown, hB2⟩
  obtain ⟨g, cap, rfl, -, -⟩ := hown.form (by omega)
  have hmv := (Rd.of_own hown).most
  have hcv := (Rd.of_own hown).cap
  have hB := bT hB1 hB2
  have hbg := hB1.size
  clear h hB1 hB2
  go_wp2_with fail
  go_loopw [23] (fun i wr => ∃ q : Nat, q ≤ k ∧ i = .int .i64 q ∧ wr.ownsRow w1.heap.size 38 2 (.slice (some ⟨g, 0, none⟩) L.length cap) L.length (cp (Vm.turnL L q)) ∧ Below w.heap.size w wr) (fun i _ => k - (intOf i).toNat)
  case atStart => exact ⟨0, Nat.zero_le _, rfl, hown, hB⟩
  case round =>
    clear hown hB
    obtain ⟨q, hq, rfl, hown, hB⟩ := hrel
    by_cases hlt : q < k
    · go_wp2_with fail
      obtain ⟨M, hM⟩ : ∃ M, Vm.turnL L q = M := ⟨_, rfl⟩
      have hMl : M.length = L.length := by rw [← hM]; exact HT.out q
      have HMT := Lib.hid (show Vm.turnL L (q + 1) = M.map Vm.trn by rw [← hM]; rfl)
      have HMA := Lib.hid (show Vm.arrB M = true by rw [← hM]; exact HTA.out q)
      have HML := Lib.hid hMl
      rw [hM] at hown
      clear hM hMl
      go_loopw [27] (fun i wr => ∃ j : Nat, j ≤ L.length ∧ i = .int .i64 j ∧ wr.ownsRow w1.heap.size 38 2 (.slice (some ⟨g, 0, none⟩) L.length cap) L.length (cp (partL M Vm.trn j)) ∧ Below w.heap.size w wr) (fun i _ => L.length - (intOf i).toNat)
      case atStart => exact ⟨0, Nat.zero_le _, rfl, by rw [partL_zero]; exact hown, hB⟩
      case round =>
        clear hown hB
        obtain ⟨j, hj, rfl, hown, hB⟩ := hrel
        by_cases hjl : j < L.length
        · have hjM : j < M.length := by rw [HML.out]; exact hjl
          have hjP : j < (partL M Vm.trn j).length := by rw [partL_len]; exact hjM
          have hat := cp_at (partL M Vm.trn j) j hjP
          rw [partL_at hjM, Nat.mul_comm 2 j] at hat
          have HS := Lib.hid (show cp (partL M Vm.trn (j + 1)) = ((cp (partL M Vm.trn j)).set (j * 2) (.int .i64 (-M[j].2))).set (j * 2 + 1) (.int .i64 M[j].1) by rw [← partL_set hjM, cp_set]; rfl)
          have hpl := (Vm.plB_iff _).1 (((Vm.arrB_iff M).1 HMA.out).2.1 j hjM)
          rw [Vm.aat_nat M j hjM] at hpl
          obtain ⟨p, hp⟩ : ∃ p, M[j] = p := ⟨_, rfl⟩
          rw [hp] at hat HS hpl
          have q0 := (hown.cellAt (j * 2) (by omega)).trans hat.1
          have q1 := (hown.cellAt (j * 2 + 1) (by omega)).trans hat.2
          have hneg : IntKind.i64.wrap (-p.2) = -p.2 := IntWalk.i64_in _ (by omega)
          have hj1 : (j : Int) < (L.length : Int) := by omega
          have hown1 := hown.alloc (.cells #[.int .i64 p.1, .int .i64 p.2] 38)
          have q2 := (hown1.cellAt (j * 2) (by omega)).trans hat.1
          have q3 := (hown1.cellAt (j * 2 + 1) (by omega)).trans hat.2
          have f2 := hown1.frozenAt (j * 2)
          have f3 := hown1.frozenAt (j * 2 + 1)
          have hgl := hown.lt g rfl
          have hs1 := (hown.stored (j * 2) (.int .i64 (-p.2))).1
          have hs2 := (hs1.stored (j * 2 + 1) (.int .i64 p.1)).1
          rw [← HS.out] at hs2
          have q4 := (hown.cellAt (j * 2) (by omega)).trans hat.1
          have f0 := hown.frozenAt (j * 2)
          have f1 := hown.frozenAt (j * 2 + 1)
          have hBs := bA (bS (bS hB (p := ⟨g, j * 2, none⟩) (by show w.heap.size ≤ g; omega) (.int .i64 (-p.2))) (p := ⟨g, j * 2 + 1, none⟩) (by show w.heap.size ≤ g; omega) (.int .i64 p.1)) (.cells #[.int .i64 p.1, .int .i64 p.2] 38)
          have hs3 := hs2.alloc (.cells #[.int .i64 p.1, .int .i64 p.2] 38)
          clear hp hat hown hown1 hs1 hs2 hB hjP
          go_wp2_with fail
          exact ⟨⟨j + 1, by omega, by go_num, hs3, hBs⟩, by simp [intOf]; omega⟩
        · have hje : j = M.length := by rw [HML.out]; omega
          have hjL : j = L.length := by omega
          rw [hje, partL_all, ← HMT.out] at hown
          clear hje
          subst hjL
          go_wp2_with fail
          exact ⟨⟨q + 1, by omega, by go_num, hown, hB⟩, by simp [intOf]; omega⟩
    · obtain rfl : q = k := by omega
      have HP : Hid (TurnPost (Vm.turnL L q) w (.returned (.tuple #[.slice (some ⟨g, 0, none⟩) L.length cap, .bool true])) wr) := ⟨_, rfl, by rw [HT.out]; exact own_less hown hbg, hB⟩
      clear hown hB
      go_wp2_with fail
      go_ret2
      exact HP.out
def ShiftPost (L : List (Int × Int)) (w : World) (e : Ending) (w' : World) : Prop := (e = .returned (.tuple #[.slice none 0 0, .bool false]) ∧ Below w.heap.size w w') ∨
  (Vm.arrB L = true ∧ ∃ v, e = .returned (.tuple #[v, .bool true]) ∧ w'.ownsRow w.heap.size 38 2 v L.length (cp L) ∧ Below w.heap.size w w')
theorem shf_take {L : List (Int × Int)} {j : Nat} (h : j < L.length) : (L.map (Vm.shf 1 2)).take (j + 1) = (L.map (Vm.shf 1 2)).take j ++ [(L[j].1 + 1, L[j].2 + 2)] := by
  have hl : j < (L.map (Vm.shf 1 2)).length := by simpa using h
  rw [List.take_succ_eq_append_getElem hl]
  simp [Vm.shf]
set_option maxRecDepth 100000 in
set_option maxHeartbeats 4000000 in
theorem ArrayShift_ok (A : Option Addr) (n c : Nat) (L : List (Int × Int)) (w : World) (h : Rd w w.heap.size 2 A n c (cp L)) (ha : Vm.arrB L = true) :
    Calls Try.prog 28 #[.slice A n c, .int .i64 1, .int .i64 2] w (ShiftPost (L.map (Vm.shf 1 2)) w) := by
  have hm := h.most
  have hcap := h.cap
  obtain rfl : L.length = n := by have := h.len; rw [cp_length] at this; omega
  obtain ⟨⟨h2, h7⟩, -⟩ := (Vm.arrB_iff L).1 ha
  have HA := Lib.hid ha
  have i1 := Lib.hid (show inR 1 2000 = true by decide)
  have i2 := Lib.hid (show inR 2 2000 = true by decide)
  clear ha
  obtain ⟨i0, hi, hz0, hz1, hz2⟩ := info_parts infoAnt
  obtain ⟨b, off, rfl, -, -⟩ := h.at_ (by omega)
  go_enter Try.func28, Try.ntmps28
  go_wp2_with fail
  refine (ArrayValid_any _ _ _ L _ h).mono ?_
  rintro e w1 ⟨rfl, hB1⟩
  rw [HA.out]
  replace h := h.after hB1
  go_wp2_with fail
  refine (inRange_any _ _ _ (by omega) (by omega)).mono ?_
  rintro e w' ⟨rfl, rfl⟩
  rw [i1.out]
  go_wp2_with fail
  refine (inRange_any _ _ _ (by omega) (by omega)).mono ?_
  rintro e w' ⟨rfl, rfl⟩
  rw [i2.out]
  go_wp2_with fail
  go_loopw [8, 26] (fun v i wr => ∃ j : Nat, j ≤ L.length ∧ i = .int .i64 j ∧ wr.ownsRow w1.heap.size 38 2 v j (cp ((L.map (Vm.shf 1 2)).take j)) ∧ Below w1.heap.size w1 wr) (fun _ i _ => L.length - (intOf i).toNat)
  case atStart => exact ⟨0, Nat.zero_le _, rfl, World.ownsRow_nil _ _ _ _, b0 _⟩
  case round =>
    obtain ⟨j, hj, rfl, hown, hW⟩ := hrel
    replace h := h.after hW
    by_cases hjl : j < L.length
    · obtain ⟨b', off', eA, hb, q0, q1⟩ := h.pair_at hjl
      obtain ⟨rfl, rfl⟩ : b = b' ∧ off = off' := by simpa using eA
      have hpl := (Vm.plB_iff _).1 (((Vm.arrB_iff L).1 HA.out).2.1 j hjl)
      rw [Vm.aat_nat L j hjl] at hpl
      have HT := Lib.hid (shf_take hjl)
      obtain ⟨p, hp⟩ : ∃ p, L[j] = p := ⟨_, rfl⟩
      rw [hp] at q0 q1 hpl HT
      have hj1 : (j : Int) < (L.length : Int) := by omega
      have u1 : IntKind.i64.wrap (p.1 + 1) = p.1 + 1 := IntWalk.i64_in _ (by omega)
      have u2 : IntKind.i64.wrap (p.2 + 2) = p.2 + 2 := IntWalk.i64_in _ (by omega)
      have hown1 := (hown.alloc (.cells #[.int .i64 p.1, .int .i64 p.2] 38)).alloc (.cells #[.int .i64 (p.1 + 1), .int .i64 (p.2 + 2)] 38)
      have hB2 := bA (bA hW (.cells #[.int .i64 p.1, .int .i64 p.2] 38)) (.cells #[.int .i64 (p.1 + 1), .int .i64 (p.2 + 2)] 38)
      have hsz := hW.size
      clear hp eA
      go_wp2_with (at_builtin; refine wpList_append_own _ rfl _ _ 25 rfl w1.heap.size 38 i0 _ 2 16 Try.underlying25 hi hz0 hz1 hz2 rfl (by decide) _ _ _ rfl hown1 ⟨wr.heap.size + 1, 0, none⟩ 1 1 [.int .i64 (p.1 + 1), .int .i64 (p.2 + 2)] rfl rfl (by have := new_cells (wr.alloc (.cells #[.int .i64 p.1, .int .i64 p.2] 38)) #[.int .i64 (p.1 + 1), .int .i64 (p.2 + 2)] 38; rwa [World.size_alloc] at this) ?c2 ?c3 ?c4 ?c5 ?_)
      case c2 => intro u hu; simp at hu; rcases hu with rfl | rfl <;> rfl
      case c3 => unfold maxLen; omega
      case c4 => omega
      case c5 => simp; omega
      intro v' w9 hown' hgrow _
      have hB3 := own_below hB2 hown1 hgrow
      rw [← cp_snoc, ← HT.out] at hown'
      clear hown1 hgrow hB2 hown
      go_wp2_with fail
      go_roundw
      case rel => exact ⟨j + 1, by omega, by go_num, hown', hB3⟩
      case measure => simp [intOf]; omega
    · obtain rfl : j = L.length := by omega
      rw [List.take_of_length_le (by simp)] at hown
      obtain ⟨A9, c9, rfl⟩ := own_form hown
      have hs := Rd.of_own hown
      have hbw := hB1.size
      go_wp2_with fail
      refine (ArrayValid_any _ _ _ (L.map (Vm.shf 1 2)) _ hs).mono ?_
      rintro e w9 ⟨rfl, hB9⟩
      have hB := bT (bT hB1 hW) hB9
      replace hown := own_after hown hB9
      cases hv : Vm.arrB (L.map (Vm.shf 1 2))
      · have HP : Hid (ShiftPost (L.map (Vm.shf 1 2)) w (.returned (.tuple #[.slice none 0 0, .bool false])) w9) := .inl ⟨rfl, hB⟩
        clear hown hs hv h
        go_wp2_with fail
        go_ret2
        exact HP.out
      · have HP : Hid (ShiftPost (L.map (Vm.shf 1 2)) w (.returned (.tuple #[.slice A9 L.length c9, .bool true])) w9) := .inr ⟨hv, _, rfl, by rw [List.length_map]; exact own_less hown hbw, hB⟩
        clear hown hs hv h
        go_wp2_with fail
        go_ret2
        exact HP.out
end Go.Proofs.Ytjpklbkeofjppaa
