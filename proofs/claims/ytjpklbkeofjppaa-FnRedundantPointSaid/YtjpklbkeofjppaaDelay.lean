/- Contracts: delays for valid arguments. Written by delaygen.py. -/
import Derived.Test.YtjpklbkeofjppaaArrS
namespace Go.Proofs.Ytjpklbkeofjppaa
open Go.RowKit

theorem box2 {w w1 : World} {a b : Value} {T : TypeId} (hB : Below (w.alloc (.cells #[a, b] T)).heap.size (w.alloc (.cells #[a, b] T)) w1) : w1.cell? ⟨w.heap.size, 0, none⟩ = some a ∧ w1.cell? ⟨w.heap.size, 1, none⟩ = some b ∧ w.heap.size < w1.heap.size := by
  obtain ⟨q1, _⟩ := bcell hB
  have := hB.size
  refine ⟨(q1 _ _ (by simp)).trans (by simp [go_sem]), (q1 _ _ (by simp)).trans (by simp [go_sem]), ?_⟩
  simp at this; omega
set_option maxRecDepth 100000 in
set_option maxHeartbeats 4000000 in
theorem DelayOf_ok (A : Option Addr) (n c : Nat) (L : List (Int × Int)) (d : Int × Int) (k : Nat) (w : World) (h : Rd w w.heap.size 2 A n c (cp L)) (ha : Vm.arrB L = true) (hd : Vm.plB d = true) (hk : k < L.length) :
    Calls Try.prog 78 #[.slice A n c, .int .i64 k, gv d] w fun e w' => e = .returned (.tuple #[.int .i64 (Vm.delay L d k), .bool true]) ∧ Below w.heap.size w w' := by
  have hn := h.len
  rw [cp_length] at hn
  have hm := h.most
  have hcap := h.cap
  obtain rfl : L.length = n := by omega
  clear hn
  have hl7 := ((Vm.arrB_iff L).1 ha).1
  obtain ⟨⟨x1, x2⟩, ⟨x3, x4⟩, x5, x6⟩ := Vm.delay_bd ha hd (i := (k : Int)) (by omega)
  have HDL := Lib.hid (show Vm.delay L d k = (Vm.aat L k).1 * d.1 + (Vm.aat L k).2 * d.2 from rfl)
  rw [HDL.out] at x5 x6
  rw [Vm.aat_nat L k hk] at x1 x2 x3 x4 x5 x6 HDL
  obtain ⟨p, hp⟩ : ∃ p, L[k] = p := ⟨_, rfl⟩
  rw [hp] at x1 x2 x3 x4 x5 x6 HDL
  have HP := Lib.hid hp
  have HA := Lib.hid ha
  have HD := Lib.hid hd
  have hi1 : (k : Int) < (L.length : Int) := by omega
  have hant : Vm.antB (L.length : Int) (k : Int) = true := (Vm.antB_iff _ _).2 (by omega)
  clear hp ha hd
  obtain ⟨da, db⟩ := d
  simp only at x1 x2 x3 x4 x5 x6 HDL
  have hw1 : IntKind.i64.wrap (p.1 * da) = p.1 * da := IntWalk.i64_in _ (by omega)
  have hw2 : IntKind.i64.wrap (p.2 * db) = p.2 * db := IntWalk.i64_in _ (by omega)
  have hw3 : IntKind.i64.wrap (p.1 * da + p.2 * db) = p.1 * da + p.2 * db := IntWalk.i64_in _ (by omega)
  unfold gv
  go_enter Try.func78, Try.ntmps78
  go_wp2_with fail
  refine (ArrayValid_any _ _ _ L _ (h.after (bA (b0 w) _))).mono ?_
  rintro e w1 ⟨rfl, hB1⟩
  rw [HA.out]
  obtain ⟨k0, k1, k2⟩ := box2 hB1
  go_wp2_with (go_at_call 52; refine (isAnt_any _ _ _).mono ?_; rintro e w' ⟨rfl, rfl⟩)
  refine (isPlace_any (da, db) _).mono ?_
  rintro e w2 ⟨rfl, hB2⟩
  rw [HD.out]
  have hB12 := bT hB1 hB2
  clear hB1 hB2 k0 k1 k2
  obtain ⟨k0, k1, k2⟩ := box2 hB12
  have hBw := bT (bA (b0 w) (.cells #[.int .i64 da, .int .i64 db] 38)) hB12
  obtain ⟨b, off, rfl, hb, c1, c2⟩ := (h.after hBw).pair_at hk
  rw [HP.out] at c1 c2
  clear hB12 HA HD
  go_wp2_with fail
  go_quiet (fail)
  clear hw1 hw2 hw3 c1 c2 k0 k1
  go_wp2_with fail
  go_ret2
  exact ⟨by rw [HDL.out]; rfl, bD hBw _⟩
set_option maxRecDepth 100000 in
set_option maxHeartbeats 4000000 in
theorem sDelayOf_ok (A : Option Addr) (n c : Nat) (L : List (Int × Int)) (d : Int × Int) (k : Nat) (w : World) (h : Rd w w.heap.size 2 A n c (cp L)) (ha : Vm.arrB L = true) (hd : Vm.plB d = true) (hk : k < L.length) :
    Calls Try.prog 79 #[.slice A n c, .int .i64 k, gv d] w fun e w' => e = .returned (.tuple #[.int .i64 (Vm.delay L d k), .bool true]) ∧ Below w.heap.size w w' := by
  have hn := h.len
  rw [cp_length] at hn
  have hm := h.most
  have hcap := h.cap
  obtain rfl : L.length = n := by omega
  clear hn
  have hl7 := ((Vm.arrB_iff L).1 ha).1
  obtain ⟨⟨x1, x2⟩, ⟨x3, x4⟩, x5, x6⟩ := Vm.delay_bd ha hd (i := (k : Int)) (by omega)
  have HDL := Lib.hid (show Vm.delay L d k = (Vm.aat L k).1 * d.1 + (Vm.aat L k).2 * d.2 from rfl)
  rw [HDL.out] at x5 x6
  rw [Vm.aat_nat L k hk] at x1 x2 x3 x4 x5 x6 HDL
  obtain ⟨p, hp⟩ : ∃ p, L[k] = p := ⟨_, rfl⟩
  rw [hp] at x1 x2 x3 x4 x5 x6 HDL
  have HP := Lib.hid hp
  have HA := Lib.hid ha
  have HD := Lib.hid hd
  have hi1 : (k : Int) < (L.length : Int) := by omega
  have hant : Vm.antB (L.length : Int) (k : Int) = true := (Vm.antB_iff _ _).2 (by omega)
  clear hp ha hd
  obtain ⟨da, db⟩ := d
  simp only at x1 x2 x3 x4 x5 x6 HDL
  have hw1 : IntKind.i64.wrap (p.1 * da) = p.1 * da := IntWalk.i64_in _ (by omega)
  have hw2 : IntKind.i64.wrap (p.2 * db) = p.2 * db := IntWalk.i64_in _ (by omega)
  have hw3 : IntKind.i64.wrap (p.1 * da + p.2 * db) = p.1 * da + p.2 * db := IntWalk.i64_in _ (by omega)
  unfold gv
  go_enter Try.func79, Try.ntmps79
  go_wp2_with fail
  refine (sArrayValid_any _ _ _ L _ (h.after (bA (b0 w) _))).mono ?_
  rintro e w1 ⟨rfl, hB1⟩
  rw [HA.out]
  obtain ⟨k0, k1, k2⟩ := box2 hB1
  go_wp2_with (go_at_call 59; refine (l6In_any _ _ _ _).mono ?_; rintro e w' ⟨rfl, rfl⟩; rw [in3_antB])
  refine (l3Place_any (da, db) _).mono ?_
  rintro e w2 ⟨rfl, hB2⟩
  rw [HD.out]
  have hB12 := bT hB1 hB2
  clear hB1 hB2 k0 k1 k2
  obtain ⟨k0, k1, k2⟩ := box2 hB12
  have hBw := bT (bA (b0 w) (.cells #[.int .i64 da, .int .i64 db] 38)) hB12
  obtain ⟨b, off, rfl, hb, c1, c2⟩ := (h.after hBw).pair_at hk
  rw [HP.out] at c1 c2
  clear hB12 HA HD
  go_wp2_with fail
  go_quiet (fail)
  clear hw1 hw2 hw3 c1 c2 k0 k1
  go_wp2_with fail
  go_ret2
  exact ⟨by rw [HDL.out]; rfl, bD hBw _⟩
set_option maxHeartbeats 4000000 in
theorem DelayBase_ok (A : Option Addr) (n c : Nat) (L : List (Int × Int)) (d : Int × Int) (i j : Nat) (w : World) (h : Rd w w.heap.size 2 A n c (cp L)) (ha : Vm.arrB L = true) (hd : Vm.plB d = true) (hi : i < L.length) (hj : j < L.length) :
    Calls Try.prog 69 #[.slice A n c, .int .i64 i, .int .i64 j, gv d] w fun e w' => e = .returned (.tuple #[.int .i64 (Vm.delay L d j - Vm.delay L d i), .bool true]) ∧ Below w.heap.size w w' := by
  obtain ⟨_, _, x5, x6⟩ := Vm.delay_bd ha hd (i := (i : Int)) (by omega)
  obtain ⟨_, _, y5, y6⟩ := Vm.delay_bd ha hd (i := (j : Int)) (by omega)
  obtain ⟨x, hx⟩ : ∃ x, Vm.delay L d i = x := ⟨_, rfl⟩
  obtain ⟨y, hy⟩ : ∃ x, Vm.delay L d j = x := ⟨_, rfl⟩
  rw [hx] at x5 x6 ⊢
  rw [hy] at y5 y6 ⊢
  have HX := Lib.hid hx
  have HY := Lib.hid hy
  have HA := Lib.hid ha
  have HD := Lib.hid hd
  clear hx hy ha hd
  obtain ⟨da, db⟩ := d
  unfold gv
  go_enter Try.func69, Try.ntmps69
  go_wp2_with fail
  refine (DelayOf_ok _ _ _ L (da, db) i _ (h.after (bA (b0 w) _)) HA.out HD.out hi).mono ?_
  rintro e w1 ⟨rfl, hB1⟩
  rw [HX.out]
  obtain ⟨k0, k1, k2⟩ := box2 hB1
  go_wp2_with fail
  refine (DelayOf_ok _ _ _ L (da, db) j _ ((h.after (bA (b0 w) _)).after hB1) HA.out HD.out hj).mono ?_
  rintro e w2 ⟨rfl, hB2⟩
  rw [HY.out]
  clear k0 k1
  go_wp2_with fail
  go_ret2
  exact ⟨rfl, bT (bA (b0 w) _) (bT hB1 hB2)⟩
set_option maxHeartbeats 4000000 in
theorem sDelayBase_ok (A : Option Addr) (n c : Nat) (L : List (Int × Int)) (d : Int × Int) (i j : Nat) (w : World) (h : Rd w w.heap.size 2 A n c (cp L)) (ha : Vm.arrB L = true) (hd : Vm.plB d = true) (hi : i < L.length) (hj : j < L.length) :
    Calls Try.prog 71 #[.slice A n c, .int .i64 i, .int .i64 j, gv d] w fun e w' => e = .returned (.tuple #[.int .i64 (Vm.delay L d j - Vm.delay L d i), .bool true]) ∧ Below w.heap.size w w' := by
  obtain ⟨_, _, x5, x6⟩ := Vm.delay_bd ha hd (i := (i : Int)) (by omega)
  obtain ⟨_, _, y5, y6⟩ := Vm.delay_bd ha hd (i := (j : Int)) (by omega)
  obtain ⟨x, hx⟩ : ∃ x, Vm.delay L d i = x := ⟨_, rfl⟩
  obtain ⟨y, hy⟩ : ∃ x, Vm.delay L d j = x := ⟨_, rfl⟩
  rw [hx] at x5 x6 ⊢
  rw [hy] at y5 y6 ⊢
  have HX := Lib.hid hx
  have HY := Lib.hid hy
  have HA := Lib.hid ha
  have HD := Lib.hid hd
  clear hx hy ha hd
  obtain ⟨da, db⟩ := d
  unfold gv
  go_enter Try.func71, Try.ntmps71
  go_wp2_with fail
  refine (sDelayOf_ok _ _ _ L (da, db) i _ (h.after (bA (b0 w) _)) HA.out HD.out hi).mono ?_
  rintro e w1 ⟨rfl, hB1⟩
  rw [HX.out]
  obtain ⟨k0, k1, k2⟩ := box2 hB1
  go_wp2_with fail
  refine (sDelayOf_ok _ _ _ L (da, db) j _ ((h.after (bA (b0 w) _)).after hB1) HA.out HD.out hj).mono ?_
  rintro e w2 ⟨rfl, hB2⟩
  rw [HY.out]
  clear k0 k1
  go_wp2_with fail
  go_ret2
  exact ⟨rfl, bT (bA (b0 w) _) (bT hB1 hB2)⟩
set_option maxHeartbeats 4000000 in
theorem DelayPhase_ok (A : Option Addr) (n c : Nat) (L : List (Int × Int)) (d : Int × Int) (i j : Nat) (w : World) (h : Rd w w.heap.size 2 A n c (cp L)) (ha : Vm.arrB L = true) (hd : Vm.plB d = true) (hi : i < L.length) (hj : j < L.length) :
    Calls Try.prog 57 #[.slice A n c, .int .i64 i, .int .i64 j, gv d] w fun e w' => e = .returned (.tuple #[.int .i64 ((Vm.delay L d j - Vm.delay L d i) % 360), .bool true]) ∧ Below w.heap.size w w' := by
  have HA := Lib.hid ha
  have HD := Lib.hid hd
  clear ha hd
  obtain ⟨x, hx⟩ : ∃ x, Vm.delay L d j - Vm.delay L d i = x := ⟨_, rfl⟩
  rw [hx]
  have HX := Lib.hid hx
  clear hx
  obtain ⟨da, db⟩ := d
  unfold gv
  go_enter Try.func57, Try.ntmps57
  go_wp2_with fail
  refine (DelayBase_ok _ _ _ L (da, db) i j _ (h.after (bA (b0 w) _)) HA.out HD.out hi hj).mono ?_
  rintro e w1 ⟨rfl, hB1⟩
  rw [HX.out]
  go_wp2_with (go_at_call 70; refine (PhaseOf_any _ _).mono ?_; rintro e w' ⟨rfl, rfl⟩)
  go_ret2
  exact ⟨rfl, bT (bA (b0 w) _) hB1⟩
set_option maxHeartbeats 4000000 in
theorem sDelayPhase_ok (A : Option Addr) (n c : Nat) (L : List (Int × Int)) (d : Int × Int) (i j : Nat) (w : World) (h : Rd w w.heap.size 2 A n c (cp L)) (ha : Vm.arrB L = true) (hd : Vm.plB d = true) (hi : i < L.length) (hj : j < L.length) :
    Calls Try.prog 60 #[.slice A n c, .int .i64 i, .int .i64 j, gv d] w fun e w' => e = .returned (.tuple #[.int .i64 ((Vm.delay L d j - Vm.delay L d i) % 360), .bool true]) ∧ Below w.heap.size w w' := by
  have HA := Lib.hid ha
  have HD := Lib.hid hd
  clear ha hd
  obtain ⟨x, hx⟩ : ∃ x, Vm.delay L d j - Vm.delay L d i = x := ⟨_, rfl⟩
  rw [hx]
  have HX := Lib.hid hx
  clear hx
  obtain ⟨da, db⟩ := d
  unfold gv
  go_enter Try.func60, Try.ntmps60
  go_wp2_with fail
  refine (sDelayBase_ok _ _ _ L (da, db) i j _ (h.after (bA (b0 w) _)) HA.out HD.out hi hj).mono ?_
  rintro e w1 ⟨rfl, hB1⟩
  rw [HX.out]
  go_wp2_with (go_at_call 72; refine (sPhaseOf_any _ _).mono ?_; rintro e w' ⟨rfl, rfl⟩)
  go_ret2
  exact ⟨rfl, bT (bA (b0 w) _) hB1⟩

end Go.Proofs.Ytjpklbkeofjppaa
