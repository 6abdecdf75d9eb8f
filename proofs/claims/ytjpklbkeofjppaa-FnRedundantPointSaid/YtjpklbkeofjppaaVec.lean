/- Contracts: vectors of baselines. Written by vecgen.py. -/
import Derived.Test.YtjpklbkeofjppaaDelay
import Derived.Test.YtjpklbkeofjppaaRedM
import Derived.Deep.RegionHeld
namespace Go.Proofs.Ytjpklbkeofjppaa
open Go.RowKit

theorem pair_below {w W : World} {b x y x' y' : Nat} {u1 u2 v1 v2 : Value} (hB : Below w.heap.size w W) (hb : b < w.heap.size) (c1 : w.cell? ⟨b, x, none⟩ = some u1) (c2 : w.cell? ⟨b, x', none⟩ = some u2) (d1 : w.cell? ⟨b, y, none⟩ = some v1) (d2 : w.cell? ⟨b, y', none⟩ = some v2) :
    W.cell? ⟨b, x, none⟩ = some u1 ∧ W.cell? ⟨b, x', none⟩ = some u2 ∧ W.cell? ⟨b, y, none⟩ = some v1 ∧ W.cell? ⟨b, y', none⟩ = some v2 := by
  obtain ⟨q1, _⟩ := bcell hB
  exact ⟨(q1 _ _ hb).trans c1, (q1 _ _ hb).trans c2, (q1 _ _ hb).trans d1, (q1 _ _ hb).trans d2⟩
theorem box2f {w w1 : World} {a b : Value} {T : TypeId} (hB : Below (w.alloc (.cells #[a, b] T)).heap.size (w.alloc (.cells #[a, b] T)) w1) : w1.frozen? ⟨w.heap.size, 0, none⟩ = false ∧ w1.frozen? ⟨w.heap.size, 1, none⟩ = false := by
  obtain ⟨_, q2⟩ := bcell hB
  exact ⟨(q2 _ _ (by simp)).trans (by simp [go_sem]), (q2 _ _ (by simp)).trans (by simp [go_sem])⟩
set_option maxRecDepth 100000 in
set_option maxHeartbeats 4000000 in
theorem vector_ok (A : Option Addr) (n c : Nat) (L : List (Int × Int)) (i j : Nat) (w : World) (h : Rd w w.heap.size 2 A n c (cp L)) (ha : Vm.arrB L = true) (hi : i < L.length) (hj : j < L.length) :
    Calls Try.prog 44 #[.slice A n c, .int .i64 i, .int .i64 j] w fun e w' => e = .returned (gv (Vm.vec L (i, j))) ∧ Below w.heap.size w w' := by
  have hn := h.len
  rw [cp_length] at hn
  have hm := h.most
  have hcap := h.cap
  obtain rfl : L.length = n := by omega
  clear hn
  have HA := Lib.hid ha
  have hl7 := ((Vm.arrB_iff L).1 ha).1
  obtain ⟨⟨x1, x2⟩, x3, x4⟩ := Vm.arr_place ha (i := (i : Int)) ⟨by omega, by omega⟩
  obtain ⟨⟨y1, y2⟩, y3, y4⟩ := Vm.arr_place ha (i := (j : Int)) ⟨by omega, by omega⟩
  have HV := Lib.hid (show Vm.vec L (i, j) = ((Vm.aat L j).1 - (Vm.aat L i).1, (Vm.aat L j).2 - (Vm.aat L i).2) from rfl)
  rw [Vm.aat_nat L i hi] at x1 x2 x3 x4 HV
  rw [Vm.aat_nat L j hj] at y1 y2 y3 y4 HV
  obtain ⟨p, hp⟩ : ∃ p, L[i] = p := ⟨_, rfl⟩
  obtain ⟨q, hq⟩ : ∃ q, L[j] = q := ⟨_, rfl⟩
  rw [hp] at x1 x2 x3 x4 HV
  rw [hq] at y1 y2 y3 y4 HV
  have HP := Lib.hid hp
  have HQ := Lib.hid hq
  have hi1 : (i : Int) < (L.length : Int) := by omega
  have hj1 : (j : Int) < (L.length : Int) := by omega
  have hanti : Vm.antB (L.length : Int) (i : Int) = true := (Vm.antB_iff _ _).2 (by omega)
  have hantj : Vm.antB (L.length : Int) (j : Int) = true := (Vm.antB_iff _ _).2 (by omega)
  clear hp hq ha
  have hw1 : IntKind.i64.wrap (q.1 - p.1) = q.1 - p.1 := IntWalk.i64_in _ (by omega)
  have hw2 : IntKind.i64.wrap (q.2 - p.2) = q.2 - p.2 := IntWalk.i64_in _ (by omega)
  obtain ⟨b, off, rfl, hb, c1, c2⟩ := h.pair_at hi
  obtain ⟨b', off', e', hb', d1, d2⟩ := h.pair_at hj
  cases e'
  rw [HP.out] at c1 c2
  rw [HQ.out] at d1 d2
  clear h x1 x2 x3 x4 y1 y2 y3 y4 HP HQ hi hj HA hanti hantj
  go_enter Try.func44, Try.ntmps44
  go_wp2_with fail
  refine wp_region_held_drew (S := fun W => Below w.heap.size w W) (by kernel_rfl) (Below.drew (bA (b0 w) _)) (fun hS => ?_)
  refine wpAnyH_take (i := 0) (v := .slice (some ⟨b, off, none⟩) L.length c) rfl (by kernel_rfl) (by kernel_rfl) (by kernel_rfl) (fun _ _ _ h => h) (Or.inl ⟨by rfl, fun ww hSw => ?_⟩) hS ?_
  · obtain ⟨s1, s2, s3, s4⟩ := pair_below hSw hb c1 c2 d1 d2; clear hSw; go_simp
  refine wpAnyH_take (i := 1) (v := .int .i64 j) rfl (by kernel_rfl) (by kernel_rfl) (by kernel_rfl) (fun _ _ _ h => h) (Or.inl ⟨by rfl, fun ww hSw => ?_⟩) hS ?_
  · obtain ⟨s1, s2, s3, s4⟩ := pair_below hSw hb c1 c2 d1 d2; clear hSw; go_simp
  refine wpAnyH_take (i := 2) (v := .pointer (some ⟨b, off + j * 2, none⟩)) rfl (by kernel_rfl) (by kernel_rfl) (by kernel_rfl) (fun _ _ _ h => h) (Or.inl ⟨by rfl, fun ww hSw => ?_⟩) hS ?_
  · obtain ⟨s1, s2, s3, s4⟩ := pair_below hSw hb c1 c2 d1 d2; clear hSw; go_simp
  refine wpAnyH_take (i := 3) (v := .pointer (some ⟨b, off + j * 2, none⟩)) rfl (by kernel_rfl) (by kernel_rfl) (by kernel_rfl) (fun _ _ _ h => h) (Or.inl ⟨by rfl, fun ww hSw => ?_⟩) hS ?_
  · obtain ⟨s1, s2, s3, s4⟩ := pair_below hSw hb c1 c2 d1 d2; clear hSw; go_simp
  refine wpAnyH_take (i := 4) (v := .int .i64 q.1) rfl (by kernel_rfl) (by kernel_rfl) (by kernel_rfl) (fun _ _ _ h => h) (Or.inl ⟨by rfl, fun ww hSw => ?_⟩) hS ?_
  · obtain ⟨s1, s2, s3, s4⟩ := pair_below hSw hb c1 c2 d1 d2; clear hSw; go_simp
  refine wpAnyH_take (i := 5) (v := .slice (some ⟨b, off, none⟩) L.length c) rfl (by kernel_rfl) (by kernel_rfl) (by kernel_rfl) (fun _ _ _ h => h) (Or.inl ⟨by rfl, fun ww hSw => ?_⟩) hS ?_
  · obtain ⟨s1, s2, s3, s4⟩ := pair_below hSw hb c1 c2 d1 d2; clear hSw; go_simp
  refine wpAnyH_take (i := 6) (v := .int .i64 i) rfl (by kernel_rfl) (by kernel_rfl) (by kernel_rfl) (fun _ _ _ h => h) (Or.inl ⟨by rfl, fun ww hSw => ?_⟩) hS ?_
  · obtain ⟨s1, s2, s3, s4⟩ := pair_below hSw hb c1 c2 d1 d2; clear hSw; go_simp
  refine wpAnyH_take (i := 7) (v := .pointer (some ⟨b, off + i * 2, none⟩)) rfl (by kernel_rfl) (by kernel_rfl) (by kernel_rfl) (fun _ _ _ h => h) (Or.inl ⟨by rfl, fun ww hSw => ?_⟩) hS ?_
  · obtain ⟨s1, s2, s3, s4⟩ := pair_below hSw hb c1 c2 d1 d2; clear hSw; go_simp
  refine wpAnyH_take (i := 8) (v := .pointer (some ⟨b, off + i * 2, none⟩)) rfl (by kernel_rfl) (by kernel_rfl) (by kernel_rfl) (fun _ _ _ h => h) (Or.inl ⟨by rfl, fun ww hSw => ?_⟩) hS ?_
  · obtain ⟨s1, s2, s3, s4⟩ := pair_below hSw hb c1 c2 d1 d2; clear hSw; go_simp
  refine wpAnyH_take (i := 9) (v := .int .i64 p.1) rfl (by kernel_rfl) (by kernel_rfl) (by kernel_rfl) (fun _ _ _ h => h) (Or.inl ⟨by rfl, fun ww hSw => ?_⟩) hS ?_
  · obtain ⟨s1, s2, s3, s4⟩ := pair_below hSw hb c1 c2 d1 d2; clear hSw; go_simp
  refine wpAnyH_take (i := 10) (v := .int .i64 (q.1 - p.1)) rfl (by kernel_rfl) (by kernel_rfl) (by kernel_rfl) (fun _ _ _ h => h) (Or.inl ⟨by rfl, fun ww hSw => ?_⟩) hS ?_
  · obtain ⟨s1, s2, s3, s4⟩ := pair_below hSw hb c1 c2 d1 d2; clear hSw; go_simp
  refine wpAnyH_take (i := 11) (v := .slice (some ⟨b, off, none⟩) L.length c) rfl (by kernel_rfl) (by kernel_rfl) (by kernel_rfl) (fun _ _ _ h => h) (Or.inl ⟨by rfl, fun ww hSw => ?_⟩) hS ?_
  · obtain ⟨s1, s2, s3, s4⟩ := pair_below hSw hb c1 c2 d1 d2; clear hSw; go_simp
  refine wpAnyH_take (i := 12) (v := .int .i64 j) rfl (by kernel_rfl) (by kernel_rfl) (by kernel_rfl) (fun _ _ _ h => h) (Or.inl ⟨by rfl, fun ww hSw => ?_⟩) hS ?_
  · obtain ⟨s1, s2, s3, s4⟩ := pair_below hSw hb c1 c2 d1 d2; clear hSw; go_simp
  refine wpAnyH_take (i := 13) (v := .pointer (some ⟨b, off + j * 2, none⟩)) rfl (by kernel_rfl) (by kernel_rfl) (by kernel_rfl) (fun _ _ _ h => h) (Or.inl ⟨by rfl, fun ww hSw => ?_⟩) hS ?_
  · obtain ⟨s1, s2, s3, s4⟩ := pair_below hSw hb c1 c2 d1 d2; clear hSw; go_simp
  refine wpAnyH_take (i := 14) (v := .pointer (some ⟨b, off + j * 2 + 1, none⟩)) rfl (by kernel_rfl) (by kernel_rfl) (by kernel_rfl) (fun _ _ _ h => h) (Or.inl ⟨by rfl, fun ww hSw => ?_⟩) hS ?_
  · obtain ⟨s1, s2, s3, s4⟩ := pair_below hSw hb c1 c2 d1 d2; clear hSw; go_simp
  refine wpAnyH_take (i := 15) (v := .int .i64 q.2) rfl (by kernel_rfl) (by kernel_rfl) (by kernel_rfl) (fun _ _ _ h => h) (Or.inl ⟨by rfl, fun ww hSw => ?_⟩) hS ?_
  · obtain ⟨s1, s2, s3, s4⟩ := pair_below hSw hb c1 c2 d1 d2; clear hSw; go_simp
  refine wpAnyH_take (i := 16) (v := .slice (some ⟨b, off, none⟩) L.length c) rfl (by kernel_rfl) (by kernel_rfl) (by kernel_rfl) (fun _ _ _ h => h) (Or.inl ⟨by rfl, fun ww hSw => ?_⟩) hS ?_
  · obtain ⟨s1, s2, s3, s4⟩ := pair_below hSw hb c1 c2 d1 d2; clear hSw; go_simp
  refine wpAnyH_take (i := 17) (v := .int .i64 i) rfl (by kernel_rfl) (by kernel_rfl) (by kernel_rfl) (fun _ _ _ h => h) (Or.inl ⟨by rfl, fun ww hSw => ?_⟩) hS ?_
  · obtain ⟨s1, s2, s3, s4⟩ := pair_below hSw hb c1 c2 d1 d2; clear hSw; go_simp
  refine wpAnyH_take (i := 18) (v := .pointer (some ⟨b, off + i * 2, none⟩)) rfl (by kernel_rfl) (by kernel_rfl) (by kernel_rfl) (fun _ _ _ h => h) (Or.inl ⟨by rfl, fun ww hSw => ?_⟩) hS ?_
  · obtain ⟨s1, s2, s3, s4⟩ := pair_below hSw hb c1 c2 d1 d2; clear hSw; go_simp
  refine wpAnyH_take (i := 19) (v := .pointer (some ⟨b, off + i * 2 + 1, none⟩)) rfl (by kernel_rfl) (by kernel_rfl) (by kernel_rfl) (fun _ _ _ h => h) (Or.inl ⟨by rfl, fun ww hSw => ?_⟩) hS ?_
  · obtain ⟨s1, s2, s3, s4⟩ := pair_below hSw hb c1 c2 d1 d2; clear hSw; go_simp
  refine wpAnyH_take (i := 20) (v := .int .i64 p.2) rfl (by kernel_rfl) (by kernel_rfl) (by kernel_rfl) (fun _ _ _ h => h) (Or.inl ⟨by rfl, fun ww hSw => ?_⟩) hS ?_
  · obtain ⟨s1, s2, s3, s4⟩ := pair_below hSw hb c1 c2 d1 d2; clear hSw; go_simp
  refine wpAnyH_take (i := 21) (v := .int .i64 (q.2 - p.2)) rfl (by kernel_rfl) (by kernel_rfl) (by kernel_rfl) (fun _ _ _ h => h) (Or.inl ⟨by rfl, fun ww hSw => ?_⟩) hS ?_
  · obtain ⟨s1, s2, s3, s4⟩ := pair_below hSw hb c1 c2 d1 d2; clear hSw; go_simp
  refine wpAnyH_take (i := 22) (v := .agg #[.int .i64 (q.1 - p.1), .int .i64 (q.2 - p.2)]) rfl (by kernel_rfl) (by kernel_rfl) (by kernel_rfl) (fun _ _ _ h => h) (Or.inl ⟨by rfl, fun ww hSw => ?_⟩) hS ?_
  · obtain ⟨s1, s2, s3, s4⟩ := pair_below hSw hb c1 c2 d1 d2; clear hSw; go_simp
  refine wpAnyH_ready (rs := [23]) (by kernel_rfl) (by simp) ?_
  refine AllReadyH.cons rfl (fun K hK => ?_) AllReadyH.nil
  go_simp
  refine hK.out _ _ (Below.drew (bA (b0 w) _)) (fun hS => ?_)
  clear hK K
  refine ⟨by kernel_rfl, ?_⟩
  clear hw1 hw2
  go_wp2_with fail
  refine bodyPost_ret (v := .agg #[.int .i64 (q.1 - p.1), .int .i64 (q.2 - p.2)]) (by simp [results, Try.results44, go_sem]) rfl ⟨by rw [HV.out]; rfl, hS⟩
set_option maxRecDepth 100000 in
set_option maxHeartbeats 4000000 in
theorem BaseVector_ok (A : Option Addr) (n c : Nat) (L : List (Int × Int)) (i j : Nat) (w : World) (h : Rd w w.heap.size 2 A n c (cp L)) (ha : Vm.arrB L = true) (hi : i < L.length) (hj : j < L.length) :
    Calls Try.prog 30 #[.slice A n c, .int .i64 i, .int .i64 j] w fun e w' => e = .returned (.tuple #[gv (Vm.vec L (i, j)), .bool true]) ∧ Below w.heap.size w w' := by
  have hn := h.len
  rw [cp_length] at hn
  have hm := h.most
  have hcap := h.cap
  obtain rfl : L.length = n := by omega
  clear hn
  have HA := Lib.hid ha
  have hl7 := ((Vm.arrB_iff L).1 ha).1
  obtain ⟨⟨x1, x2⟩, x3, x4⟩ := Vm.arr_place ha (i := (i : Int)) ⟨by omega, by omega⟩
  obtain ⟨⟨y1, y2⟩, y3, y4⟩ := Vm.arr_place ha (i := (j : Int)) ⟨by omega, by omega⟩
  have HV := Lib.hid (show Vm.vec L (i, j) = ((Vm.aat L j).1 - (Vm.aat L i).1, (Vm.aat L j).2 - (Vm.aat L i).2) from rfl)
  rw [Vm.aat_nat L i hi] at x1 x2 x3 x4 HV
  rw [Vm.aat_nat L j hj] at y1 y2 y3 y4 HV
  obtain ⟨p, hp⟩ : ∃ p, L[i] = p := ⟨_, rfl⟩
  obtain ⟨q, hq⟩ : ∃ q, L[j] = q := ⟨_, rfl⟩
  rw [hp] at x1 x2 x3 x4 HV
  rw [hq] at y1 y2 y3 y4 HV
  have HP := Lib.hid hp
  have HQ := Lib.hid hq
  have hi1 : (i : Int) < (L.length : Int) := by omega
  have hj1 : (j : Int) < (L.length : Int) := by omega
  have hanti : Vm.antB (L.length : Int) (i : Int) = true := (Vm.antB_iff _ _).2 (by omega)
  have hantj : Vm.antB (L.length : Int) (j : Int) = true := (Vm.antB_iff _ _).2 (by omega)
  clear hp hq ha
  have hw1 : IntKind.i64.wrap (q.1 - p.1) = q.1 - p.1 := IntWalk.i64_in _ (by omega)
  have hw2 : IntKind.i64.wrap (q.2 - p.2) = q.2 - p.2 := IntWalk.i64_in _ (by omega)
  clear x1 x2 x3 x4 y1 y2 y3 y4 hw1 hw2 HP HQ HV
  go_enter Try.func30, Try.ntmps30
  go_wp2_with fail
  refine (ArrayValid_any _ _ _ L _ (h.after (bA (b0 w) _))).mono ?_
  rintro e w1 ⟨rfl, hB1⟩
  rw [HA.out]
  have hBw := bT (bA (b0 w) (.cells #[.int .i64 0, .int .i64 0] 38)) hB1
  obtain ⟨k0, k1, k2⟩ := box2 hB1
  obtain ⟨f0, f1⟩ := box2f hB1
  go_wp2_with (go_at_call 52; refine (isAnt_any _ _ _).mono ?_; rintro e w' ⟨rfl, rfl⟩)
  refine (vector_ok _ _ _ L i j _ (h.after hBw) HA.out hi hj).mono ?_
  rintro e w2 ⟨rfl, hB2⟩
  have hB3 := bT hBw hB2
  have hB12 := bT hB1 hB2
  clear hB1 hB2 k0 k1 k2 f0 f1
  obtain ⟨k0, k1, k2⟩ := box2 hB12
  obtain ⟨f0, f1⟩ := box2f hB12
  unfold gv
  go_wp2_with fail
  obtain ⟨t1, t2, t3⟩ := st2 k0 k1 (.int .i64 (Vm.vec L (i, j)).1) (.int .i64 (Vm.vec L (i, j)).2)
  refine bodyPost_ret (v := .tuple #[.agg #[.int .i64 (Vm.vec L (i, j)).1, .int .i64 (Vm.vec L (i, j)).2], .bool true]) (by simp [results, Try.results30, go_sem, t2, t3]) rfl ⟨rfl, bS (bS hB3 (Nat.le_refl _) _) (Nat.le_refl _) _⟩
set_option maxRecDepth 100000 in
set_option maxHeartbeats 4000000 in
theorem sBaseVector_ok (A : Option Addr) (n c : Nat) (L : List (Int × Int)) (i j : Nat) (w : World) (h : Rd w w.heap.size 2 A n c (cp L)) (ha : Vm.arrB L = true) (hi : i < L.length) (hj : j < L.length) :
    Calls Try.prog 65 #[.slice A n c, .int .i64 i, .int .i64 j] w fun e w' => e = .returned (.tuple #[gv (Vm.vec L (i, j)), .bool true]) ∧ Below w.heap.size w w' := by
  have hn := h.len
  rw [cp_length] at hn
  have hm := h.most
  have hcap := h.cap
  obtain rfl : L.length = n := by omega
  clear hn
  have HA := Lib.hid ha
  have hl7 := ((Vm.arrB_iff L).1 ha).1
  obtain ⟨⟨x1, x2⟩, x3, x4⟩ := Vm.arr_place ha (i := (i : Int)) ⟨by omega, by omega⟩
  obtain ⟨⟨y1, y2⟩, y3, y4⟩ := Vm.arr_place ha (i := (j : Int)) ⟨by omega, by omega⟩
  have HV := Lib.hid (show Vm.vec L (i, j) = ((Vm.aat L j).1 - (Vm.aat L i).1, (Vm.aat L j).2 - (Vm.aat L i).2) from rfl)
  rw [Vm.aat_nat L i hi] at x1 x2 x3 x4 HV
  rw [Vm.aat_nat L j hj] at y1 y2 y3 y4 HV
  obtain ⟨p, hp⟩ : ∃ p, L[i] = p := ⟨_, rfl⟩
  obtain ⟨q, hq⟩ : ∃ q, L[j] = q := ⟨_, rfl⟩
  rw [hp] at x1 x2 x3 x4 HV
  rw [hq] at y1 y2 y3 y4 HV
  have HP := Lib.hid hp
  have HQ := Lib.hid hq
  have hi1 : (i : Int) < (L.length : Int) := by omega
  have hj1 : (j : Int) < (L.length : Int) := by omega
  have hanti : Vm.antB (L.length : Int) (i : Int) = true := (Vm.antB_iff _ _).2 (by omega)
  have hantj : Vm.antB (L.length : Int) (j : Int) = true := (Vm.antB_iff _ _).2 (by omega)
  clear hp hq ha
  have hw1 : IntKind.i64.wrap (q.1 - p.1) = q.1 - p.1 := IntWalk.i64_in _ (by omega)
  have hw2 : IntKind.i64.wrap (q.2 - p.2) = q.2 - p.2 := IntWalk.i64_in _ (by omega)
  go_enter Try.func65, Try.ntmps65
  go_wp2_with fail
  refine (sArrayValid_any _ _ _ L _ (h.after (bA (b0 w) _))).mono ?_
  rintro e w1 ⟨rfl, hB1⟩
  rw [HA.out]
  have hBw := bT (bA (b0 w) (.cells #[.int .i64 0, .int .i64 0] 38)) hB1
  obtain ⟨k0, k1, k2⟩ := box2 hB1
  obtain ⟨f0, f1⟩ := box2f hB1
  go_wp2_with (go_at_call 59; refine (l6In_any _ _ _ _).mono ?_; rintro e w' ⟨rfl, rfl⟩; rw [in3_antB])
  obtain ⟨b, off, rfl, hb, c1, c2⟩ := h.pair_at hi
  obtain ⟨b', off', e', hb', d1, d2⟩ := h.pair_at hj
  cases e'
  rw [HP.out] at c1 c2
  rw [HQ.out] at d1 d2
  clear h x1 x2 x3 x4 y1 y2 y3 y4 HP HQ hi hj HA hanti hantj
  refine wp_region_held_drew (S := fun W => Below w.heap.size w W) (by kernel_rfl) (Below.drew hBw) (fun hS => ?_)
  refine wpAnyH_take (i := 0) (v := .slice (some ⟨b, off, none⟩) L.length c) rfl (by kernel_rfl) (by kernel_rfl) (by kernel_rfl) (fun _ _ _ h => h) (Or.inl ⟨by rfl, fun ww hSw => ?_⟩) hS ?_
  · obtain ⟨s1, s2, s3, s4⟩ := pair_below hSw hb c1 c2 d1 d2; clear hSw; go_simp
  refine wpAnyH_take (i := 1) (v := .int .i64 j) rfl (by kernel_rfl) (by kernel_rfl) (by kernel_rfl) (fun _ _ _ h => h) (Or.inl ⟨by rfl, fun ww hSw => ?_⟩) hS ?_
  · obtain ⟨s1, s2, s3, s4⟩ := pair_below hSw hb c1 c2 d1 d2; clear hSw; go_simp
  refine wpAnyH_take (i := 2) (v := .pointer (some ⟨b, off + j * 2, none⟩)) rfl (by kernel_rfl) (by kernel_rfl) (by kernel_rfl) (fun _ _ _ h => h) (Or.inl ⟨by rfl, fun ww hSw => ?_⟩) hS ?_
  · obtain ⟨s1, s2, s3, s4⟩ := pair_below hSw hb c1 c2 d1 d2; clear hSw; go_simp
  refine wpAnyH_take (i := 3) (v := .pointer (some ⟨b, off + j * 2, none⟩)) rfl (by kernel_rfl) (by kernel_rfl) (by kernel_rfl) (fun _ _ _ h => h) (Or.inl ⟨by rfl, fun ww hSw => ?_⟩) hS ?_
  · obtain ⟨s1, s2, s3, s4⟩ := pair_below hSw hb c1 c2 d1 d2; clear hSw; go_simp
  refine wpAnyH_take (i := 4) (v := .int .i64 q.1) rfl (by kernel_rfl) (by kernel_rfl) (by kernel_rfl) (fun _ _ _ h => h) (Or.inl ⟨by rfl, fun ww hSw => ?_⟩) hS ?_
  · obtain ⟨s1, s2, s3, s4⟩ := pair_below hSw hb c1 c2 d1 d2; clear hSw; go_simp
  refine wpAnyH_take (i := 5) (v := .slice (some ⟨b, off, none⟩) L.length c) rfl (by kernel_rfl) (by kernel_rfl) (by kernel_rfl) (fun _ _ _ h => h) (Or.inl ⟨by rfl, fun ww hSw => ?_⟩) hS ?_
  · obtain ⟨s1, s2, s3, s4⟩ := pair_below hSw hb c1 c2 d1 d2; clear hSw; go_simp
  refine wpAnyH_take (i := 6) (v := .int .i64 i) rfl (by kernel_rfl) (by kernel_rfl) (by kernel_rfl) (fun _ _ _ h => h) (Or.inl ⟨by rfl, fun ww hSw => ?_⟩) hS ?_
  · obtain ⟨s1, s2, s3, s4⟩ := pair_below hSw hb c1 c2 d1 d2; clear hSw; go_simp
  refine wpAnyH_take (i := 7) (v := .pointer (some ⟨b, off + i * 2, none⟩)) rfl (by kernel_rfl) (by kernel_rfl) (by kernel_rfl) (fun _ _ _ h => h) (Or.inl ⟨by rfl, fun ww hSw => ?_⟩) hS ?_
  · obtain ⟨s1, s2, s3, s4⟩ := pair_below hSw hb c1 c2 d1 d2; clear hSw; go_simp
  refine wpAnyH_take (i := 8) (v := .pointer (some ⟨b, off + i * 2, none⟩)) rfl (by kernel_rfl) (by kernel_rfl) (by kernel_rfl) (fun _ _ _ h => h) (Or.inl ⟨by rfl, fun ww hSw => ?_⟩) hS ?_
  · obtain ⟨s1, s2, s3, s4⟩ := pair_below hSw hb c1 c2 d1 d2; clear hSw; go_simp
  refine wpAnyH_take (i := 9) (v := .int .i64 p.1) rfl (by kernel_rfl) (by kernel_rfl) (by kernel_rfl) (fun _ _ _ h => h) (Or.inl ⟨by rfl, fun ww hSw => ?_⟩) hS ?_
  · obtain ⟨s1, s2, s3, s4⟩ := pair_below hSw hb c1 c2 d1 d2; clear hSw; go_simp
  refine wpAnyH_take (i := 10) (v := .int .i64 (q.1 - p.1)) rfl (by kernel_rfl) (by kernel_rfl) (by kernel_rfl) (fun _ _ _ h => h) (Or.inl ⟨by rfl, fun ww hSw => ?_⟩) hS ?_
  · obtain ⟨s1, s2, s3, s4⟩ := pair_below hSw hb c1 c2 d1 d2; clear hSw; go_simp
  refine wpAnyH_take (i := 11) (v := .slice (some ⟨b, off, none⟩) L.length c) rfl (by kernel_rfl) (by kernel_rfl) (by kernel_rfl) (fun _ _ _ h => h) (Or.inl ⟨by rfl, fun ww hSw => ?_⟩) hS ?_
  · obtain ⟨s1, s2, s3, s4⟩ := pair_below hSw hb c1 c2 d1 d2; clear hSw; go_simp
  refine wpAnyH_take (i := 12) (v := .int .i64 j) rfl (by kernel_rfl) (by kernel_rfl) (by kernel_rfl) (fun _ _ _ h => h) (Or.inl ⟨by rfl, fun ww hSw => ?_⟩) hS ?_
  · obtain ⟨s1, s2, s3, s4⟩ := pair_below hSw hb c1 c2 d1 d2; clear hSw; go_simp
  refine wpAnyH_take (i := 13) (v := .pointer (some ⟨b, off + j * 2, none⟩)) rfl (by kernel_rfl) (by kernel_rfl) (by kernel_rfl) (fun _ _ _ h => h) (Or.inl ⟨by rfl, fun ww hSw => ?_⟩) hS ?_
  · obtain ⟨s1, s2, s3, s4⟩ := pair_below hSw hb c1 c2 d1 d2; clear hSw; go_simp
  refine wpAnyH_take (i := 14) (v := .pointer (some ⟨b, off + j * 2 + 1, none⟩)) rfl (by kernel_rfl) (by kernel_rfl) (by kernel_rfl) (fun _ _ _ h => h) (Or.inl ⟨by rfl, fun ww hSw => ?_⟩) hS ?_
  · obtain ⟨s1, s2, s3, s4⟩ := pair_below hSw hb c1 c2 d1 d2; clear hSw; go_simp
  refine wpAnyH_take (i := 15) (v := .int .i64 q.2) rfl (by kernel_rfl) (by kernel_rfl) (by kernel_rfl) (fun _ _ _ h => h) (Or.inl ⟨by rfl, fun ww hSw => ?_⟩) hS ?_
  · obtain ⟨s1, s2, s3, s4⟩ := pair_below hSw hb c1 c2 d1 d2; clear hSw; go_simp
  refine wpAnyH_take (i := 16) (v := .slice (some ⟨b, off, none⟩) L.length c) rfl (by kernel_rfl) (by kernel_rfl) (by kernel_rfl) (fun _ _ _ h => h) (Or.inl ⟨by rfl, fun ww hSw => ?_⟩) hS ?_
  · obtain ⟨s1, s2, s3, s4⟩ := pair_below hSw hb c1 c2 d1 d2; clear hSw; go_simp
  refine wpAnyH_take (i := 17) (v := .int .i64 i) rfl (by kernel_rfl) (by kernel_rfl) (by kernel_rfl) (fun _ _ _ h => h) (Or.inl ⟨by rfl, fun ww hSw => ?_⟩) hS ?_
  · obtain ⟨s1, s2, s3, s4⟩ := pair_below hSw hb c1 c2 d1 d2; clear hSw; go_simp
  refine wpAnyH_take (i := 18) (v := .pointer (some ⟨b, off + i * 2, none⟩)) rfl (by kernel_rfl) (by kernel_rfl) (by kernel_rfl) (fun _ _ _ h => h) (Or.inl ⟨by rfl, fun ww hSw => ?_⟩) hS ?_
  · obtain ⟨s1, s2, s3, s4⟩ := pair_below hSw hb c1 c2 d1 d2; clear hSw; go_simp
  refine wpAnyH_take (i := 19) (v := .pointer (some ⟨b, off + i * 2 + 1, none⟩)) rfl (by kernel_rfl) (by kernel_rfl) (by kernel_rfl) (fun _ _ _ h => h) (Or.inl ⟨by rfl, fun ww hSw => ?_⟩) hS ?_
  · obtain ⟨s1, s2, s3, s4⟩ := pair_below hSw hb c1 c2 d1 d2; clear hSw; go_simp
  refine wpAnyH_take (i := 20) (v := .int .i64 p.2) rfl (by kernel_rfl) (by kernel_rfl) (by kernel_rfl) (fun _ _ _ h => h) (Or.inl ⟨by rfl, fun ww hSw => ?_⟩) hS ?_
  · obtain ⟨s1, s2, s3, s4⟩ := pair_below hSw hb c1 c2 d1 d2; clear hSw; go_simp
  refine wpAnyH_take (i := 21) (v := .int .i64 (q.2 - p.2)) rfl (by kernel_rfl) (by kernel_rfl) (by kernel_rfl) (fun _ _ _ h => h) (Or.inl ⟨by rfl, fun ww hSw => ?_⟩) hS ?_
  · obtain ⟨s1, s2, s3, s4⟩ := pair_below hSw hb c1 c2 d1 d2; clear hSw; go_simp
  refine wpAnyH_take (i := 22) (v := .agg #[.int .i64 (q.1 - p.1), .int .i64 (q.2 - p.2)]) rfl (by kernel_rfl) (by kernel_rfl) (by kernel_rfl) (fun _ _ _ h => h) (Or.inl ⟨by rfl, fun ww hSw => ?_⟩) hS ?_
  · obtain ⟨s1, s2, s3, s4⟩ := pair_below hSw hb c1 c2 d1 d2; clear hSw; go_simp
  refine wpAnyH_ready (rs := [23]) (by kernel_rfl) (by simp) ?_
  refine AllReadyH.cons rfl (fun K hK => ?_) AllReadyH.nil
  go_simp
  refine hK.out _ _ (bS (bS hS (p := ⟨w.heap.size, 0, none⟩) (Nat.le_refl _) _) (p := ⟨w.heap.size, 1, none⟩) (Nat.le_refl _) _) (fun hS => ?_)
  clear hK K
  refine wpAnyH_ready (rs := [24]) (by kernel_rfl) (by simp) ?_
  refine AllReadyH.cons rfl (fun K hK => ?_) AllReadyH.nil
  go_simp
  refine hK.out _ _ hS (fun hS => ?_)
  clear hK K
  refine ⟨by kernel_rfl, ?_⟩
  clear hw1 hw2
  go_wp2_with fail
  obtain ⟨t1, t2, t3⟩ := st2 k0 k1 (.int .i64 (q.1 - p.1)) (.int .i64 (q.2 - p.2))
  refine bodyPost_ret (v := .tuple #[.agg #[.int .i64 (q.1 - p.1), .int .i64 (q.2 - p.2)], .bool true]) (by simp [results, Try.results65, go_sem, t2, t3]) rfl ⟨by rw [HV.out]; rfl, hS⟩
set_option maxHeartbeats 400000 in
theorem oppA_any (p : Int × Int) (w : World) (h : (-2000 ≤ p.1 ∧ p.1 ≤ 2000) ∧ -2000 ≤ p.2 ∧ p.2 ≤ 2000) : Calls Try.prog 45 #[gv p] w fun e w' => e = .returned (gv (Vm.neg p)) ∧ Below w.heap.size w w' := by
  obtain ⟨a, b⟩ := p
  simp only at h
  unfold gv
  have hw1 : IntKind.i64.wrap (-a) = -a := IntWalk.i64_in _ (by omega)
  have hw2 : IntKind.i64.wrap (-b) = -b := IntWalk.i64_in _ (by omega)
  go_enter Try.func45, Try.ntmps45
  go_wp2_with fail
  refine bodyPost_ret (v := .agg #[.int .i64 (-a), .int .i64 (-b)]) (by simp [results, Try.results45, go_sem]) rfl ⟨rfl, ?_⟩
  go_grown
/-- 1 for equal, -1 for opposite vectors. -/
def sgn (a b : Int × Int) : Int := if a = b then 1 else if a = Vm.neg b then -1 else 0
theorem sgn_zero (a b : Int × Int) : (sgn a b == 0) = !Vm.rel b a := by
  unfold sgn
  by_cases h1 : a = b
  · rw [if_pos h1, h1, Vm.rel_self]; rfl
  · rw [if_neg h1]
    by_cases h2 : a = Vm.neg b
    · rw [if_pos h2, (Vm.rel_iff _ _).2 (.inr h2)]; rfl
    · rw [if_neg h2]
      have : Vm.rel b a = false := by
        rw [Bool.eq_false_iff]
        intro e
        rcases (Vm.rel_iff _ _).1 e with e | e
        · exact h1 e
        · exact h2 e
      rw [this]; rfl
set_option maxHeartbeats 1000000 in
theorem l17Sign_any (p q : Int × Int) (w : World) (h : (-2000 ≤ q.1 ∧ q.1 ≤ 2000) ∧ -2000 ≤ q.2 ∧ q.2 ≤ 2000) : Calls Try.prog 41 #[gv p, gv q] w fun e w' => e = .returned (.int .i64 (sgn p q)) ∧ Below w.heap.size w w' := by
  obtain ⟨a, b⟩ := p
  obtain ⟨x, y⟩ := q
  simp only at h
  unfold gv
  have hw1 : IntKind.i64.wrap (0 - x) = 0 - x := IntWalk.i64_in _ (by omega)
  have hw2 : IntKind.i64.wrap (0 - y) = 0 - y := IntWalk.i64_in _ (by omega)
  have hs : sgn (a, b) (x, y) = if a = x ∧ b = y then 1 else if a = 0 - x ∧ b = 0 - y then -1 else 0 := by
    simp only [sgn, Vm.neg, Prod.mk.injEq, Int.zero_sub]
  have HH := Lib.hid hs
  clear hs
  by_cases h1 : a = x
  · by_cases h2 : b = y
    · subst h1 h2
      have hr : sgn (a, b) (a, b) = 1 := by
        rw [HH.out]; simp
      clear HH
      go_enter Try.func41, Try.ntmps41
      go_wp2_with fail
      go_ret
      exact ⟨by rw [hr]; rfl, by go_grown⟩
    · by_cases h3 : a = 0 - x
      · obtain rfl : x = 0 := by omega
        obtain rfl : a = 0 := by omega
        clear h1 h3 hw1
        by_cases h4 : b = 0 - y
        · have hr : sgn (0, b) (0, y) = -1 := by
            rw [HH.out, if_neg (by omega), if_pos ⟨by omega, h4⟩]
          clear HH
          go_enter Try.func41, Try.ntmps41
          go_wp2_with fail
          go_ret
          exact ⟨by rw [hr]; rfl, by go_grown⟩
        · have hr : sgn (0, b) (0, y) = 0 := by
            rw [HH.out, if_neg (by omega), if_neg (by omega)]
          clear HH
          go_enter Try.func41, Try.ntmps41
          go_wp2_with fail
          go_ret
          exact ⟨by rw [hr]; rfl, by go_grown⟩
      · have hr : sgn (a, b) (x, y) = 0 := by
          rw [HH.out, if_neg (by omega), if_neg (by omega)]
        clear HH
        go_enter Try.func41, Try.ntmps41
        go_wp2_with fail
        go_ret
        exact ⟨by rw [hr]; rfl, by go_grown⟩
  · by_cases h3 : a = 0 - x
    · by_cases h4 : b = 0 - y
      · have hr : sgn (a, b) (x, y) = -1 := by
          rw [HH.out, if_neg (by omega), if_pos ⟨h3, h4⟩]
        clear HH
        go_enter Try.func41, Try.ntmps41
        go_wp2_with fail
        go_ret
        exact ⟨by rw [hr]; rfl, by go_grown⟩
      · have hr : sgn (a, b) (x, y) = 0 := by
          rw [HH.out, if_neg (by omega), if_neg (by omega)]
        clear HH
        go_enter Try.func41, Try.ntmps41
        go_wp2_with fail
        go_ret
        exact ⟨by rw [hr]; rfl, by go_grown⟩
    · have hr : sgn (a, b) (x, y) = 0 := by
        rw [HH.out, if_neg (by omega), if_neg (by omega)]
      clear HH
      go_enter Try.func41, Try.ntmps41
      go_wp2_with fail
      go_ret
      exact ⟨by rw [hr]; rfl, by go_grown⟩
end Go.Proofs.Ytjpklbkeofjppaa
