/- Contracts: the reference's inverse of a grid. -/
import Derived.Test.YtdcabfobmkdlmaaInvG
import Derived.Test.YtdcabfobmkdlmaaSpecA
import Derived.Deep.RegionHeld
namespace Go.Proofs.Ytdcabfobmkdlmaa
open Go.RowKit

theorem back_arg (x y k : Nat) (hx : x < 4) : -((x : Int) * ((k : Int) % 4)) - (y : Int) * ((k : Int) / 4) = -1 * Sky.ex (4 * y + x) k := by
  rw [← ex_uv y x k hx]
  omega
theorem inv_step (G : List (Int × Int)) (i k : Nat) : Sky.Tn (k + 1) (gcells G) (-1) i = ((Sky.Tn k (gcells G) (-1) i).1 + (gcells G k).1 * (Sky.unit (-1 * Sky.ex i k)).1 - (gcells G k).2 * (Sky.unit (-1 * Sky.ex i k)).2, (Sky.Tn k (gcells G) (-1) i).2 + (gcells G k).1 * (Sky.unit (-1 * Sky.ex i k)).2 + (gcells G k).2 * (Sky.unit (-1 * Sky.ex i k)).1) := by
  rw [Sky.Tn_succ]
  simp only [Sky.gadd, Sky.gmul]
  refine Prod.ext ?_ ?_
  · simp only; omega
  · simp only; omega
theorem gcells_bd {G : List (Int × Int)} (h : gridB G = true) (k : Nat) : -1000000000 ≤ (gcells G k).1 ∧ (gcells G k).1 ≤ 1000000000 ∧ -1000000000 ≤ (gcells G k).2 ∧ (gcells G k).2 ≤ 1000000000 := by
  by_cases hk : k < G.length
  · have e : gcells G k = G[k] := by simp [gcells, hk]
    rw [e]
    exact (gaussB_iff _).1 (List.all_eq_true.1 (gridB_all h) _ (List.getElem_mem hk))
  · simp [gcells, hk]
theorem back_bd {G : List (Int × Int)} (h : gridB G = true) (i k : Nat) (hk : k ≤ 16) : -16000000000 ≤ (Sky.Tn k (gcells G) (-1) i).1 ∧ (Sky.Tn k (gcells G) (-1) i).1 ≤ 16000000000 ∧ -16000000000 ≤ (Sky.Tn k (gcells G) (-1) i).2 ∧ (Sky.Tn k (gcells G) (-1) i).2 ≤ 16000000000 := by
  have := Sky.Tn_bound k (gcells G) (-1) i 1000000000 (fun k _ => gcells_bd h k)
  omega
set_option maxHeartbeats 400000 in
theorem sGridValid_any (A : Option Addr) (n c : Nat) (L : List (Int × Int)) (w : World) (h : Rd w w.heap.size 2 A n c (cp L)) :
    Calls Try.prog 51 #[.slice A n c] w fun e w' => e = .returned (.bool (gridB L)) ∧ Below w.heap.size w w' := by
  have hn := h.len
  rw [cp_length] at hn
  have hm := h.most
  have hcap := h.cap
  obtain rfl : L.length = n := by omega
  clear hn
  go_enter Try.func51, Try.ntmps51
  go_wp2
  go_loopw [3] (fun i wr => ∃ k : Nat, k ≤ L.length ∧ i = .int .i64 k ∧ Hid ((L.take k).all gaussB = true) ∧ Below w.heap.size w wr) (fun i _ => L.length - (intOf i).toNat)
  case atStart => exact ⟨0, Nat.zero_le _, rfl, by simp [Hid], b0 _⟩
  case round =>
    obtain ⟨k, hk, rfl, hall, hB⟩ := hrel
    by_cases hlt : k < L.length
    · obtain ⟨b, off, rfl, hb, hc1, hc2⟩ := (h.below hB).pair_at hlt
      obtain ⟨p, hp⟩ : ∃ p, L[k] = p := ⟨_, rfl⟩
      rw [hp] at hc1 hc2
      cases hin : gaussB p
      · have H := Lib.hid (show gridB L = false by
          rw [← hp] at hin
          simp [gridB, all_false_of gaussB L k hlt hin])
        have HI := Lib.hid hin
        clear hin hp
        go_wp2_with fail
        refine (sGaussValid_any p _).mono ?_
        rintro e w1 ⟨rfl, hB1⟩
        rw [HI.out]
        go_wp2_with fail
        go_ret
        exact ⟨ret_bool H.out.symm, bT hB hB1⟩
      · have H := Lib.hid (show (L.take (k + 1)).all gaussB = true by rw [all_take_succ gaussB L k hlt, hall.out, hp, hin]; rfl)
        have HI := Lib.hid hin
        clear hin hp
        go_wp2_with fail
        refine (sGaussValid_any p _).mono ?_
        rintro e w1 ⟨rfl, hB1⟩
        rw [HI.out]
        go_wp2_with fail
        go_roundw
        case rel => exact ⟨k + 1, by omega, by go_num, H, bT hB hB1⟩
        case measure => simp [intOf]; omega
    · have H := Lib.hid (show gridB L = ((L.length : Int) == 16) by
        have := hall.out
        rw [List.take_of_length_le (Nat.le_of_not_lt hlt)] at this
        rw [gridB, this, Bool.and_true, Bool.eq_iff_iff]; simp; omega)
      go_wp2_with (go_at_call 40; refine (l21Cells_any _).mono ?_; rintro e w' ⟨rfl, rfl⟩)
      go_ret
      exact ⟨ret_bool H.out.symm, hB⟩
def bkRel (G : List (Int × Int)) (i : Nat) (w : World) (v : Value) (wr : World) : Prop :=
  ∃ k : Nat, k ≤ 16 ∧ v = .int .i64 k ∧ wr.heap[w.heap.size + 1]? = some (.cells #[.int .i64 (Sky.Tn k (gcells G) (-1) i).1, .int .i64 (Sky.Tn k (gcells G) (-1) i).2] 32 (0, 0)) ∧ wr.heap[w.heap.size]? = some (.cells #[.int .i64 0, .int .i64 0] 32 (0, 0)) ∧ Below w.heap.size w wr
set_option maxHeartbeats 4000000 in
theorem l21Back_any (A : Option Addr) (c x y : Nat) (G : List (Int × Int)) (w : World) (h : Rd w w.heap.size 2 A 16 c (cp G)) (hg : gridB G = true) (hx : x < 4) (hy : y < 4) :
    Calls Try.prog 52 #[.slice A 16 c, .int .i64 x, .int .i64 y] w fun e w' => e = .returned (gv (invT G (4 * y + x))) ∧ Below w.heap.size w w' := by
  have HG := Lib.hid hg
  have HL := Lib.hid (gridB_len hg)
  clear hg
  have hA1 : ((w.alloc (.cells #[.int .i64 0, .int .i64 0] 32)).alloc (.cells #[.int .i64 0, .int .i64 0] 32)).heap[w.heap.size + 1]? = some (.cells #[.int .i64 0, .int .i64 0] 32 (0, 0)) := by
    rw [show w.heap.size + 1 = (w.alloc (.cells #[.int .i64 0, .int .i64 0] 32)).heap.size by simp]; exact heap_alloc_new _ _
  have hA0 : ((w.alloc (.cells #[.int .i64 0, .int .i64 0] 32)).alloc (.cells #[.int .i64 0, .int .i64 0] 32)).heap[w.heap.size]? = some (.cells #[.int .i64 0, .int .i64 0] 32 (0, 0)) := by
    rw [heap_alloc_old _ _ (by simp)]; exact heap_alloc_new _ _
  go_enter Try.func52, Try.ntmps52
  go_wp2
  go_loopw [8, 9] (fun v _ wr => bkRel G (4 * y + x) w v wr) (fun v _ _ => 16 - (intOf v).toNat)
  case atStart => exact ⟨0, Nat.zero_le _, rfl, hA1, hA0, bA (bA (b0 w) _) _⟩
  case round =>
    obtain ⟨k, hk, rfl, hs1, hs0, hB⟩ := hrel
    by_cases hlt : k < 16
    · have hkl : k < G.length := by rw [HL.out]; exact hlt
      obtain ⟨b, off, rfl, hb, hc1, hc2⟩ := (h.below hB).pair_at hkl
      have e1 : gcells G k = G[k] := by simp [gcells, hkl]
      have hgb := gcells_bd HG.out k
      have hub := Sky.unit_bound (-1 * Sky.ex (4 * y + x) k)
      have htb := back_bd HG.out (4 * y + x) k (by omega)
      have hst := inv_step G (4 * y + x) k
      rw [e1] at hgb hst
      have p1 := mul_bd (a := (x : Int)) (b := (k : Int) % 4) (A := 3) (B := 3) (by omega) (by omega) (by omega) (by omega)
      have p2 := mul_bd (a := (y : Int)) (b := (k : Int) / 4) (A := 3) (B := 3) (by omega) (by omega) (by omega) (by omega)
      obtain ⟨p11, p12⟩ := p1
      obtain ⟨p21, p22⟩ := p2
      have HE := Lib.hid (back_arg x y k hx)
      obtain ⟨p, hp⟩ : ∃ p, G[k] = p := ⟨_, rfl⟩
      obtain ⟨u, hu⟩ : ∃ u, Sky.unit (-1 * Sky.ex (4 * y + x) k) = u := ⟨_, rfl⟩
      obtain ⟨t, ht⟩ : ∃ t, Sky.Tn k (gcells G) (-1) (4 * y + x) = t := ⟨_, rfl⟩
      rw [hp] at hc1 hc2 hgb hst
      rw [hu] at hub hst
      rw [ht] at htb hst hs1
      have HU := Lib.hid hu
      have HST := Lib.hid hst
      clear hu ht hp hst e1
      obtain ⟨g1, g2, g3, g4⟩ := hgb
      obtain ⟨u1, u2, u3, u4⟩ := hub
      obtain ⟨t1, t2, t3, t4⟩ := htb
      have m1 := mul_bd g1 g2 u1 u2
      have m2 := mul_bd g3 g4 u3 u4
      have m3 := mul_bd g1 g2 u3 u4
      have m4 := mul_bd g3 g4 u1 u2
      simp only [Int.reduceMul, Int.reduceNeg] at m1 m2 m3 m4
      obtain ⟨m11, m12⟩ := m1
      obtain ⟨m21, m22⟩ := m2
      obtain ⟨m31, m32⟩ := m3
      obtain ⟨m41, m42⟩ := m4
      have hi0 : (0 : Int) ≤ (k : Int) := by omega
      have hi1 : (k : Int) < 16 := by omega
      go_wp2_with (go_at_call 40; refine (l21Cells_any _).mono ?_; rintro e w' ⟨rfl, rfl⟩)
      rw [HE.out]
      refine (sGaussUnit_any _ _).mono ?_
      rintro e w1 ⟨rfl, hb1⟩
      rw [HU.out]
      unfold gv
      have hs1' := (hb1.block _ (lt_of_block hs1)).trans hs1
      have hs0' := (hb1.block _ (lt_of_block hs0)).trans hs0
      have hc1' := (hb1.cell (p := ⟨b, off + k * 2, none⟩) (block_lt_of_cell hc1)).trans hc1
      have hc2' := (hb1.cell (p := ⟨b, off + k * 2 + 1, none⟩) (block_lt_of_cell hc2)).trans hc2
      have hB1 := bT hB hb1
      have l1 := lt_of_block hs1'
      have l0 := lt_of_block hs0'
      have l2 : b < w1.heap.size := block_lt_of_cell hc1'
      clear hs1 hs0 hc1 hc2 hB hb1
      go_wp2_with fail
      obtain ⟨W, hW⟩ : ∃ W, w1.alloc (.cells #[.int .i64 u.1, .int .i64 u.2] 32) = W := ⟨_, rfl⟩
      have hBW : Below w.heap.size w W := by rw [← hW]; exact bA hB1 _
      have S1 : W.heap[w.heap.size + 1]? = some (.cells #[.int .i64 t.1, .int .i64 t.2] 32 (0, 0)) := by rw [← hW, heap_alloc_old _ _ l1]; exact hs1'
      have S0 : W.heap[w.heap.size]? = some (.cells #[.int .i64 0, .int .i64 0] 32 (0, 0)) := by rw [← hW, heap_alloc_old _ _ l0]; exact hs0'
      have SU : W.heap[w1.heap.size]? = some (.cells #[.int .i64 u.1, .int .i64 u.2] 32 (0, 0)) := by rw [← hW]; exact heap_alloc_new _ _
      have ca : W.cell? ⟨b, off + k * 2, none⟩ = some (.int .i64 p.1) := by rw [← hW, World.cell?_alloc_past _ _ _ l2]; exact hc1'
      have cb : W.cell? ⟨b, off + k * 2 + 1, none⟩ = some (.int .i64 p.2) := by rw [← hW, World.cell?_alloc_past _ _ _ l2]; exact hc2'
      have cs0 : W.cell? ⟨w.heap.size + 1, 0, none⟩ = some (.int .i64 t.1) := by rw [cell_of_row _ _ 0 _ _ _ S1]; rfl
      have cs1 : W.cell? ⟨w.heap.size + 1, 1, none⟩ = some (.int .i64 t.2) := by rw [cell_of_row _ _ 1 _ _ _ S1]; rfl
      have cu0 : W.cell? ⟨w1.heap.size, 0, none⟩ = some (.int .i64 u.1) := by rw [cell_of_row _ _ 0 _ _ _ SU]; rfl
      have cu1 : W.cell? ⟨w1.heap.size, 1, none⟩ = some (.int .i64 u.2) := by rw [cell_of_row _ _ 1 _ _ _ SU]; rfl
      have fs0 : W.frozen? ⟨w.heap.size + 1, 0, none⟩ = false := frozen_of_row _ _ 0 _ _ S1
      have fs1 : W.frozen? ⟨w.heap.size + 1, 1, none⟩ = false := frozen_of_row _ _ 1 _ _ S1
      have n1 : ¬ (w1.heap.size = w.heap.size + 1) := by omega
      have n2 : ¬ (w.heap.size + 1 = w1.heap.size) := by omega
      have n3 : ¬ (b = w.heap.size + 1) := by omega
      have n4 : ¬ (w.heap.size + 1 = b) := by omega
      rw [hW]
      clear hW hs1' hs0' hc1' hc2' SU hB1 l0 l1 l2
      --R6
      have q1 : IntKind.i64.wrap (p.1 * u.1) = p.1 * u.1 := IntWalk.i64_in _ (by omega)
      have q2 : IntKind.i64.wrap (p.2 * u.2) = p.2 * u.2 := IntWalk.i64_in _ (by omega)
      have q3 : IntKind.i64.wrap (t.1 + p.1 * u.1) = t.1 + p.1 * u.1 := IntWalk.i64_in _ (by omega)
      have q4 : IntKind.i64.wrap (t.1 + p.1 * u.1 - p.2 * u.2) = t.1 + p.1 * u.1 - p.2 * u.2 := IntWalk.i64_in _ (by omega)
      refine wp_region_held_drew (S := fun W' => W'.cell? ⟨b, off + k * 2, none⟩ = some (.int .i64 p.1) ∧ W'.cell? ⟨b, off + k * 2 + 1, none⟩ = some (.int .i64 p.2) ∧ W'.cell? ⟨w1.heap.size, 0, none⟩ = some (.int .i64 u.1) ∧ W'.cell? ⟨w1.heap.size, 1, none⟩ = some (.int .i64 u.2)) (by kernel_rfl) ⟨ca, cb, cu0, cu1⟩ (fun hS => ?_)
      refine wpAnyH_take (i := 0) (v := .pointer (some ⟨w.heap.size + 1, 0, none⟩)) rfl (by kernel_rfl) (by kernel_rfl) (by kernel_rfl) (fun _ _ _ h => h) (Or.inl ⟨by rfl, fun ww hSw => ?_⟩) hS ?_
      · have q1 : IntKind.i64.wrap (p.1 * u.1) = p.1 * u.1 := IntWalk.i64_in _ (by omega); have q2 : IntKind.i64.wrap (p.2 * u.2) = p.2 * u.2 := IntWalk.i64_in _ (by omega); obtain ⟨e1, e2, e3, e4⟩ := hSw; go_simp
      refine wpAnyH_take (i := 2) (v := .slice (some ⟨b, off, none⟩) 16 c) rfl (by kernel_rfl) (by kernel_rfl) (by kernel_rfl) (fun _ _ _ h => h) (Or.inl ⟨by rfl, fun ww hSw => ?_⟩) hS ?_
      · have q1 : IntKind.i64.wrap (p.1 * u.1) = p.1 * u.1 := IntWalk.i64_in _ (by omega); have q2 : IntKind.i64.wrap (p.2 * u.2) = p.2 * u.2 := IntWalk.i64_in _ (by omega); obtain ⟨e1, e2, e3, e4⟩ := hSw; go_simp
      refine wpAnyH_take (i := 3) (v := .int .i64 (k)) rfl (by kernel_rfl) (by kernel_rfl) (by kernel_rfl) (fun _ _ _ h => h) (Or.inl ⟨by rfl, fun ww hSw => ?_⟩) hS ?_
      · have q1 : IntKind.i64.wrap (p.1 * u.1) = p.1 * u.1 := IntWalk.i64_in _ (by omega); have q2 : IntKind.i64.wrap (p.2 * u.2) = p.2 * u.2 := IntWalk.i64_in _ (by omega); obtain ⟨e1, e2, e3, e4⟩ := hSw; go_simp
      refine wpAnyH_take (i := 4) (v := .pointer (some ⟨b, off + k * 2, none⟩)) rfl (by kernel_rfl) (by kernel_rfl) (by kernel_rfl) (fun _ _ _ h => h) (Or.inl ⟨by rfl, fun ww hSw => ?_⟩) hS ?_
      · have q1 : IntKind.i64.wrap (p.1 * u.1) = p.1 * u.1 := IntWalk.i64_in _ (by omega); have q2 : IntKind.i64.wrap (p.2 * u.2) = p.2 * u.2 := IntWalk.i64_in _ (by omega); obtain ⟨e1, e2, e3, e4⟩ := hSw; go_simp
      refine wpAnyH_take (i := 5) (v := .pointer (some ⟨b, off + k * 2, none⟩)) rfl (by kernel_rfl) (by kernel_rfl) (by kernel_rfl) (fun _ _ _ h => h) (Or.inl ⟨by rfl, fun ww hSw => ?_⟩) hS ?_
      · have q1 : IntKind.i64.wrap (p.1 * u.1) = p.1 * u.1 := IntWalk.i64_in _ (by omega); have q2 : IntKind.i64.wrap (p.2 * u.2) = p.2 * u.2 := IntWalk.i64_in _ (by omega); obtain ⟨e1, e2, e3, e4⟩ := hSw; go_simp
      refine wpAnyH_take (i := 6) (v := .int .i64 (p.1)) rfl (by kernel_rfl) (by kernel_rfl) (by kernel_rfl) (fun _ _ _ h => h) (Or.inl ⟨by rfl, fun ww hSw => ?_⟩) hS ?_
      · have q1 : IntKind.i64.wrap (p.1 * u.1) = p.1 * u.1 := IntWalk.i64_in _ (by omega); have q2 : IntKind.i64.wrap (p.2 * u.2) = p.2 * u.2 := IntWalk.i64_in _ (by omega); obtain ⟨e1, e2, e3, e4⟩ := hSw; go_simp
      refine wpAnyH_take (i := 7) (v := .pointer (some ⟨w1.heap.size, 0, none⟩)) rfl (by kernel_rfl) (by kernel_rfl) (by kernel_rfl) (fun _ _ _ h => h) (Or.inl ⟨by rfl, fun ww hSw => ?_⟩) hS ?_
      · have q1 : IntKind.i64.wrap (p.1 * u.1) = p.1 * u.1 := IntWalk.i64_in _ (by omega); have q2 : IntKind.i64.wrap (p.2 * u.2) = p.2 * u.2 := IntWalk.i64_in _ (by omega); obtain ⟨e1, e2, e3, e4⟩ := hSw; go_simp
      refine wpAnyH_take (i := 8) (v := .int .i64 (u.1)) rfl (by kernel_rfl) (by kernel_rfl) (by kernel_rfl) (fun _ _ _ h => h) (Or.inl ⟨by rfl, fun ww hSw => ?_⟩) hS ?_
      · have q1 : IntKind.i64.wrap (p.1 * u.1) = p.1 * u.1 := IntWalk.i64_in _ (by omega); have q2 : IntKind.i64.wrap (p.2 * u.2) = p.2 * u.2 := IntWalk.i64_in _ (by omega); obtain ⟨e1, e2, e3, e4⟩ := hSw; go_simp
      refine wpAnyH_take (i := 9) (v := .int .i64 (p.1 * u.1)) rfl (by kernel_rfl) (by kernel_rfl) (by kernel_rfl) (fun _ _ _ h => h) (Or.inl ⟨by rfl, fun ww hSw => ?_⟩) hS ?_
      · have q1 : IntKind.i64.wrap (p.1 * u.1) = p.1 * u.1 := IntWalk.i64_in _ (by omega); have q2 : IntKind.i64.wrap (p.2 * u.2) = p.2 * u.2 := IntWalk.i64_in _ (by omega); obtain ⟨e1, e2, e3, e4⟩ := hSw; go_simp
      refine wpAnyH_take (i := 11) (v := .slice (some ⟨b, off, none⟩) 16 c) rfl (by kernel_rfl) (by kernel_rfl) (by kernel_rfl) (fun _ _ _ h => h) (Or.inl ⟨by rfl, fun ww hSw => ?_⟩) hS ?_
      · have q1 : IntKind.i64.wrap (p.1 * u.1) = p.1 * u.1 := IntWalk.i64_in _ (by omega); have q2 : IntKind.i64.wrap (p.2 * u.2) = p.2 * u.2 := IntWalk.i64_in _ (by omega); obtain ⟨e1, e2, e3, e4⟩ := hSw; go_simp
      refine wpAnyH_take (i := 12) (v := .int .i64 (k)) rfl (by kernel_rfl) (by kernel_rfl) (by kernel_rfl) (fun _ _ _ h => h) (Or.inl ⟨by rfl, fun ww hSw => ?_⟩) hS ?_
      · have q1 : IntKind.i64.wrap (p.1 * u.1) = p.1 * u.1 := IntWalk.i64_in _ (by omega); have q2 : IntKind.i64.wrap (p.2 * u.2) = p.2 * u.2 := IntWalk.i64_in _ (by omega); obtain ⟨e1, e2, e3, e4⟩ := hSw; go_simp
      refine wpAnyH_take (i := 13) (v := .pointer (some ⟨b, off + k * 2, none⟩)) rfl (by kernel_rfl) (by kernel_rfl) (by kernel_rfl) (fun _ _ _ h => h) (Or.inl ⟨by rfl, fun ww hSw => ?_⟩) hS ?_
      · have q1 : IntKind.i64.wrap (p.1 * u.1) = p.1 * u.1 := IntWalk.i64_in _ (by omega); have q2 : IntKind.i64.wrap (p.2 * u.2) = p.2 * u.2 := IntWalk.i64_in _ (by omega); obtain ⟨e1, e2, e3, e4⟩ := hSw; go_simp
      refine wpAnyH_take (i := 14) (v := .pointer (some ⟨b, off + k * 2 + 1, none⟩)) rfl (by kernel_rfl) (by kernel_rfl) (by kernel_rfl) (fun _ _ _ h => h) (Or.inl ⟨by rfl, fun ww hSw => ?_⟩) hS ?_
      · have q1 : IntKind.i64.wrap (p.1 * u.1) = p.1 * u.1 := IntWalk.i64_in _ (by omega); have q2 : IntKind.i64.wrap (p.2 * u.2) = p.2 * u.2 := IntWalk.i64_in _ (by omega); obtain ⟨e1, e2, e3, e4⟩ := hSw; go_simp
      refine wpAnyH_take (i := 15) (v := .int .i64 (p.2)) rfl (by kernel_rfl) (by kernel_rfl) (by kernel_rfl) (fun _ _ _ h => h) (Or.inl ⟨by rfl, fun ww hSw => ?_⟩) hS ?_
      · have q1 : IntKind.i64.wrap (p.1 * u.1) = p.1 * u.1 := IntWalk.i64_in _ (by omega); have q2 : IntKind.i64.wrap (p.2 * u.2) = p.2 * u.2 := IntWalk.i64_in _ (by omega); obtain ⟨e1, e2, e3, e4⟩ := hSw; go_simp
      refine wpAnyH_take (i := 16) (v := .pointer (some ⟨w1.heap.size, 1, none⟩)) rfl (by kernel_rfl) (by kernel_rfl) (by kernel_rfl) (fun _ _ _ h => h) (Or.inl ⟨by rfl, fun ww hSw => ?_⟩) hS ?_
      · have q1 : IntKind.i64.wrap (p.1 * u.1) = p.1 * u.1 := IntWalk.i64_in _ (by omega); have q2 : IntKind.i64.wrap (p.2 * u.2) = p.2 * u.2 := IntWalk.i64_in _ (by omega); obtain ⟨e1, e2, e3, e4⟩ := hSw; go_simp
      refine wpAnyH_take (i := 17) (v := .int .i64 (u.2)) rfl (by kernel_rfl) (by kernel_rfl) (by kernel_rfl) (fun _ _ _ h => h) (Or.inl ⟨by rfl, fun ww hSw => ?_⟩) hS ?_
      · have q1 : IntKind.i64.wrap (p.1 * u.1) = p.1 * u.1 := IntWalk.i64_in _ (by omega); have q2 : IntKind.i64.wrap (p.2 * u.2) = p.2 * u.2 := IntWalk.i64_in _ (by omega); obtain ⟨e1, e2, e3, e4⟩ := hSw; go_simp
      refine wpAnyH_take (i := 18) (v := .int .i64 (p.2 * u.2)) rfl (by kernel_rfl) (by kernel_rfl) (by kernel_rfl) (fun _ _ _ h => h) (Or.inl ⟨by rfl, fun ww hSw => ?_⟩) hS ?_
      · have q1 : IntKind.i64.wrap (p.1 * u.1) = p.1 * u.1 := IntWalk.i64_in _ (by omega); have q2 : IntKind.i64.wrap (p.2 * u.2) = p.2 * u.2 := IntWalk.i64_in _ (by omega); obtain ⟨e1, e2, e3, e4⟩ := hSw; go_simp
      refine wpAnyH_ready (rs := [1]) (by kernel_rfl) (by simp) ?_
      refine AllReadyH.cons rfl (fun K hK => ?_) AllReadyH.nil
      go_simp
      refine hK.out _ _ hS (fun hS => ?_)
      clear hK K
      refine wpAnyH_ready (rs := [10]) (by kernel_rfl) (by simp) ?_
      refine AllReadyH.cons rfl (fun K hK => ?_) AllReadyH.nil
      go_simp
      refine hK.out _ _ hS (fun hS => ?_)
      clear hK K
      refine wpAnyH_ready (rs := [19]) (by kernel_rfl) (by simp) ?_
      refine AllReadyH.cons rfl (fun K hK => ?_) AllReadyH.nil
      go_simp
      refine hK.out _ _ hS (fun hS => ?_)
      clear hK K
      refine wpAnyH_take (i := 20) (v := .pointer (some ⟨w.heap.size + 1, 0, none⟩)) rfl (by kernel_rfl) (by kernel_rfl) (by kernel_rfl) (fun _ _ _ h => h) (Or.inl ⟨by rfl, fun ww hSw => ?_⟩) hS ?_
      · have q1 : IntKind.i64.wrap (p.1 * u.1) = p.1 * u.1 := IntWalk.i64_in _ (by omega); have q2 : IntKind.i64.wrap (p.2 * u.2) = p.2 * u.2 := IntWalk.i64_in _ (by omega); obtain ⟨e1, e2, e3, e4⟩ := hSw; go_simp
      refine wpAnyH_ready (rs := [21]) (by kernel_rfl) (by simp) ?_
      refine AllReadyH.cons rfl (fun K hK => ?_) AllReadyH.nil
      go_simp
      refine hK.out _ _ ⟨(World.cell?_setCell_other _ _ _ _ (by simp)).trans hS.1, (World.cell?_setCell_other _ _ _ _ (by simp)).trans hS.2.1, (World.cell?_setCell_other _ _ _ _ (by simp)).trans hS.2.2.1, (World.cell?_setCell_other _ _ _ _ (by simp)).trans hS.2.2.2⟩ (fun hS => ?_)
      clear hK K
      refine ⟨by kernel_rfl, ?_⟩
      clear q1 q2 q3 q4
      go_wp2_with fail
      have q1 : IntKind.i64.wrap (p.1 * u.2) = p.1 * u.2 := IntWalk.i64_in _ (by omega)
      have q2 : IntKind.i64.wrap (p.2 * u.1) = p.2 * u.1 := IntWalk.i64_in _ (by omega)
      have q3 : IntKind.i64.wrap (t.2 + p.1 * u.2) = t.2 + p.1 * u.2 := IntWalk.i64_in _ (by omega)
      have q4 : IntKind.i64.wrap (t.2 + p.1 * u.2 + p.2 * u.1) = t.2 + p.1 * u.2 + p.2 * u.1 := IntWalk.i64_in _ (by omega)
      refine wp_region_held_drew (S := fun W' => W'.cell? ⟨b, off + k * 2, none⟩ = some (.int .i64 p.1) ∧ W'.cell? ⟨b, off + k * 2 + 1, none⟩ = some (.int .i64 p.2) ∧ W'.cell? ⟨w1.heap.size, 0, none⟩ = some (.int .i64 u.1) ∧ W'.cell? ⟨w1.heap.size, 1, none⟩ = some (.int .i64 u.2)) (by kernel_rfl) hS (fun hS => ?_)
      refine wpAnyH_take (i := 0) (v := .pointer (some ⟨w.heap.size + 1, 1, none⟩)) rfl (by kernel_rfl) (by kernel_rfl) (by kernel_rfl) (fun _ _ _ h => h) (Or.inl ⟨by rfl, fun ww hSw => ?_⟩) hS ?_
      · have q1 : IntKind.i64.wrap (p.1 * u.2) = p.1 * u.2 := IntWalk.i64_in _ (by omega); have q2 : IntKind.i64.wrap (p.2 * u.1) = p.2 * u.1 := IntWalk.i64_in _ (by omega); obtain ⟨e1, e2, e3, e4⟩ := hSw; go_simp
      refine wpAnyH_take (i := 2) (v := .slice (some ⟨b, off, none⟩) 16 c) rfl (by kernel_rfl) (by kernel_rfl) (by kernel_rfl) (fun _ _ _ h => h) (Or.inl ⟨by rfl, fun ww hSw => ?_⟩) hS ?_
      · have q1 : IntKind.i64.wrap (p.1 * u.2) = p.1 * u.2 := IntWalk.i64_in _ (by omega); have q2 : IntKind.i64.wrap (p.2 * u.1) = p.2 * u.1 := IntWalk.i64_in _ (by omega); obtain ⟨e1, e2, e3, e4⟩ := hSw; go_simp
      refine wpAnyH_take (i := 3) (v := .int .i64 (k)) rfl (by kernel_rfl) (by kernel_rfl) (by kernel_rfl) (fun _ _ _ h => h) (Or.inl ⟨by rfl, fun ww hSw => ?_⟩) hS ?_
      · have q1 : IntKind.i64.wrap (p.1 * u.2) = p.1 * u.2 := IntWalk.i64_in _ (by omega); have q2 : IntKind.i64.wrap (p.2 * u.1) = p.2 * u.1 := IntWalk.i64_in _ (by omega); obtain ⟨e1, e2, e3, e4⟩ := hSw; go_simp
      refine wpAnyH_take (i := 4) (v := .pointer (some ⟨b, off + k * 2, none⟩)) rfl (by kernel_rfl) (by kernel_rfl) (by kernel_rfl) (fun _ _ _ h => h) (Or.inl ⟨by rfl, fun ww hSw => ?_⟩) hS ?_
      · have q1 : IntKind.i64.wrap (p.1 * u.2) = p.1 * u.2 := IntWalk.i64_in _ (by omega); have q2 : IntKind.i64.wrap (p.2 * u.1) = p.2 * u.1 := IntWalk.i64_in _ (by omega); obtain ⟨e1, e2, e3, e4⟩ := hSw; go_simp
      refine wpAnyH_take (i := 5) (v := .pointer (some ⟨b, off + k * 2, none⟩)) rfl (by kernel_rfl) (by kernel_rfl) (by kernel_rfl) (fun _ _ _ h => h) (Or.inl ⟨by rfl, fun ww hSw => ?_⟩) hS ?_
      · have q1 : IntKind.i64.wrap (p.1 * u.2) = p.1 * u.2 := IntWalk.i64_in _ (by omega); have q2 : IntKind.i64.wrap (p.2 * u.1) = p.2 * u.1 := IntWalk.i64_in _ (by omega); obtain ⟨e1, e2, e3, e4⟩ := hSw; go_simp
      refine wpAnyH_take (i := 6) (v := .int .i64 (p.1)) rfl (by kernel_rfl) (by kernel_rfl) (by kernel_rfl) (fun _ _ _ h => h) (Or.inl ⟨by rfl, fun ww hSw => ?_⟩) hS ?_
      · have q1 : IntKind.i64.wrap (p.1 * u.2) = p.1 * u.2 := IntWalk.i64_in _ (by omega); have q2 : IntKind.i64.wrap (p.2 * u.1) = p.2 * u.1 := IntWalk.i64_in _ (by omega); obtain ⟨e1, e2, e3, e4⟩ := hSw; go_simp
      refine wpAnyH_take (i := 7) (v := .pointer (some ⟨w1.heap.size, 1, none⟩)) rfl (by kernel_rfl) (by kernel_rfl) (by kernel_rfl) (fun _ _ _ h => h) (Or.inl ⟨by rfl, fun ww hSw => ?_⟩) hS ?_
      · have q1 : IntKind.i64.wrap (p.1 * u.2) = p.1 * u.2 := IntWalk.i64_in _ (by omega); have q2 : IntKind.i64.wrap (p.2 * u.1) = p.2 * u.1 := IntWalk.i64_in _ (by omega); obtain ⟨e1, e2, e3, e4⟩ := hSw; go_simp
      refine wpAnyH_take (i := 8) (v := .int .i64 (u.2)) rfl (by kernel_rfl) (by kernel_rfl) (by kernel_rfl) (fun _ _ _ h => h) (Or.inl ⟨by rfl, fun ww hSw => ?_⟩) hS ?_
      · have q1 : IntKind.i64.wrap (p.1 * u.2) = p.1 * u.2 := IntWalk.i64_in _ (by omega); have q2 : IntKind.i64.wrap (p.2 * u.1) = p.2 * u.1 := IntWalk.i64_in _ (by omega); obtain ⟨e1, e2, e3, e4⟩ := hSw; go_simp
      refine wpAnyH_take (i := 9) (v := .int .i64 (p.1 * u.2)) rfl (by kernel_rfl) (by kernel_rfl) (by kernel_rfl) (fun _ _ _ h => h) (Or.inl ⟨by rfl, fun ww hSw => ?_⟩) hS ?_
      · have q1 : IntKind.i64.wrap (p.1 * u.2) = p.1 * u.2 := IntWalk.i64_in _ (by omega); have q2 : IntKind.i64.wrap (p.2 * u.1) = p.2 * u.1 := IntWalk.i64_in _ (by omega); obtain ⟨e1, e2, e3, e4⟩ := hSw; go_simp
      refine wpAnyH_take (i := 11) (v := .slice (some ⟨b, off, none⟩) 16 c) rfl (by kernel_rfl) (by kernel_rfl) (by kernel_rfl) (fun _ _ _ h => h) (Or.inl ⟨by rfl, fun ww hSw => ?_⟩) hS ?_
      · have q1 : IntKind.i64.wrap (p.1 * u.2) = p.1 * u.2 := IntWalk.i64_in _ (by omega); have q2 : IntKind.i64.wrap (p.2 * u.1) = p.2 * u.1 := IntWalk.i64_in _ (by omega); obtain ⟨e1, e2, e3, e4⟩ := hSw; go_simp
      refine wpAnyH_take (i := 12) (v := .int .i64 (k)) rfl (by kernel_rfl) (by kernel_rfl) (by kernel_rfl) (fun _ _ _ h => h) (Or.inl ⟨by rfl, fun ww hSw => ?_⟩) hS ?_
      · have q1 : IntKind.i64.wrap (p.1 * u.2) = p.1 * u.2 := IntWalk.i64_in _ (by omega); have q2 : IntKind.i64.wrap (p.2 * u.1) = p.2 * u.1 := IntWalk.i64_in _ (by omega); obtain ⟨e1, e2, e3, e4⟩ := hSw; go_simp
      refine wpAnyH_take (i := 13) (v := .pointer (some ⟨b, off + k * 2, none⟩)) rfl (by kernel_rfl) (by kernel_rfl) (by kernel_rfl) (fun _ _ _ h => h) (Or.inl ⟨by rfl, fun ww hSw => ?_⟩) hS ?_
      · have q1 : IntKind.i64.wrap (p.1 * u.2) = p.1 * u.2 := IntWalk.i64_in _ (by omega); have q2 : IntKind.i64.wrap (p.2 * u.1) = p.2 * u.1 := IntWalk.i64_in _ (by omega); obtain ⟨e1, e2, e3, e4⟩ := hSw; go_simp
      refine wpAnyH_take (i := 14) (v := .pointer (some ⟨b, off + k * 2 + 1, none⟩)) rfl (by kernel_rfl) (by kernel_rfl) (by kernel_rfl) (fun _ _ _ h => h) (Or.inl ⟨by rfl, fun ww hSw => ?_⟩) hS ?_
      · have q1 : IntKind.i64.wrap (p.1 * u.2) = p.1 * u.2 := IntWalk.i64_in _ (by omega); have q2 : IntKind.i64.wrap (p.2 * u.1) = p.2 * u.1 := IntWalk.i64_in _ (by omega); obtain ⟨e1, e2, e3, e4⟩ := hSw; go_simp
      refine wpAnyH_take (i := 15) (v := .int .i64 (p.2)) rfl (by kernel_rfl) (by kernel_rfl) (by kernel_rfl) (fun _ _ _ h => h) (Or.inl ⟨by rfl, fun ww hSw => ?_⟩) hS ?_
      · have q1 : IntKind.i64.wrap (p.1 * u.2) = p.1 * u.2 := IntWalk.i64_in _ (by omega); have q2 : IntKind.i64.wrap (p.2 * u.1) = p.2 * u.1 := IntWalk.i64_in _ (by omega); obtain ⟨e1, e2, e3, e4⟩ := hSw; go_simp
      refine wpAnyH_take (i := 16) (v := .pointer (some ⟨w1.heap.size, 0, none⟩)) rfl (by kernel_rfl) (by kernel_rfl) (by kernel_rfl) (fun _ _ _ h => h) (Or.inl ⟨by rfl, fun ww hSw => ?_⟩) hS ?_
      · have q1 : IntKind.i64.wrap (p.1 * u.2) = p.1 * u.2 := IntWalk.i64_in _ (by omega); have q2 : IntKind.i64.wrap (p.2 * u.1) = p.2 * u.1 := IntWalk.i64_in _ (by omega); obtain ⟨e1, e2, e3, e4⟩ := hSw; go_simp
      refine wpAnyH_take (i := 17) (v := .int .i64 (u.1)) rfl (by kernel_rfl) (by kernel_rfl) (by kernel_rfl) (fun _ _ _ h => h) (Or.inl ⟨by rfl, fun ww hSw => ?_⟩) hS ?_
      · have q1 : IntKind.i64.wrap (p.1 * u.2) = p.1 * u.2 := IntWalk.i64_in _ (by omega); have q2 : IntKind.i64.wrap (p.2 * u.1) = p.2 * u.1 := IntWalk.i64_in _ (by omega); obtain ⟨e1, e2, e3, e4⟩ := hSw; go_simp
      refine wpAnyH_take (i := 18) (v := .int .i64 (p.2 * u.1)) rfl (by kernel_rfl) (by kernel_rfl) (by kernel_rfl) (fun _ _ _ h => h) (Or.inl ⟨by rfl, fun ww hSw => ?_⟩) hS ?_
      · have q1 : IntKind.i64.wrap (p.1 * u.2) = p.1 * u.2 := IntWalk.i64_in _ (by omega); have q2 : IntKind.i64.wrap (p.2 * u.1) = p.2 * u.1 := IntWalk.i64_in _ (by omega); obtain ⟨e1, e2, e3, e4⟩ := hSw; go_simp
      refine wpAnyH_ready (rs := [1]) (by kernel_rfl) (by simp) ?_
      refine AllReadyH.cons rfl (fun K hK => ?_) AllReadyH.nil
      go_simp
      refine hK.out _ _ hS (fun hS => ?_)
      clear hK K
      refine wpAnyH_ready (rs := [10]) (by kernel_rfl) (by simp) ?_
      refine AllReadyH.cons rfl (fun K hK => ?_) AllReadyH.nil
      go_simp
      refine hK.out _ _ hS (fun hS => ?_)
      clear hK K
      refine wpAnyH_ready (rs := [19]) (by kernel_rfl) (by simp) ?_
      refine AllReadyH.cons rfl (fun K hK => ?_) AllReadyH.nil
      go_simp
      refine hK.out _ _ hS (fun hS => ?_)
      clear hK K
      refine wpAnyH_take (i := 20) (v := .pointer (some ⟨w.heap.size + 1, 1, none⟩)) rfl (by kernel_rfl) (by kernel_rfl) (by kernel_rfl) (fun _ _ _ h => h) (Or.inl ⟨by rfl, fun ww hSw => ?_⟩) hS ?_
      · have q1 : IntKind.i64.wrap (p.1 * u.2) = p.1 * u.2 := IntWalk.i64_in _ (by omega); have q2 : IntKind.i64.wrap (p.2 * u.1) = p.2 * u.1 := IntWalk.i64_in _ (by omega); obtain ⟨e1, e2, e3, e4⟩ := hSw; go_simp
      refine wpAnyH_ready (rs := [21]) (by kernel_rfl) (by simp) ?_
      refine AllReadyH.cons rfl (fun K hK => ?_) AllReadyH.nil
      go_simp
      refine hK.out _ _ ⟨(World.cell?_setCell_other _ _ _ _ (by simp)).trans hS.1, (World.cell?_setCell_other _ _ _ _ (by simp)).trans hS.2.1, (World.cell?_setCell_other _ _ _ _ (by simp)).trans hS.2.2.1, (World.cell?_setCell_other _ _ _ _ (by simp)).trans hS.2.2.2⟩ (fun hS => ?_)
      clear hK K
      refine ⟨by kernel_rfl, ?_⟩
      clear hS q1 q2 q3 q4
      go_wp2_with fail
      go_roundw
      case rel =>
        refine ⟨k + 1, by omega, by go_num, ?_, ?_, bS (p := ⟨w.heap.size + 1, 1, none⟩) (Below.drew (bS (p := ⟨w.heap.size + 1, 0, none⟩) (Below.drew hBW) (Nat.le_succ _) _)) (Nat.le_succ _) _⟩
        · rw [HST.out]
          exact heap_setCell_same _ _ 1 _ _ _ (heap_setCell_same W.drew _ 0 _ _ _ S1)
        · exact (heap_setCell_other _ _ _ _ (by simp)).trans ((heap_setCell_other W.drew _ _ _ (by simp)).trans S0)
      case measure => simp [intOf]; omega
      --E6
    · have he : k = 16 := by omega
      subst he
      have c0 : wr.cell? ⟨w.heap.size + 1, 0, none⟩ = some (.int .i64 (Sky.Tn 16 (gcells G) (-1) (4 * y + x)).1) := by rw [cell_of_row _ _ 0 _ _ _ hs1]; rfl
      have c1 : wr.cell? ⟨w.heap.size + 1, 1, none⟩ = some (.int .i64 (Sky.Tn 16 (gcells G) (-1) (4 * y + x)).2) := by rw [cell_of_row _ _ 1 _ _ _ hs1]; rfl
      have d0 : wr.cell? ⟨w.heap.size, 0, none⟩ = some (.int .i64 0) := by rw [cell_of_row _ _ 0 _ _ _ hs0]; rfl
      have d1 : wr.cell? ⟨w.heap.size, 1, none⟩ = some (.int .i64 0) := by rw [cell_of_row _ _ 1 _ _ _ hs0]; rfl
      have e0 : wr.frozen? ⟨w.heap.size, 0, none⟩ = false := frozen_of_row _ _ 0 _ _ hs0
      have e1 : wr.frozen? ⟨w.heap.size, 1, none⟩ = false := frozen_of_row _ _ 1 _ _ hs0
      have HI : Hid (invT G (4 * y + x) = Sky.Tn 16 (gcells G) (-1) (4 * y + x)) := rfl
      obtain ⟨t, ht⟩ : ∃ t, Sky.Tn 16 (gcells G) (-1) (4 * y + x) = t := ⟨_, rfl⟩
      rw [ht] at c0 c1 HI
      have hs0' := hs0
      clear hs1 hs0 ht
      go_wp2_with (go_at_call 40; refine (l21Cells_any _).mono ?_; rintro e w' ⟨rfl, rfl⟩)
      have k0 := two_set (a' := .int .i64 t.1) (b' := .int .i64 t.2) hs0'
      have z0 := cell_of_row _ _ 0 _ _ _ k0
      have z1 := cell_of_row _ _ 1 _ _ _ k0
      simp only [List.getElem?_toArray, List.getElem?_cons_zero, List.getElem?_cons_succ] at z0 z1
      refine bodyPost_ret (v := .agg #[.int .i64 t.1, .int .i64 t.2]) (by simp [results, Try.results52, go_sem, z0, z1]) rfl ⟨by rw [HI.out]; rfl, ?_⟩
      exact bS (p := ⟨w.heap.size, 1, none⟩) (bS (p := ⟨w.heap.size, 0, none⟩) hB (Nat.le_refl _) _) (Nat.le_refl _) _

end Go.Proofs.Ytdcabfobmkdlmaa
