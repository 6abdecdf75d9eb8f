/- Contracts: copies and comparisons of lists. -/
import Derived.Test.YtjpklbkeofjppaaDrawC
import Derived.Deep.RegionWith
namespace Go.Proofs.Ytjpklbkeofjppaa
open Go.RowKit

theorem infoAnt : (Try.prog.info? 38).map (fun i => (i.zero, i.size, i.bytes)) = some (some (.agg #[.int .i64 0, .int .i64 0]), 2, 16) := by kernel_rfl

def zp (n : Nat) : List (Int × Int) := List.replicate n (0, 0)
def zi (n : Nat) : List Int := List.replicate n 0
theorem made_pairs (n : Nat) : madeCells (Value.agg #[.int .i64 0, .int .i64 0]).cells (n * 2) = (cp (zp n)).toArray := by
  apply Array.ext
  · rw [size_madeCells, List.size_toArray, cp_length, zp, List.length_replicate]
  · intro i h1 h2
    have h3 : i < n * 2 := by rwa [size_madeCells] at h1
    have e : (cp (zp n))[i]? = some (.int .i64 0) := by
      have hq : i / 2 < (zp n).length := by rw [zp, List.length_replicate]; omega
      have := cp_at (zp n) (i / 2) hq
      have hz : (zp n)[i / 2] = (0, 0) := by simp [zp]
      rw [hz] at this
      rcases Nat.mod_two_eq_zero_or_one i with hm | hm
      · rw [show 2 * (i / 2) = i by omega] at this; exact this.1
      · rw [show 2 * (i / 2) + 1 = i by omega] at this; exact this.2
    have e2 : (cp (zp n)).toArray[i] = .int .i64 0 := by
      rw [List.getElem_toArray]
      rw [List.getElem?_eq_getElem (by simpa using h2)] at e
      simpa using e
    rw [e2]
    simp only [madeCells, Array.getElem_map, Array.getElem_range]
    rcases Nat.mod_two_eq_zero_or_one i with hm | hm <;> simp [Value.cells, hm]
theorem made_ints (n : Nat) : madeCells (Value.int .i64 0).cells (n * 1) = (ci (zi n)).toArray := by
  apply Array.ext
  · rw [size_madeCells, List.size_toArray, ci_length, zi, List.length_replicate, Nat.mul_one]
  · intro i h1 h2
    simp [madeCells, ci, zi, Value.cells, Nat.mod_one]
theorem filP_set {α : Type} {M L : List α} {k : Nat} (h : M.take k = L.take k) (hl : M.length = L.length) (hk : k < L.length) : (M.set k L[k]).take (k + 1) = L.take (k + 1) := by
  have hk' : k < (M.set k L[k]).length := by simp; omega
  rw [List.take_succ_eq_append_getElem hk', List.take_succ_eq_append_getElem hk, List.getElem_set_self, List.take_set_of_le (Nat.le_refl _), h]
theorem filP_done {α : Type} {M L : List α} {k : Nat} (h : M.take k = L.take k) (hl : M.length = L.length) (hk : L.length ≤ k) : M = L := by
  rwa [List.take_of_length_le (by omega), List.take_of_length_le hk] at h
def szR (left : Int) (n : Nat) : Int := if left - n < 0 then -1 else left - n

def sameRel2 (L M : List Int) (w : World) (i : Value) (wr : World) : Prop := ∃ k : Nat, k ≤ L.length ∧ i = .int .i64 k ∧ L.take k = M.take k ∧ ∃ nq, wr = w.drewN nq
set_option maxHeartbeats 400000 in
theorem eqIntS_any (A B : Option Addr) (n c m d : Nat) (L M : List Int) (w : World) (h : Rd w w.heap.size 1 A n c (ci L)) (h' : Rd w w.heap.size 1 B m d (ci M)) :
    Calls Try.prog 19 #[.slice A n c, .slice B m d] w fun e w' => e = .returned (.bool (decide (L = M))) ∧ Below w.heap.size w w' := by
  have hn := h.len
  rw [ci_length, Nat.mul_one] at hn
  have hn' := h'.len
  rw [ci_length, Nat.mul_one] at hn'
  have hm := h.most
  have hcap := h.cap
  have hm' := h'.most
  have hcap' := h'.cap
  subst hn hn'
  by_cases hl : L.length = M.length
  · have hL := Lib.hid hl
    have hd : ((L.length : Int) != (M.length : Int)) = false := by simp [hl]
    have hle : L.length ≤ M.length := by omega
    clear hl
    go_enter Try.func19, Try.ntmps19
    go_wp2
    go_loopw [5] (fun i wr => sameRel2 L M w i wr) (fun i _ => L.length - (intOf i).toNat)
    case atStart => exact ⟨0, Nat.zero_le _, rfl, by simp, 0, rfl⟩
    case round =>
      obtain ⟨k, hk, rfl, hall, nq, rfl⟩ := hrel
      have HA := Lib.hid hall
      clear hall
      by_cases hlt : k < L.length
      · have hlt' : k < M.length := by omega
        obtain ⟨b, off, rfl, hb, hc⟩ := h.int_at hlt
        obtain ⟨b', off', rfl, hb', hc'⟩ := h'.int_at hlt'
        by_cases he : L[k] = M[k]
        · have ht : (L[k] != M[k]) = false := by simp [he]
          have H : Hid (L.take (k + 1) = M.take (k + 1)) := by
            show _ = _
            rw [List.take_succ_eq_append_getElem hlt, List.take_succ_eq_append_getElem hlt', HA.out, he]
          clear he
          go_wp2
          go_quiet (fail)
          go_wp2
          go_roundw
          case rel => exact ⟨k + 1, by omega, by go_num, H.out, _, rfl⟩
          case measure => simp [intOf]; omega
        · have ht : (L[k] != M[k]) = true := by simp [he]
          have H := Lib.hid (show decide (L = M) = false by
            rw [decide_eq_false_iff_not]; intro e; subst e; exact he rfl)
          clear he
          go_wp2
          go_quiet (fail)
          go_wp2
          go_ret
          exact ⟨ret_bool H.out.symm, bD (bD (b0 _) _) _⟩
      · have H := Lib.hid (show decide (L = M) = true by
          have h1 := HA.out
          rw [List.take_of_length_le (by omega), List.take_of_length_le (by rw [← hL.out]; omega)] at h1
          simpa using h1)
        go_wp2
        go_ret
        exact ⟨ret_bool H.out.symm, bD (b0 _) _⟩
  · have hd : ((L.length : Int) != (M.length : Int)) = true := by simp; omega
    have H := Lib.hid (show decide (L = M) = false by
      rw [decide_eq_false_iff_not]; intro e; subst e; exact hl rfl)
    clear hl
    go_enter Try.func19, Try.ntmps19
    go_wp2
    go_ret
    exact ⟨ret_bool H.out.symm, b0 _⟩
set_option maxHeartbeats 400000 in
theorem szAntS_any (A : Option Addr) (n c : Nat) (left : Int) (w : World) (hn : n ≤ 9223372036854775807) (h1 : 0 ≤ left) (h2 : left ≤ 1048576) :
    Calls Try.prog 12 #[.slice A n c, .int .i64 left] w fun e w' => e = .returned (.int .i64 (szR left n)) ∧ w = w' := by
  by_cases hl : left - n < 0
  · have H := Lib.hid (show szR left n = -1 by simp [szR, hl])
    go_enter Try.func12, Try.ntmps12
    go_wp2
    go_ret
    exact ⟨ret_int H.out.symm, rfl⟩
  · have H := Lib.hid (show szR left n = left - n by simp [szR, hl])
    have hl' : 0 ≤ left - n := by omega
    clear hl
    go_enter Try.func12, Try.ntmps12
    go_wp2
    go_ret
    exact ⟨ret_int H.out.symm, rfl⟩
set_option maxHeartbeats 400000 in
theorem toAnt_any (p : Int × Int) (w : World) : Calls Try.prog 37 #[gv p] w fun e w' => e = .returned (gv p) ∧ Below w.heap.size w w' := by
  obtain ⟨a, b⟩ := p
  unfold gv
  go_enter Try.func37, Try.ntmps37
  go_wp2
  refine bodyPost_ret (v := .agg #[.int .i64 a, .int .i64 b]) (by simp [results, Try.results37, go_sem]) rfl ⟨rfl, ?_⟩
  go_grown
set_option maxHeartbeats 1000000 in
theorem toAntS_any (A : Option Addr) (n c : Nat) (L : List (Int × Int)) (w : World) (h : Rd w w.heap.size 2 A n c (cp L)) (hs : n ≤ 1048576) :
    Calls Try.prog 14 #[.slice A n c] w fun e w' => ∃ v, e = .returned v ∧ w'.ownsRow w.heap.size 38 2 v L.length (cp L) ∧ Below w.heap.size w w' := by
  have hn := h.len
  rw [cp_length] at hn
  have hm := h.most
  have hcap := h.cap
  obtain rfl : L.length = n := by omega
  clear hn
  obtain ⟨i0, hi, hz0, hz1, hz2⟩ := info_parts infoAnt
  have hmk : ∀ W : World, (Instr.makeSlice 25 (.int .i64 (L.length : Int)) (.int .i64 (L.length : Int))).run Try.prog W = .ok (.slice (some ⟨W.heap.size, 0, none⟩) L.length L.length) (W.alloc (.cells (cp (zp L.length)).toArray 38)) := fun W => by
    have := run_make W 25 38 i0 (.agg #[.int .i64 0, .int .i64 0]) Try.underlying25 hi hz0 .i64 .i64 (L.length : Int) (L.length : Int) (by omega) (Int.le_refl _) (by rw [hz2]; omega) (by omega)
    rw [hz1, Int.toNat_natCast, made_pairs] at this
    exact this
  go_enter Try.func14, Try.ntmps14
  go_wp2_with fail
  go_loopw [4] (fun v wr => ∃ (k : Nat) (M : List (Int × Int)), k ≤ L.length ∧ v = .int .i64 k ∧ Hid (M.take k = L.take k) ∧ Hid (M.length = L.length) ∧ wr.ownsRow w.heap.size 38 2 (.slice (some ⟨w.heap.size, 0, none⟩) L.length L.length) L.length (cp M) ∧ Below w.heap.size w wr) (fun v _ => L.length - (intOf v).toNat)
  case atStart => exact ⟨0, zp L.length, Nat.zero_le _, rfl, by simp [Hid], by simp [Hid, zp], by simpa using World.ownsRow_lit (base := w.heap.size) (e := 38) (size := 2) w (cp (zp L.length)).toArray L.length (Nat.le_refl _) (by unfold maxLen; omega) (by rw [List.size_toArray, cp_length, zp, List.length_replicate]), bA (b0 w) _⟩
  case round =>
    clear hmk
    obtain ⟨k, M, hk, rfl, hM, hMl, hown, hB⟩ := hrel
    by_cases hlt : k < L.length
    · obtain ⟨b, off, rfl, hb, hc1, hc2⟩ := (h.below hB).pair_at hlt
      have hkM : k < M.length := by rw [hMl.out]; exact hlt
      have hxm := cp_at M k hkM
      rw [Nat.mul_comm 2 k] at hxm
      have HM := Lib.hid (filP_set hM.out hMl.out hlt)
      have HL := Lib.hid (show (M.set k L[k]).length = L.length by simp [hMl.out])
      obtain ⟨x, hx⟩ : ∃ x, L[k] = x := ⟨_, rfl⟩
      rw [hx] at hc1 hc2 HM HL
      clear hx
      go_wp2_with fail
      refine (toAnt_any x _).mono ?_
      rintro e w1 ⟨rfl, hB1⟩
      have hown1 := own_after hown hB1
      have hcell1 := (hown1.cellAt (k * 2) (by omega)).trans hxm.1
      have hcell2 := (hown1.cellAt (k * 2 + 1) (by omega)).trans hxm.2
      have hfr1 := hown1.frozenAt (k * 2)
      have hfr2 := hown1.frozenAt (k * 2 + 1)
      have hown2 := ((hown1.stored (k * 2) (.int .i64 x.1)).1.stored (k * 2 + 1) (.int .i64 x.2)).1
      rw [← cp_set] at hown2
      have hB2 := bT hB hB1
      clear hown hown1 hB1 hxm
      unfold gv
      go_wp2_with fail
      go_roundw
      case rel => exact ⟨k + 1, _, by omega, by go_num, HM, HL, hown2, bS (p := ⟨w.heap.size, k * 2 + 1, none⟩) (bS (p := ⟨w.heap.size, k * 2, none⟩) hB2 (Nat.le_refl _) _) (Nat.le_refl _) _⟩
      case measure => simp [intOf]; omega
    · have HN := Lib.hid (filP_done hM.out hMl.out (by omega))
      go_wp2
      go_ret
      exact ⟨_, rfl, by have h2 := hown; rw [HN.out] at h2; exact h2, hB⟩
set_option maxHeartbeats 400000 in
theorem eqAnt_any (p q : Int × Int) (w : World) : Calls Try.prog 39 #[gv p, gv q] w fun e w' => e = .returned (.bool (peq p.1 p.2 q.1 q.2)) ∧ Below w.heap.size w w' := by
  obtain ⟨a, b⟩ := p
  obtain ⟨c, d⟩ := q
  unfold gv
  by_cases h1 : a = c
  · have hd1 : (a != c) = false := by simp [h1]
    by_cases h2 : b = d
    · have hd2 : (b != d) = false := by simp [h2]
      have H := Lib.hid (peq_true (a := a) (b := b) (c := c) (d := d) ⟨h1, h2⟩)
      clear h1 h2
      go_enter Try.func39, Try.ntmps39
      go_wp2
      go_ret
      exact ⟨ret_bool H.out.symm, by go_grown⟩
    · have hd2 : (b != d) = true := by simp [h2]
      have H := Lib.hid (peq_false (a := a) (b := b) (c := c) (d := d) (fun e => h2 e.2))
      clear h1 h2
      go_enter Try.func39, Try.ntmps39
      go_wp2
      go_ret
      exact ⟨ret_bool H.out.symm, by go_grown⟩
  · have hd1 : (a != c) = true := by simp [h1]
    have H := Lib.hid (peq_false (a := a) (b := b) (c := c) (d := d) (fun e => h1 e.1))
    clear h1
    go_enter Try.func39, Try.ntmps39
    go_wp2
    go_ret
    exact ⟨ret_bool H.out.symm, by go_grown⟩
def sameAntRel (L M : List (Int × Int)) (w : World) (i : Value) (wr : World) : Prop := ∃ k : Nat, k ≤ L.length ∧ i = .int .i64 k ∧ L.take k = M.take k ∧ Below w.heap.size w wr
set_option maxHeartbeats 1000000 in
theorem eqAntS_any (A B : Option Addr) (n c m d : Nat) (L M : List (Int × Int)) (w : World) (h : Rd w w.heap.size 2 A n c (cp L)) (h' : Rd w w.heap.size 2 B m d (cp M)) :
    Calls Try.prog 16 #[.slice A n c, .slice B m d] w fun e w' => e = .returned (.bool (decide (L = M))) ∧ Below w.heap.size w w' := by
  have hn := h.len
  rw [cp_length] at hn
  have hn' := h'.len
  rw [cp_length] at hn'
  have hm := h.most
  have hcap := h.cap
  have hm' := h'.most
  have hcap' := h'.cap
  obtain rfl : L.length = n := by omega
  obtain rfl : M.length = m := by omega
  clear hn hn'
  by_cases hl : L.length = M.length
  · have hL := Lib.hid hl
    have hd : ((L.length : Int) != (M.length : Int)) = false := by simp [hl]
    have hle : L.length ≤ M.length := by omega
    clear hl
    go_enter Try.func16, Try.ntmps16
    go_wp2
    go_loopw [5] (fun i wr => sameAntRel L M w i wr) (fun i _ => L.length - (intOf i).toNat)
    case atStart => exact ⟨0, Nat.zero_le _, rfl, by simp, b0 _⟩
    case round =>
      obtain ⟨k, hk, rfl, hall, hBr⟩ := hrel
      have HA := Lib.hid hall
      clear hall
      by_cases hlt : k < L.length
      · have hlt' : k < M.length := by omega
        obtain ⟨b, off, rfl, hb, hc, hcy⟩ := (h.below hBr).pair_at hlt
        obtain ⟨b', off', rfl, hb', hc', hcy'⟩ := (h'.below hBr).pair_at hlt'
        have hi0 : (0 : Int) ≤ (k : Int) := by omega
        have hi1 : (k : Int) < (L.length : Int) := by omega
        have hi2 : (k : Int) < (M.length : Int) := by omega
        by_cases he : L[k] = M[k]
        · have ht := Lib.hid (peq_true (a := L[k].1) (b := L[k].2) (c := M[k].1) (d := M[k].2) (by simp [he]))
          have H : Hid (L.take (k + 1) = M.take (k + 1)) := by
            show _ = _
            rw [List.take_succ_eq_append_getElem hlt, List.take_succ_eq_append_getElem hlt', HA.out, he]
          clear he
          obtain ⟨x, hx⟩ : ∃ x, L[k] = x := ⟨_, rfl⟩
          obtain ⟨y, hy⟩ : ∃ y, M[k] = y := ⟨_, rfl⟩
          rw [hx] at hc hcy ht
          rw [hy] at hc' hcy' ht
          clear hx hy
          go_wp2_with fail
          go_region_with ((go_at_call 39; refine (eqAnt_any x y _).mono ?_; rintro e w1 ⟨rfl, hB1⟩; rw [ht.out]))
          all_goals
            go_wp2_with fail
            go_roundw
            case rel => exact ⟨k + 1, by omega, by go_num, H.out, bT (Below.drew hBr) hB1⟩
            case measure => simp [intOf]; omega
        · have ht := Lib.hid (peq_false (a := L[k].1) (b := L[k].2) (c := M[k].1) (d := M[k].2) (fun e => he (Prod.ext e.1 e.2)))
          have H := Lib.hid (show decide (L = M) = false by
            rw [decide_eq_false_iff_not]; intro e; subst e; exact he rfl)
          clear he
          obtain ⟨x, hx⟩ : ∃ x, L[k] = x := ⟨_, rfl⟩
          obtain ⟨y, hy⟩ : ∃ y, M[k] = y := ⟨_, rfl⟩
          rw [hx] at hc hcy ht
          rw [hy] at hc' hcy' ht
          clear hx hy
          go_wp2_with fail
          go_region_with ((go_at_call 39; refine (eqAnt_any x y _).mono ?_; rintro e w1 ⟨rfl, hB1⟩; rw [ht.out]))
          all_goals
            go_wp2_with fail
            go_ret
            exact ⟨ret_bool H.out.symm, bT (Below.drew hBr) hB1⟩
      · have H := Lib.hid (show decide (L = M) = true by
          have h1 := HA.out
          rw [List.take_of_length_le (by omega), List.take_of_length_le (by rw [← hL.out]; omega)] at h1
          simpa using h1)
        go_wp2
        go_ret
        exact ⟨ret_bool H.out.symm, hBr⟩
  · have hd : ((L.length : Int) != (M.length : Int)) = true := by simp; omega
    have H := Lib.hid (show decide (L = M) = false by
      rw [decide_eq_false_iff_not]; intro e; subst e; exact hl rfl)
    clear hl
    go_enter Try.func16, Try.ntmps16
    go_wp2
    go_ret
    exact ⟨ret_bool H.out.symm, b0 _⟩

end Go.Proofs.Ytjpklbkeofjppaa
