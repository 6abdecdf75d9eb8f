/- Contracts: lists of flags that are copied, compared, marked. Written by exboolgen.py. -/
import Derived.Test.YtmoeofclpnblmaaMarkC
import Derived.Test.YtmoeofclpnblmaaRowB
namespace Go.Proofs.Ytmoeofclpnblmaa
open Go.RowKit

def zb (n : Nat) : List Bool := List.replicate n false
theorem made_bools (n : Nat) : madeCells (Value.bool false).cells (n * 1) = (cbo (zb n)).toArray := by
  rw [show (Value.bool false).cells = #[Value.bool false] from rfl, made_rep]; unfold zb; rw [cbo_rep]
set_option maxHeartbeats 1000000 in
theorem toBoolS_any (A : Option Addr) (n c : Nat) (L : List Bool) (w : World) (h : Rd w w.heap.size 1 A n c (cbo L)) (hs : n ≤ 1048576) :
    Calls Try.prog 35 #[.slice A n c] w fun e w' => ∃ v, e = .returned v ∧ w'.ownsRow w.heap.size 4 1 v L.length (cbo L) ∧ Below w.heap.size w w' := by
  have hn := h.len
  rw [cbo_length, Nat.mul_one] at hn
  have hm := h.most
  have hcap := h.cap
  subst hn
  obtain ⟨i0, hi, hz0, hz1, hz2⟩ := info_parts infoBool0
  have hmk : ∀ W : World, (Instr.makeSlice 24 (.int .i64 (L.length : Int)) (.int .i64 (L.length : Int))).run Try.prog W = .ok (.slice (some ⟨W.heap.size, 0, none⟩) L.length L.length) (W.alloc (.cells (cbo (zb L.length)).toArray 4)) := fun W => by
    have := run_make W 24 4 i0 (.bool false) Try.underlying24 hi hz0 .i64 .i64 (L.length : Int) (L.length : Int) (by omega) (Int.le_refl _) (by rw [hz2]; omega) (by omega)
    rw [hz1, Int.toNat_natCast, made_bools] at this
    exact this
  go_enter Try.func35, Try.ntmps35
  go_wp2_with fail
  go_loopw [4] (fun v wr => ∃ (k : Nat) (M : List Bool), k ≤ L.length ∧ v = .int .i64 k ∧ Hid (M.take k = L.take k) ∧ Hid (M.length = L.length) ∧ wr.ownsRow w.heap.size 4 1 (.slice (some ⟨w.heap.size, 0, none⟩) L.length L.length) L.length (cbo M) ∧ Below w.heap.size w wr) (fun v _ => L.length - (intOf v).toNat)
  case atStart => exact ⟨0, zb L.length, Nat.zero_le _, rfl, by simp [Hid], by simp [Hid, zb], by simpa using World.ownsRow_lit (base := w.heap.size) (e := 4) (size := 1) w (cbo (zb L.length)).toArray L.length (Nat.le_refl _) (by unfold maxLen; omega) (by simp [cbo, zb]), bA (b0 w) _⟩
  case round =>
    clear hmk
    obtain ⟨k, M, hk, rfl, hM, hMl, hown, hB⟩ := hrel
    by_cases hlt : k < L.length
    · obtain ⟨b, off, rfl, hb, hc⟩ := (h.below hB).bool_at hlt
      have hkM : k < M.length := by rw [hMl.out]; exact hlt
      have hcell := (hown.cellAt k (by omega)).trans (cbo_at M k hkM)
      have hfr := hown.frozenAt k
      have HM := Lib.hid (filP_set hM.out hMl.out hlt)
      have HL := Lib.hid (show (M.set k L[k]).length = L.length by simp [hMl.out])
      obtain ⟨x, hx⟩ : ∃ x, L[k] = x := ⟨_, rfl⟩
      rw [hx] at hc HM HL
      clear hx
      have hown2 := (hown.stored k (.bool x)).1
      rw [← cbo_set] at hown2
      go_wp2_with fail
      go_roundw
      case rel => exact ⟨k + 1, _, by omega, by go_num, HM, HL, hown2, bS (p := ⟨w.heap.size, k, none⟩) hB (Nat.le_refl _) _⟩
      case measure => simp [intOf]; omega
    · have HN := Lib.hid (filP_done hM.out hMl.out (by omega))
      go_wp2
      go_ret
      exact ⟨_, rfl, by have h2 := hown; rw [HN.out] at h2; exact h2, hB⟩
def sameRelB (L M : List Bool) (w : World) (i : Value) (wr : World) : Prop := ∃ k : Nat, k ≤ L.length ∧ i = .int .i64 k ∧ L.take k = M.take k ∧ ∃ nq, wr = w.drewN nq
set_option maxHeartbeats 400000 in
theorem eqBoolS_any (A B : Option Addr) (n c m d : Nat) (L M : List Bool) (w : World) (h : Rd w w.heap.size 1 A n c (cbo L)) (h' : Rd w w.heap.size 1 B m d (cbo M)) :
    Calls Try.prog 36 #[.slice A n c, .slice B m d] w fun e w' => e = .returned (.bool (decide (L = M))) ∧ Below w.heap.size w w' := by
  have hn := h.len
  rw [cbo_length, Nat.mul_one] at hn
  have hn' := h'.len
  rw [cbo_length, Nat.mul_one] at hn'
  have hm := h.most
  have hcap := h.cap
  have hm' := h'.most
  have hcap' := h'.cap
  subst hn hn'
  by_cases hl : L.length = M.length
  · have hL := Lib.hid hl
    have hd : ((L.length : Int) != (M.length : Int)) = false := by simp [hl]
    have hle : L.length ≤ M.length := by omega
    clear hl
    go_enter Try.func36, Try.ntmps36
    go_wp2
    go_loopw [5] (fun i wr => sameRelB L M w i wr) (fun i _ => L.length - (intOf i).toNat)
    case atStart => exact ⟨0, Nat.zero_le _, rfl, by simp, 0, rfl⟩
    case round =>
      obtain ⟨k, hk, rfl, hall, nq, rfl⟩ := hrel
      have HA := Lib.hid hall
      clear hall
      by_cases hlt : k < L.length
      · have hlt' : k < M.length := by omega
        obtain ⟨b, off, rfl, hb, hc⟩ := h.bool_at hlt
        obtain ⟨b', off', rfl, hb', hc'⟩ := h'.bool_at hlt'
        obtain ⟨x, hx⟩ : ∃ x, L[k] = x := ⟨_, rfl⟩
        obtain ⟨y, hy⟩ : ∃ y, M[k] = y := ⟨_, rfl⟩
        have heq : Hid (x = y → L.take (k + 1) = M.take (k + 1)) := fun e => by
          rw [List.take_succ_eq_append_getElem hlt, List.take_succ_eq_append_getElem hlt', HA.out, hx, hy, e]
        have hne : Hid (x ≠ y → decide (L = M) = false) := fun hn => by
          rw [decide_eq_false_iff_not]; intro e; subst e; exact hn (hx.symm.trans hy)
        rw [hx] at hc
        rw [hy] at hc'
        clear hx hy
        cases x
        · cases y
          · have H := Lib.hid (heq.out rfl)
            go_wp2
            go_quiet (fail)
            go_wp2
            go_roundw
            case rel => exact ⟨k + 1, by omega, by go_num, H.out, _, rfl⟩
            case measure => simp [intOf]; omega
          · have H := Lib.hid (hne.out (by simp))
            go_wp2
            go_quiet (fail)
            go_wp2
            go_ret
            exact ⟨ret_bool H.out.symm, bD (bD (b0 _) _) _⟩
        · cases y
          · have H := Lib.hid (hne.out (by simp))
            go_wp2
            go_quiet (fail)
            go_wp2
            go_ret
            exact ⟨ret_bool H.out.symm, bD (bD (b0 _) _) _⟩
          · have H := Lib.hid (heq.out rfl)
            go_wp2
            go_quiet (fail)
            go_wp2
            go_roundw
            case rel => exact ⟨k + 1, by omega, by go_num, H.out, _, rfl⟩
            case measure => simp [intOf]; omega
      · have H := Lib.hid (show decide (L = M) = true by
          have h1 := HA.out
          rw [List.take_of_length_le (by omega), List.take_of_length_le (by rw [← hL.out]; omega)] at h1
          simpa using h1)
        go_wp2
        go_ret
        exact ⟨ret_bool H.out.symm, bD (b0 _) _⟩
  · have hd : ((L.length : Int) != (M.length : Int)) = true := by simp; omega
    have H := Lib.hid (show decide (L = M) = false by
      rw [decide_eq_false_iff_not]; intro e; subst e; exact hl rfl)
    clear hl
    go_enter Try.func36, Try.ntmps36
    go_wp2
    go_ret
    exact ⟨ret_bool H.out.symm, b0 _⟩
def marksB (n : Nat) (k : Int) : List Bool := (List.range n).map fun i : Nat => ((k + (i : Int)) % 3 == 0)
theorem marksB_len (n : Nat) (k : Int) : (marksB n k).length = n := by simp [marksB]
def markB (M : List Bool) (n : Nat) (k : Int) (q : Nat) : Prop := M.length = n ∧ ∀ j, j < q → M[j]? = some ((k + (j : Int)) % 3 == 0)
theorem markB_set {M : List Bool} {n : Nat} {k : Int} {q : Nat} (h : markB M n k q) (hq : q < n) : markB (M.set q ((k + (q : Int)) % 3 == 0)) n k (q + 1) := by
  refine ⟨by simpa using h.1, fun j hj => ?_⟩
  by_cases e : j = q
  · subst e; rw [List.getElem?_set_self (by rw [h.1]; exact hq)]
  · rw [List.getElem?_set_ne (fun e' => e e'.symm)]; exact h.2 j (by omega)
theorem markB_done {M : List Bool} {n : Nat} {k : Int} (h : markB M n k n) : M = marksB n k := by
  apply List.ext_getElem?
  intro j
  by_cases hj : j < n
  · rw [h.2 j hj]; simp [marksB, hj]
  · rw [List.getElem?_eq_none (by rw [h.1]; omega), List.getElem?_eq_none (by rw [marksB_len]; omega)]
set_option maxHeartbeats 2000000 in
theorem markBoolS_any (v : Value) (base n : Nat) (L : List Bool) (k : Int) (w : World) (h : w.ownsRow base 4 1 v n (cbo L)) (hn : n ≤ 1048576) (k1 : 0 ≤ k) (k2 : k ≤ 1000000000) :
    Calls Try.prog 37 #[v, .int .i64 k] w fun e w' => e = .returned (.int .i64 (k + n)) ∧ w'.ownsRow base 4 1 v n (cbo (marksB n k)) ∧ w.grownBy w' v.ownBlock := by
  have hL : L.length = n := by have := h.1; rw [cbo_length] at this; omega
  obtain ⟨A, c, rfl⟩ := own_form h
  have hcap := (Rd.of_own h).cap
  have hmost := (Rd.of_own h).most
  have hform : 0 < n → ∃ g, A = some ⟨g, 0, none⟩ := fun hp => by
    rcases h.2 with ⟨_, h0⟩ | ⟨g, cap, cur, e, _⟩
    · omega
    · injection e with e _ _; exact ⟨g, e⟩
  have HF := Lib.hid hform
  have H0 := Lib.hid hL
  clear hform hL
  go_enter Try.func37, Try.ntmps37
  go_wp2_with fail
  go_loopw [1, 5] (fun s i wr => ∃ (q : Nat) (M : List Bool), q ≤ n ∧ i = .int .i64 q ∧ s = .int .i64 (k + q) ∧ Hid (markB M n k q) ∧ wr.ownsRow base 4 1 (.slice A n c) n (cbo M) ∧ w.grownBy wr (Value.slice A n c).ownBlock) (fun _ i _ => n - (intOf i).toNat)
  case atStart => exact ⟨0, L, Nat.zero_le _, rfl, by simp, ⟨H0.out, fun j hj => by omega⟩, h, World.grownBy.refl w _⟩
  case round =>
    clear h
    obtain ⟨q, M, hq, rfl, rfl, hM, hown, hg⟩ := hrel
    by_cases hlt : q < n
    · obtain ⟨g, rfl⟩ := HF.out (by omega)
      have hqM : q < M.length := by rw [hM.out.1]; exact hlt
      have c1 := (hown.cellAt q (by omega)).trans (cbo_at M q hqM)
      have f1 := hown.frozenAt q
      have s1 := hown.stored q (.bool ((k + (q : Int)) % 3 == 0))
      have hown2 := s1.1
      rw [← cbo_set M q ((k + (q : Int)) % 3 == 0)] at hown2
      have hg2 := gTrans hg s1.2
      have HM := Lib.hid (markB_set hM.out hlt)
      clear hown hg s1
      go_wp2_with fail
      go_roundw
      case rel => exact ⟨q + 1, _, by omega, by go_num, by congr 1; omega, HM, hown2, hg2⟩
      case measure => simp [intOf]; omega
    · have hqe : q = n := by omega
      subst hqe
      have HN := Lib.hid (markB_done hM.out)
      go_wp2_with fail
      go_ret
      exact ⟨rfl, by have h2 := hown; rw [HN.out] at h2; exact h2, hg⟩

end Go.Proofs.Ytmoeofclpnblmaa
