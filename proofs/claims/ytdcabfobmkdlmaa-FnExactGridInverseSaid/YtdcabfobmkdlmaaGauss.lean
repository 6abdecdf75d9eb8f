/- Contracts of the functions on Gaussian integers. -/
import Derived.Test.YtdcabfobmkdlmaaLeaf
import Derived.Test.YtdcabfobmkdlmaaSky
namespace Go.Proofs.Ytdcabfobmkdlmaa
open Go.RowKit

/-- A Gaussian integer as a value. -/
def gv (p : Int × Int) : Value := .agg #[.int .i64 p.1, .int .i64 p.2]
theorem gv_eq (a b : Int) : Value.agg #[.int .i64 a, .int .i64 b] = gv (a, b) := rfl

theorem mul_bd {a b A B : Int} (h1 : -A ≤ a) (h2 : a ≤ A) (h3 : -B ≤ b) (h4 : b ≤ B) : -(A * B) ≤ a * b ∧ a * b ≤ A * B := by
  have hA : 0 ≤ A := by omega
  have hB : 0 ≤ B := by omega
  have p1 : 0 ≤ (A - a) * (B - b) := Int.mul_nonneg (by omega) (by omega)
  have p2 : 0 ≤ (A + a) * (B + b) := Int.mul_nonneg (by omega) (by omega)
  have p3 : 0 ≤ (A - a) * (B + b) := Int.mul_nonneg (by omega) (by omega)
  have p4 : 0 ≤ (A + a) * (B - b) := Int.mul_nonneg (by omega) (by omega)
  constructor <;> grind

set_option maxHeartbeats 400000 in
theorem times_any (p q : Int × Int) (w : World) (hp1 : -1000000000 ≤ p.1) (hp2 : p.1 ≤ 1000000000) (hp3 : -1000000000 ≤ p.2) (hp4 : p.2 ≤ 1000000000)
    (hq1 : -1000000000 ≤ q.1) (hq2 : q.1 ≤ 1000000000) (hq3 : -1000000000 ≤ q.2) (hq4 : q.2 ≤ 1000000000) :
    Calls Try.prog 46 #[gv p, gv q] w fun e w' => e = .returned (gv (Sky.gmul p q)) ∧ Below w.heap.size w w' := by
  obtain ⟨a, b⟩ := p
  obtain ⟨c, d⟩ := q
  simp only at hp1 hp2 hp3 hp4 hq1 hq2 hq3 hq4
  obtain ⟨e1, e2⟩ := mul_bd hp1 hp2 hq1 hq2
  obtain ⟨e3, e4⟩ := mul_bd hp3 hp4 hq3 hq4
  obtain ⟨e5, e6⟩ := mul_bd hp1 hp2 hq3 hq4
  obtain ⟨e7, e8⟩ := mul_bd hp3 hp4 hq1 hq2
  simp only [Int.reduceMul, Int.reduceNeg] at e1 e2 e3 e4 e5 e6 e7 e8
  unfold gv
  go_enter Try.func46, Try.ntmps46
  go_wp2
  refine bodyPost_ret (v := .agg #[.int .i64 (a * c - b * d), .int .i64 (a * d + b * c)]) (by simp [results, Try.results46, go_sem]) rfl ⟨rfl, ?_⟩
  go_grown
set_option maxHeartbeats 400000 in
theorem plus_any (p q : Int × Int) (w : World) (hp1 : -1000000000000 ≤ p.1) (hp2 : p.1 ≤ 1000000000000) (hp3 : -1000000000000 ≤ p.2) (hp4 : p.2 ≤ 1000000000000)
    (hq1 : -1000000000000 ≤ q.1) (hq2 : q.1 ≤ 1000000000000) (hq3 : -1000000000000 ≤ q.2) (hq4 : q.2 ≤ 1000000000000) :
    Calls Try.prog 58 #[gv p, gv q] w fun e w' => e = .returned (gv (Sky.gadd p q)) ∧ Below w.heap.size w w' := by
  obtain ⟨a, b⟩ := p
  obtain ⟨c, d⟩ := q
  simp only at hp1 hp2 hp3 hp4 hq1 hq2 hq3 hq4
  unfold gv
  go_enter Try.func58, Try.ntmps58
  go_wp2
  refine bodyPost_ret (v := .agg #[.int .i64 (a + c), .int .i64 (b + d)]) (by simp [results, Try.results58, go_sem]) rfl ⟨rfl, ?_⟩
  go_grown
set_option maxHeartbeats 400000 in
theorem gauss_any (a b : Int) (w : World) : Calls Try.prog 24 #[.int .i64 a, .int .i64 b] w fun e w' => e = .returned (gv (a, b)) ∧ Below w.heap.size w w' := by
  unfold gv
  go_enter Try.func24, Try.ntmps24
  go_wp2
  refine bodyPost_ret (v := .agg #[.int .i64 a, .int .i64 b]) (by simp [results, Try.results24, go_sem]) rfl ⟨rfl, ?_⟩
  go_grown

def gaussB (p : Int × Int) : Bool := inR p.1 1000000000 && inR p.2 1000000000
theorem gaussB_iff (p : Int × Int) : gaussB p = true ↔ -1000000000 ≤ p.1 ∧ p.1 ≤ 1000000000 ∧ -1000000000 ≤ p.2 ∧ p.2 ≤ 1000000000 := by
  simp [gaussB, inR_iff, and_assoc]
set_option maxHeartbeats 400000 in
theorem GaussValid_any (p : Int × Int) (w : World) : Calls Try.prog 44 #[gv p] w fun e w' => e = .returned (.bool (gaussB p)) ∧ Below w.heap.size w w' := by
  obtain ⟨a, b⟩ := p
  unfold gv
  cases hc : inR a 1000000000
  · have H := Lib.hid (show gaussB (a, b) = false by simp [gaussB, hc])
    go_enter Try.func44, Try.ntmps44
    go_wp2_with (go_at_call 62; refine (inRange_any _ _ _ (by omega) (by omega)).mono ?_; rintro e w' ⟨rfl, rfl⟩)
    go_ret
    exact ⟨ret_bool H.out.symm, by go_grown⟩
  · have H := Lib.hid (show gaussB (a, b) = inR b 1000000000 by simp [gaussB, hc])
    go_enter Try.func44, Try.ntmps44
    go_wp2_with (go_at_call 62; refine (inRange_any _ _ _ (by omega) (by omega)).mono ?_; rintro e w' ⟨rfl, rfl⟩)
    go_ret
    exact ⟨ret_bool H.out.symm, by go_grown⟩
set_option maxHeartbeats 400000 in
theorem sGaussValid_any (p : Int × Int) (w : World) : Calls Try.prog 65 #[gv p] w fun e w' => e = .returned (.bool (gaussB p)) ∧ Below w.heap.size w w' := by
  obtain ⟨a, b⟩ := p
  unfold gv
  cases hc : in3 a (-1000000000) 1000000000
  · have H := Lib.hid (show gaussB (a, b) = false by rw [in3_inR] at hc; simp [gaussB, hc])
    go_enter Try.func65, Try.ntmps65
    go_wp2_with (go_at_call 59; refine (l6In_any _ _ _ _).mono ?_; rintro e w' ⟨rfl, rfl⟩)
    go_ret
    exact ⟨ret_bool H.out.symm, by go_grown⟩
  · have H := Lib.hid (show gaussB (a, b) = in3 b (-1000000000) 1000000000 by rw [in3_inR] at hc; simp [gaussB, hc, in3_inR])
    go_enter Try.func65, Try.ntmps65
    go_wp2_with (go_at_call 59; refine (l6In_any _ _ _ _).mono ?_; rintro e w' ⟨rfl, rfl⟩)
    go_ret
    exact ⟨ret_bool H.out.symm, by go_grown⟩
theorem and3 (k : Int) : bits .and .i64 k 3 = k % 4 := by
  show IntKind.i64.wrap ((BitVec.ofInt 64 k &&& BitVec.ofInt 64 3).toNat : Int) = _
  have h3 : (BitVec.ofInt 64 3).toNat = 2 ^ 2 - 1 := by decide
  rw [BitVec.toNat_and, h3, Nat.and_two_pow_sub_one_eq_mod, BitVec.toNat_ofInt, IntKind.wrap_i64]
  omega
theorem unit_of (k : Int) (j : Int) (h : k % 4 = j) : Sky.unit k = Sky.unit j := Sky.unit_mod k j (by omega)
theorem unit_index0 (w : World) : (Instr.index 66 (.agg #[.int .i64 1, .int .i64 0, .int .i64 0, .int .i64 1, .int .i64 (-1), .int .i64 0, .int .i64 0, .int .i64 (-1)]) (.int .i64 0)).run Try.prog w = .ok (.agg #[.int .i64 (1), .int .i64 (0)]) w := by kernel_rfl
theorem unit_index1 (w : World) : (Instr.index 66 (.agg #[.int .i64 1, .int .i64 0, .int .i64 0, .int .i64 1, .int .i64 (-1), .int .i64 0, .int .i64 0, .int .i64 (-1)]) (.int .i64 1)).run Try.prog w = .ok (.agg #[.int .i64 (0), .int .i64 (1)]) w := by kernel_rfl
theorem unit_index2 (w : World) : (Instr.index 66 (.agg #[.int .i64 1, .int .i64 0, .int .i64 0, .int .i64 1, .int .i64 (-1), .int .i64 0, .int .i64 0, .int .i64 (-1)]) (.int .i64 2)).run Try.prog w = .ok (.agg #[.int .i64 (-1), .int .i64 (0)]) w := by kernel_rfl
theorem unit_index3 (w : World) : (Instr.index 66 (.agg #[.int .i64 1, .int .i64 0, .int .i64 0, .int .i64 1, .int .i64 (-1), .int .i64 0, .int .i64 0, .int .i64 (-1)]) (.int .i64 3)).run Try.prog w = .ok (.agg #[.int .i64 (0), .int .i64 (-1)]) w := by kernel_rfl
set_option maxHeartbeats 400000 in
theorem GaussUnit_any (k : Int) (w : World) : Calls Try.prog 16 #[.int .i64 k] w fun e w' => e = .returned (gv (Sky.unit k)) ∧ Below w.heap.size w w' := by
  have h3 := and3 k
  have hc : k % 4 = 0 ∨ k % 4 = 1 ∨ k % 4 = 2 ∨ k % 4 = 3 := by omega
  rcases hc with hc | hc | hc | hc
  · have H := Lib.hid (unit_of k 0 hc)
    rw [hc] at h3
    clear hc
    have ix := unit_index0
    go_enter Try.func16, Try.ntmps16
    go_wp2
    refine bodyPost_ret (v := .agg #[.int .i64 (1), .int .i64 (0)]) (by simp [results, Try.results16, go_sem]) rfl ⟨by rw [H.out]; rfl, ?_⟩
    go_grown
  · have H := Lib.hid (unit_of k 1 hc)
    rw [hc] at h3
    clear hc
    have ix := unit_index1
    go_enter Try.func16, Try.ntmps16
    go_wp2
    refine bodyPost_ret (v := .agg #[.int .i64 (0), .int .i64 (1)]) (by simp [results, Try.results16, go_sem]) rfl ⟨by rw [H.out]; rfl, ?_⟩
    go_grown
  · have H := Lib.hid (unit_of k 2 hc)
    rw [hc] at h3
    clear hc
    have ix := unit_index2
    go_enter Try.func16, Try.ntmps16
    go_wp2
    refine bodyPost_ret (v := .agg #[.int .i64 (-1), .int .i64 (0)]) (by simp [results, Try.results16, go_sem]) rfl ⟨by rw [H.out]; rfl, ?_⟩
    go_grown
  · have H := Lib.hid (unit_of k 3 hc)
    rw [hc] at h3
    clear hc
    have ix := unit_index3
    go_enter Try.func16, Try.ntmps16
    go_wp2
    refine bodyPost_ret (v := .agg #[.int .i64 (0), .int .i64 (-1)]) (by simp [results, Try.results16, go_sem]) rfl ⟨by rw [H.out]; rfl, ?_⟩
    go_grown
set_option maxHeartbeats 400000 in
theorem sGaussUnit_any (k : Int) (w : World) : Calls Try.prog 60 #[.int .i64 k] w fun e w' => e = .returned (gv (Sky.unit k)) ∧ Below w.heap.size w w' := by
  have hc : k % 4 = 0 ∨ k % 4 = 1 ∨ k % 4 = 2 ∨ k % 4 = 3 := by omega
  rcases hc with hc | hc | hc | hc
  · have H := Lib.hid (unit_of k 0 hc)
    have HC := Lib.hid hc
    clear hc
    go_enter Try.func60, Try.ntmps60
    go_wp2_with (go_at_call 67; refine (l1Mod_any _ _ _ (by omega) (by omega)).mono ?_; rintro e w' ⟨rfl, rfl⟩; rw [HC.out])
    refine bodyPost_ret (v := .agg #[.int .i64 (1), .int .i64 (0)]) (by simp [results, Try.results60, go_sem]) rfl ⟨by rw [H.out]; rfl, ?_⟩
    go_grown
  · have H := Lib.hid (unit_of k 1 hc)
    have HC := Lib.hid hc
    clear hc
    go_enter Try.func60, Try.ntmps60
    go_wp2_with (go_at_call 67; refine (l1Mod_any _ _ _ (by omega) (by omega)).mono ?_; rintro e w' ⟨rfl, rfl⟩; rw [HC.out])
    refine bodyPost_ret (v := .agg #[.int .i64 (0), .int .i64 (1)]) (by simp [results, Try.results60, go_sem]) rfl ⟨by rw [H.out]; rfl, ?_⟩
    go_grown
  · have H := Lib.hid (unit_of k 2 hc)
    have HC := Lib.hid hc
    clear hc
    go_enter Try.func60, Try.ntmps60
    go_wp2_with (go_at_call 67; refine (l1Mod_any _ _ _ (by omega) (by omega)).mono ?_; rintro e w' ⟨rfl, rfl⟩; rw [HC.out])
    refine bodyPost_ret (v := .agg #[.int .i64 (-1), .int .i64 (0)]) (by simp [results, Try.results60, go_sem]) rfl ⟨by rw [H.out]; rfl, ?_⟩
    go_grown
  · have H := Lib.hid (unit_of k 3 hc)
    have HC := Lib.hid hc
    clear hc
    go_enter Try.func60, Try.ntmps60
    go_wp2_with (go_at_call 67; refine (l1Mod_any _ _ _ (by omega) (by omega)).mono ?_; rintro e w' ⟨rfl, rfl⟩; rw [HC.out])
    refine bodyPost_ret (v := .agg #[.int .i64 (0), .int .i64 (-1)]) (by simp [results, Try.results60, go_sem]) rfl ⟨by rw [H.out]; rfl, ?_⟩
    go_grown
def gchk (p : Int × Int) : Int × Int := if gaussB p then p else (0, 0)
set_option maxHeartbeats 400000 in
theorem gaussChecked_any (p : Int × Int) (w : World) : Calls Try.prog 45 #[gv p] w fun e w' => e = .returned (.tuple #[gv (gchk p), .bool (gaussB p)]) ∧ Below w.heap.size w w' := by
  obtain ⟨a, b⟩ := p
  cases hc : gaussB (a, b)
  · have H := Lib.hid (show gchk (a, b) = (0, 0) by simp [gchk, hc])
    show Calls Try.prog 45 #[.agg #[.int .i64 a, .int .i64 b]] w _
    go_enter Try.func45, Try.ntmps45
    go_wp2_with (go_at_call 44; refine (GaussValid_any (a, b) _).mono ?_; rintro e w' ⟨rfl, hb⟩; obtain ⟨hc1, hf1⟩ := bcell hb)
    refine bodyPost_ret (v := .tuple #[.agg #[.int .i64 0, .int .i64 0], .bool false]) (by simp [results, Try.results45, go_sem, hc1]) rfl ⟨by rw [H.out]; rfl, ?_⟩
    exact bS (bS (bT (bA (bA (b0 w) _) _) hb) (by simp) _) (by simp) _
  · have H := Lib.hid (show gchk (a, b) = (a, b) by simp [gchk, hc])
    show Calls Try.prog 45 #[.agg #[.int .i64 a, .int .i64 b]] w _
    go_enter Try.func45, Try.ntmps45
    go_wp2_with (go_at_call 44; refine (GaussValid_any (a, b) _).mono ?_; rintro e w' ⟨rfl, hb⟩; obtain ⟨hc1, hf1⟩ := bcell hb)
    refine bodyPost_ret (v := .tuple #[.agg #[.int .i64 a, .int .i64 b], .bool true]) (by simp [results, Try.results45, go_sem, hc1]) rfl ⟨by rw [H.out]; rfl, ?_⟩
    exact bS (bS (bT (bA (bA (b0 w) _) _) hb) (by simp) _) (by simp) _
def gaussMul (p q : Int × Int) : (Int × Int) × Bool := if gaussB p && gaussB q then (gchk (Sky.gmul p q), gaussB (Sky.gmul p q)) else ((0, 0), false)
set_option maxHeartbeats 400000 in
theorem GaussMul_ok (p q : Int × Int) (w : World) (hp : gaussB p = true) (hq : gaussB q = true) : Calls Try.prog 15 #[gv p, gv q] w fun e w' => e = .returned (.tuple #[gv (gchk (Sky.gmul p q)), .bool (gaussB (Sky.gmul p q))]) ∧ Below w.heap.size w w' := by
  obtain ⟨p1, p2, p3, p4⟩ := (gaussB_iff p).1 hp
  obtain ⟨q1, q2, q3, q4⟩ := (gaussB_iff q).1 hq
  obtain ⟨a, b⟩ := p
  obtain ⟨c, d⟩ := q
  show Calls Try.prog 15 #[.agg #[.int .i64 a, .int .i64 b], .agg #[.int .i64 c, .int .i64 d]] w _
  obtain ⟨r, hr⟩ : ∃ r, gchk (Sky.gmul (a, b) (c, d)) = r := ⟨_, rfl⟩
  obtain ⟨s, hs⟩ : ∃ s, gaussB (Sky.gmul (a, b) (c, d)) = s := ⟨_, rfl⟩
  rw [hr, hs]
  have HR := Lib.hid hr
  have HS := Lib.hid hs
  clear hr hs
  obtain ⟨r1, r2⟩ := r
  go_enter Try.func15, Try.ntmps15
  go_wp2_with fail
  refine (GaussValid_any (a, b) _).mono ?_
  rintro e w1 ⟨rfl, hb⟩
  obtain ⟨hc1, hf1⟩ := bcell hb
  go_wp2_with fail
  refine (GaussValid_any (c, d) _).mono ?_
  rintro e w2 ⟨rfl, hb2⟩
  replace hb := hb.trans (hb2.mono hb.size)
  clear hc1 hf1 hb2
  obtain ⟨hc1, hf1⟩ := bcell hb
  go_wp2_with fail
  refine (times_any (a, b) (c, d) _ p1 p2 p3 p4 q1 q2 q3 q4).mono ?_
  rintro e w3 ⟨rfl, hb2⟩
  replace hb := hb.trans (hb2.mono hb.size)
  clear hc1 hf1 hb2
  obtain ⟨hc1, hf1⟩ := bcell hb
  go_wp2_with fail
  refine (gaussChecked_any (Sky.gmul (a, b) (c, d)) _).mono ?_
  rintro e w4 ⟨rfl, hb2⟩
  replace hb := hb.trans (hb2.mono hb.size)
  clear hc1 hf1 hb2
  obtain ⟨hc1, hf1⟩ := bcell hb
  rw [HR.out, HS.out]
  unfold gv
  go_wp2_with fail
  refine bodyPost_ret (v := .tuple #[.agg #[.int .i64 r1, .int .i64 r2], .bool s]) (by simp [results, Try.results15, go_sem, hc1]) rfl ⟨rfl, ?_⟩
  exact bS (bS (bT (bA (bA (bA (b0 w) _) _) _) hb) (by simp; omega) _) (by simp; omega) _
theorem unit_mul_bd (n k B : Int) (h1 : -B ≤ n) (h2 : n ≤ B) : -B ≤ n * (Sky.unit k).1 ∧ n * (Sky.unit k).1 ≤ B ∧ -B ≤ n * (Sky.unit k).2 ∧ n * (Sky.unit k).2 ≤ B := by
  rcases Sky.unit_cases k with h | h | h | h <;> rw [h] <;> simp <;> omega
set_option maxHeartbeats 400000 in
theorem l21Term_any (n k : Int) (w : World) (h1 : -1000000000 ≤ n) (h2 : n ≤ 1000000000) : Calls Try.prog 41 #[.int .i64 n, .int .i64 k] w fun e w' => e = .returned (gv (n * (Sky.unit k).1, n * (Sky.unit k).2)) ∧ Below w.heap.size w w' := by
  obtain ⟨m1, m2, m3, m4⟩ := unit_mul_bd n k 1000000000 h1 h2
  obtain ⟨u, hu⟩ : ∃ u, Sky.unit k = u := ⟨_, rfl⟩
  rw [hu] at m1 m2 m3 m4 ⊢
  have HU := Lib.hid hu
  clear hu
  obtain ⟨u1, u2⟩ := u
  simp only at m1 m2 m3 m4
  go_enter Try.func41, Try.ntmps41
  go_wp2_with fail
  refine (sGaussUnit_any k _).mono ?_
  rintro e w1 ⟨rfl, hb⟩
  obtain ⟨hc1, hf1⟩ := bcell hb
  have hz : w.heap.size < w1.heap.size := by have := hb.size; simp at this; omega
  rw [HU.out]
  unfold gv
  go_wp2_with fail
  refine bodyPost_ret (v := .agg #[.int .i64 (n * u1), .int .i64 (n * u2)]) (by simp [results, Try.results41, go_sem, hc1, hz]) rfl ⟨rfl, ?_⟩
  exact bA (bS (p := ⟨w.heap.size, 1, none⟩) (bS (p := ⟨w.heap.size, 0, none⟩) (bT (bA (b0 w) _) hb) (Nat.le_refl _) _) (Nat.le_refl _) _) _

end Go.Proofs.Ytdcabfobmkdlmaa
