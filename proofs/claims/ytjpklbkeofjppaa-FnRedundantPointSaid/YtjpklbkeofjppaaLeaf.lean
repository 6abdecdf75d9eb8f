/- Contracts of the small functions on numbers and Gaussian integers. -/
import Derived.Test.YtjpklbkeofjppaaProg
import Derived.Test.YtjpklbkeofjppaaMem
namespace Go.Proofs.Ytjpklbkeofjppaa
open Go.RowKit

def inR (n l : Int) : Bool := decide (-l ≤ n) && decide (n ≤ l)
def in3 (n a b : Int) : Bool := decide (a ≤ n) && decide (n ≤ b)
theorem inR_true {n l : Int} (h1 : -l ≤ n) (h2 : n ≤ l) : inR n l = true := by simp [inR, h1, h2]
theorem inR_iff (n l : Int) : inR n l = true ↔ -l ≤ n ∧ n ≤ l := by simp [inR]
theorem in3_iff (n a b : Int) : in3 n a b = true ↔ a ≤ n ∧ n ≤ b := by simp [in3]
theorem in3_inR (n l : Int) : in3 n (-l) l = inR n l := rfl
theorem ret_bool {a b : Bool} (h : a = b) : Ending.returned (.bool a) = .returned (.bool b) := by rw [h]
theorem ret_int {k : IntKind} {a b : Int} (h : a = b) : Ending.returned (.int k a) = .returned (.int k b) := by rw [h]

theorem tmod_lo (n m : Int) (hm : 0 < m) : -m < n.tmod m := by
  have := Int.emod_lt_of_pos (-n) hm; have := Int.emod_nonneg (-n) (show m ≠ 0 by omega)
  have := Int.emod_lt_of_pos n hm; have := Int.emod_nonneg n (show m ≠ 0 by omega)
  rcases Int.le_total 0 n with h | h
  · rw [Int.tmod_eq_emod_of_nonneg h]; omega
  · rw [show n = -(-n) from by omega, Int.neg_tmod, Int.tmod_eq_emod_of_nonneg (by omega)]; omega
theorem tmod_hi (n m : Int) (hm : 0 < m) : n.tmod m < m := by
  have := tmod_lo (-n) m hm; rw [Int.neg_tmod] at this; omega
theorem tmod_pos (n m : Int) (hm : 0 < m) (h : ¬ n.tmod m < 0) : n.tmod m = n % m := by
  have e := Int.tmod_add_mul_tdiv n m
  have := tmod_hi n m hm
  rw [← e, Int.add_mul_emod_self_left, Int.emod_eq_of_lt (by omega) this]; rw [e]
theorem tmod_neg (n m : Int) (hm : 0 < m) (h : n.tmod m < 0) : n.tmod m + m = n % m := by
  have e := Int.tmod_add_mul_tdiv n m
  have := tmod_lo n m hm
  have h2 : n % m = (n.tmod m + m) % m := by
    rw [Int.add_emod_right, ← e, Int.add_mul_emod_self_left]; rw [e]
  rw [h2, Int.emod_eq_of_lt (by omega) (by omega)]
set_option maxHeartbeats 400000 in
theorem l1Mod_any (n m : Int) (w : World) (h0 : 0 < m) (h1 : m ≤ 1000) : Calls Try.prog 80 #[.int .i64 n, .int .i64 m] w fun e w' => e = .returned (.int .i64 (n % m)) ∧ w = w' := by
  have hb1 := tmod_lo n m h0
  have hb2 := tmod_hi n m h0
  by_cases hz : n.tmod m < 0
  · have H := Lib.hid (tmod_neg n m h0 hz)
    go_enter Try.func80, Try.ntmps80
    go_wp2
    go_ret
    exact ⟨ret_int H.out, rfl⟩
  · have H := Lib.hid (tmod_pos n m h0 hz)
    go_enter Try.func80, Try.ntmps80
    go_wp2
    go_ret
    exact ⟨ret_int H.out, rfl⟩
set_option maxHeartbeats 400000 in
theorem PhaseOf_any (n : Int) (w : World) : Calls Try.prog 70 #[.int .i64 n] w fun e w' => e = .returned (.int .i64 (n % 360)) ∧ w = w' := by
  have hb1 := tmod_lo n 360 (by omega)
  have hb2 := tmod_hi n 360 (by omega)
  by_cases hz : n.tmod 360 < 0
  · have H := Lib.hid (tmod_neg n 360 (by omega) hz)
    go_enter Try.func70, Try.ntmps70
    go_wp2
    go_ret
    exact ⟨ret_int H.out, rfl⟩
  · have H := Lib.hid (tmod_pos n 360 (by omega) hz)
    go_enter Try.func70, Try.ntmps70
    go_wp2
    go_ret
    exact ⟨ret_int H.out, rfl⟩

set_option maxHeartbeats 400000 in
theorem inRange_any (n l : Int) (w : World) (h0 : 0 ≤ l) (h1 : l ≤ 4000000000) : Calls Try.prog 50 #[.int .i64 n, .int .i64 l] w fun e w' => e = .returned (.bool (inR n l)) ∧ w = w' := by
  by_cases hc : -l ≤ n
  · go_enter Try.func50, Try.ntmps50
    go_wp2
    go_ret
    exact ⟨by simp [inR, hc], rfl⟩
  · have H := Lib.hid (show inR n l = false by simp [inR, hc])
    go_enter Try.func50, Try.ntmps50
    go_wp2
    go_ret
    exact ⟨ret_bool H.out.symm, rfl⟩

set_option maxHeartbeats 400000 in
theorem l6In_any (n a b : Int) (w : World) : Calls Try.prog 59 #[.int .i64 n, .int .i64 a, .int .i64 b] w fun e w' => e = .returned (.bool (in3 n a b)) ∧ w = w' := by
  by_cases hc : a ≤ n
  · go_enter Try.func59, Try.ntmps59
    go_wp2
    go_ret
    exact ⟨by simp [in3, hc], rfl⟩
  · have H := Lib.hid (show in3 n a b = false by simp [in3, hc])
    go_enter Try.func59, Try.ntmps59
    go_wp2
    go_ret
    exact ⟨ret_bool H.out.symm, rfl⟩




def peq (a b c d : Int) : Bool := a == c && b == d
theorem peq_iff (a b c d : Int) : peq a b c d = true ↔ a = c ∧ b = d := by simp [peq]
theorem peq_false {a b c d : Int} (h : ¬ (a = c ∧ b = d)) : peq a b c d = false := by rw [Bool.eq_false_iff]; exact fun e => h ((peq_iff a b c d).1 e)
theorem peq_true {a b c d : Int} (h : a = c ∧ b = d) : peq a b c d = true := (peq_iff a b c d).2 h
theorem run_neq_Vis (a b c d : Int) (w : World) : (binOp .neq 79 (.agg #[.int .i64 a, .int .i64 b]) (.agg #[.int .i64 c, .int .i64 d])).run Try.prog w = .ok (.bool (!peq a b c d)) w := by
  unfold peq
  cases h1 : (a == c) <;> cases h2 : (b == d) <;> go_simp
theorem run_eql_Vis (a b c d : Int) (w : World) : (binOp .eql 79 (.agg #[.int .i64 a, .int .i64 b]) (.agg #[.int .i64 c, .int .i64 d])).run Try.prog w = .ok (.bool (peq a b c d)) w := by
  unfold peq
  cases h1 : (a == c) <;> cases h2 : (b == d) <;> go_simp
theorem run_neq_Ant (a b c d : Int) (w : World) : (binOp .neq 38 (.agg #[.int .i64 a, .int .i64 b]) (.agg #[.int .i64 c, .int .i64 d])).run Try.prog w = .ok (.bool (!peq a b c d)) w := by
  unfold peq
  cases h1 : (a == c) <;> cases h2 : (b == d) <;> go_simp
theorem run_eql_Ant (a b c d : Int) (w : World) : (binOp .eql 38 (.agg #[.int .i64 a, .int .i64 b]) (.agg #[.int .i64 c, .int .i64 d])).run Try.prog w = .ok (.bool (peq a b c d)) w := by
  unfold peq
  cases h1 : (a == c) <;> cases h2 : (b == d) <;> go_simp


end Go.Proofs.Ytjpklbkeofjppaa
