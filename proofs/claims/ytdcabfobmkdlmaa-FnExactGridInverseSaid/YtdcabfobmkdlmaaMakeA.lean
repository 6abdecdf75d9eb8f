/- Contracts of the functions that make skies and grids. -/
import Derived.Test.YtdcabfobmkdlmaaListA
namespace Go.Proofs.Ytdcabfobmkdlmaa
open Go.RowKit

theorem infoInt : (Try.prog.info? 3).map (fun i => (i.zero, i.size, i.bytes)) = some (some (.int .i64 0), 1, 8) := by kernel_rfl
theorem infoGauss : (Try.prog.info? 32).map (fun i => (i.zero, i.size, i.bytes)) = some (some (.agg #[.int .i64 0, .int .i64 0]), 2, 16) := by kernel_rfl

def real (L : List Int) : List (Int × Int) := L.map fun x => (x, 0)
theorem real_take (L : List Int) (k : Nat) (h : k < L.length) : cp (real (L.take (k + 1))) = cp (real (L.take k)) ++ [.int .i64 L[k], .int .i64 0] := by
  rw [List.take_succ_eq_append_getElem h, real, List.map_append, cp_append]; rfl
set_option maxHeartbeats 400000 in
theorem realGrid_any (A : Option Addr) (n c : Nat) (L : List Int) (w : World) (h : Rd w w.heap.size 1 A n c (ci L)) (hlen : L.length ≤ 1000) :
    Calls Try.prog 38 #[.slice A n c] w fun e w' => ∃ v, e = .returned v ∧ w'.ownsRow w.heap.size 32 2 v L.length (cp (real L)) ∧ Below w.heap.size w w' := by
  have hn := h.len
  rw [ci_length, Nat.mul_one] at hn
  have hm := h.most
  have hcap := h.cap
  subst hn
  obtain ⟨i0, hi, hz0, hz1, hz2⟩ := info_parts infoGauss
  go_enter Try.func38, Try.ntmps38
  go_wp2
  go_loopw [3, 8] (fun v i wr => ∃ k : Nat, k ≤ L.length ∧ i = .int .i64 k ∧ wr.ownsRow w.heap.size 32 2 v k (cp (real (L.take k))) ∧ Below w.heap.size w wr) (fun _ i _ => L.length - (intOf i).toNat)
  case atStart => exact ⟨0, Nat.zero_le _, rfl, World.ownsRow_nil _ _ _ _, b0 _⟩
  case round =>
    obtain ⟨k, hk, rfl, hown, hB⟩ := hrel
    by_cases hlt : k < L.length
    · obtain ⟨b, off, rfl, hb, hc⟩ := (h.below hB).int_at hlt
      have H := Lib.hid (real_take L k hlt)
      go_wp2_with (at_builtin; refine wpList_append_own _ rfl _ _ 25 rfl w.heap.size 32 i0 _ 2 16 Try.underlying25 hi hz0 hz1 hz2 rfl (by decide) _ _ _ rfl (hown.alloc _) ⟨wr.heap.size, 0, none⟩ 1 1 [.int .i64 L[k], .int .i64 0] rfl rfl (new_cells _ _ _) ?c2 ?c3 ?c4 ?c5 ?_)
      case c2 => intro u hu; simp at hu; rcases hu with rfl | rfl <;> rfl
      case c3 => unfold maxLen; omega
      case c4 => omega
      case c5 => have := hB.size; simp; omega
      intro v' w1 hown' hgrow _
      have hB' := own_below (bA hB _) (hown.alloc _) hgrow
      go_wp2
      go_roundw
      case rel => exact ⟨k + 1, by omega, by go_num, by rw [H.out]; exact hown', hB'⟩
      case measure => simp [intOf]; omega
    · have he : k = L.length := by omega
      subst he
      go_wp2
      go_ret
      exact ⟨_, rfl, by simpa using hown, hB⟩


end Go.Proofs.Ytdcabfobmkdlmaa
