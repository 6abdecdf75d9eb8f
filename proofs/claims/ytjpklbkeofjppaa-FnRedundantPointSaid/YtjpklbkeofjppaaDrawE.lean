/- Contracts: visibilities that are not empty, and gains, drawn from a code. Written by drawegen.py. -/
import Derived.Test.YtjpklbkeofjppaaDrawC
import Derived.Test.YtjpklbkeofjppaaGainM
namespace Go.Proofs.Ytjpklbkeofjppaa
open Go.RowKit

def VisPos (R B N : Nat) (w : World) (e : Ending) (w' : World) : Prop := ∃ (v : Value) (L : List (Int × Int)), e = .returned v ∧ DRow w R B N 79 2 v L.length (cp L) w' ∧ 0 < L.length
theorem VisPos.of {R B N N' : Nat} {w wr : World} {v : Value} {L : List (Int × Int)} (h : DRow w R B N 79 2 v L.length (cp L) wr) (hpos : 0 < L.length) (hN : N ≤ N') : VisPos R B N' w (.returned v) wr := ⟨v, L, rfl, h.mono hN, hpos⟩
theorem VisPos.amp {R B N N' : Nat} {w wr : World} {g c : Nat} {L : List (Int × Int)} (h : DRow w R B N 79 2 (.slice (some ⟨g, 0, none⟩) L.length c) L.length (cp L) wr) (hpos : 0 < L.length) (x : Int) (hN : N ≤ N') :
    VisPos R B N' w (.returned (.slice (some ⟨g, 0, none⟩) L.length c)) (wr.setCell ⟨g, 0, none⟩ (.int .i64 x)) := by
  have := (h.set 0 (.int .i64 x)).mono hN
  rw [cp_set0 L x hpos] at this
  exact ⟨_, L.set 0 (x, (L.getD 0 (0, 0)).2), rfl, by simpa using this, by simpa using hpos⟩
theorem VisPos.phase {R B N N' : Nat} {w wr : World} {g c : Nat} {L : List (Int × Int)} (h : DRow w R B N 79 2 (.slice (some ⟨g, 0, none⟩) L.length c) L.length (cp L) wr) (hpos : 0 < L.length) (x : Int) (hN : N ≤ N') :
    VisPos R B N' w (.returned (.slice (some ⟨g, 0, none⟩) L.length c)) (wr.setCell ⟨g, 1, none⟩ (.int .i64 x)) := by
  have := (h.set 1 (.int .i64 x)).mono hN
  rw [cp_set1 L x hpos] at this
  exact ⟨_, L.set 0 ((L.getD 0 (0, 0)).1, x), rfl, by simpa using this, by simpa using hpos⟩

theorem DRow.capN {w wr : World} {R B N : Nat} {T : TypeId} {size g n c : Nat} {xs : List Value} (h : DRow w R B N T size (.slice (some ⟨g, 0, none⟩) n c) n xs wr) : n ≤ c ∧ c ≤ 9223372036854775807 := by
  have := Rd.of_own h.own
  exact ⟨this.cap, this.most⟩

theorem Rd.drop' {w : World} {B size n c g o : Nat} {xs : List Value} (h : Rd w B size (some ⟨g, o, none⟩) n c xs) (k : Nat) (hk : k ≤ n) : Rd w B size (some ⟨g, o + k * size, none⟩) (n - k) (c - k) (xs.drop (k * size)) := by
  have hl := h.len
  have hc := h.cap
  refine ⟨?_, by omega, by have := h.most; omega, fun h0 => ?_⟩
  · rw [List.length_drop, hl, Nat.sub_mul]
  · obtain ⟨b, off, e, hb, hcell⟩ := h.at_ (by omega)
    injection e with e
    injection e with e1 e2
    subst e1 e2
    refine ⟨_, _, rfl, hb, fun j u hu => ?_⟩
    rw [List.getElem?_drop] at hu
    have := hcell _ u hu
    rw [← Nat.add_assoc] at this
    exact this
theorem as_pairs : ∀ (m : Nat) (xs : List Value), xs.length = m * 2 → (∀ u ∈ xs, ∃ x : Int, u = .int .i64 x) → ∃ L : List (Int × Int), xs = cp L ∧ L.length = m
  | 0, xs, hl, _ => ⟨[], by simpa [cp] using hl, rfl⟩
  | m + 1, [], hl, _ => by simp at hl
  | m + 1, [_], hl, _ => by simp at hl; omega
  | m + 1, a :: b :: xs, hl, h => by
    obtain ⟨x, rfl⟩ := h a (by simp)
    obtain ⟨y, rfl⟩ := h b (by simp)
    obtain ⟨L, rfl, hL⟩ := as_pairs m xs (by simp at hl; omega) (fun u hu => h u (by simp [hu]))
    exact ⟨(x, y) :: L, by simp [cp], by simp [hL]⟩
theorem cp_ints (L : List (Int × Int)) : ∀ u ∈ cp L, ∃ x : Int, u = .int .i64 x := by
  intro u hu
  simp only [cp, List.mem_flatMap] at hu
  obtain ⟨p, _, hp⟩ := hu
  simp at hp
  rcases hp with rfl | rfl
  · exact ⟨_, rfl⟩
  · exact ⟨_, rfl⟩
theorem ints_set {xs : List Value} (h : ∀ u ∈ xs, ∃ x : Int, u = .int .i64 x) (j : Nat) (y : Int) : ∀ u ∈ xs.set j (.int .i64 y), ∃ x : Int, u = .int .i64 x := fun u hu => by
  rcases List.mem_or_eq_of_mem_set hu with hu | rfl
  · exact h u hu
  · exact ⟨_, rfl⟩

end Go.Proofs.Ytjpklbkeofjppaa
