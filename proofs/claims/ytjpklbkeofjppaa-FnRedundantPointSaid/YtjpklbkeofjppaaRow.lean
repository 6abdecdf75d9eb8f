/- What an argument that is a slice of bytes reads as. -/
import Derived.Test.YtjpklbkeofjppaaRows
import Derived.Test.YtjpklbkeofjppaaPick
import Derived.ProofKit
import Derived.OpenShut
import Derived.ShutString
import Derived.ChangeOld
import Derived.Deep.SlicePairs
namespace Go.Proofs.Ytjpklbkeofjppaa
open Go.ChangeShapes Go.WideShapes Go.ChangeAt Go.RowKit

theorem Try.own : ownKnob Try.prog.godebug = none := by kernel_rfl
theorem Try.laidOut : laidOutB Try.prog = true := by kernel_rfl

theorem rd_of_cells {k : IntKind} {W : World} {x : Addr} {len cap : Nat} {zs : List Int} (hl : len ≤ cap) (hm : cap ≤ maxLen) (hz : zs.length = cap) (hcell : ∀ i, i < zs.length → W.cell? (x.add i) = some (.int k (zs.getD i 0))) :
    Rd W W.heap.size 1 (some x) len cap ((zs.take len).map (Value.int k)) := by
  refine ⟨by simp; omega, hl, hm, fun h0 => ?_⟩
  obtain ⟨b, off, spot⟩ := x
  have hc := hcell 0 (by omega)
  have hspot : spot = none := by simpa [Addr.add] using World.cell?_spot hc
  subst hspot
  refine ⟨b, off, rfl, ?_, fun j u hu => ?_⟩
  · have := block_lt_of_cell hc
    simpa [Addr.add] using this
  · have hjl : j < len := by
      have := (List.getElem?_eq_some_iff.1 hu).1
      simp at this
      omega
    have hj := hcell j (by omega)
    have e : ((⟨b, off, none⟩ : Addr).add j) = ⟨b, off + j, none⟩ := by unfold Addr.add; split <;> simp_all
    rw [e] at hj
    rw [hj]
    have hjz : j < zs.length := by omega
    rw [List.getElem?_map, List.getElem?_take, if_pos hjl, List.getElem?_eq_getElem hjz] at hu
    simp only [Option.map_some, Option.some.injEq] at hu
    rw [← hu]
    simp [hjz]

section
variable {H : Type} {enc : TypeId × Value → H}
theorem rd_bytes {W : World} {a : Option Addr} {len cap : Nat} {d : DataW H} {p : List MemPlace} (h : DataW.Trod enc Try.prog W 0 (fun _ => true) true 34 (.slice a len cap) d p) :
    ∃ bs : List Int, Rd W W.heap.size 1 a len cap (cb bs) ∧ ∀ x ∈ bs, 0 ≤ x ∧ x ≤ 255 := by
  obtain ⟨fuel, hf⟩ := h
  rcases open_ints Try.underlying34 Try.underlying5 (by kernel_rfl) hf with ⟨hcs, _⟩ | ⟨x, l, c, zs, hcs, _, hl, hm, hz, _, hcell, hwz⟩
  · simp [Value.cells] at hcs
    obtain ⟨rfl, rfl, rfl⟩ := hcs
    exact ⟨[], Rd.nil_ _ _ _, by simp⟩
  · simp [Value.cells] at hcs
    obtain ⟨rfl, rfl, rfl⟩ := hcs
    refine ⟨zs.take len, rd_of_cells hl hm (by simpa using hz) hcell, fun x hx => ?_⟩
    have := hwz x (List.mem_of_mem_take hx)
    simp [Lit.wf, IntKind.min, IntKind.max, IntKind.signed, IntKind.bits] at this
    omega
theorem int_bd {W : World} {x : Int} {d : DataW H} {p : List MemPlace} (h : DataW.Trod enc Try.prog W 0 (fun _ => true) true 3 (.int .i64 x) d p) : -9223372036854775808 ≤ x ∧ x ≤ 9223372036854775807 := by
  obtain ⟨fuel, hf⟩ := h
  obtain ⟨n, hn, _, hw⟩ := DataW.trod_int Try.underlying3 hf
  simp [Value.cells] at hn
  subst hn
  simp [Lit.wf, IntKind.min, IntKind.max, IntKind.signed, IntKind.bits] at hw
  omega
theorem rd_ints {W : World} {a : Option Addr} {len cap : Nat} {d : DataW H} {p : List MemPlace} (h : DataW.Trod enc Try.prog W 0 (fun _ => true) true 29 (.slice a len cap) d p) :
    ∃ l : List Int, Rd W W.heap.size 1 a len cap (ci l) := by
  obtain ⟨fuel, hf⟩ := h
  rcases open_ints Try.underlying29 Try.underlying3 (by kernel_rfl) hf with ⟨hcs, _⟩ | ⟨x, l, c, zs, hcs, _, hl, hm, hz, _, hcell, hwz⟩
  · simp [Value.cells] at hcs
    obtain ⟨rfl, rfl, rfl⟩ := hcs
    exact ⟨[], Rd.nil_ _ _ _⟩
  · simp [Value.cells] at hcs
    obtain ⟨rfl, rfl, rfl⟩ := hcs
    exact ⟨zs.take len, rd_of_cells hl hm (by simpa using hz) hcell⟩
theorem rd_of_pairs {W : World} {a : Addr} {len cap m : Nat} {V0 V1 : Nat → Value} (hl : len ≤ cap) (hm : cap ≤ maxLen) (hlm : len ≤ m)
    (hx : ∀ i, i < m → W.cell? (a.add (i * 2)) = some (V0 i) ∧ W.cell? (a.add (i * 2 + 1)) = some (V1 i) ∧ (∃ x, V0 i = .int .i64 x) ∧ ∃ x, V1 i = .int .i64 x) :
    ∃ L : List (Int × Int), Rd W W.heap.size 2 (some a) len cap (cp L) := by
  refine ⟨(List.range len).map fun i => (intOf (V0 i), intOf (V1 i)), ⟨by rw [cp_length]; simp, hl, hm, fun h0 => ?_⟩⟩
  obtain ⟨b, off, spot⟩ := a
  have hc := (hx 0 (by omega)).1
  have hspot : spot = none := by simpa [Addr.add] using World.cell?_spot hc
  subst hspot
  have hadd : ∀ j, ((⟨b, off, none⟩ : Addr).add j) = ⟨b, off + j, none⟩ := fun j => by unfold Addr.add; split <;> simp_all
  refine ⟨b, off, rfl, ?_, fun j u hu => ?_⟩
  · have := block_lt_of_cell hc
    simpa [Addr.add] using this
  · have hjl : j < len * 2 := by
      have := (List.getElem?_eq_some_iff.1 hu).1
      rw [cp_length] at this
      simpa using this
    have hq := cp_at ((List.range len).map fun i => (intOf (V0 i), intOf (V1 i))) (j / 2) (by simp; omega)
    obtain ⟨e0, e1, ⟨x0, y0⟩, x1, y1⟩ := hx (j / 2) (by omega)
    rw [hadd] at e0 e1
    have hg : ((List.range len).map fun i => (intOf (V0 i), intOf (V1 i)))[j / 2]'(by simp; omega) = (x0, x1) := by simp [y0, y1, intOf]
    rw [hg] at hq
    rw [y0] at e0
    rw [y1] at e1
    rcases Nat.mod_two_eq_zero_or_one j with hm2 | hm2
    · rw [show 2 * (j / 2) = j by omega] at hq
      rw [hq.1] at hu
      rw [show j / 2 * 2 = j by omega] at e0
      rw [e0]; exact hu
    · rw [show 2 * (j / 2) + 1 = j by omega] at hq
      rw [hq.2] at hu
      rw [show j / 2 * 2 + 1 = j by omega] at e1
      rw [e1]; exact hu
theorem int_of_trod {W : World} {n : Nat} {v : Value} {y : DataW H × List MemPlace} (h : DataW.trod enc Try.prog W 0 (fun _ => true) true n 3 [v] = some y) : ∃ x, v = .int .i64 x := by
  obtain ⟨x, hx, _, _⟩ := DataW.trod_int Try.underlying3 h
  exact ⟨x, by simpa using hx⟩
theorem rd_Ant {W : World} {a : Option Addr} {len cap : Nat} {d : DataW H} {p : List MemPlace} (h : DataW.Trod enc Try.prog W 0 (fun _ => true) true 22 (.slice a len cap) d p) :
    ∃ L : List (Int × Int), Rd W W.heap.size 2 a len cap (cp L) := by
  obtain ⟨fuel, hf⟩ := h
  rcases Go.Deep.open_slice_pairs Try.underlying22 Try.underlying57 (by kernel_rfl) rfl rfl (by kernel_rfl) (by kernel_rfl) hf with ⟨hcs, _⟩ | ⟨x, l, c, m, n, V0, V1, D0, D1, P0, P1, hcs, _, hl, hm, hmm, _, hcell⟩
  · simp [Value.cells] at hcs
    obtain ⟨rfl, rfl, rfl⟩ := hcs
    exact ⟨[], Rd.nil_ _ _ _⟩
  · simp [Value.cells] at hcs
    obtain ⟨rfl, rfl, rfl⟩ := hcs
    exact rd_of_pairs hl hm (by rw [hmm]; split <;> omega) (fun i hi => ⟨(hcell i hi).1, (hcell i hi).2.1, int_of_trod (hcell i hi).2.2.1, int_of_trod (hcell i hi).2.2.2⟩)
end

end Go.Proofs.Ytjpklbkeofjppaa
