/- What an argument that is a slice of flags reads as. -/
import Derived.Test.YtmoeofclpnblmaaRow
import Derived.Test.YtmoeofclpnblmaaLawF1
import Derived.Deep.Grids
namespace Go.Proofs.Ytmoeofclpnblmaa
open Go.ChangeShapes Go.WideShapes Go.ChangeAt Go.RowKit

theorem rd_bools {H : Type} {enc : TypeId × Value → H} {W : World} {a : Option Addr} {len cap : Nat} {d : DataW H} {p : List MemPlace} (h : DataW.Trod enc Try.prog W 0 (fun _ => true) true 24 (.slice a len cap) d p) :
    ∃ l : List Bool, Rd W W.heap.size 1 a len cap (cbo l) := by
  obtain ⟨fuel, hf⟩ := h
  rcases Go.Deep.open_bools Try.underlying24 Try.underlying4 (by kernel_rfl) hf with ⟨hcs, _⟩ | ⟨x, l, c, B, hcs, _, hl, hm, _, hcell⟩
  · simp [Value.cells] at hcs
    obtain ⟨rfl, rfl, rfl⟩ := hcs
    exact ⟨[], Rd.nil_ _ _ _⟩
  · simp [Value.cells] at hcs
    obtain ⟨rfl, rfl, rfl⟩ := hcs
    refine ⟨(List.range len).map B, by simp [cbo], hl, hm, fun h0 => ?_⟩
    obtain ⟨b, off, spot⟩ := x
    have hc := hcell 0 (by omega)
    have hspot : spot = none := by simpa [Addr.add] using World.cell?_spot hc
    subst hspot
    refine ⟨b, off, rfl, ?_, fun j u hu => ?_⟩
    · have := block_lt_of_cell hc
      simpa [Addr.add] using this
    · have hjl : j < len := by
        have := (List.getElem?_eq_some_iff.1 hu).1
        simpa [cbo] using this
      have hj := hcell j (by omega)
      have e : ((⟨b, off, none⟩ : Addr).add j) = ⟨b, off + j, none⟩ := by unfold Addr.add; split <;> simp_all
      rw [e] at hj
      rw [hj]
      simp only [cbo, List.map_map, List.getElem?_map, List.getElem?_range hjl, Option.map_some, Function.comp] at hu
      exact hu

end Go.Proofs.Ytmoeofclpnblmaa
